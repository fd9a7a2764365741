
/- Contract: points in order, each one once, the definition. -/
import Derived.Test.YtcbjecpfijogcaaGreatHAppAll
import Derived.Test.YtcbjecpfijogcaaGreatHullAll
namespace Go.Proofs.YtcbjecpfijogcaaGreat
open Go.RowKit Go.Shelf

theorem atP_lt {l : List HPt} {x y : HPt} {i : Nat} (h : i < atP l x) (hy : l[i]? = some y) : ltP y x := by
  have h1 : (l.take (atP l x))[i]? = some y := by rw [List.getElem?_take, if_pos h, hy]
  rw [take_atP] at h1
  have := List.all_eq_true.1 (List.all_takeWhile (p := fun y => decide (ltP y x)) (l := l)) y (List.mem_of_getElem? h1)
  simpa using this
theorem atP_stop {l : List HPt} {x y : HPt} (hy : l[atP l x]? = some y) : ¬ ltP y x := by
  have h1 : (l.drop (atP l x))[0]? = some y := by rw [List.getElem?_drop, Nat.add_zero, hy]
  have h3 := List.head?_dropWhile_not (p := fun y => decide (ltP y x)) (l := l)
  rw [← drop_atP] at h3
  cases hd : l.drop (atP l x) with
  | nil => rw [hd] at h1; cases h1
  | cons z r =>
    rw [hd] at h1 h3
    cases h1
    simpa using h3
theorem atP_next {l : List HPt} {x y : HPt} {j : Nat} (hj : j ≤ atP l x) (hy : l[j]? = some y) (h : ltP y x) : j + 1 ≤ atP l x := by
  rcases Nat.lt_or_ge j (atP l x) with h1 | h1
  · exact h1
  · have : j = atP l x := by omega
    subst this
    exact absurd h (atP_stop hy)
theorem atP_here {l : List HPt} {x y : HPt} {j : Nat} (hj : j ≤ atP l x) (hy : l[j]? = some y) (h : ¬ ltP y x) : j = atP l x := by
  rcases Nat.lt_or_ge j (atP l x) with h1 | h1
  · exact absurd (atP_lt h1 hy) h
  · omega
theorem atP_end {l : List HPt} {x : HPt} {j : Nat} (hj : j ≤ atP l x) (h : l.length ≤ j) : j = atP l x := by
  have := atP_le l x
  omega
theorem ins_len (l : List HPt) (x : HPt) : (insP l x).length ≤ l.length + 1 := by
  unfold insP
  split
  · omega
  · rw [List.length_append, List.length_cons, List.length_take, List.length_drop]
    omega
theorem foldI_len : ∀ (l acc : List HPt), (l.foldl insP acc).length ≤ acc.length + l.length
  | [], _ => Nat.le_refl _
  | x :: l, acc => by
    have h1 := foldI_len l (insP acc x)
    have h2 := ins_len acc x
    simp only [List.foldl_cons, List.length_cons] at *
    omega
/-- a slice of points that is cut -/
theorem Pts.cut {w : World} {A : Option Addr} {n c : Nat} {l : List HPt} (h : Pts w (.slice A n c) l) {m : Nat} (hm : m ≤ n) (hl : l.length = n) : Pts w (.slice A m c) (l.take m) := by
  rcases h with ⟨a, c', e, rfl⟩ | ⟨b, off, cap, e, h1, h2, hc⟩
  · simp only [Value.slice.injEq] at e
    obtain ⟨rfl, rfl, rfl⟩ := e
    have : m = 0 := by omega
    subst this
    exact .inl ⟨_, _, rfl, rfl⟩
  · simp only [Value.slice.injEq] at e
    obtain ⟨rfl, rfl, rfl⟩ := e
    refine .inr ⟨b, off, c, by rw [List.length_take, Nat.min_eq_left hm], by rw [List.length_take]; omega, by rw [List.length_take]; omega, fun i hi => ?_⟩
    rw [List.length_take] at hi
    have h3 := hc i (by omega)
    rw [getD_lt (by omega)] at h3
    rw [getD_lt (by rw [List.length_take]; omega), List.getElem_take]
    exact h3
theorem Pts.tail {w : World} {b off n c : Nat} {l : List HPt} (h : Pts w (.slice (some ⟨b, off, none⟩) n c) l) {m : Nat} (hm : m ≤ n) (hl : l.length = n) (hc0 : n ≤ c) :
    Pts w (.slice (if c = m then some ⟨b, off, none⟩ else some ⟨b, off + m * 2, none⟩) (n - m) (c - m)) (l.drop m) := by
  have hln : (l.drop m).length = n - m := by rw [List.length_drop, hl]
  by_cases hcm : c = m
  · refine .inl ⟨_, _, by rw [show n - m = 0 by omega], List.eq_nil_of_length_eq_zero (by omega)⟩
  · rw [if_neg hcm]
    rcases h with ⟨a, c', e, rfl⟩ | ⟨b', off', cap, e, h1, h2, hc⟩
    · simp only [Value.slice.injEq] at e
      obtain ⟨rfl, rfl, rfl⟩ := e
      exact .inl ⟨_, _, by rw [Nat.zero_sub], by simp⟩
    · simp only [Value.slice.injEq, Option.some.injEq, Addr.mk.injEq, and_true] at e
      obtain ⟨⟨rfl, rfl⟩, rfl, rfl⟩ := e
      refine .inr ⟨b, off + m * 2, c - m, by rw [hln], by omega, by omega, fun i hi => ?_⟩
      have h3 := hc (m + i) (by omega)
      rw [getD_lt (by omega)] at h3
      rw [getD_lt hi, List.getElem_drop]
      rw [show off + m * 2 + i * 2 = off + (m + i) * 2 by omega]
      exact h3

set_option maxRecDepth 100000 in
set_option maxHeartbeats 8000000 in
theorem sorted_c (v : Value) (l : List HPt) (w : World) (hs : Pts w v l) (hn : l.length ≤ 100000) :
    Calls Tryz.prog 54 #[v] w fun e w' => ∃ v', e = .returned v' ∧ OwnP w.heap.size w' v' (sortP l) ∧ Ext w w' := by
  have hne' := neqP_c
  rcases hs with ⟨a0, c0, rfl, rfl⟩ | ⟨b, off, cap, rfl, hl, hcap, hc⟩
  · go_enter Tryz.func54, Tryz.ntmps54
    go_wp2
    go_loopw [3, 4] (fun o i wr => o = .slice none 0 0 ∧ i = .int .i64 0 ∧ wr = w) (fun _ i _ => 0)
    case atStart => exact ⟨rfl, rfl, rfl⟩
    case round =>
      obtain ⟨rfl, rfl, rfl⟩ := hrel
      go_wp2
      go_ret
      exact ⟨_, rfl, OwnP.none0, Ext.refl _⟩
  · have HC := Lib.hid hc
    have HN := Lib.hid hne'
    clear hc hne'
    go_enter Tryz.func54, Tryz.ntmps54
    go_wp2
    go_loopw [3, 4] (fun o i wr => ∃ (k N : Nat) (A : Option Addr) (c : Nat) (acc : List HPt), k ≤ l.length ∧ i = .int .i64 k ∧ o = .slice A N c ∧ acc.length = N ∧ (l.take k).foldl insP [] = acc ∧ (N = 0 → A = none ∧ c = 0) ∧ OwnP w.heap.size wr (.slice A N c) acc ∧ Ext w wr) (fun _ i _ => l.length - (intOf i).toNat)
    case atStart => exact ⟨0, 0, none, 0, [], by omega, rfl, rfl, rfl, rfl, fun _ => ⟨rfl, rfl⟩, OwnP.none0, Ext.refl _⟩
    case round =>
      obtain ⟨k, N, A, c, acc, hk, rfl, rfl, hN, hst, hA0, ho, hE⟩ := hrel
      obtain ⟨wA, hwA⟩ : ∃ z : World, z = wr := ⟨_, rfl⟩
      subst hwA
      by_cases hlt : k < l.length
      · have hx1 := hE.cell (HC.out k hlt).1
        have hx2 := hE.cell (HC.out k hlt).2
        have hfx : (l.take (k + 1)).foldl insP [] = insP acc (l.getD k (0, 0)) := by rw [List.take_succ_eq_append_getElem hlt, List.foldl_append, hst, getD_lt hlt]; rfl
        generalize hp : l.getD k (0, 0) = p at hx1 hx2 hfx
        obtain ⟨xa, xb⟩ := p
        simp only at hx1 hx2
        have hNl : N ≤ 100000 := by rw [← hN, ← hst]; exact Nat.le_trans (foldI_len _ []) (by simp; omega)
        have HX := Lib.hid (And.intro hfx hp)
        have HO := Lib.hid (And.intro ho (And.intro hN hA0))
        have HE := Lib.hid hE
        have HX12 := Lib.hid (And.intro hx1 hx2)
        clear hfx hp ho hN hst hA0 hE hx1 hx2
        go_wp2
        go_loopw [5] (fun a wr2 => ∃ j : Nat, a = .int .i64 j ∧ j ≤ N ∧ j ≤ atP acc (xa, xb) ∧ Ext wA wr2) (fun a _ => N - (intOf a).toNat)
        case atStart => exact ⟨0, rfl, Nat.zero_le _, Nat.zero_le _, Ext.refl _⟩
        case round =>
          obtain ⟨j, rfl, hjN, hja, hE2⟩ := hrel
          have hx1 := hE2.cell HX12.out.1
          have hx2 := hE2.cell HX12.out.2
          have hlN := HO.out.2.1
          rcases Nat.eq_zero_or_pos N with h0 | h0
          · obtain ⟨rfl, rfl⟩ := HO.out.2.2 h0
            subst h0
            have hj0 : j = 0 := by omega
            have hac : acc = [] := List.eq_nil_of_length_eq_zero hlN
            have hat := atP_end hja (by rw [hlN]; omega)
            have hins : insP acc (xa, xb) = acc.take j ++ (xa, xb) :: acc.drop j := by
              unfold insP
              rw [← hat, List.getElem?_eq_none (by rw [hlN]; omega), if_neg (by simp)]
            have HINS := Lib.hid hins
            have HEM := Lib.hid (show acc.drop j = [] by rw [hac]; simp)
            subst hj0
            clear hins hat hja hac
            go_wp2
            (refine wp_region_ext (C := fun w' => Ext wr w') (by kernel_rfl) (by kernel_rfl) (by (repeat' (first | exact Ext.refl _ | assumption | refine Ext.alloc ?_ _ | refine Ext.drew ?_ | refine Ext.drewN ?_ _ | refine Ext.set ?_ (by first | exact Nat.le_refl _ | exact le1 _ | exact le2 _ | exact le3 _ | exact le4 _ | exact le5 _ | exact le6 _) _ | refine Ext.trans ?_ (by assumption)))) ?_; (repeat (with_reducible refine wpQuiet_step (fun K hK => ?_); go_simp; first | (refine hK _ ?_; clear hK K) | (apply Exists.intro; refine ⟨fun w' hC => ?_, hK _ ?_⟩; (focus first | with_reducible rfl | (skip; go_simp; done) | (skip; go_simp; exact ⟨rfl, rfl⟩) | (skip; go_simp; with_reducible rfl)); clear hK K))); refine wpQuiet_nil ?_; intro wq hEq)
            obtain ⟨hx1q, hx2q⟩ := And.intro (hEq.cell hx1) (hEq.cell hx2)
            have HEQ := Lib.hid (HE.out.trans (hE2.trans hEq))
            have HE3 := Lib.hid (hE2.trans hEq)
            clear hx1 hx2 hE2 hEq
            go_wp2
            obtain ⟨wB, hwB⟩ : ∃ z : World, z = wq := ⟨_, rfl⟩
            subst hwB
            (refine wp_region_ext (C := fun w' => Ext wB w') (by kernel_rfl) (by kernel_rfl) (by (repeat' (first | exact Ext.refl _ | assumption | refine Ext.alloc ?_ _ | refine Ext.drew ?_ | refine Ext.drewN ?_ _ | refine Ext.set ?_ (by first | exact Nat.le_refl _ | exact le1 _ | exact le2 _ | exact le3 _ | exact le4 _ | exact le5 _ | exact le6 _) _ | refine Ext.trans ?_ (by assumption)))) ?_; (repeat (with_reducible refine wpQuiet_step (fun K hK => ?_); go_simp; first | (refine hK _ ?_; clear hK K) | (apply Exists.intro; refine ⟨fun w' hC => ?_, hK _ ?_⟩; (focus first | with_reducible rfl | (have q0 := hC.cell hx1q; have q1 := hC.cell hx2q; go_simp; done) | (have q0 := hC.cell hx1q; have q1 := hC.cell hx2q; go_simp; exact ⟨rfl, rfl⟩) | (have q0 := hC.cell hx1q; have q1 := hC.cell hx2q; go_simp; with_reducible rfl)); clear hK K))); refine wpQuiet_nil ?_; intro wq hEq)
            have hx1r := hEq.cell hx1q
            have hx2r := hEq.cell hx2q
            have HEF := Lib.hid (HEQ.out.trans hEq)
            have HAE := Lib.hid (HE3.out.trans hEq)
            clear hx1q hx2q hEq
            have hx1q := hx1r
            have hx2q := hx2r
            clear hx1r hx2r
            have lq := World.block_lt_of_cell? _ _ hx1q
            simp only at lq
            have zq := HEF.out.sz
            have hOP := HO.out.1.ext HAE.out
            have HP1 := Lib.hid (fun W' (h : Ext wq W') => (hOP.ext h).pts.cut (m := 0) (by omega) hlN)
            have HP2 := Lib.hid (fun W' (_ : Ext wq W') => (.inl ⟨none, 0, rfl, HEM.out⟩ : Pts W' (.slice none 0 0) (acc.drop 0)))
            clear hOP
            go_upto_region 9 with fail
            go_region_law (first
              | (refine step_append_pts (by rfl) _ _ (by rfl) wq.heap.size (.slice (some ⟨wq.heap.size , 0, none⟩) 0 0) (.slice none 0 0) [] (acc.take 0) (by rfl) (OwnP.empty (by first | exact World.alloc_heap_new _ _ | exact heap2_first _ _ _ | exact heap2_second _ _ _) (Nat.le_refl _)) (by rfl) (HP1.out _ (by (repeat' (first | exact Ext.refl _ | assumption | refine Ext.alloc ?_ _ | refine Ext.drew ?_ | refine Ext.drewN ?_ _ | refine Ext.set ?_ (by first | exact Nat.le_refl _ | exact le1 _ | exact le2 _ | exact le3 _ | exact le4 _ | exact le5 _ | exact le6 _) _ | refine Ext.trans ?_ (by assumption))))) (by simp) (by simp; try omega) ?_; intro vA wA' hoA hgA; have EA : Ext wq wA' := Ext.trans' (w := wq) (by (repeat' (first | exact Ext.refl _ | assumption | refine Ext.alloc ?_ _ | refine Ext.drew ?_ | refine Ext.drewN ?_ _ | refine Ext.set ?_ (by first | exact Nat.le_refl _ | exact le1 _ | exact le2 _ | exact le3 _ | exact le4 _ | exact le5 _ | exact le6 _) _ | refine Ext.trans ?_ (by assumption)))) hgA (fun k e => Nat.le_of_eq (Option.some.inj e)); simp only [List.nil_append] at hoA; have q0 := EA.cell hx1q; have q1 := EA.cell hx2q; have lA := World.block_lt_of_cell? _ _ q0; simp only at lA)
              | (refine step_append_pts (by rfl) _ _ (by rfl) wq.heap.size (.slice (some ⟨wq.heap.size + 1, 0, none⟩) 0 0) (.slice none 0 0) [] (acc.take 0) (by rfl) (OwnP.empty (by first | exact World.alloc_heap_new _ _ | exact heap2_first _ _ _ | exact heap2_second _ _ _) (Nat.le_succ _)) (by rfl) (HP1.out _ (by (repeat' (first | exact Ext.refl _ | assumption | refine Ext.alloc ?_ _ | refine Ext.drew ?_ | refine Ext.drewN ?_ _ | refine Ext.set ?_ (by first | exact Nat.le_refl _ | exact le1 _ | exact le2 _ | exact le3 _ | exact le4 _ | exact le5 _ | exact le6 _) _ | refine Ext.trans ?_ (by assumption))))) (by simp) (by simp; try omega) ?_; intro vA wA' hoA hgA; have EA : Ext wq wA' := Ext.trans' (w := wq) (by (repeat' (first | exact Ext.refl _ | assumption | refine Ext.alloc ?_ _ | refine Ext.drew ?_ | refine Ext.drewN ?_ _ | refine Ext.set ?_ (by first | exact Nat.le_refl _ | exact le1 _ | exact le2 _ | exact le3 _ | exact le4 _ | exact le5 _ | exact le6 _) _ | refine Ext.trans ?_ (by assumption)))) hgA (fun k e => Nat.le_trans (Nat.le_succ _) (Nat.le_of_eq (Option.some.inj e))); simp only [List.nil_append] at hoA; have q0 := EA.cell hx1q; have q1 := EA.cell hx2q; have lA := World.block_lt_of_cell? _ _ q0; simp only at lA)
              | (refine step_append_pts (by rfl) _ _ (by rfl) wq.heap.size vA (.slice (some ⟨wA'.heap.size, 0, none⟩) 1 1) (acc.take 0) [(xa, xb)] (by rfl) (by first | exact hoA.ext ((Ext.refl _).alloc _) | exact hoA.ext (((Ext.refl _).alloc _).drew) | exact hoA.ext ((((Ext.refl _).drew).alloc _))) (by rfl) (Pts.one (World.alloc_heap_new wA' _)) (by simp) (by have := EA.sz; simp; try omega) ?_; intro vB wB hoB hgB; have EB : Ext wq wB := Ext.trans' (w := wq) (by (repeat' (first | exact Ext.refl _ | assumption | refine Ext.alloc ?_ _ | refine Ext.drew ?_ | refine Ext.drewN ?_ _ | refine Ext.set ?_ (by first | exact Nat.le_refl _ | exact le1 _ | exact le2 _ | exact le3 _ | exact le4 _ | exact le5 _ | exact le6 _) _ | refine Ext.trans ?_ (by assumption)))) hgB (own_ge' hoA))
              | (refine step_append_pts (by rfl) _ _ (by rfl) wq.heap.size vA (.slice (some ⟨wq.heap.size + 1, 0, none⟩) 1 1) (acc.take 0) [(xa, xb)] (by rfl) hoA (by rfl) (Pts.one (kept_blk' hgA rfl (heap2_second _ _ _) (Nat.succ_ne_self _))) (by simp) (by have := EA.sz; simp; try omega) ?_; intro vB wB hoB hgB; have EB : Ext wq wB := Ext.trans' (w := wq) (by (repeat' (first | exact Ext.refl _ | assumption | refine Ext.alloc ?_ _ | refine Ext.drew ?_ | refine Ext.drewN ?_ _ | refine Ext.set ?_ (by first | exact Nat.le_refl _ | exact le1 _ | exact le2 _ | exact le3 _ | exact le4 _ | exact le5 _ | exact le6 _) _ | refine Ext.trans ?_ (by assumption)))) hgB (own_ge' hoA))
              | (refine step_append_pts (by rfl) _ _ (by rfl) wq.heap.size vA (.slice (some ⟨wq.heap.size, 0, none⟩) 1 1) (acc.take 0) [(xa, xb)] (by rfl) hoA (by rfl) (Pts.one (kept_blk' hgA rfl (heap2_first _ _ _) (Nat.succ_ne_self _).symm)) (by simp) (by have := EA.sz; simp; try omega) ?_; intro vB wB hoB hgB; have EB : Ext wq wB := Ext.trans' (w := wq) (by (repeat' (first | exact Ext.refl _ | assumption | refine Ext.alloc ?_ _ | refine Ext.drew ?_ | refine Ext.drewN ?_ _ | refine Ext.set ?_ (by first | exact Nat.le_refl _ | exact le1 _ | exact le2 _ | exact le3 _ | exact le4 _ | exact le5 _ | exact le6 _) _ | refine Ext.trans ?_ (by assumption)))) hgB (own_ge' hoA))
              | (refine step_append_pts (by rfl) _ _ (by rfl) wq.heap.size vB (.slice none 0 0) (acc.take 0 ++ [(xa, xb)]) (acc.drop 0) (by rfl) hoB (by first | rfl | exact HV.out) (HP2.out _ (by (repeat' (first | exact Ext.refl _ | assumption | refine Ext.alloc ?_ _ | refine Ext.drew ?_ | refine Ext.drewN ?_ _ | refine Ext.set ?_ (by first | exact Nat.le_refl _ | exact le1 _ | exact le2 _ | exact le3 _ | exact le4 _ | exact le5 _ | exact le6 _) _ | refine Ext.trans ?_ (by assumption))))) (by rw [HEM.out]; simp) (by have := EB.sz; simp; try omega) ?_; intro vC wC hoC hgC; have EC : Ext wq wC := Ext.trans' (w := wq) (by (repeat' (first | exact Ext.refl _ | assumption | refine Ext.alloc ?_ _ | refine Ext.drew ?_ | refine Ext.drewN ?_ _ | refine Ext.set ?_ (by first | exact Nat.le_refl _ | exact le1 _ | exact le2 _ | exact le3 _ | exact le4 _ | exact le5 _ | exact le6 _) _ | refine Ext.trans ?_ (by assumption)))) hgC (own_ge' hoB); obtain ⟨AC, cC, rfl, _⟩ := hoC.shape))
            all_goals
              go_wp2
              have hlC : (acc.take 0 ++ [(xa, xb)] ++ acc.drop 0).length = 1 := by rw [HEM.out]; simp
              rw [hlC] at hoC
              refine ⟨⟨k + 1, 1, AC, cC, insP acc (xa, xb), by omega, by go_num, rfl, ?_, HX.out.1, fun h => by omega, ?_, HEF.out.trans EC⟩, by simp [intOf]; omega⟩
              · rw [HINS.out, show acc.take 0 ++ (xa, xb) :: acc.drop 0 = acc.take 0 ++ [(xa, xb)] ++ acc.drop 0 from by simp, hlC]
              · rw [HINS.out, show acc.take 0 ++ (xa, xb) :: acc.drop 0 = acc.take 0 ++ [(xa, xb)] ++ acc.drop 0 from by simp]
                exact hoC.down zq
          · obtain ⟨g, c0, e1, _, _, hNc, hcm⟩ := HO.out.1.form (by rw [hlN]; exact h0)
            rw [hlN] at e1 hNc
            unfold maxLen at hcm
            simp only [Value.slice.injEq] at e1
            obtain ⟨rfl, -, rfl⟩ := e1
            have hoA := HO.out.1
            by_cases hjl : j < N
            · obtain ⟨y, hy⟩ : ∃ y, acc[j]? = some y := ⟨_, List.getElem?_eq_getElem (by omega)⟩
              obtain ⟨g2, c2, e2, _, _, cy1, cy2⟩ := hoA.at hy
              simp only [Value.slice.injEq, Option.some.injEq, Addr.mk.injEq, and_true] at e2
              obtain ⟨e3, -, -⟩ := e2
              subst e3
              obtain ⟨ya, yb⟩ := y
              simp only at cy1 cy2
              replace cy1 := hE2.cell cy1
              replace cy2 := hE2.cell cy2
              have CR0 := fun w => before_c ya yb xa xb w
              by_cases hb : ltP (ya, yb) (xa, xb)
              · rw [decide_eq_true hb] at CR0
                have CR := Lib.hid CR0
                have hj2 := Lib.hid (atP_next hja hy hb)
                have HE2 := Lib.hid hE2
                clear CR0 hb hy hoA hja hE2
                go_wp2
                (refine wp_region_ext (C := fun w' => Ext wr w') (by kernel_rfl) (by kernel_rfl) (by (repeat' (first | exact Ext.refl _ | assumption | refine Ext.alloc ?_ _ | refine Ext.drew ?_ | refine Ext.drewN ?_ _ | refine Ext.set ?_ (by first | exact Nat.le_refl _ | exact le1 _ | exact le2 _ | exact le3 _ | exact le4 _ | exact le5 _ | exact le6 _) _ | refine Ext.trans ?_ (by assumption)))) ?_; (repeat (with_reducible refine wpQuiet_step (fun K hK => ?_); go_simp; first | (refine hK _ ?_; clear hK K) | (apply Exists.intro; refine ⟨fun w' hC => ?_, hK _ ?_⟩; (focus first | with_reducible rfl | (have q0 := hC.cell cy1; have q1 := hC.cell cy2; have q2 := hC.cell hx1; have q3 := hC.cell hx2; go_simp; done) | (have q0 := hC.cell cy1; have q1 := hC.cell cy2; have q2 := hC.cell hx1; have q3 := hC.cell hx2; go_simp; exact ⟨rfl, rfl⟩) | (have q0 := hC.cell cy1; have q1 := hC.cell cy2; have q2 := hC.cell hx1; have q3 := hC.cell hx2; go_simp; with_reducible rfl) | (exact (CR.out _).mono fun e w'' ⟨he, hw''⟩ => ⟨he, hC.trans hw''⟩)); clear hK K))); refine wpQuiet_nil ?_; intro wq hEq)
                have hEq := Lib.hid hEq
                clear cy1 cy2 hx1 hx2
                go_wp2
                exact ⟨⟨j + 1, by go_num, by omega, hj2.out, HE2.out.trans hEq.out⟩, by simp [intOf]; omega⟩
              · rw [decide_eq_false hb] at CR0
                have CR := Lib.hid CR0
                have HAT := Lib.hid (And.intro (atP_here hja hy hb) hy)
                clear CR0 hb hoA hja hy
                go_wp2
                (refine wp_region_ext (C := fun w' => Ext wr w') (by kernel_rfl) (by kernel_rfl) (by (repeat' (first | exact Ext.refl _ | assumption | refine Ext.alloc ?_ _ | refine Ext.drew ?_ | refine Ext.drewN ?_ _ | refine Ext.set ?_ (by first | exact Nat.le_refl _ | exact le1 _ | exact le2 _ | exact le3 _ | exact le4 _ | exact le5 _ | exact le6 _) _ | refine Ext.trans ?_ (by assumption)))) ?_; (repeat (with_reducible refine wpQuiet_step (fun K hK => ?_); go_simp; first | (refine hK _ ?_; clear hK K) | (apply Exists.intro; refine ⟨fun w' hC => ?_, hK _ ?_⟩; (focus first | with_reducible rfl | (have q0 := hC.cell cy1; have q1 := hC.cell cy2; have q2 := hC.cell hx1; have q3 := hC.cell hx2; go_simp; done) | (have q0 := hC.cell cy1; have q1 := hC.cell cy2; have q2 := hC.cell hx1; have q3 := hC.cell hx2; go_simp; exact ⟨rfl, rfl⟩) | (have q0 := hC.cell cy1; have q1 := hC.cell cy2; have q2 := hC.cell hx1; have q3 := hC.cell hx2; go_simp; with_reducible rfl) | (exact (CR.out _).mono fun e w'' ⟨he, hw''⟩ => ⟨he, hC.trans hw''⟩)); clear hK K))); refine wpQuiet_nil ?_; intro wq hEq)
                obtain ⟨hx1q, hx2q, hcy1q, hcy2q⟩ := And.intro (hEq.cell hx1) (And.intro (hEq.cell hx2) (And.intro (hEq.cell cy1) (hEq.cell cy2)))
                have lq := World.block_lt_of_cell? _ _ hx1q
                simp only at lq
                have HEQ := Lib.hid (HE.out.trans (hE2.trans hEq))
                have zq := HEQ.out.sz
                have HE3 := Lib.hid (hE2.trans hEq)
                clear hx1 hx2 cy1 cy2 hE2 hEq
                by_cases hxy : ((ya, yb) : HPt) = (xa, xb)
                · have hne : ∀ w, (binOp .neq 26 (.agg #[.int .i64 ya, .int .i64 yb]) (.agg #[.int .i64 xa, .int .i64 xb])).run Tryz.prog w = .ok (.bool false) w := fun w => by rw [HN.out, decide_eq_true hxy]; rfl
                  have HXY := Lib.hid hxy
                  have hjne : ((j : Int) == (N : Int)) = false := by simp; omega
                  clear hxy
                  go_wp2
                  obtain ⟨wB, hwB⟩ : ∃ z : World, z = wq := ⟨_, rfl⟩
                  subst hwB
                  (refine wp_region_ext (C := fun w' => Ext wB w') (by kernel_rfl) (by kernel_rfl) (by (repeat' (first | exact Ext.refl _ | assumption | refine Ext.alloc ?_ _ | refine Ext.drew ?_ | refine Ext.drewN ?_ _ | refine Ext.set ?_ (by first | exact Nat.le_refl _ | exact le1 _ | exact le2 _ | exact le3 _ | exact le4 _ | exact le5 _ | exact le6 _) _ | refine Ext.trans ?_ (by assumption)))) ?_; (repeat (with_reducible refine wpQuiet_step (fun K hK => ?_); go_simp; first | (refine hK _ ?_; clear hK K) | (apply Exists.intro; refine ⟨fun w' hC => ?_, hK _ ?_⟩; (focus first | with_reducible rfl | (have q0 := hC.cell hx1q; have q1 := hC.cell hx2q; have q2 := hC.cell hcy1q; have q3 := hC.cell hcy2q; go_simp; done) | (have q0 := hC.cell hx1q; have q1 := hC.cell hx2q; have q2 := hC.cell hcy1q; have q3 := hC.cell hcy2q; go_simp; exact ⟨rfl, rfl⟩) | (have q0 := hC.cell hx1q; have q1 := hC.cell hx2q; have q2 := hC.cell hcy1q; have q3 := hC.cell hcy2q; go_simp; with_reducible rfl)); clear hK K))); refine wpQuiet_nil ?_; intro wq hEq)
                  have HEF := Lib.hid (HEQ.out.trans hEq)
                  have HAE := Lib.hid (HE3.out.trans hEq)
                  clear hx1q hx2q hcy1q hcy2q hEq
                  go_wp2
                  refine ⟨⟨k + 1, N, some ⟨g, 0, none⟩, c, acc, by omega, by go_num, rfl, hlN, ?_, HO.out.2.2, HO.out.1.ext HAE.out, HEF.out⟩, by simp [intOf]; omega⟩
                  rw [HX.out.1]
                  unfold insP
                  rw [← HAT.out.1, HAT.out.2, if_pos (by rw [HXY.out])]
                · have hne : ∀ w, (binOp .neq 26 (.agg #[.int .i64 ya, .int .i64 yb]) (.agg #[.int .i64 xa, .int .i64 xb])).run Tryz.prog w = .ok (.bool true) w := fun w => by rw [HN.out, decide_eq_false hxy]; rfl
                  have HXY := Lib.hid hxy
                  have hjne : ((j : Int) == (N : Int)) = false := by simp; omega
                  clear hxy
                  go_wp2
                  obtain ⟨wB, hwB⟩ : ∃ z : World, z = wq := ⟨_, rfl⟩
                  subst hwB
                  (refine wp_region_ext (C := fun w' => Ext wB w') (by kernel_rfl) (by kernel_rfl) (by (repeat' (first | exact Ext.refl _ | assumption | refine Ext.alloc ?_ _ | refine Ext.drew ?_ | refine Ext.drewN ?_ _ | refine Ext.set ?_ (by first | exact Nat.le_refl _ | exact le1 _ | exact le2 _ | exact le3 _ | exact le4 _ | exact le5 _ | exact le6 _) _ | refine Ext.trans ?_ (by assumption)))) ?_; (repeat (with_reducible refine wpQuiet_step (fun K hK => ?_); go_simp; first | (refine hK _ ?_; clear hK K) | (apply Exists.intro; refine ⟨fun w' hC => ?_, hK _ ?_⟩; (focus first | with_reducible rfl | (have q0 := hC.cell hx1q; have q1 := hC.cell hx2q; have q2 := hC.cell hcy1q; have q3 := hC.cell hcy2q; go_simp; done) | (have q0 := hC.cell hx1q; have q1 := hC.cell hx2q; have q2 := hC.cell hcy1q; have q3 := hC.cell hcy2q; go_simp; exact ⟨rfl, rfl⟩) | (have q0 := hC.cell hx1q; have q1 := hC.cell hx2q; have q2 := hC.cell hcy1q; have q3 := hC.cell hcy2q; go_simp; with_reducible rfl)); clear hK K))); refine wpQuiet_nil ?_; intro wq hEq)
                  have hx1r := hEq.cell hx1q
                  have hx2r := hEq.cell hx2q
                  have HEF := Lib.hid (HEQ.out.trans hEq)
                  have HAE := Lib.hid (HE3.out.trans hEq)
                  have hins : insP acc (xa, xb) = acc.take j ++ (xa, xb) :: acc.drop j := by
                    unfold insP
                    rw [← HAT.out.1, HAT.out.2, if_neg (fun e => HXY.out (Option.some.inj e))]
                  have HINS := Lib.hid hins
                  clear hx1q hx2q hcy1q hcy2q hEq hins lq
                  have hx1q := hx1r
                  have hx2q := hx2r
                  clear hx1r hx2r
                  have lq := World.block_lt_of_cell? _ _ hx1q
                  simp only at lq
                  have zq := HEF.out.sz
                  have hOP := HO.out.1.ext HAE.out
                  have HP1 := Lib.hid (fun W' (h : Ext wq W') => (hOP.ext h).pts.cut (m := j) (by omega) hlN)
                  have HP2 := Lib.hid (fun W' (h : Ext wq W') => by have h2 := (hOP.ext h).pts.tail (m := j) (by omega) hlN hNc; rwa [Nat.zero_add] at h2)
                  clear hOP
                  have j1 : j ≤ c := by omega
                  have j2 : j ≤ N := by omega
                  have j3 : N ≤ c := hNc
                  have j4 : c ≤ 9223372036854775807 := by omega
                  go_upto_region 9 with fail
                  go_region_law (first
                    | (refine step_append_pts (by rfl) _ _ (by rfl) wq.heap.size (.slice (some ⟨wq.heap.size , 0, none⟩) 0 0) (.slice (some ⟨g, 0, none⟩) j c) [] (acc.take j) (by rfl) (OwnP.empty (by first | exact World.alloc_heap_new _ _ | exact heap2_first _ _ _ | exact heap2_second _ _ _) (Nat.le_refl _)) (by rfl) (HP1.out _ (by (repeat' (first | exact Ext.refl _ | assumption | refine Ext.alloc ?_ _ | refine Ext.drew ?_ | refine Ext.drewN ?_ _ | refine Ext.set ?_ (by first | exact Nat.le_refl _ | exact le1 _ | exact le2 _ | exact le3 _ | exact le4 _ | exact le5 _ | exact le6 _) _ | refine Ext.trans ?_ (by assumption))))) (by rw [List.length_take]; simp; omega) (by simp; try omega) ?_; intro vA wA' hoA hgA; have EA : Ext wq wA' := Ext.trans' (w := wq) (by (repeat' (first | exact Ext.refl _ | assumption | refine Ext.alloc ?_ _ | refine Ext.drew ?_ | refine Ext.drewN ?_ _ | refine Ext.set ?_ (by first | exact Nat.le_refl _ | exact le1 _ | exact le2 _ | exact le3 _ | exact le4 _ | exact le5 _ | exact le6 _) _ | refine Ext.trans ?_ (by assumption)))) hgA (fun k e => Nat.le_of_eq (Option.some.inj e)); simp only [List.nil_append] at hoA; have q0 := EA.cell hx1q; have q1 := EA.cell hx2q; have lA := World.block_lt_of_cell? _ _ q0; simp only at lA)
                    | (refine step_append_pts (by rfl) _ _ (by rfl) wq.heap.size (.slice (some ⟨wq.heap.size + 1, 0, none⟩) 0 0) (.slice (some ⟨g, 0, none⟩) j c) [] (acc.take j) (by rfl) (OwnP.empty (by first | exact World.alloc_heap_new _ _ | exact heap2_first _ _ _ | exact heap2_second _ _ _) (Nat.le_succ _)) (by rfl) (HP1.out _ (by (repeat' (first | exact Ext.refl _ | assumption | refine Ext.alloc ?_ _ | refine Ext.drew ?_ | refine Ext.drewN ?_ _ | refine Ext.set ?_ (by first | exact Nat.le_refl _ | exact le1 _ | exact le2 _ | exact le3 _ | exact le4 _ | exact le5 _ | exact le6 _) _ | refine Ext.trans ?_ (by assumption))))) (by rw [List.length_take]; simp; omega) (by simp; try omega) ?_; intro vA wA' hoA hgA; have EA : Ext wq wA' := Ext.trans' (w := wq) (by (repeat' (first | exact Ext.refl _ | assumption | refine Ext.alloc ?_ _ | refine Ext.drew ?_ | refine Ext.drewN ?_ _ | refine Ext.set ?_ (by first | exact Nat.le_refl _ | exact le1 _ | exact le2 _ | exact le3 _ | exact le4 _ | exact le5 _ | exact le6 _) _ | refine Ext.trans ?_ (by assumption)))) hgA (fun k e => Nat.le_trans (Nat.le_succ _) (Nat.le_of_eq (Option.some.inj e))); simp only [List.nil_append] at hoA; have q0 := EA.cell hx1q; have q1 := EA.cell hx2q; have lA := World.block_lt_of_cell? _ _ q0; simp only at lA)
                    | (refine step_append_pts (by rfl) _ _ (by rfl) wq.heap.size vA (.slice (some ⟨wA'.heap.size, 0, none⟩) 1 1) (acc.take j) [(xa, xb)] (by rfl) (by first | exact hoA.ext ((Ext.refl _).alloc _) | exact hoA.ext (((Ext.refl _).alloc _).drew) | exact hoA.ext ((((Ext.refl _).drew).alloc _))) (by rfl) (Pts.one (World.alloc_heap_new wA' _)) (by rw [List.length_take]; simp; omega) (by have := EA.sz; simp; try omega) ?_; intro vB wB hoB hgB; have EB : Ext wq wB := Ext.trans' (w := wq) (by (repeat' (first | exact Ext.refl _ | assumption | refine Ext.alloc ?_ _ | refine Ext.drew ?_ | refine Ext.drewN ?_ _ | refine Ext.set ?_ (by first | exact Nat.le_refl _ | exact le1 _ | exact le2 _ | exact le3 _ | exact le4 _ | exact le5 _ | exact le6 _) _ | refine Ext.trans ?_ (by assumption)))) hgB (own_ge' hoA))
                    | (refine step_append_pts (by rfl) _ _ (by rfl) wq.heap.size vA (.slice (some ⟨wq.heap.size + 1, 0, none⟩) 1 1) (acc.take j) [(xa, xb)] (by rfl) hoA (by rfl) (Pts.one (kept_blk' hgA rfl (heap2_second _ _ _) (Nat.succ_ne_self _))) (by rw [List.length_take]; simp; omega) (by have := EA.sz; simp; try omega) ?_; intro vB wB hoB hgB; have EB : Ext wq wB := Ext.trans' (w := wq) (by (repeat' (first | exact Ext.refl _ | assumption | refine Ext.alloc ?_ _ | refine Ext.drew ?_ | refine Ext.drewN ?_ _ | refine Ext.set ?_ (by first | exact Nat.le_refl _ | exact le1 _ | exact le2 _ | exact le3 _ | exact le4 _ | exact le5 _ | exact le6 _) _ | refine Ext.trans ?_ (by assumption)))) hgB (own_ge' hoA))
                    | (refine step_append_pts (by rfl) _ _ (by rfl) wq.heap.size vA (.slice (some ⟨wq.heap.size, 0, none⟩) 1 1) (acc.take j) [(xa, xb)] (by rfl) hoA (by rfl) (Pts.one (kept_blk' hgA rfl (heap2_first _ _ _) (Nat.succ_ne_self _).symm)) (by rw [List.length_take]; simp; omega) (by have := EA.sz; simp; try omega) ?_; intro vB wB hoB hgB; have EB : Ext wq wB := Ext.trans' (w := wq) (by (repeat' (first | exact Ext.refl _ | assumption | refine Ext.alloc ?_ _ | refine Ext.drew ?_ | refine Ext.drewN ?_ _ | refine Ext.set ?_ (by first | exact Nat.le_refl _ | exact le1 _ | exact le2 _ | exact le3 _ | exact le4 _ | exact le5 _ | exact le6 _) _ | refine Ext.trans ?_ (by assumption)))) hgB (own_ge' hoA))
                    | (refine step_append_pts (by rfl) _ _ (by rfl) wq.heap.size vB (.slice (if c = j then some ⟨g, 0, none⟩ else some ⟨g, j * 2, none⟩) (N - j) (c - j)) (acc.take j ++ [(xa, xb)]) (acc.drop j) (by rfl) hoB (by first | rfl | exact HV.out) (HP2.out _ (by (repeat' (first | exact Ext.refl _ | assumption | refine Ext.alloc ?_ _ | refine Ext.drew ?_ | refine Ext.drewN ?_ _ | refine Ext.set ?_ (by first | exact Nat.le_refl _ | exact le1 _ | exact le2 _ | exact le3 _ | exact le4 _ | exact le5 _ | exact le6 _) _ | refine Ext.trans ?_ (by assumption))))) (by rw [List.length_append, List.length_take, List.length_drop, hlN]; simp; omega) (by have := EB.sz; simp; try omega) ?_; intro vC wC hoC hgC; have EC : Ext wq wC := Ext.trans' (w := wq) (by (repeat' (first | exact Ext.refl _ | assumption | refine Ext.alloc ?_ _ | refine Ext.drew ?_ | refine Ext.drewN ?_ _ | refine Ext.set ?_ (by first | exact Nat.le_refl _ | exact le1 _ | exact le2 _ | exact le3 _ | exact le4 _ | exact le5 _ | exact le6 _) _ | refine Ext.trans ?_ (by assumption)))) hgC (own_ge' hoB); obtain ⟨AC, cC, rfl, _⟩ := hoC.shape))
                  all_goals
                    go_wp2
                    have hlC : (acc.take j ++ [(xa, xb)] ++ acc.drop j).length = j + (N - j + 1) := by rw [List.length_append, List.length_append, List.length_take, List.length_drop, hlN]; simp; omega
                    rw [hlC] at hoC
                    refine ⟨⟨k + 1, j + (N - j + 1), AC, cC, insP acc (xa, xb), by omega, by go_num, rfl, ?_, HX.out.1, fun h => by omega, ?_, HEF.out.trans EC⟩, by simp [intOf]; omega⟩
                    · rw [HINS.out, show acc.take j ++ (xa, xb) :: acc.drop j = acc.take j ++ [(xa, xb)] ++ acc.drop j from by simp, hlC]
                    · rw [HINS.out, show acc.take j ++ (xa, xb) :: acc.drop j = acc.take j ++ [(xa, xb)] ++ acc.drop j from by simp]
                      exact hoC.down zq
            · have hjN2 : j = N := by omega
              have hat := atP_end hja (by rw [hlN]; omega)
              have hins : insP acc (xa, xb) = acc.take j ++ (xa, xb) :: acc.drop j := by
                unfold insP
                rw [← hat, List.getElem?_eq_none (by rw [hlN]; omega), if_neg (by simp)]
              have HINS := Lib.hid hins
              have HAT := Lib.hid hat
              have g0 : decide ((j : Int) < (N : Int)) = false := by simp; omega
              have hjne : ((j : Int) == (N : Int)) = true := by simp; omega
              clear hins hat hja hoA hjN2
              go_wp2
              (refine wp_region_ext (C := fun w' => Ext wr w') (by kernel_rfl) (by kernel_rfl) (by (repeat' (first | exact Ext.refl _ | assumption | refine Ext.alloc ?_ _ | refine Ext.drew ?_ | refine Ext.drewN ?_ _ | refine Ext.set ?_ (by first | exact Nat.le_refl _ | exact le1 _ | exact le2 _ | exact le3 _ | exact le4 _ | exact le5 _ | exact le6 _) _ | refine Ext.trans ?_ (by assumption)))) ?_; (repeat (with_reducible refine wpQuiet_step (fun K hK => ?_); go_simp; first | (refine hK _ ?_; clear hK K) | (apply Exists.intro; refine ⟨fun w' hC => ?_, hK _ ?_⟩; (focus first | with_reducible rfl | (skip; go_simp; done) | (skip; go_simp; exact ⟨rfl, rfl⟩) | (skip; go_simp; with_reducible rfl)); clear hK K))); refine wpQuiet_nil ?_; intro wq hEq)
              obtain ⟨hx1q, hx2q⟩ := And.intro (hEq.cell hx1) (hEq.cell hx2)
              have HEQ := Lib.hid (HE.out.trans (hE2.trans hEq))
              have HE3 := Lib.hid (hE2.trans hEq)
              clear hx1 hx2 hE2 hEq
              go_wp2
              obtain ⟨wB, hwB⟩ : ∃ z : World, z = wq := ⟨_, rfl⟩
              subst hwB
              (refine wp_region_ext (C := fun w' => Ext wB w') (by kernel_rfl) (by kernel_rfl) (by (repeat' (first | exact Ext.refl _ | assumption | refine Ext.alloc ?_ _ | refine Ext.drew ?_ | refine Ext.drewN ?_ _ | refine Ext.set ?_ (by first | exact Nat.le_refl _ | exact le1 _ | exact le2 _ | exact le3 _ | exact le4 _ | exact le5 _ | exact le6 _) _ | refine Ext.trans ?_ (by assumption)))) ?_; (repeat (with_reducible refine wpQuiet_step (fun K hK => ?_); go_simp; first | (refine hK _ ?_; clear hK K) | (apply Exists.intro; refine ⟨fun w' hC => ?_, hK _ ?_⟩; (focus first | with_reducible rfl | (have q0 := hC.cell hx1q; have q1 := hC.cell hx2q; go_simp; done) | (have q0 := hC.cell hx1q; have q1 := hC.cell hx2q; go_simp; exact ⟨rfl, rfl⟩) | (have q0 := hC.cell hx1q; have q1 := hC.cell hx2q; go_simp; with_reducible rfl)); clear hK K))); refine wpQuiet_nil ?_; intro wq hEq)
              have hx1r := hEq.cell hx1q
              have hx2r := hEq.cell hx2q
              have HEF := Lib.hid (HEQ.out.trans hEq)
              have HAE := Lib.hid (HE3.out.trans hEq)
              clear hx1q hx2q hEq
              have hx1q := hx1r
              have hx2q := hx2r
              clear hx1r hx2r
              have lq := World.block_lt_of_cell? _ _ hx1q
              simp only at lq
              have zq := HEF.out.sz
              have hOP := HO.out.1.ext HAE.out
              have HP1 := Lib.hid (fun W' (h : Ext wq W') => (hOP.ext h).pts.cut (m := j) (by omega) hlN)
              have HP2 := Lib.hid (fun W' (h : Ext wq W') => by have h2 := (hOP.ext h).pts.tail (m := j) (by omega) hlN hNc; rwa [Nat.zero_add] at h2)
              clear hOP
              have j1 : j ≤ c := by omega
              have j2 : j ≤ N := by omega
              have j3 : N ≤ c := hNc
              have j4 : c ≤ 9223372036854775807 := by omega
              go_upto_region 9 with fail
              go_region_law (first
                | (refine step_append_pts (by rfl) _ _ (by rfl) wq.heap.size (.slice (some ⟨wq.heap.size , 0, none⟩) 0 0) (.slice (some ⟨g, 0, none⟩) j c) [] (acc.take j) (by rfl) (OwnP.empty (by first | exact World.alloc_heap_new _ _ | exact heap2_first _ _ _ | exact heap2_second _ _ _) (Nat.le_refl _)) (by rfl) (HP1.out _ (by (repeat' (first | exact Ext.refl _ | assumption | refine Ext.alloc ?_ _ | refine Ext.drew ?_ | refine Ext.drewN ?_ _ | refine Ext.set ?_ (by first | exact Nat.le_refl _ | exact le1 _ | exact le2 _ | exact le3 _ | exact le4 _ | exact le5 _ | exact le6 _) _ | refine Ext.trans ?_ (by assumption))))) (by rw [List.length_take]; simp; omega) (by simp; try omega) ?_; intro vA wA' hoA hgA; have EA : Ext wq wA' := Ext.trans' (w := wq) (by (repeat' (first | exact Ext.refl _ | assumption | refine Ext.alloc ?_ _ | refine Ext.drew ?_ | refine Ext.drewN ?_ _ | refine Ext.set ?_ (by first | exact Nat.le_refl _ | exact le1 _ | exact le2 _ | exact le3 _ | exact le4 _ | exact le5 _ | exact le6 _) _ | refine Ext.trans ?_ (by assumption)))) hgA (fun k e => Nat.le_of_eq (Option.some.inj e)); simp only [List.nil_append] at hoA; have q0 := EA.cell hx1q; have q1 := EA.cell hx2q; have lA := World.block_lt_of_cell? _ _ q0; simp only at lA)
                | (refine step_append_pts (by rfl) _ _ (by rfl) wq.heap.size (.slice (some ⟨wq.heap.size + 1, 0, none⟩) 0 0) (.slice (some ⟨g, 0, none⟩) j c) [] (acc.take j) (by rfl) (OwnP.empty (by first | exact World.alloc_heap_new _ _ | exact heap2_first _ _ _ | exact heap2_second _ _ _) (Nat.le_succ _)) (by rfl) (HP1.out _ (by (repeat' (first | exact Ext.refl _ | assumption | refine Ext.alloc ?_ _ | refine Ext.drew ?_ | refine Ext.drewN ?_ _ | refine Ext.set ?_ (by first | exact Nat.le_refl _ | exact le1 _ | exact le2 _ | exact le3 _ | exact le4 _ | exact le5 _ | exact le6 _) _ | refine Ext.trans ?_ (by assumption))))) (by rw [List.length_take]; simp; omega) (by simp; try omega) ?_; intro vA wA' hoA hgA; have EA : Ext wq wA' := Ext.trans' (w := wq) (by (repeat' (first | exact Ext.refl _ | assumption | refine Ext.alloc ?_ _ | refine Ext.drew ?_ | refine Ext.drewN ?_ _ | refine Ext.set ?_ (by first | exact Nat.le_refl _ | exact le1 _ | exact le2 _ | exact le3 _ | exact le4 _ | exact le5 _ | exact le6 _) _ | refine Ext.trans ?_ (by assumption)))) hgA (fun k e => Nat.le_trans (Nat.le_succ _) (Nat.le_of_eq (Option.some.inj e))); simp only [List.nil_append] at hoA; have q0 := EA.cell hx1q; have q1 := EA.cell hx2q; have lA := World.block_lt_of_cell? _ _ q0; simp only at lA)
                | (refine step_append_pts (by rfl) _ _ (by rfl) wq.heap.size vA (.slice (some ⟨wA'.heap.size, 0, none⟩) 1 1) (acc.take j) [(xa, xb)] (by rfl) (by first | exact hoA.ext ((Ext.refl _).alloc _) | exact hoA.ext (((Ext.refl _).alloc _).drew) | exact hoA.ext ((((Ext.refl _).drew).alloc _))) (by rfl) (Pts.one (World.alloc_heap_new wA' _)) (by rw [List.length_take]; simp; omega) (by have := EA.sz; simp; try omega) ?_; intro vB wB hoB hgB; have EB : Ext wq wB := Ext.trans' (w := wq) (by (repeat' (first | exact Ext.refl _ | assumption | refine Ext.alloc ?_ _ | refine Ext.drew ?_ | refine Ext.drewN ?_ _ | refine Ext.set ?_ (by first | exact Nat.le_refl _ | exact le1 _ | exact le2 _ | exact le3 _ | exact le4 _ | exact le5 _ | exact le6 _) _ | refine Ext.trans ?_ (by assumption)))) hgB (own_ge' hoA))
                | (refine step_append_pts (by rfl) _ _ (by rfl) wq.heap.size vA (.slice (some ⟨wq.heap.size + 1, 0, none⟩) 1 1) (acc.take j) [(xa, xb)] (by rfl) hoA (by rfl) (Pts.one (kept_blk' hgA rfl (heap2_second _ _ _) (Nat.succ_ne_self _))) (by rw [List.length_take]; simp; omega) (by have := EA.sz; simp; try omega) ?_; intro vB wB hoB hgB; have EB : Ext wq wB := Ext.trans' (w := wq) (by (repeat' (first | exact Ext.refl _ | assumption | refine Ext.alloc ?_ _ | refine Ext.drew ?_ | refine Ext.drewN ?_ _ | refine Ext.set ?_ (by first | exact Nat.le_refl _ | exact le1 _ | exact le2 _ | exact le3 _ | exact le4 _ | exact le5 _ | exact le6 _) _ | refine Ext.trans ?_ (by assumption)))) hgB (own_ge' hoA))
                | (refine step_append_pts (by rfl) _ _ (by rfl) wq.heap.size vA (.slice (some ⟨wq.heap.size, 0, none⟩) 1 1) (acc.take j) [(xa, xb)] (by rfl) hoA (by rfl) (Pts.one (kept_blk' hgA rfl (heap2_first _ _ _) (Nat.succ_ne_self _).symm)) (by rw [List.length_take]; simp; omega) (by have := EA.sz; simp; try omega) ?_; intro vB wB hoB hgB; have EB : Ext wq wB := Ext.trans' (w := wq) (by (repeat' (first | exact Ext.refl _ | assumption | refine Ext.alloc ?_ _ | refine Ext.drew ?_ | refine Ext.drewN ?_ _ | refine Ext.set ?_ (by first | exact Nat.le_refl _ | exact le1 _ | exact le2 _ | exact le3 _ | exact le4 _ | exact le5 _ | exact le6 _) _ | refine Ext.trans ?_ (by assumption)))) hgB (own_ge' hoA))
                | (refine step_append_pts (by rfl) _ _ (by rfl) wq.heap.size vB (.slice (if c = j then some ⟨g, 0, none⟩ else some ⟨g, j * 2, none⟩) (N - j) (c - j)) (acc.take j ++ [(xa, xb)]) (acc.drop j) (by rfl) hoB (by first | rfl | exact HV.out) (HP2.out _ (by (repeat' (first | exact Ext.refl _ | assumption | refine Ext.alloc ?_ _ | refine Ext.drew ?_ | refine Ext.drewN ?_ _ | refine Ext.set ?_ (by first | exact Nat.le_refl _ | exact le1 _ | exact le2 _ | exact le3 _ | exact le4 _ | exact le5 _ | exact le6 _) _ | refine Ext.trans ?_ (by assumption))))) (by rw [List.length_append, List.length_take, List.length_drop, hlN]; simp; omega) (by have := EB.sz; simp; try omega) ?_; intro vC wC hoC hgC; have EC : Ext wq wC := Ext.trans' (w := wq) (by (repeat' (first | exact Ext.refl _ | assumption | refine Ext.alloc ?_ _ | refine Ext.drew ?_ | refine Ext.drewN ?_ _ | refine Ext.set ?_ (by first | exact Nat.le_refl _ | exact le1 _ | exact le2 _ | exact le3 _ | exact le4 _ | exact le5 _ | exact le6 _) _ | refine Ext.trans ?_ (by assumption)))) hgC (own_ge' hoB); obtain ⟨AC, cC, rfl, _⟩ := hoC.shape))
              all_goals
                go_wp2
                have hlC : (acc.take j ++ [(xa, xb)] ++ acc.drop j).length = j + (N - j + 1) := by rw [List.length_append, List.length_append, List.length_take, List.length_drop, hlN]; simp; omega
                rw [hlC] at hoC
                refine ⟨⟨k + 1, j + (N - j + 1), AC, cC, insP acc (xa, xb), by omega, by go_num, rfl, ?_, HX.out.1, fun h => by omega, ?_, HEF.out.trans EC⟩, by simp [intOf]; omega⟩
                · rw [HINS.out, show acc.take j ++ (xa, xb) :: acc.drop j = acc.take j ++ [(xa, xb)] ++ acc.drop j from by simp, hlC]
                · rw [HINS.out, show acc.take j ++ (xa, xb) :: acc.drop j = acc.take j ++ [(xa, xb)] ++ acc.drop j from by simp]
                  exact hoC.down zq
      · go_wp2
        go_ret
        have hk2 : k = l.length := by omega
        subst hk2
        rw [List.take_of_length_le (Nat.le_refl _)] at hst
        refine ⟨_, rfl, ?_, hE⟩
        unfold sortP
        rw [hst]
        exact ho
end Go.Proofs.YtcbjecpfijogcaaGreat

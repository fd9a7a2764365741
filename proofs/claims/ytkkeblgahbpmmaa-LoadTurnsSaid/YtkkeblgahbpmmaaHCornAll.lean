
/- HCornAll: several texts in one. -/
import Derived.Test.YtkkeblgahbpmmaaHApp
import Derived.Test.YtkkeblgahbpmmaaHull3
import Derived.Test.YtkkeblgahbpmmaaHClone
import Derived.Test.YtkkeblgahbpmmaaHStack
/- Contract: the chain of corners, the definition. -/
namespace Go.Proofs.Ytkkeblgahbpmmaa
open Go.RowKit Go.Shelf

theorem sign_le (x : Int) : decide (signP x ≤ 0) = decide (x ≤ 0) := by
  unfold signP
  by_cases h : 0 < x
  · simp [h]
  · by_cases h2 : x < 0
    · simp [h, h2]; omega
    · simp [h, h2]; omega
end Go.Proofs.Ytkkeblgahbpmmaa
/- Contract: points in order, each one once, the definition. -/
namespace Go.Proofs.Ytkkeblgahbpmmaa
open Go.RowKit Go.Shelf

theorem atP_lt {l : List HPt} {x y : HPt} {i : Nat} (h : i < atP l x) (hy : l[i]? = some y) : ltP y x := by
  have h1 : (l.take (atP l x))[i]? = some y := by rw [List.getElem?_take, if_pos h, hy]
  rw [take_atP] at h1
  have := List.all_eq_true.1 (List.all_takeWhile (p := fun y => decide (ltP y x)) (l := l)) y (List.mem_of_getElem? h1)
  simpa using this
theorem atP_stop {l : List HPt} {x y : HPt} (hy : l[atP l x]? = some y) : ¬ ltP y x := by
  have h1 : (l.drop (atP l x))[0]? = some y := by rw [List.getElem?_drop, Nat.add_zero, hy]
  have h3 := List.head?_dropWhile_not (p := fun y => decide (ltP y x)) (l := l)
  rw [← drop_atP] at h3
  cases hd : l.drop (atP l x) with
  | nil => rw [hd] at h1; cases h1
  | cons z r =>
    rw [hd] at h1 h3
    cases h1
    simpa using h3
theorem atP_next {l : List HPt} {x y : HPt} {j : Nat} (hj : j ≤ atP l x) (hy : l[j]? = some y) (h : ltP y x) : j + 1 ≤ atP l x := by
  rcases Nat.lt_or_ge j (atP l x) with h1 | h1
  · exact h1
  · have : j = atP l x := by omega
    subst this
    exact absurd h (atP_stop hy)
theorem atP_here {l : List HPt} {x y : HPt} {j : Nat} (hj : j ≤ atP l x) (hy : l[j]? = some y) (h : ¬ ltP y x) : j = atP l x := by
  rcases Nat.lt_or_ge j (atP l x) with h1 | h1
  · exact absurd (atP_lt h1 hy) h
  · omega
theorem atP_end {l : List HPt} {x : HPt} {j : Nat} (hj : j ≤ atP l x) (h : l.length ≤ j) : j = atP l x := by
  have := atP_le l x
  omega
theorem ins_len (l : List HPt) (x : HPt) : (insP l x).length ≤ l.length + 1 := by
  unfold insP
  split
  · omega
  · rw [List.length_append, List.length_cons, List.length_take, List.length_drop]
    omega
theorem foldI_len : ∀ (l acc : List HPt), (l.foldl insP acc).length ≤ acc.length + l.length
  | [], _ => Nat.le_refl _
  | x :: l, acc => by
    have h1 := foldI_len l (insP acc x)
    have h2 := ins_len acc x
    simp only [List.foldl_cons, List.length_cons] at *
    omega
/-- a slice of points that is cut -/
theorem Pts.cut {w : World} {A : Option Addr} {n c : Nat} {l : List HPt} (h : Pts w (.slice A n c) l) {m : Nat} (hm : m ≤ n) (hl : l.length = n) : Pts w (.slice A m c) (l.take m) := by
  rcases h with ⟨a, c', e, rfl⟩ | ⟨b, off, cap, e, h1, h2, hc⟩
  · simp only [Value.slice.injEq] at e
    obtain ⟨rfl, rfl, rfl⟩ := e
    have : m = 0 := by omega
    subst this
    exact .inl ⟨_, _, rfl, rfl⟩
  · simp only [Value.slice.injEq] at e
    obtain ⟨rfl, rfl, rfl⟩ := e
    refine .inr ⟨b, off, c, by rw [List.length_take, Nat.min_eq_left hm], by rw [List.length_take]; omega, by rw [List.length_take]; omega, fun i hi => ?_⟩
    rw [List.length_take] at hi
    have h3 := hc i (by omega)
    rw [getD_lt (by omega)] at h3
    rw [getD_lt (by rw [List.length_take]; omega), List.getElem_take]
    exact h3
theorem Pts.tail {w : World} {b off n c : Nat} {l : List HPt} (h : Pts w (.slice (some ⟨b, off, none⟩) n c) l) {m : Nat} (hm : m ≤ n) (hl : l.length = n) (hc0 : n ≤ c) :
    Pts w (.slice (if c = m then some ⟨b, off, none⟩ else some ⟨b, off + m * 2, none⟩) (n - m) (c - m)) (l.drop m) := by
  have hln : (l.drop m).length = n - m := by rw [List.length_drop, hl]
  by_cases hcm : c = m
  · refine .inl ⟨_, _, by rw [show n - m = 0 by omega], List.eq_nil_of_length_eq_zero (by omega)⟩
  · rw [if_neg hcm]
    rcases h with ⟨a, c', e, rfl⟩ | ⟨b', off', cap, e, h1, h2, hc⟩
    · simp only [Value.slice.injEq] at e
      obtain ⟨rfl, rfl, rfl⟩ := e
      exact .inl ⟨_, _, by rw [Nat.zero_sub], by simp⟩
    · simp only [Value.slice.injEq, Option.some.injEq, Addr.mk.injEq, and_true] at e
      obtain ⟨⟨rfl, rfl⟩, rfl, rfl⟩ := e
      refine .inr ⟨b, off + m * 2, c - m, by rw [hln], by omega, by omega, fun i hi => ?_⟩
      have h3 := hc (m + i) (by omega)
      rw [getD_lt (by omega)] at h3
      rw [getD_lt hi, List.getElem_drop]
      rw [show off + m * 2 + i * 2 = off + (m + i) * 2 by omega]
      exact h3

end Go.Proofs.Ytkkeblgahbpmmaa
/- Append of points in a region of one order. -/
namespace Go.Proofs.Ytkkeblgahbpmmaa
open Go.RowKit Go.Shelf

theorem wpList_append_pts {w : World} {ops : Array Oper} {rest : List Oper} {o : Oper} {a : Act} {Q : Exit → Act → World → Prop} (hgd : o.guard = none) (s x : Operand)
    (ho : o.op = .call { callee := .builtin .append, args := #[s, x], argTypes := #[48, 48] })
    (base : Nat) (v vx : Value) (l m : List HPt) (hs : a.eval s = v) (hown : OwnP base w v l) (hx : a.eval x = vx) (hp : Pts w vx m) (hn : l.length + m.length ≤ 8000000) (hbase : base ≤ w.heap.size)
    (h : ∀ v' w', OwnP base w' v' (l ++ m) → w.grownBy w' v.ownBlock → wpList Try.prog ops Q rest (a.put o.dst v') w') : wpList Try.prog ops Q (o :: rest) a w :=
  wpList_plain hgd fun K hK => by
    have h1 := step_append_pts (ops := ops) (E := True) (Q := Q) (K := K) hgd s x ho base v vx l m hs hown hx hp hn hbase fun v' w' h1 h2 => hK _ _ (h v' w' h1 h2)
    have hw : Region.wanted o (yielded ops a.tmps) = true := by simp [Region.wanted, hgd]
    rwa [if_pos hw] at h1
end Go.Proofs.Ytkkeblgahbpmmaa
/- Contract: the hull of points, the definition. -/
namespace Go.Proofs.Ytkkeblgahbpmmaa
open Go.RowKit Go.Shelf

theorem Pts.shapeH {w : World} {v : Value} {l : List HPt} (h : Pts w v l) : ∃ a cap, v = .slice a l.length cap ∧ l.length ≤ 9223372036854775807 := by
  rcases h with ⟨a, c, rfl, rfl⟩ | ⟨b, off, cap, rfl, hl, _, _⟩
  · exact ⟨_, _, rfl, by simp⟩
  · exact ⟨_, _, rfl, hl⟩
theorem sort_len (l : List HPt) : (sortP l).length ≤ l.length := by
  have := foldI_len l []
  simpa [sortP] using this
theorem push_len (st : List HPt) (x : HPt) : 0 < (pushP st x).length := by simp [pushP]
theorem side_pos {l : List HPt} (h : 0 < l.length) : 0 < (sideP l).length := by
  unfold sideP
  rw [List.length_reverse]
  rcases List.eq_nil_or_concat l with rfl | ⟨m, x, rfl⟩
  · simp at h
  · rw [List.concat_eq_append, List.foldl_append]
    exact push_len _ _
theorem side_len (l : List HPt) : (sideP l).length ≤ l.length := by
  unfold sideP
  rw [List.length_reverse]
  have := foldP_len l []
  simpa using this
end Go.Proofs.Ytkkeblgahbpmmaa
/- slices.Values at points: the iterator that it makes. -/
namespace Go.Proofs.Ytkkeblgahbpmmaa
open Go.RowKit Go.Shelf Go.Lib Go.Sort

set_option maxHeartbeats 800000 in
theorem Values_c (a : Option Addr) (n c : Nat) (w : World) :
    Calls Try.prog 105 #[.slice a n c] w fun e w' => e = .returned (.func (.func 119) #[] #[.pointer (some ⟨w.heap.size, 0, none⟩)]) ∧ w' = w.alloc (.cells #[.slice a n c] 48) := by
  go_enter Try.func105, Try.ntmps105
  go_wp2
  go_ret
  exact ⟨rfl, rfl⟩
end Go.Proofs.Ytkkeblgahbpmmaa
/- Contract: plane.corners, the hull of points. -/
namespace Go.Proofs.Ytkkeblgahbpmmaa
open Go.RowKit Go.Shelf Go.Lib Go.Sort

theorem grownBy_putRow {w : World} {g n : Nat} (F : Array Value) : w.grownBy (putRow id (Sort.ahead w n) g 0 F) (some g) := by
  refine ⟨rfl, rfl, rfl, by simp, fun k hk hne => ?_⟩
  have : g ≠ k := fun e => hne (by rw [e])
  simp [putRow, mapBlock, Sort.ahead, Array.getElem?_modify, this]
theorem holds_ext {w w' : World} {g : Nat} {d : Array HPt} (h : HoldsK encP 2 w g 0 d) (he : Ext w w') : HoldsK encP 2 w' g 0 d := by
  intro j hj
  obtain ⟨h1, h2⟩ := h j hj
  refine ⟨he.cell h1, ?_⟩
  rw [(bcell he).2 g _ (World.block_lt_of_cell? w _ h1)]
  exact h2
/-- of two points or more, the corners lie in a row of the call's own -/
def OwnIf (l : List HPt) (base : Nat) (w : World) (v : Value) : Prop := 2 ≤ (sortP l).length → OwnP base w v (cornersP l)
set_option maxRecDepth 100000 in
set_option maxHeartbeats 8000000 in
theorem corners_c (b off c : Nat) (l : List HPt) (w : World) (hc : PtCells w b off l) (h0 : 0 < l.length) (hw : ∀ p ∈ l, wideB p) (hn : l.length ≤ 100000) :
    Calls Try.prog 96 #[.slice (some ⟨b, off, none⟩) l.length c] w fun e w' => ∃ v', e = .returned v' ∧ Pts w' v' (cornersP l) ∧ Ext w w' ∧ OwnIf l w.heap.size w' v' := by
  have CC := Lib.hid (clone_c b off c l w hc (by omega))
  have hSw : ∀ p ∈ sortP l, wideB p := fun p hp => hw p ((sort_mem l p).1 hp)
  have hSn := Nat.le_trans (sort_len l) hn
  have hSL := sort_len l
  have hS0 : 0 < (sortP l).length := by
    rcases l with _ | ⟨x, l⟩
    · simp at h0
    · exact List.length_pos_of_mem ((sort_mem (x :: l) x).2 (by simp))
  have hD := srtD_len l
  have HCS := Lib.hid (compact_sorted l)
  have hcn : cornersP l = if (sortP l).length < 2 then sortP l else (sideP (sortP l)).dropLast ++ (sideP (sortP l).reverse).dropLast := rfl
  have HCN := Lib.hid hcn
  obtain ⟨S, hS⟩ : ∃ S, sortP l = S := ⟨_, rfl⟩
  rw [hS] at hSw hSn hS0 HCS HCN hSL
  have HSS := Lib.hid hS
  clear hcn hS hc
  obtain ⟨N, hN⟩ : ∃ N, S.length = N := ⟨_, rfl⟩
  obtain ⟨L, hL⟩ : ∃ L, l.length = L := ⟨_, rfl⟩
  have HSW := Lib.hid hSw
  have HNL := Lib.hid (And.intro hN (And.intro hL hD))
  rw [hN] at hSn hS0 hSL
  rw [hL] at h0 hn hSL
  clear hSw
  rw [hL]
  by_cases h2 : N < 2
  · go_enter Try.func96, Try.ntmps96
    go_wp2_with (first
      | (go_at_call 84; refine (hL ▸ CC.out).mono ?_; rintro e w1 ⟨v1, rfl, ho1, _, hE1⟩; obtain ⟨g, c1, rfl, hg1, hg2, hc1, hcm⟩ := ho1.form (by omega); have hH1 := Lib.hid ho1.holds; replace ho1 := Lib.hid ho1; replace hE1 := Lib.hid hE1; simp only [hL] at hc1 ⊢)
      | (go_at_call 85; have hsc := sort_c g 0 c1 l w1 hH1.out hg2 (by omega); rw [hL] at hsc; refine hsc.mono ?_; rintro e w2 ⟨rfl, n2, os2, hw2⟩; clear hsc; have hH2 := Lib.hid (holds_sort (n := n2) (os := os2) (d := srtD l) hH1.out hg2 HNL.out.2.2); have hE2 := Lib.hid (ext_sortWorldK (n := n2) (d := (srtD l).toArray) (os := os2) hE1.out hg1); rw [← hw2] at hH2 hE2; clear hw2)
      | (go_at_call 87; have hcc := compact_c g 0 c1 (srtD l).toArray w2 hH2.out (by rw [List.size_toArray, HNL.out.2.2]; omega) (by rw [List.size_toArray, HNL.out.2.2]; omega); unfold CEnd at hcc; rw [HCS.out, List.size_toArray, HNL.out.2.2, hL, hN] at hcc; refine hcc.mono ?_; clear hcc; rintro e w3 ⟨rfl, q3, F3, hF3, hw3, hH3⟩; have hE3 := Lib.hid (ext_putRow (q := q3) (F := F3) hE2.out hg1); rw [← hw3] at hE3; clear hw3 hF3; replace hH3 := Lib.hid hH3))
    go_ret
    have hp := holds_pts (cap := c1) hH3.out (by omega) (by omega)
    rw [hN] at hp
    exact ⟨_, rfl, by rw [HCN.out, if_pos (by omega)]; exact hp, hE3.out, fun h => absurd h (by rw [HSS.out]; have := HNL.out.1; omega)⟩
  · have h2' := Lib.hid h2
    have g2 : ¬ (N : Int) < 2 := by omega
    have hl1 := side_len S
    have hl2 := side_len S.reverse
    have hp1 := side_pos (l := S) (by omega)
    have hp2 := side_pos (l := S.reverse) (by rw [List.length_reverse]; omega)
    rw [List.length_reverse] at hl2
    obtain ⟨L1, hL1⟩ : ∃ L1, sideP S = L1 := ⟨_, rfl⟩
    obtain ⟨L2, hL2⟩ : ∃ L2, sideP S.reverse = L2 := ⟨_, rfl⟩
    rw [hL1] at hl1 hp1
    rw [hL2] at hl2 hp2
    obtain ⟨m1, hm1⟩ : ∃ m, L1.length = m + 1 := ⟨L1.length - 1, by omega⟩
    obtain ⟨m2, hm2⟩ : ∃ m, L2.length = m + 1 := ⟨L2.length - 1, by omega⟩
    have hm1b : m1 ≤ 100000 := by omega
    have hm2b : m2 ≤ 100000 := by omega
    have HM := Lib.hid (And.intro hm1 (And.intro hm2 (And.intro hp1 hp2)))
    have HL12 := Lib.hid (And.intro hL1 hL2)
    clear hl1 hl2 hp1 hp2 hm1 hm2 h2 hL1 hL2
    go_enter Try.func96, Try.ntmps96
    go_wp2_with (first
      | (go_at_call 84; refine (hL ▸ CC.out).mono ?_; rintro e w1 ⟨v1, rfl, ho1, _, hE1⟩; obtain ⟨g, c1, rfl, hg1, hg2, hc1, hcm⟩ := ho1.form (by omega); have hH1 := Lib.hid ho1.holds; replace ho1 := Lib.hid ho1; replace hE1 := Lib.hid hE1; simp only [hL] at hc1 ⊢)
      | (go_at_call 85; have hsc := sort_c g 0 c1 l w1 hH1.out hg2 (by omega); rw [hL] at hsc; refine hsc.mono ?_; rintro e w2 ⟨rfl, n2, os2, hw2⟩; clear hsc; have hH2 := Lib.hid (holds_sort (n := n2) (os := os2) (d := srtD l) hH1.out hg2 HNL.out.2.2); have hE2 := Lib.hid (ext_sortWorldK (n := n2) (d := (srtD l).toArray) (os := os2) hE1.out hg1); rw [← hw2] at hH2 hE2; clear hw2)
      | (go_at_call 87; have hcc := compact_c g 0 c1 (srtD l).toArray w2 hH2.out (by rw [List.size_toArray, HNL.out.2.2]; omega) (by rw [List.size_toArray, HNL.out.2.2]; omega); unfold CEnd at hcc; rw [HCS.out, List.size_toArray, HNL.out.2.2, hL, hN] at hcc; refine hcc.mono ?_; clear hcc; rintro e w3 ⟨rfl, q3, F3, hF3, hw3, hH3⟩; have hE3 := Lib.hid (ext_putRow (q := q3) (F := F3) hE2.out hg1); rw [← hw3] at hE3; clear hw3 hF3; replace hH3 := Lib.hid hH3; have hg3 : g < w3.heap.size := World.block_lt_of_cell? _ _ (hH3.out 0 (by rw [size_flatK]; simp; omega)).1; have hcN : N ≤ c1 := (by omega); have hp3 := holds_pts (cap := c1) hH3.out (by omega) (by omega); rw [hN] at hp3; have HP3 := Lib.hid hp3; clear hp3)
      | (go_at_call 105; refine (Values_c _ _ _ _).mono ?_; rintro e w4 ⟨rfl, rfl⟩)
      | (go_at_call 104; refine (stack_c w3.heap.size (.slice (some ⟨g, 0, none⟩) N c1) S _ (((HP3.out).ext ((Ext.refl w3).alloc _))) HSW.out (Boxed.new w3 _ _) (by omega)).mono ?_; rintro e w5 ⟨v5, rfl, ho5, hE5⟩; clear HP3; have E35 := Lib.hid (((Ext.refl w3).alloc _).trans hE5); rw [HL12.out.1] at ho5; obtain ⟨g5, c5, rfl, hg5, hl5, hc5, hcm5⟩ := ho5.form HM.out.2.2.1; replace hg5 : w3.heap.size < g5 := (by rw [size_alloc] at hg5; omega); replace ho5 := Lib.hid (ho5.down (base' := w3.heap.size) (by rw [size_alloc]; omega)); clear hE5; simp only [HM.out.1] at ho5 hc5 ⊢)
      | (go_at_call 89; have hrc := rev_c g 0 c1 S w5 (holds_ext hH3.out E35.out) (by omega); rw [hN] at hrc; refine hrc.mono ?_; clear hrc; rintro e w6 ⟨rfl, n6, hw6⟩; have hH6 := Lib.hid (holds_rev (n := n6) (holds_ext hH3.out E35.out)); have hE6 := Lib.hid (ext_putRow (q := n6) (F := flatK encP 2 S.reverse.toArray) (hE3.out.trans E35.out) hg1); have ho6 := Lib.hid (ho5.out.grown (grownBy_putRow (g := g) (n := n6) (flatK encP 2 S.reverse.toArray)) (.inr (fun e => (show g5 ≠ g by omega) (Option.some.inj e)))); have hz6 : w5.heap.size = w6.heap.size := (by rw [hw6]; simp [putRowK]); unfold putRowK at hw6 hH6; rw [← hw6] at hH6 hE6 ho6; clear hw6 ho5; have hp6 := holds_pts (cap := c1) hH6.out (by rw [List.length_reverse]; omega) (by rw [List.length_reverse]; omega); rw [List.length_reverse, hN] at hp6; have HP6 := Lib.hid hp6; clear hp6)
      | (go_at_call 104; refine (stack_c w6.heap.size (.slice (some ⟨g, 0, none⟩) N c1) S.reverse _ (((HP6.out).ext ((Ext.refl w6).alloc _))) (fun p hp => HSW.out p (List.mem_reverse.1 hp)) (Boxed.new w6 _ _) (by rw [List.length_reverse]; omega)).mono ?_; rintro e w8 ⟨v8, rfl, ho8, hE8⟩; clear HP6; have E68 := Lib.hid (((Ext.refl w6).alloc _).trans hE8); rw [HL12.out.2] at ho8; obtain ⟨g8, c8, rfl, hg8, hl8, hc8, hcm8⟩ := ho8.form HM.out.2.2.2; replace ho8 := Lib.hid ho8; clear hE8; simp only [HM.out.2.1] at ho8 hc8 ⊢))
    have E8 := Lib.hid (hE6.out.trans E68.out)
    have z68 := E68.out.sz
    have zw3 := hE3.out.sz
    rw [size_alloc] at hg8
    have o5 := ho6.out.ext E68.out
    have o8 := ho8.out
    have hq5 : OwnP w3.heap.size w8 (.slice (some ⟨g5, 0, none⟩) m1 c5) (L1.take m1) := by
      refine OwnP.cut (l := L1) ?_ m1 (by have := HM.out.1; omega)
      rw [HM.out.1]
      exact o5
    have HQ1 := Lib.hid (fun W' (h : Ext w8 W') => hq5.ext h)
    have HQ2 := Lib.hid (fun W' (h : Ext w8 W') => (o8.ext h).pts.cut (m := m2) (by omega) HM.out.2.1)
    have HLC := Lib.hid (show (L1.take m1 ++ L2.take m2).length = m1 + m2 by rw [List.length_append, List.length_take, List.length_take]; have h1 := HM.out.1; have h2 := HM.out.2.1; omega)
    unfold maxLen at hcm5 hcm8
    have j1 : m1 ≤ c5 := by omega
    have j2 : m2 ≤ c8 := by omega
    have j3 : c5 ≤ 9223372036854775807 := by omega
    have j4 : c8 ≤ 9223372036854775807 := by omega
    have j5 := IntWalk.i64_in (m1 : Int) (by omega)
    have j6 := IntWalk.i64_in (m2 : Int) (by omega)
    clear o5 o8 hq5
    go_upto_region 10 with fail
    (refine Tail.wp_region_tail 10 (by kernel_rfl) (by kernel_rfl) (fun _ _ _ _ _ h => h) ?_; simp only [List.take_succ_cons, List.take_zero, List.drop_succ_cons, List.drop_zero]; (repeat still_step); refine wpStill_nil ?_)
    go_wp2_with (at_builtin; refine wpList_append_pts (by rfl) _ _ (by rfl) w3.heap.size (.slice (some ⟨g5, 0, none⟩) m1 c5) (.slice (some ⟨g8, 0, none⟩) m2 c8) (L1.take m1) (L2.take m2) (by rfl) (HQ1.out _ (by (repeat' (first | exact Ext.refl _ | assumption | refine Ext.alloc ?_ _ | refine Ext.drew ?_ | refine Ext.drewN ?_ _ | refine Ext.set ?_ (by first | exact Nat.le_refl _ | exact le1 _ | exact le2 _ | exact le3 _ | exact le4 _ | exact le5 _ | exact le6 _) _ | refine Ext.trans ?_ (by assumption))))) (by rfl) (HQ2.out _ (by (repeat' (first | exact Ext.refl _ | assumption | refine Ext.alloc ?_ _ | refine Ext.drew ?_ | refine Ext.drewN ?_ _ | refine Ext.set ?_ (by first | exact Nat.le_refl _ | exact le1 _ | exact le2 _ | exact le3 _ | exact le4 _ | exact le5 _ | exact le6 _) _ | refine Ext.trans ?_ (by assumption))))) (by rw [List.length_take, List.length_take]; omega) (by simp; try omega) ?_; intro vC wC hoC hgC; have EC : Below w.heap.size w wC := Below.grown (E8.out.trans (by (repeat' (first | exact Ext.refl _ | assumption | refine Ext.alloc ?_ _ | refine Ext.drew ?_ | refine Ext.drewN ?_ _ | refine Ext.set ?_ (by first | exact Nat.le_refl _ | exact le1 _ | exact le2 _ | exact le3 _ | exact le4 _ | exact le5 _ | exact le6 _) _ | refine Ext.trans ?_ (by assumption))))) hgC (by simp; omega) (fun k e => by have h : g5 = k := Option.some.inj e; omega); obtain ⟨AC, cC, rfl, _⟩ := hoC.shape; rw [HLC.out] at hoC ⊢)
    go_ret
    have e9 : cornersP l = L1.take m1 ++ L2.take m2 := by rw [HCN.out, if_neg (by have := h2'.out; omega), HL12.out.1, HL12.out.2, List.dropLast_eq_take, List.dropLast_eq_take, HM.out.1, HM.out.2.1]; rfl
    have hoD := hoC
    rw [← e9] at hoD
    exact ⟨_, rfl, hoD.pts, EC, fun _ => hoD.down hE3.out.size⟩
end Go.Proofs.Ytkkeblgahbpmmaa

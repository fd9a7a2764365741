
/- Contract: the closure of load.around: one side of a hull, without its last point. -/
import Derived.Test.YtkkeblgahbpmmaaLJoin
import Derived.Test.YtkkeblgahbpmmaaHClone
import Derived.Test.YtkkeblgahbpmmaaHull4
namespace Go.Proofs.Ytkkeblgahbpmmaa
open Go.RowKit Go.Shelf Go.Lib

theorem load_pt {w : World} {b off : Nat} {l : List HPt} (hc : ∀ i, i < l.length → w.cell? ⟨b, off + i * 2, none⟩ = some (.int .i64 (l.getD i (0, 0)).1) ∧ w.cell? ⟨b, off + i * 2 + 1, none⟩ = some (.int .i64 (l.getD i (0, 0)).2)) {i : Nat} {x : HPt} (h : l[i]? = some x) :
    w.cell? ⟨b, off + i * 2, none⟩ = some (.int .i64 x.1) ∧ w.cell? ⟨b, off + i * 2 + 1, none⟩ = some (.int .i64 x.2) := by
  have hi := lt_of_some h
  have e : l.getD i (0, 0) = x := by rw [getD_lt hi]; exact (List.getElem?_eq_some_iff.1 h).2
  have := hc i hi
  rwa [e] at this
theorem fold_pos {l : List HPt} (h : 0 < l.length) : 0 < (l.foldl pushP []).length := by
  obtain ⟨m, a, rfl⟩ : ∃ m a, l = m ++ [a] := ⟨l.dropLast, l.getLast (by intro e; rw [e] at h; simp at h), (List.dropLast_concat_getLast _).symm⟩
  rw [List.foldl_append]
  show 0 < (a :: popP _ a).length
  simp
set_option maxRecDepth 100000 in
set_option maxHeartbeats 6400000 in
theorem lside_c (v : Value) (l : List HPt) (w : World) (hs : Pts w v l) (h0 : 0 < l.length) (hn : l.length ≤ 100000) (hw : ∀ p ∈ l, wideB p) :
    Calls Try.prog 88 #[v] w fun e w' => ∃ v', e = .returned v' ∧ OwnP w.heap.size w' v' (sideP l).dropLast ∧ Ext w w' := by
  obtain ⟨ip, hi0, hii⟩ := Option.map_eq_some_iff.1 infoPoint
  simp only [Prod.mk.injEq] at hii
  obtain ⟨hi1, hi2, hi3⟩ := hii
  rcases hs with ⟨a0, c0, rfl, rfl⟩ | ⟨b, off, cap, rfl, hl, hcap, hc⟩
  · simp at h0
  have HC := Lib.hid hc
  have HWD := Lib.hid hw
  clear hc hw
  go_enter Try.func88, Try.ntmps88
  go_wp2
  go_loopw [2, 10] (fun o i wr => ∃ k : Nat, k ≤ l.length ∧ i = .int .i64 k ∧ Ext w wr ∧ OwnP w.heap.size wr o ((l.take k).foldl pushP []).reverse) (fun _ i _ => l.length - (intOf i).toNat)
  case atStart => exact ⟨0, by omega, rfl, Ext.refl _, OwnP.none0⟩
  case round =>
    obtain ⟨k, hk, rfl, hE, hO⟩ := hrel
    obtain ⟨wA, hwA⟩ : ∃ z : World, z = wr := ⟨_, rfl⟩
    subst hwA
    obtain ⟨Ao, co, rfl, hlo⟩ := hO.shape
    generalize hN : ((l.take k).foldl pushP []).reverse.length = N at *
    rw [List.length_reverse] at hN
    have HN := Lib.hid hN
    have HR := Lib.hid (And.intro hE hO)
    clear hE hO hN
    by_cases hlt : k < l.length
    · obtain ⟨x, hx⟩ := some_of_lt hlt
      obtain ⟨c0, c1⟩ := load_pt HC.out hx
      replace c0 := HR.out.1.cell c0
      replace c1 := HR.out.1.cell c1
      have hbl := lt_of_cell c0
      obtain ⟨X, hX⟩ : ∃ X, popP ((l.take k).foldl pushP []) x = X := ⟨_, rfl⟩
      have HX := Lib.hid hX
      have HPL := Lib.hid (show ((l.take k).foldl pushP []).length ≤ 100000 from Nat.le_trans (foldP_len (l.take k) []) (by simp; omega))
      have HW1 := Lib.hid (show ∀ p ∈ (l.take k).foldl pushP [], wideB p from fun p hp => HWD.out p (by
        rcases foldP_mem (l.take k) [] hp with h | h
        · simp at h
        · exact List.mem_of_mem_take h))
      have HWX := Lib.hid (HWD.out x (mem_of_some hx))
      have HTK := Lib.hid (show (l.take (k + 1)).foldl pushP [] = pushP ((l.take k).foldl pushP []) x by rw [take_some hx, List.foldl_append]; rfl)
      clear hX hx
      go_upto_region 4 with fail
      have eP : Ext wA (wA.alloc (.cells #[.int .i64 x.1, .int .i64 x.2] 52)) := (Ext.refl wA).alloc _
      have bP := lb_new wA (.cells #[.int .i64 x.1, .int .i64 x.2] 52)
      have oP := HR.out.2.ext eP
      have gP := HR.out.1.trans eP
      have hpw : wA.heap.size < (wA.alloc (.cells #[.int .i64 x.1, .int .i64 x.2] 52)).heap.size := by rw [size_alloc]; omega
      generalize (wA.alloc (.cells #[.int .i64 x.1, .int .i64 x.2] 52)) = wP at *
      generalize wA.heap.size = pb at *
      have HP := Lib.hid (And.intro eP (And.intro bP (And.intro oP gP)))
      clear eP bP oP gP c0 c1 hbl HR
      go_wp2
      go_loopw [2, 5] (fun o m wr => ∃ st : List HPt, Ext wP wr ∧ OwnP w.heap.size wr o st.reverse ∧ m = .int .i64 st.length ∧ popP st x = X ∧ st.length ≤ 100000 ∧ ∀ p ∈ st, wideB p) (fun _ m _ => (intOf m).toNat)
      case atStart => exact ⟨(l.take k).foldl pushP [], Ext.refl _, HP.out.2.2.1, by rw [HN.out], HX.out, HPL.out, HW1.out⟩
      case round =>
        obtain ⟨st, i1, i2, rfl, i4, i5, i6⟩ := hrel
        obtain ⟨A1, c1, rfl, hl1⟩ := i2.shape
        have HI := Lib.hid (And.intro i1 i2)
        have HS := Lib.hid (And.intro i4 i6)
        clear i1 i2 i4 i6
        simp only [List.length_reverse] at *
        by_cases hst : st.length < 2
        · have hpop := (popP_short hst x.1 x.2).symm.trans HS.out.1
          have HQ := Lib.hid hpop
          clear hpop
          generalize hM : st.length = M at *
          have HM := Lib.hid hM
          clear hM
          have g0 : ¬ (2 : Int) ≤ (M : Int) := by omega
          have x0 := lb_cell (lb_ext HP.out.2.1 HI.out.1) 0 _ rfl
          have x1 := lb_cell (lb_ext HP.out.2.1 HI.out.1) 1 _ rfl
          have hpb := lb_lt (lb_ext HP.out.2.1 HI.out.1)
          have hown := HI.out.2
          unfold OwnP at hown
          simp only [List.length_reverse, HM.out] at hown
          have HOW := Lib.hid hown
          clear hown
          have hszw := (HP.out.2.2.2.trans HI.out.1).size
          go_wp2_with (at_builtin; refine wpList_append_own _ rfl _ _ 97 rfl w.heap.size 52 ip _ 2 16 Try.underlying97 hi0 hi1 hi2 hi3 rfl (by decide) _ _ _ rfl (HOW.out.alloc _) ⟨wr.heap.size, 0, none⟩ 1 1 [.int .i64 x.1, .int .i64 x.2] rfl rfl (World.news_of_block (cs := #[.int .i64 x.1, .int .i64 x.2]) (t := 52) (fr := (0, 0)) (World.alloc_heap_new wr _)) (by simp [Value.oneCell']) (by unfold maxLen; omega) (by omega) (by simp; omega) ?_; intro v' w4 hown' hg3 _)
          have E9 := Ext.grown ((HP.out.2.2.2.trans HI.out.1).alloc (.cells #[.int .i64 x.1, .int .i64 x.2] 52)) hg3 (fun k hk => own_ge HOW.out k hk)
          have O9 : OwnP w.heap.size w4 v' (st.reverse ++ [x]) := OwnP.snoc (by rw [List.length_reverse, HM.out]; exact hown')
          go_roundw
          case rel =>
            refine ⟨k + 1, by omega, by go_num, E9, ?_⟩
            rw [HTK.out]
            have e : (pushP ((l.take k).foldl pushP []) x).reverse = st.reverse ++ [x] := by
              show (x :: popP ((l.take k).foldl pushP []) x).reverse = st.reverse ++ [x]
              rw [HX.out, List.reverse_cons, HQ.out]
            rw [e]
            exact O9
          case measure => simp [intOf]; omega
        · obtain ⟨b', a', r, hst3⟩ : ∃ b a r, st = b :: a :: r := by
            rcases st with _ | ⟨b, _ | ⟨a, r⟩⟩
            · exact absurd (by decide) hst
            · exact absurd (by simp) hst
            · exact ⟨b, a, r, rfl⟩
          have hA : st.reverse[r.length]? = some a' := by rw [hst3]; simp
          have hB : st.reverse[r.length + 1]? = some b' := by rw [hst3]; simp
          obtain ⟨g, c, e1, hc1, hc2, ca1, ca2⟩ := HI.out.2.at hA
          obtain ⟨g2, c2, e2, _, _, cb1, cb2⟩ := HI.out.2.at hB
          simp only [Value.slice.injEq] at e1 e2
          obtain ⟨rfl, -, rfl⟩ := e1
          obtain ⟨e3, -, -⟩ := e2
          simp only [Option.some.injEq, Addr.mk.injEq, and_true] at e3
          subst e3
          have hwa := HS.out.2 a' (by rw [hst3]; simp)
          have hwb := HS.out.2 b' (by rw [hst3]; simp)
          have hlen : st.length = r.length + 2 := by rw [hst3]; rfl
          simp only [List.length_reverse] at *
          generalize hM : st.length = M at *
          generalize hR : r.length = R at *
          obtain ⟨R1, hR1⟩ : ∃ R1, R1 = R + 1 := ⟨_, rfl⟩
          rw [← hR1] at cb1 cb2
          have wm2 : IntKind.i64.wrap ((M : Int) - 2) = (R : Int) := by rw [IntWalk.i64_in _ (by omega)]; omega
          have wm1 : IntKind.i64.wrap ((M : Int) - 1) = (R1 : Int) := by rw [IntWalk.i64_in _ (by omega)]; omega
          have hMN : R < M := by omega
          have hM1N : R1 < M := by omega
          have hco : c1 ≤ 9223372036854775807 := by unfold maxLen at hc2; omega
          have g0 : (2 : Int) ≤ (M : Int) := by omega
          have HM := Lib.hid hM
          have HS3 := Lib.hid (And.intro hst3 (And.intro hlen (And.intro hR hR1)))
          have hgb := lt_of_cell ca1
          clear hA hB hst3 hlen hM hR hR1 hst
          go_upto_region 7 with fail
          go_cut [6, 7] from 20 to 29 (fun sa sb wc => ∃ ba bb : Nat, sa = .pointer (some ⟨ba, 0, none⟩) ∧ sb = .pointer (some ⟨bb, 0, none⟩) ∧ Ext wr wc ∧ wc.heap[ba]? = some (.cells #[.int .i64 a'.1, .int .i64 a'.2] 52 (0, 0)) ∧ wc.heap[bb]? = some (.cells #[.int .i64 b'.1, .int .i64 b'.2] 52 (0, 0)))
          case first =>
            go_region_held3 (fun w' => w'.cell? ⟨g, R * 2, none⟩ = some (.int .i64 a'.1) ∧ w'.cell? ⟨g, R * 2 + 1, none⟩ = some (.int .i64 a'.2) ∧ w'.cell? ⟨g, R1 * 2, none⟩ = some (.int .i64 b'.1) ∧ w'.cell? ⟨g, R1 * 2 + 1, none⟩ = some (.int .i64 b'.2))
              (exact (fun (E : Ext wr _) => ⟨E.cell ca1, E.cell ca2, E.cell cb1, E.cell cb2⟩) (by (repeat' (first | exact Ext.refl _ | assumption | refine Ext.alloc ?_ _ | refine Ext.drew ?_ | refine Ext.drewN ?_ _ | refine Ext.set ?_ (by first | exact Nat.le_refl _ | exact le1 _ | exact le2 _ | exact le3 _ | exact le4 _ | exact le5 _ | exact le6 _) _ | refine Ext.trans ?_ (by assumption))))) (fail)
            all_goals
              go_wp2_with fail
              go_meet
              first
                | exact ⟨wr.heap.size, wr.heap.size + 1, rfl, rfl, (((Ext.refl wr).alloc _).alloc _).drew, h2_first wr _ _, h2_second wr _ _⟩
                | exact ⟨wr.heap.size + 1, wr.heap.size, rfl, rfl, (((Ext.refl wr).alloc _).alloc _).drew, h2_second wr _ _, h2_first wr _ _⟩
          case rest =>
            obtain ⟨ba, bb, rfl, rfl, E1, hA, hB⟩ := hcut
            clear ca1 ca2 cb1 cb2
            have hP := lb_ext HP.out.2.1 (HI.out.1.trans E1)
            have q0 := lb_cell hP 0 _ rfl
            have q1 := lb_cell hP 1 _ rfl
            have a0 := lb_cell hA 0 _ rfl
            have a1 := lb_cell hA 1 _ rfl
            have b0 := lb_cell hB 0 _ rfl
            have b1 := lb_cell hB 1 _ rfl
            obtain ⟨e1, e2, e3, e4, e5, e6, -⟩ := cross_wide hwa hwb HWX.out
            have hcr : crossP a' b' x = (b'.1 - a'.1) * (x.2 - a'.2) - (b'.2 - a'.2) * (x.1 - a'.1) := rfl
            have HI2 := Lib.hid (And.intro (HI.out.1.trans E1) (HI.out.2.ext E1))
            have hpop1 := fun h => popP_drop (r := r) (a := a') (b := b') (x := x) h
            have hpop2 := fun h => popP_keep (r := r) (a := a') (b := b') (x := x) h
            rw [← HS3.out.1] at hpop1 hpop2
            have HPP := Lib.hid (And.intro hpop1 hpop2)
            clear hA hB hP hwa hwb hpop1 hpop2
            by_cases hUV : (b'.2 - a'.2) * (x.1 - a'.1) < (b'.1 - a'.1) * (x.2 - a'.2)
            · have HQ := Lib.hid ((HPP.out.2 (by omega)).symm.trans HS.out.1)
              clear hcr
              have hown := HI2.out.2
              unfold OwnP at hown
              simp only [List.length_reverse, HM.out] at hown
              have HOW := Lib.hid hown
              have hszw := (HP.out.2.2.2.trans HI2.out.1).size
              clear hown
              go_wp2_with (at_builtin; refine wpList_append_own _ rfl _ _ 97 rfl w.heap.size 52 ip _ 2 16 Try.underlying97 hi0 hi1 hi2 hi3 rfl (by decide) _ _ _ rfl (HOW.out.alloc _) ⟨wc.heap.size, 0, none⟩ 1 1 [.int .i64 x.1, .int .i64 x.2] rfl rfl (World.news_of_block (cs := #[.int .i64 x.1, .int .i64 x.2]) (t := 52) (fr := (0, 0)) (World.alloc_heap_new wc _)) (by simp [Value.oneCell']) (by unfold maxLen; omega) (by omega) (by simp; omega) ?_; intro v' w4 hown' hg3 _)
              have E9 := Ext.grown ((HP.out.2.2.2.trans HI2.out.1).alloc (.cells #[.int .i64 x.1, .int .i64 x.2] 52)) hg3 (fun k hk => own_ge HOW.out k hk)
              have O9 : OwnP w.heap.size w4 v' (st.reverse ++ [x]) := OwnP.snoc (by rw [List.length_reverse, HM.out]; exact hown')
              go_roundw
              case rel =>
                refine ⟨k + 1, by omega, by go_num, E9, ?_⟩
                rw [HTK.out]
                have e : (pushP ((l.take k).foldl pushP []) x).reverse = st.reverse ++ [x] := by
                  show (x :: popP ((l.take k).foldl pushP []) x).reverse = st.reverse ++ [x]
                  rw [HX.out, List.reverse_cons, HQ.out]
                rw [e]
                exact O9
              case measure => simp [intOf]; omega
            · have HQ := Lib.hid ((HPP.out.1 (by omega)).symm.trans HS.out.1)
              clear hcr
              have hml : R1 ≤ st.reverse.length := by rw [List.length_reverse, HM.out]; omega
              have htk : (a' :: r).reverse = st.reverse.take R1 := by
                rw [HS3.out.1, HS3.out.2.2.2, ← HS3.out.2.2.1]
                rw [show (b' :: a' :: r).reverse = (a' :: r).reverse ++ [b'] from by simp, List.take_left' (by simp)]
              have hcut : OwnP w.heap.size wc (.slice (some ⟨g, 0, none⟩) R1 c1) (a' :: r).reverse := by
                rw [htk]
                refine OwnP.cut (l := st.reverse) ?_ R1 hml
                first | rw [List.length_reverse, HM.out] | skip
                have h9 := HI2.out.2
                first | exact h9 | (rw [HM.out] at h9; exact h9)
              have HC2 := Lib.hid hcut
              have hR1 : (R1 : Int) = ((a' :: r).length : Nat) := by have := HS3.out; simp only [List.length_cons]; omega
              have HR1 := Lib.hid hR1
              clear hml htk hcut hR1
              go_wp2
              refine ⟨⟨a' :: r, HI2.out.1, HC2.out, by rw [← HR1.out], HQ.out, by have := HS3.out; simp only [List.length_cons]; omega, fun p hp => HS.out.2 p (by rw [HS3.out.1]; exact List.mem_cons_of_mem _ hp)⟩, by simp [intOf]; omega⟩
    · have hkl : l.take k = l := List.take_of_length_le (by omega)
      have hO := HR.out.2
      rw [hkl] at hO
      have hlen : N = (l.foldl pushP []).length := by rw [← HN.out, hkl]
      have hpos : 0 < N := by
        rw [hlen]
        exact fold_pos h0
      obtain ⟨N1, hN1⟩ : ∃ N1, N = N1 + 1 := ⟨N - 1, by omega⟩
      obtain ⟨g, cp, e, _, _, hcp, hcm⟩ := hO.form (by rw [List.length_reverse, ← hlen]; exact hpos)
      rw [List.length_reverse, ← hlen] at e hcp
      simp only [Value.slice.injEq] at e
      obtain ⟨rfl, -, rfl⟩ := e
      have HO := Lib.hid (And.intro hO hlen)
      have hlo' : N ≤ 9223372036854775807 := by unfold maxLen at hlo; omega
      have wm1 : IntKind.i64.wrap ((N : Int) - 1) = (N1 : Int) := by rw [IntWalk.i64_in _ (by omega)]; omega
      have hNN : N1 < N := by omega
      clear hO hlen hkl
      have hcm' : co ≤ 9223372036854775807 := by unfold maxLen at hcm; omega
      have hc0 : ¬ co = 0 := by omega
      go_wp2
      go_ret
      refine ⟨_, rfl, ?_, HR.out.1⟩
      have hcut := OwnP.cut (l := (l.foldl pushP []).reverse) (by rw [List.length_reverse, ← HO.out.2]; exact HO.out.1) N1 (by rw [List.length_reverse, ← HO.out.2]; omega)
      have e9 : (sideP l).dropLast = (l.foldl pushP []).reverse.take N1 := by
        unfold sideP
        rw [List.dropLast_eq_take, List.length_reverse, ← HO.out.2, hN1]
        rfl
      rw [e9]
      exact hcut
end Go.Proofs.Ytkkeblgahbpmmaa

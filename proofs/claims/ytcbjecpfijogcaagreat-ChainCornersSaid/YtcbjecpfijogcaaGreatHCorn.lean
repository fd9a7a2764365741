
/- Contract: plane.corners, the hull of points. -/
import Derived.Test.YtcbjecpfijogcaaGreatHCornR
import Derived.Test.YtcbjecpfijogcaaGreatHStack
import Derived.Test.YtcbjecpfijogcaaGreatHRowsAll
namespace Go.Proofs.YtcbjecpfijogcaaGreat
open Go.RowKit Go.Shelf Go.Lib Go.Sort

theorem grownBy_putRow {w : World} {g n : Nat} (F : Array Value) : w.grownBy (putRow id (Sort.ahead w n) g 0 F) (some g) := by
  refine ⟨rfl, rfl, rfl, by simp, fun k hk hne => ?_⟩
  have : g ≠ k := fun e => hne (by rw [e])
  simp [putRow, mapBlock, Sort.ahead, Array.getElem?_modify, this]
theorem holds_ext {w w' : World} {g : Nat} {d : Array HPt} (h : HoldsK encP 2 w g 0 d) (he : Ext w w') : HoldsK encP 2 w' g 0 d := by
  intro j hj
  obtain ⟨h1, h2⟩ := h j hj
  refine ⟨he.cell h1, ?_⟩
  rw [(bcell he).2 g _ (World.block_lt_of_cell? w _ h1)]
  exact h2
set_option maxRecDepth 100000 in
set_option maxHeartbeats 8000000 in
theorem corners_c (b off c : Nat) (l : List HPt) (w : World) (hc : PtCells w b off l) (h0 : 0 < l.length) (hw : ∀ p ∈ l, wideB p) (hn : l.length ≤ 100000) :
    Calls Tryz.prog 48 #[.slice (some ⟨b, off, none⟩) l.length c] w fun e w' => ∃ v', e = .returned v' ∧ Pts w' v' (cornersP l) ∧ Ext w w' := by
  have CC := Lib.hid (clone_c b off c l w hc (by omega))
  have hSw : ∀ p ∈ sortP l, wideB p := fun p hp => hw p ((sort_mem l p).1 hp)
  have hSn := Nat.le_trans (sort_len l) hn
  have hSL := sort_len l
  have hS0 : 0 < (sortP l).length := by
    rcases l with _ | ⟨x, l⟩
    · simp at h0
    · exact List.length_pos_of_mem ((sort_mem (x :: l) x).2 (by simp))
  have hD := srtD_len l
  have HCS := Lib.hid (compact_sorted l)
  have hcn : cornersP l = if (sortP l).length < 2 then sortP l else (sideP (sortP l)).dropLast ++ (sideP (sortP l).reverse).dropLast := rfl
  have HCN := Lib.hid hcn
  obtain ⟨S, hS⟩ : ∃ S, sortP l = S := ⟨_, rfl⟩
  rw [hS] at hSw hSn hS0 HCS HCN hSL
  clear hcn hS hc
  obtain ⟨N, hN⟩ : ∃ N, S.length = N := ⟨_, rfl⟩
  obtain ⟨L, hL⟩ : ∃ L, l.length = L := ⟨_, rfl⟩
  have HSW := Lib.hid hSw
  have HNL := Lib.hid (And.intro hN (And.intro hL hD))
  rw [hN] at hSn hS0 hSL
  rw [hL] at h0 hn hSL
  clear hSw
  rw [hL]
  by_cases h2 : N < 2
  · go_enter Tryz.func48, Tryz.ntmps48
    go_wp2_with (first
      | (go_at_call 68; refine (hL ▸ CC.out).mono ?_; rintro e w1 ⟨v1, rfl, ho1, _, hE1⟩; obtain ⟨g, c1, rfl, hg1, hg2, hc1, hcm⟩ := ho1.form (by omega); have hH1 := Lib.hid ho1.holds; replace ho1 := Lib.hid ho1; replace hE1 := Lib.hid hE1; simp only [hL] at hc1 ⊢)
      | (go_at_call 69; have hsc := sort_c g 0 c1 l w1 hH1.out hg2 (by omega); rw [hL] at hsc; refine hsc.mono ?_; rintro e w2 ⟨rfl, n2, os2, hw2⟩; clear hsc; have hH2 := Lib.hid (holds_sort (n := n2) (os := os2) (d := srtD l) hH1.out hg2 HNL.out.2.2); have hE2 := Lib.hid (ext_sortWorldK (n := n2) (d := (srtD l).toArray) (os := os2) hE1.out hg1); rw [← hw2] at hH2 hE2; clear hw2)
      | (go_at_call 71; have hcc := compact_c g 0 c1 (srtD l).toArray w2 hH2.out (by rw [List.size_toArray, HNL.out.2.2]; omega) (by rw [List.size_toArray, HNL.out.2.2]; omega); unfold CEnd at hcc; rw [HCS.out, List.size_toArray, HNL.out.2.2, hL, hN] at hcc; refine hcc.mono ?_; clear hcc; rintro e w3 ⟨rfl, q3, F3, hF3, hw3, hH3⟩; have hE3 := Lib.hid (ext_putRow (q := q3) (F := F3) hE2.out hg1); rw [← hw3] at hE3; clear hw3 hF3; replace hH3 := Lib.hid hH3))
    go_ret
    have hp := holds_pts (cap := c1) hH3.out (by omega) (by omega)
    rw [hN] at hp
    exact ⟨_, rfl, by rw [HCN.out, if_pos (by omega)]; exact hp, hE3.out⟩
  · have h2' := Lib.hid h2
    have g2 : ¬ (N : Int) < 2 := by omega
    have hl1 := side_len S
    have hl2 := side_len S.reverse
    have hp1 := side_pos (l := S) (by omega)
    have hp2 := side_pos (l := S.reverse) (by rw [List.length_reverse]; omega)
    rw [List.length_reverse] at hl2
    obtain ⟨L1, hL1⟩ : ∃ L1, sideP S = L1 := ⟨_, rfl⟩
    obtain ⟨L2, hL2⟩ : ∃ L2, sideP S.reverse = L2 := ⟨_, rfl⟩
    rw [hL1] at hl1 hp1
    rw [hL2] at hl2 hp2
    obtain ⟨m1, hm1⟩ : ∃ m, L1.length = m + 1 := ⟨L1.length - 1, by omega⟩
    obtain ⟨m2, hm2⟩ : ∃ m, L2.length = m + 1 := ⟨L2.length - 1, by omega⟩
    have hm1b : m1 ≤ 100000 := by omega
    have hm2b : m2 ≤ 100000 := by omega
    have HM := Lib.hid (And.intro hm1 (And.intro hm2 (And.intro hp1 hp2)))
    have HL12 := Lib.hid (And.intro hL1 hL2)
    clear hl1 hl2 hp1 hp2 hm1 hm2 h2 hL1 hL2
    go_enter Tryz.func48, Tryz.ntmps48
    go_wp2_with (first
      | (go_at_call 68; refine (hL ▸ CC.out).mono ?_; rintro e w1 ⟨v1, rfl, ho1, _, hE1⟩; obtain ⟨g, c1, rfl, hg1, hg2, hc1, hcm⟩ := ho1.form (by omega); have hH1 := Lib.hid ho1.holds; replace ho1 := Lib.hid ho1; replace hE1 := Lib.hid hE1; simp only [hL] at hc1 ⊢)
      | (go_at_call 69; have hsc := sort_c g 0 c1 l w1 hH1.out hg2 (by omega); rw [hL] at hsc; refine hsc.mono ?_; rintro e w2 ⟨rfl, n2, os2, hw2⟩; clear hsc; have hH2 := Lib.hid (holds_sort (n := n2) (os := os2) (d := srtD l) hH1.out hg2 HNL.out.2.2); have hE2 := Lib.hid (ext_sortWorldK (n := n2) (d := (srtD l).toArray) (os := os2) hE1.out hg1); rw [← hw2] at hH2 hE2; clear hw2)
      | (go_at_call 71; have hcc := compact_c g 0 c1 (srtD l).toArray w2 hH2.out (by rw [List.size_toArray, HNL.out.2.2]; omega) (by rw [List.size_toArray, HNL.out.2.2]; omega); unfold CEnd at hcc; rw [HCS.out, List.size_toArray, HNL.out.2.2, hL, hN] at hcc; refine hcc.mono ?_; clear hcc; rintro e w3 ⟨rfl, q3, F3, hF3, hw3, hH3⟩; have hE3 := Lib.hid (ext_putRow (q := q3) (F := F3) hE2.out hg1); rw [← hw3] at hE3; clear hw3 hF3; replace hH3 := Lib.hid hH3; have hg3 : g < w3.heap.size := World.block_lt_of_cell? _ _ (hH3.out 0 (by rw [size_flatK]; simp; omega)).1; have hcN : N ≤ c1 := (by omega); have hp3 := holds_pts (cap := c1) hH3.out (by omega) (by omega); rw [hN] at hp3; have HP3 := Lib.hid hp3; clear hp3)
      | (go_at_call 75; refine (Values_c _ _ _ _).mono ?_; rintro e w4 ⟨rfl, rfl⟩)
      | (go_at_call 74; refine (stack_c w3.heap.size (.slice (some ⟨g, 0, none⟩) N c1) S _ (((HP3.out).ext ((Ext.refl w3).alloc _))) HSW.out (Boxed.new w3 _ _) (by omega)).mono ?_; rintro e w5 ⟨v5, rfl, ho5, hE5⟩; clear HP3; have E35 := Lib.hid (((Ext.refl w3).alloc _).trans hE5); rw [HL12.out.1] at ho5; obtain ⟨g5, c5, rfl, hg5, hl5, hc5, hcm5⟩ := ho5.form HM.out.2.2.1; replace hg5 : w3.heap.size < g5 := (by rw [size_alloc] at hg5; omega); replace ho5 := Lib.hid (ho5.down (base' := w3.heap.size) (by rw [size_alloc]; omega)); clear hE5; simp only [HM.out.1] at ho5 hc5 ⊢)
      | (go_at_call 76; have hrc := rev_c g 0 c1 S w5 (holds_ext hH3.out E35.out) (by omega); rw [hN] at hrc; refine hrc.mono ?_; clear hrc; rintro e w6 ⟨rfl, n6, hw6⟩; have hH6 := Lib.hid (holds_rev (n := n6) (holds_ext hH3.out E35.out)); have hE6 := Lib.hid (ext_putRow (q := n6) (F := flatK encP 2 S.reverse.toArray) (hE3.out.trans E35.out) hg1); have ho6 := Lib.hid (ho5.out.grown (grownBy_putRow (g := g) (n := n6) (flatK encP 2 S.reverse.toArray)) (.inr (fun e => (show g5 ≠ g by omega) (Option.some.inj e)))); have hz6 : w5.heap.size = w6.heap.size := (by rw [hw6]; simp [putRowK]); unfold putRowK at hw6 hH6; rw [← hw6] at hH6 hE6 ho6; clear hw6 ho5; have hp6 := holds_pts (cap := c1) hH6.out (by rw [List.length_reverse]; omega) (by rw [List.length_reverse]; omega); rw [List.length_reverse, hN] at hp6; have HP6 := Lib.hid hp6; clear hp6)
      | (go_at_call 74; refine (stack_c w6.heap.size (.slice (some ⟨g, 0, none⟩) N c1) S.reverse _ (((HP6.out).ext ((Ext.refl w6).alloc _))) (fun p hp => HSW.out p (List.mem_reverse.1 hp)) (Boxed.new w6 _ _) (by rw [List.length_reverse]; omega)).mono ?_; rintro e w8 ⟨v8, rfl, ho8, hE8⟩; clear HP6; have E68 := Lib.hid (((Ext.refl w6).alloc _).trans hE8); rw [HL12.out.2] at ho8; obtain ⟨g8, c8, rfl, hg8, hl8, hc8, hcm8⟩ := ho8.form HM.out.2.2.2; replace ho8 := Lib.hid ho8; clear hE8; simp only [HM.out.2.1] at ho8 hc8 ⊢))
    have E8 := Lib.hid (hE6.out.trans E68.out)
    have z68 := E68.out.sz
    have zw3 := hE3.out.sz
    rw [size_alloc] at hg8
    have o5 := ho6.out.ext E68.out
    have o8 := ho8.out
    have hq5 : OwnP w3.heap.size w8 (.slice (some ⟨g5, 0, none⟩) m1 c5) (L1.take m1) := by
      refine OwnP.cut (l := L1) ?_ m1 (by have := HM.out.1; omega)
      rw [HM.out.1]
      exact o5
    have HQ1 := Lib.hid (fun W' (h : Ext w8 W') => hq5.ext h)
    have HQ2 := Lib.hid (fun W' (h : Ext w8 W') => (o8.ext h).pts.cut (m := m2) (by omega) HM.out.2.1)
    have HLC := Lib.hid (show (L1.take m1 ++ L2.take m2).length = m1 + m2 by rw [List.length_append, List.length_take, List.length_take]; have h1 := HM.out.1; have h2 := HM.out.2.1; omega)
    unfold maxLen at hcm5 hcm8
    have j1 : m1 ≤ c5 := by omega
    have j2 : m2 ≤ c8 := by omega
    have j3 : c5 ≤ 9223372036854775807 := by omega
    have j4 : c8 ≤ 9223372036854775807 := by omega
    have j5 := IntWalk.i64_in (m1 : Int) (by omega)
    have j6 := IntWalk.i64_in (m2 : Int) (by omega)
    clear o5 o8 hq5
    go_upto_region 10 with fail
    (refine Tail.wp_region_tail 10 (by kernel_rfl) (by kernel_rfl) (fun _ _ _ _ _ h => h) ?_; simp only [List.take_succ_cons, List.take_zero, List.drop_succ_cons, List.drop_zero]; (repeat still_step); refine wpStill_nil ?_)
    go_wp2_with (at_builtin; refine wpList_append_pts (by rfl) _ _ (by rfl) w3.heap.size (.slice (some ⟨g5, 0, none⟩) m1 c5) (.slice (some ⟨g8, 0, none⟩) m2 c8) (L1.take m1) (L2.take m2) (by rfl) (HQ1.out _ (by (repeat' (first | exact Ext.refl _ | assumption | refine Ext.alloc ?_ _ | refine Ext.drew ?_ | refine Ext.drewN ?_ _ | refine Ext.set ?_ (by first | exact Nat.le_refl _ | exact le1 _ | exact le2 _ | exact le3 _ | exact le4 _ | exact le5 _ | exact le6 _) _ | refine Ext.trans ?_ (by assumption))))) (by rfl) (HQ2.out _ (by (repeat' (first | exact Ext.refl _ | assumption | refine Ext.alloc ?_ _ | refine Ext.drew ?_ | refine Ext.drewN ?_ _ | refine Ext.set ?_ (by first | exact Nat.le_refl _ | exact le1 _ | exact le2 _ | exact le3 _ | exact le4 _ | exact le5 _ | exact le6 _) _ | refine Ext.trans ?_ (by assumption))))) (by rw [List.length_take, List.length_take]; omega) (by simp; try omega) ?_; intro vC wC hoC hgC; have EC : Below w.heap.size w wC := Below.grown (E8.out.trans (by (repeat' (first | exact Ext.refl _ | assumption | refine Ext.alloc ?_ _ | refine Ext.drew ?_ | refine Ext.drewN ?_ _ | refine Ext.set ?_ (by first | exact Nat.le_refl _ | exact le1 _ | exact le2 _ | exact le3 _ | exact le4 _ | exact le5 _ | exact le6 _) _ | refine Ext.trans ?_ (by assumption))))) hgC (by simp; omega) (fun k e => by have h : g5 = k := Option.some.inj e; omega); obtain ⟨AC, cC, rfl, _⟩ := hoC.shape; rw [HLC.out] at hoC ⊢)
    go_ret
    refine ⟨_, rfl, ?_, EC⟩
    rw [HCN.out, if_neg (by have := h2'.out; omega), HL12.out.1, HL12.out.2, List.dropLast_eq_take, List.dropLast_eq_take, HM.out.1, HM.out.2.1]
    exact hoC.pts
end Go.Proofs.YtcbjecpfijogcaaGreat


/- CBodCAll: several texts in one. -/
import Derived.Test.YtcbjecpfijogcaaGreatCBody
import Derived.Test.YtcbjecpfijogcaaGreatCRBody
import Derived.Test.YtcbjecpfijogcaaGreatCLoad
import Derived.Test.YtcbjecpfijogcaaGreatCRLoad
/- Contracts: Body whole, by the program and by the reference. -/
namespace Go.Proofs.YtcbjecpfijogcaaGreat
open Go.RowKit Go.Shelf

section
variable {vu vp : Value} {v : CVeh} {lead : Pt} {ps : List Pt}
theorem one_cases {i : Int} (h : oneE v lead ps i = 0) : poseE v lead ps = 0 ∧ ∃ k : Nat, i = k ∧ k < v.units.length := by
  have h1 : poseE v lead ps = 0 := by
    by_cases h1 : poseE v lead ps = 0
    · exact h1
    · rw [oneE_pose h1] at h; exact absurd h h1
  have h2 : 0 ≤ i ∧ i < v.units.length := by
    by_cases h2 : 0 ≤ i ∧ i < v.units.length
    · exact h2
    · rw [oneE_no h1 h2] at h; cases h
  exact ⟨h1, i.toNat, by omega, by omega⟩
theorem bodyS_bad {i : Int} (h : ¬ oneE v lead ps i = 0) : bodyS v lead ps i = ([], oneE v lead ps i) := by unfold bodyS; rw [if_neg h]
set_option maxRecDepth 100000 in
set_option maxHeartbeats 1600000 in
theorem Body_c (i : Int) (w : World) (hs : Sl 11 RUnit w vu v.units) (hp : Pts w vp ps) :
    Calls Tryz.prog 7 #[vehV v vu, poseV lead vp, .int .i64 i] w fun e w' => ∃ v', e = .returned (.tuple #[v', .int .i64 (bodyS v lead ps i).2]) ∧ Pts w' v' (bodyS v lead ps i).1 ∧ Ext w w' := by
  by_cases h : oneE v lead ps i = 0
  · obtain ⟨h1, k, rfl, hk⟩ := one_cases h
    exact Body_in k w hs hp h1 hk
  · rw [bodyS_bad h]
    have CB := fun w' (hh : Ext w w') => one_bad (lead := lead) i w' (hs.ext RUnit.stable hh) (hp.ext hh) h
    obtain ⟨A, cap, rfl, hl, hl2⟩ := hs.shape
    obtain ⟨Ap, capp, rfl⟩ := pts_shape hp
    obtain ⟨l1, l2⟩ := lead
    clear hs hp
    unfold vehV poseV put0 at *
    simp only at CB ⊢
    have HN := h
    generalize oneE v (l1, l2) ps i = E at *
    have C := Lib.hid CB
    clear CB h
    go_enter Tryz.func7, Tryz.ntmps7
    go_wp2_with (go_at_call 27; refine (C.out _ (by (repeat' (first | exact Ext.refl _ | assumption | refine Ext.alloc ?_ _ | refine Ext.drew ?_ | refine Ext.drewN ?_ _ | refine Ext.set ?_ (by first | exact Nat.le_refl _ | exact le1 _ | exact le2 _ | exact le3 _ | exact le4 _ | exact le5 _ | exact le6 _) _ | refine Ext.trans ?_ (by assumption))))).mono ?_; rintro e w1 ⟨rfl, hb1⟩)
    exact bodyPost_ret (v := .tuple #[.slice none 0 0, .int .i64 E]) (by simp [results, Tryz.results7, go_sem]) rfl ⟨_, rfl, .inl ⟨none, 0, rfl, rfl⟩, by (repeat' (first | exact Ext.refl _ | assumption | refine Ext.alloc ?_ _ | refine Ext.drew ?_ | refine Ext.drewN ?_ _ | refine Ext.set ?_ (by first | exact Nat.le_refl _ | exact le1 _ | exact le2 _ | exact le3 _ | exact le4 _ | exact le5 _ | exact le6 _) _ | refine Ext.trans ?_ (by assumption)))⟩
set_option maxRecDepth 100000 in
set_option maxHeartbeats 1600000 in
theorem RBody_c (i : Int) (w : World) (hs : Sl 11 RUnit w vu v.units) (hp : Pts w vp ps) :
    Calls Tryz.prog 8 #[vehV v vu, poseV lead vp, .int .i64 i] w fun e w' => ∃ v', e = .returned (.tuple #[v', .int .i64 (bodyS v lead ps i).2]) ∧ Pts w' v' (bodyS v lead ps i).1 ∧ Ext w w' := by
  by_cases h : oneE v lead ps i = 0
  · obtain ⟨h1, k, rfl, hk⟩ := one_cases h
    exact RBody_in k w hs hp h1 hk
  · rw [bodyS_bad h]
    have CP := fun w' (h : Ext w w') => RCheckPose_c (lead := lead) w' (hs.ext RUnit.stable h) (hp.ext h)
    obtain ⟨A, cap, rfl, hl, hl2⟩ := hs.shape
    obtain ⟨Ap, capp, rfl⟩ := pts_shape hp
    obtain ⟨l1, l2⟩ := lead
    clear hs hp
    unfold vehV poseV at *
    simp only at CP ⊢
    by_cases h1 : poseE v (l1, l2) ps = 0
    · have hi : i < 0 ∨ (¬ i < 0 ∧ (v.units.length : Int) ≤ i) := by
        by_cases h2 : 0 ≤ i ∧ i < v.units.length
        · exact absurd (oneE_ok h1 h2) h
        · omega
      rw [oneE_no h1 (by omega)]
      rw [h1] at CP
      replace CP := Lib.hid CP
      clear h h1
      rcases hi with hi | ⟨hi, hi2⟩
      all_goals
        go_enter Tryz.func8, Tryz.ntmps8
        go_wp2_with (go_at_call 15; refine (CP.out _ (by (repeat' (first | exact Ext.refl _ | assumption | refine Ext.alloc ?_ _ | refine Ext.drew ?_ | refine Ext.drewN ?_ _ | refine Ext.set ?_ (by first | exact Nat.le_refl _ | exact le1 _ | exact le2 _ | exact le3 _ | exact le4 _ | exact le5 _ | exact le6 _) _ | refine Ext.trans ?_ (by assumption))))).mono ?_; rintro e w1 ⟨rfl, hb1⟩; obtain ⟨hc, hf⟩ := bcell hb1; have hz := hb1.sz; simp only [size_alloc] at hz)
        exact bodyPost_ret (v := .tuple #[.slice none 0 0, .int .i64 3]) (by simp [results, Tryz.results8, go_sem]) rfl ⟨_, rfl, .inl ⟨none, 0, rfl, rfl⟩, by (repeat' (first | exact Ext.refl _ | assumption | refine Ext.alloc ?_ _ | refine Ext.drew ?_ | refine Ext.drewN ?_ _ | refine Ext.set ?_ (by first | exact Nat.le_refl _ | exact le1 _ | exact le2 _ | exact le3 _ | exact le4 _ | exact le5 _ | exact le6 _) _ | refine Ext.trans ?_ (by assumption)))⟩
    · rw [oneE_pose h1]
      have HN := h1
      generalize poseE v (l1, l2) ps = E at *
      replace CP := Lib.hid CP
      clear h h1
      go_enter Tryz.func8, Tryz.ntmps8
      go_wp2_with (go_at_call 15; refine (CP.out _ (by (repeat' (first | exact Ext.refl _ | assumption | refine Ext.alloc ?_ _ | refine Ext.drew ?_ | refine Ext.drewN ?_ _ | refine Ext.set ?_ (by first | exact Nat.le_refl _ | exact le1 _ | exact le2 _ | exact le3 _ | exact le4 _ | exact le5 _ | exact le6 _) _ | refine Ext.trans ?_ (by assumption))))).mono ?_; rintro e w1 ⟨rfl, hb1⟩; obtain ⟨hc, hf⟩ := bcell hb1; have hz := hb1.sz; simp only [size_alloc] at hz)
      exact bodyPost_ret (v := .tuple #[.slice none 0 0, .int .i64 E]) (by simp [results, Tryz.results8, go_sem]) rfl ⟨_, rfl, .inl ⟨none, 0, rfl, rfl⟩, by (repeat' (first | exact Ext.refl _ | assumption | refine Ext.alloc ?_ _ | refine Ext.drew ?_ | refine Ext.drewN ?_ _ | refine Ext.set ?_ (by first | exact Nat.le_refl _ | exact le1 _ | exact le2 _ | exact le3 _ | exact le4 _ | exact le5 _ | exact le6 _) _ | refine Ext.trans ?_ (by assumption)))⟩
end
end Go.Proofs.YtcbjecpfijogcaaGreat
/- Contracts: LoadLine whole, by the program and by the reference. -/
namespace Go.Proofs.YtcbjecpfijogcaaGreat
open Go.RowKit Go.Shelf

section
variable {vu vp : Value} {v : CVeh} {lead : Pt} {ps : List Pt}
set_option maxRecDepth 100000 in
set_option maxHeartbeats 1600000 in
theorem Line_c (w : World) (hs : Sl 11 RUnit w vu v.units) (hp : Pts w vp ps) :
    Calls Tryz.prog 10 #[vehV v vu, poseV lead vp] w fun e w' => e = .returned (lineV (lineS v lead ps)) ∧ Ext w w' := by
  by_cases h1 : poseE v lead ps = 0
  · exact Line_go w hs hp h1
  · rw [lineS_bad h1]
    have CB := fun w' (h : Ext w w') => look_bad (lead := lead) w' (hs.ext RUnit.stable h) (hp.ext h) h1
    obtain ⟨A, cap, rfl, hl, hl2⟩ := hs.shape
    obtain ⟨Ap, capp, rfl⟩ := pts_shape hp
    obtain ⟨l1, l2⟩ := lead
    clear hs hp
    unfold vehV poseV at *
    simp only at CB ⊢
    have HN := h1
    generalize poseE v (l1, l2) ps = E at *
    have hn1 : (E != 0) = true := by simpa using h1
    have C := Lib.hid CB
    clear CB h1
    go_enter Tryz.func10, Tryz.ntmps10
    go_wp2_with (go_at_call 35; refine (C.out _ (by (repeat' (first | exact Ext.refl _ | assumption | refine Ext.alloc ?_ _ | refine Ext.drew ?_ | refine Ext.drewN ?_ _ | refine Ext.set ?_ (by first | exact Nat.le_refl _ | exact le1 _ | exact le2 _ | exact le3 _ | exact le4 _ | exact le5 _ | exact le6 _) _ | refine Ext.trans ?_ (by assumption))))).mono ?_; rintro e w1 ⟨rfl, hb1⟩; have eZ : Ext w w1 := (((((Ext.refl w).alloc _).alloc _).alloc _).alloc _).trans hb1; have hR1 : w1.heap[w.heap.size + 1 + 1]? = some (.cells #[.int .i64 0, .int .i64 0] 26 (0, 0)) := (hb1.block _ (by simp)).trans ((Below.heap_alloc _ _ _ (by simp)).trans (new_at (by simp))); have hR2 : w1.heap[w.heap.size + 1 + 1 + 1]? = some (.cells #[.int .i64 0, .int .i64 0] 26 (0, 0)) := (hb1.block _ (by simp)).trans (new_at (by simp)); have lR2 := fst_lt hR2; have r10 : w1.cell? ⟨w.heap.size + 1 + 1, 0, none⟩ = some (.int .i64 0) := World.news_of_block hR1 0 _ rfl; have fr10 := blk_frz hR1 0; have r11 : w1.cell? ⟨w.heap.size + 1 + 1, 1, none⟩ = some (.int .i64 0) := World.news_of_block hR1 1 _ rfl; have fr11 := blk_frz hR1 1; have r20 : w1.cell? ⟨w.heap.size + 1 + 1 + 1, 0, none⟩ = some (.int .i64 0) := World.news_of_block hR2 0 _ rfl; have fr20 := blk_frz hR2 0; have r21 : w1.cell? ⟨w.heap.size + 1 + 1 + 1, 1, none⟩ = some (.int .i64 0) := World.news_of_block hR2 1 _ rfl; have fr21 := blk_frz hR2 1; clear hb1)
    have hx1 : ((((w1.setCell ⟨w.heap.size + 1 + 1, 0, none⟩ (.int .i64 0)).setCell ⟨w.heap.size + 1 + 1, 1, none⟩ (.int .i64 0)).setCell ⟨w.heap.size + 1 + 1 + 1, 0, none⟩ (.int .i64 0)).setCell ⟨w.heap.size + 1 + 1 + 1, 1, none⟩ (.int .i64 0)).heap[w.heap.size + 1 + 1]? = some (.cells #[.int .i64 0, .int .i64 0] 26 (0, 0)) := (blk_oth (c := w.heap.size + 1 + 1 + 1) (i := 1) (u := .int .i64 0) (by omega) (blk_oth (c := w.heap.size + 1 + 1 + 1) (i := 0) (u := .int .i64 0) (by omega) (two1 (.int .i64 0) (two0 (.int .i64 0) hR1))))
    have hx2 : ((((w1.setCell ⟨w.heap.size + 1 + 1, 0, none⟩ (.int .i64 0)).setCell ⟨w.heap.size + 1 + 1, 1, none⟩ (.int .i64 0)).setCell ⟨w.heap.size + 1 + 1 + 1, 0, none⟩ (.int .i64 0)).setCell ⟨w.heap.size + 1 + 1 + 1, 1, none⟩ (.int .i64 0)).heap[w.heap.size + 1 + 1 + 1]? = some (.cells #[.int .i64 0, .int .i64 0] 26 (0, 0)) := (two1 (.int .i64 0) (two0 (.int .i64 0) (blk_oth (c := w.heap.size + 1 + 1) (i := 1) (u := .int .i64 0) (by omega) (blk_oth (c := w.heap.size + 1 + 1) (i := 0) (u := .int .i64 0) (by omega) hR2))))
    have eF : Ext w ((((w1.setCell ⟨w.heap.size + 1 + 1, 0, none⟩ (.int .i64 0)).setCell ⟨w.heap.size + 1 + 1, 1, none⟩ (.int .i64 0)).setCell ⟨w.heap.size + 1 + 1 + 1, 0, none⟩ (.int .i64 0)).setCell ⟨w.heap.size + 1 + 1 + 1, 1, none⟩ (.int .i64 0)) := ((((eZ.set (p := ⟨w.heap.size + 1 + 1, 0, none⟩) (show w.heap.size ≤ w.heap.size + 1 + 1 by omega) (.int .i64 0)).set (p := ⟨w.heap.size + 1 + 1, 1, none⟩) (show w.heap.size ≤ w.heap.size + 1 + 1 by omega) (.int .i64 0)).set (p := ⟨w.heap.size + 1 + 1 + 1, 0, none⟩) (show w.heap.size ≤ w.heap.size + 1 + 1 + 1 by omega) (.int .i64 0)).set (p := ⟨w.heap.size + 1 + 1 + 1, 1, none⟩) (show w.heap.size ≤ w.heap.size + 1 + 1 + 1 by omega) (.int .i64 0))
    generalize ((((w1.setCell ⟨w.heap.size + 1 + 1, 0, none⟩ (.int .i64 0)).setCell ⟨w.heap.size + 1 + 1, 1, none⟩ (.int .i64 0)).setCell ⟨w.heap.size + 1 + 1 + 1, 0, none⟩ (.int .i64 0)).setCell ⟨w.heap.size + 1 + 1 + 1, 1, none⟩ (.int .i64 0)) = WF at *
    have n00 : WF.cell? ⟨w.heap.size + 1 + 1, 0, none⟩ = some (.int .i64 0) := World.news_of_block hx1 0 _ rfl
    have n01 : WF.cell? ⟨w.heap.size + 1 + 1, 1, none⟩ = some (.int .i64 0) := World.news_of_block hx1 1 _ rfl
    have n10 : WF.cell? ⟨w.heap.size + 1 + 1 + 1, 0, none⟩ = some (.int .i64 0) := World.news_of_block hx2 0 _ rfl
    have n11 : WF.cell? ⟨w.heap.size + 1 + 1 + 1, 1, none⟩ = some (.int .i64 0) := World.news_of_block hx2 1 _ rfl
    exact bodyPost_ret (v := .tuple #[.agg #[.int .i64 0, .int .i64 0], .agg #[.int .i64 0, .int .i64 0], .int .i64 E]) (by simp [results, Tryz.results10, go_sem, n00, n01, n10, n11]) rfl ⟨rfl, eF⟩
set_option maxRecDepth 100000 in
set_option maxHeartbeats 1600000 in
theorem RLine_c (w : World) (hs : Sl 11 RUnit w vu v.units) (hp : Pts w vp ps) :
    Calls Tryz.prog 11 #[vehV v vu, poseV lead vp] w fun e w' => e = .returned (lineV (lineS v lead ps)) ∧ Ext w w' := by
  by_cases h1 : poseE v lead ps = 0
  · exact RLine_go w hs hp h1
  · rw [lineS_bad h1]
    have CB := fun w' (h : Ext w w') => RCheckPose_c (lead := lead) w' (hs.ext RUnit.stable h) (hp.ext h)
    obtain ⟨A, cap, rfl, hl, hl2⟩ := hs.shape
    obtain ⟨Ap, capp, rfl⟩ := pts_shape hp
    obtain ⟨l1, l2⟩ := lead
    clear hs hp
    unfold vehV poseV at *
    simp only at CB ⊢
    have HN := h1
    generalize poseE v (l1, l2) ps = E at *
    have hn1 : (E != 0) = true := by simpa using h1
    have C := Lib.hid CB
    clear CB h1
    go_enter Tryz.func11, Tryz.ntmps11
    go_wp2_with (go_at_call 15; refine (C.out _ (by (repeat' (first | exact Ext.refl _ | assumption | refine Ext.alloc ?_ _ | refine Ext.drew ?_ | refine Ext.drewN ?_ _ | refine Ext.set ?_ (by first | exact Nat.le_refl _ | exact le1 _ | exact le2 _ | exact le3 _ | exact le4 _ | exact le5 _ | exact le6 _) _ | refine Ext.trans ?_ (by assumption))))).mono ?_; rintro e w1 ⟨rfl, hb1⟩; have eZ : Ext w w1 := (((((Ext.refl w).alloc _).alloc _).alloc _).alloc _).trans hb1; have hR1 : w1.heap[w.heap.size + 1 + 1]? = some (.cells #[.int .i64 0, .int .i64 0] 26 (0, 0)) := (hb1.block _ (by simp)).trans ((Below.heap_alloc _ _ _ (by simp)).trans (new_at (by simp))); have hR2 : w1.heap[w.heap.size + 1 + 1 + 1]? = some (.cells #[.int .i64 0, .int .i64 0] 26 (0, 0)) := (hb1.block _ (by simp)).trans (new_at (by simp)); have lR2 := fst_lt hR2; have r10 : w1.cell? ⟨w.heap.size + 1 + 1, 0, none⟩ = some (.int .i64 0) := World.news_of_block hR1 0 _ rfl; have fr10 := blk_frz hR1 0; have r11 : w1.cell? ⟨w.heap.size + 1 + 1, 1, none⟩ = some (.int .i64 0) := World.news_of_block hR1 1 _ rfl; have fr11 := blk_frz hR1 1; have r20 : w1.cell? ⟨w.heap.size + 1 + 1 + 1, 0, none⟩ = some (.int .i64 0) := World.news_of_block hR2 0 _ rfl; have fr20 := blk_frz hR2 0; have r21 : w1.cell? ⟨w.heap.size + 1 + 1 + 1, 1, none⟩ = some (.int .i64 0) := World.news_of_block hR2 1 _ rfl; have fr21 := blk_frz hR2 1; clear hb1)
    have hx1 : ((((w1.setCell ⟨w.heap.size + 1 + 1, 0, none⟩ (.int .i64 0)).setCell ⟨w.heap.size + 1 + 1, 1, none⟩ (.int .i64 0)).setCell ⟨w.heap.size + 1 + 1 + 1, 0, none⟩ (.int .i64 0)).setCell ⟨w.heap.size + 1 + 1 + 1, 1, none⟩ (.int .i64 0)).heap[w.heap.size + 1 + 1]? = some (.cells #[.int .i64 0, .int .i64 0] 26 (0, 0)) := (blk_oth (c := w.heap.size + 1 + 1 + 1) (i := 1) (u := .int .i64 0) (by omega) (blk_oth (c := w.heap.size + 1 + 1 + 1) (i := 0) (u := .int .i64 0) (by omega) (two1 (.int .i64 0) (two0 (.int .i64 0) hR1))))
    have hx2 : ((((w1.setCell ⟨w.heap.size + 1 + 1, 0, none⟩ (.int .i64 0)).setCell ⟨w.heap.size + 1 + 1, 1, none⟩ (.int .i64 0)).setCell ⟨w.heap.size + 1 + 1 + 1, 0, none⟩ (.int .i64 0)).setCell ⟨w.heap.size + 1 + 1 + 1, 1, none⟩ (.int .i64 0)).heap[w.heap.size + 1 + 1 + 1]? = some (.cells #[.int .i64 0, .int .i64 0] 26 (0, 0)) := (two1 (.int .i64 0) (two0 (.int .i64 0) (blk_oth (c := w.heap.size + 1 + 1) (i := 1) (u := .int .i64 0) (by omega) (blk_oth (c := w.heap.size + 1 + 1) (i := 0) (u := .int .i64 0) (by omega) hR2))))
    have eF : Ext w ((((w1.setCell ⟨w.heap.size + 1 + 1, 0, none⟩ (.int .i64 0)).setCell ⟨w.heap.size + 1 + 1, 1, none⟩ (.int .i64 0)).setCell ⟨w.heap.size + 1 + 1 + 1, 0, none⟩ (.int .i64 0)).setCell ⟨w.heap.size + 1 + 1 + 1, 1, none⟩ (.int .i64 0)) := ((((eZ.set (p := ⟨w.heap.size + 1 + 1, 0, none⟩) (show w.heap.size ≤ w.heap.size + 1 + 1 by omega) (.int .i64 0)).set (p := ⟨w.heap.size + 1 + 1, 1, none⟩) (show w.heap.size ≤ w.heap.size + 1 + 1 by omega) (.int .i64 0)).set (p := ⟨w.heap.size + 1 + 1 + 1, 0, none⟩) (show w.heap.size ≤ w.heap.size + 1 + 1 + 1 by omega) (.int .i64 0)).set (p := ⟨w.heap.size + 1 + 1 + 1, 1, none⟩) (show w.heap.size ≤ w.heap.size + 1 + 1 + 1 by omega) (.int .i64 0))
    generalize ((((w1.setCell ⟨w.heap.size + 1 + 1, 0, none⟩ (.int .i64 0)).setCell ⟨w.heap.size + 1 + 1, 1, none⟩ (.int .i64 0)).setCell ⟨w.heap.size + 1 + 1 + 1, 0, none⟩ (.int .i64 0)).setCell ⟨w.heap.size + 1 + 1 + 1, 1, none⟩ (.int .i64 0)) = WF at *
    have n00 : WF.cell? ⟨w.heap.size + 1 + 1, 0, none⟩ = some (.int .i64 0) := World.news_of_block hx1 0 _ rfl
    have n01 : WF.cell? ⟨w.heap.size + 1 + 1, 1, none⟩ = some (.int .i64 0) := World.news_of_block hx1 1 _ rfl
    have n10 : WF.cell? ⟨w.heap.size + 1 + 1 + 1, 0, none⟩ = some (.int .i64 0) := World.news_of_block hx2 0 _ rfl
    have n11 : WF.cell? ⟨w.heap.size + 1 + 1 + 1, 1, none⟩ = some (.int .i64 0) := World.news_of_block hx2 1 _ rfl
    exact bodyPost_ret (v := .tuple #[.agg #[.int .i64 0, .int .i64 0], .agg #[.int .i64 0, .int .i64 0], .int .i64 E]) (by simp [results, Tryz.results11, go_sem, n00, n01, n10, n11]) rfl ⟨rfl, eF⟩
end
end Go.Proofs.YtcbjecpfijogcaaGreat

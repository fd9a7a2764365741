
/- Contract: Body whole. -/
import Derived.Test.YtcbjecpfijogcaaGreatCBody
namespace Go.Proofs.YtcbjecpfijogcaaGreat
open Go.RowKit Go.Shelf

section
variable {vu vp : Value} {v : CVeh} {lead : Pt} {ps : List Pt}
theorem one_cases {i : Int} (h : oneE v lead ps i = 0) : poseE v lead ps = 0 ∧ ∃ k : Nat, i = k ∧ k < v.units.length := by
  have h1 : poseE v lead ps = 0 := by
    by_cases h1 : poseE v lead ps = 0
    · exact h1
    · rw [oneE_pose h1] at h; exact absurd h h1
  have h2 : 0 ≤ i ∧ i < v.units.length := by
    by_cases h2 : 0 ≤ i ∧ i < v.units.length
    · exact h2
    · rw [oneE_no h1 h2] at h; cases h
  exact ⟨h1, i.toNat, by omega, by omega⟩
theorem bodyS_bad {i : Int} (h : ¬ oneE v lead ps i = 0) : bodyS v lead ps i = ([], oneE v lead ps i) := by unfold bodyS; rw [if_neg h]
set_option maxRecDepth 100000 in
set_option maxHeartbeats 1600000 in
theorem Body_c (i : Int) (w : World) (hs : Sl 11 RUnit w vu v.units) (hp : Pts w vp ps) :
    Calls Tryz.prog 7 #[vehV v vu, poseV lead vp, .int .i64 i] w fun e w' => ∃ v', e = .returned (.tuple #[v', .int .i64 (bodyS v lead ps i).2]) ∧ Pts w' v' (bodyS v lead ps i).1 ∧ Ext w w' := by
  by_cases h : oneE v lead ps i = 0
  · obtain ⟨h1, k, rfl, hk⟩ := one_cases h
    exact Body_in k w hs hp h1 hk
  · rw [bodyS_bad h]
    have CB := fun w' (hh : Ext w w') => one_bad (lead := lead) i w' (hs.ext RUnit.stable hh) (hp.ext hh) h
    obtain ⟨A, cap, rfl, hl, hl2⟩ := hs.shape
    obtain ⟨Ap, capp, rfl⟩ := pts_shape hp
    obtain ⟨l1, l2⟩ := lead
    clear hs hp
    unfold vehV poseV put0 at *
    simp only at CB ⊢
    have HN := h
    generalize oneE v (l1, l2) ps i = E at *
    have C := Lib.hid CB
    clear CB h
    go_enter Tryz.func7, Tryz.ntmps7
    go_wp2_with (go_at_call 27; refine (C.out _ (by (repeat' (first | exact Ext.refl _ | assumption | refine Ext.alloc ?_ _ | refine Ext.drew ?_ | refine Ext.drewN ?_ _ | refine Ext.set ?_ (by first | exact Nat.le_refl _ | exact le1 _ | exact le2 _ | exact le3 _ | exact le4 _ | exact le5 _ | exact le6 _) _ | refine Ext.trans ?_ (by assumption))))).mono ?_; rintro e w1 ⟨rfl, hb1⟩)
    exact bodyPost_ret (v := .tuple #[.slice none 0 0, .int .i64 E]) (by simp [results, Tryz.results7, go_sem]) rfl ⟨_, rfl, .inl ⟨none, 0, rfl, rfl⟩, by (repeat' (first | exact Ext.refl _ | assumption | refine Ext.alloc ?_ _ | refine Ext.drew ?_ | refine Ext.drewN ?_ _ | refine Ext.set ?_ (by first | exact Nat.le_refl _ | exact le1 _ | exact le2 _ | exact le3 _ | exact le4 _ | exact le5 _ | exact le6 _) _ | refine Ext.trans ?_ (by assumption)))⟩
end
end Go.Proofs.YtcbjecpfijogcaaGreat

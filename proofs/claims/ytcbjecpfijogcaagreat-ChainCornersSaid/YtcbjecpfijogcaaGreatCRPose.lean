
/- Contracts: CheckPose, Place and Joint, by the reference. -/
import Derived.Test.YtcbjecpfijogcaaGreatCRJoints
import Derived.Test.YtcbjecpfijogcaaGreatCJoint2
namespace Go.Proofs.YtcbjecpfijogcaaGreat
open Go.RowKit Go.Shelf

section
variable {vu vp : Value} {v : CVeh} {lead : Pt} {ps : List Pt}
theorem joints_no (w : World) (hs : Sl 11 RUnit w vu v.units) (hp : Pts w vp ps) (hE : vehE v = 0) (hb : poseB v.units lead ps = false) :
    Calls Tryz.prog 31 #[vehV v vu, poseV lead vp] w fun e w' => e = .returned (.tuple #[.slice none 0 0, .bool false]) ∧ Ext w w' := by
  refine (joints_c w hs hp hE).mono ?_
  rintro e w' ⟨he, ⟨_, rfl⟩ | ⟨h, _⟩⟩
  · exact ⟨rfl, he⟩
  · rw [hb] at h; cases h
theorem joints_yes (w : World) (hs : Sl 11 RUnit w vu v.units) (hp : Pts w vp ps) (hE : vehE v = 0) (hb : poseB v.units lead ps = true) :
    Calls Tryz.prog 31 #[vehV v vu, poseV lead vp] w fun e w' => ∃ A c, e = .returned (.tuple #[.slice A (putsN lead v.units ps).length c, .bool true]) ∧ OwnP w.heap.size w' (.slice A (putsN lead v.units ps).length c) ((putsN lead v.units ps).map (·.joint)) ∧ Ext w w' := by
  refine (joints_c w hs hp hE).mono ?_
  rintro e w' ⟨he, ⟨h, _⟩ | ⟨_, vl, rfl, ho⟩⟩
  · rw [hb] at h; cases h
  · obtain ⟨A, c, rfl⟩ := own_len ho
    rw [List.length_map] at ho ⊢
    exact ⟨A, c, rfl, ho, he⟩
set_option maxHeartbeats 800000 in
theorem RCheckPose_c (w : World) (hs : Sl 11 RUnit w vu v.units) (hp : Pts w vp ps) :
    Calls Tryz.prog 15 #[vehV v vu, poseV lead vp] w fun e w' => e = .returned (.int .i64 (poseE v lead ps)) ∧ Ext w w' := by
  have CV := fun w' (h : Ext w w') => RVCheck_c vu v w' (hs.ext RUnit.stable h)
  have CN := fun w' (h : Ext w w') => joints_no (lead := lead) w' (hs.ext RUnit.stable h) (hp.ext h)
  have CY := fun w' (h : Ext w w') => joints_yes (lead := lead) w' (hs.ext RUnit.stable h) (hp.ext h)
  obtain ⟨A, cap, rfl, hl, hl2⟩ := hs.shape
  obtain ⟨Ap, capp, rfl⟩ := pts_shape hp
  obtain ⟨l1, l2⟩ := lead
  clear hs hp
  unfold vehV poseV at *
  simp only at CV CN CY ⊢
  by_cases hE : vehE v = 0
  · rw [hE] at CV
    replace CV := Lib.hid CV
    cases hb : poseB v.units (l1, l2) ps
    · rw [poseE_no hE hb]
      have C := Lib.hid (fun w' hw => CN w' hw hE hb)
      clear CN CY hE hb
      go_enter Tryz.func15, Tryz.ntmps15
      go_wp2_with (first | (go_at_call 37; refine (CV.out _ (by (repeat' (first | exact Ext.refl _ | assumption | refine Ext.alloc ?_ _ | refine Ext.drew ?_ | refine Ext.drewN ?_ _ | refine Ext.set ?_ (by first | exact Nat.le_refl _ | exact le1 _ | exact le2 _ | exact le3 _ | exact le4 _ | exact le5 _ | exact le6 _) _ | refine Ext.trans ?_ (by assumption))))).mono ?_; rintro e w1 ⟨rfl, hb1⟩; obtain ⟨hc, hf⟩ := bcell hb1) | (go_at_call 31; refine (C.out _ (by (repeat' (first | exact Ext.refl _ | assumption | refine Ext.alloc ?_ _ | refine Ext.drew ?_ | refine Ext.drewN ?_ _ | refine Ext.set ?_ (by first | exact Nat.le_refl _ | exact le1 _ | exact le2 _ | exact le3 _ | exact le4 _ | exact le5 _ | exact le6 _) _ | refine Ext.trans ?_ (by assumption))))).mono ?_; rintro e w2 ⟨rfl, hb2⟩))
      go_ret
      exact ⟨rfl, by (repeat' (first | exact Ext.refl _ | assumption | refine Ext.alloc ?_ _ | refine Ext.drew ?_ | refine Ext.drewN ?_ _ | refine Ext.set ?_ (by first | exact Nat.le_refl _ | exact le1 _ | exact le2 _ | exact le3 _ | exact le4 _ | exact le5 _ | exact le6 _) _ | refine Ext.trans ?_ (by assumption)))⟩
    · rw [poseE_ok hE hb]
      have C := Lib.hid (fun w' hw => CY w' hw hE hb)
      clear CN CY hE hb
      go_enter Tryz.func15, Tryz.ntmps15
      go_wp2_with (first | (go_at_call 37; refine (CV.out _ (by (repeat' (first | exact Ext.refl _ | assumption | refine Ext.alloc ?_ _ | refine Ext.drew ?_ | refine Ext.drewN ?_ _ | refine Ext.set ?_ (by first | exact Nat.le_refl _ | exact le1 _ | exact le2 _ | exact le3 _ | exact le4 _ | exact le5 _ | exact le6 _) _ | refine Ext.trans ?_ (by assumption))))).mono ?_; rintro e w1 ⟨rfl, hb1⟩; obtain ⟨hc, hf⟩ := bcell hb1) | (go_at_call 31; refine (C.out _ (by (repeat' (first | exact Ext.refl _ | assumption | refine Ext.alloc ?_ _ | refine Ext.drew ?_ | refine Ext.drewN ?_ _ | refine Ext.set ?_ (by first | exact Nat.le_refl _ | exact le1 _ | exact le2 _ | exact le3 _ | exact le4 _ | exact le5 _ | exact le6 _) _ | refine Ext.trans ?_ (by assumption))))).mono ?_; rintro e w2 ⟨A3, c3, rfl, ho, hb2⟩))
      go_ret
      exact ⟨rfl, by (repeat' (first | exact Ext.refl _ | assumption | refine Ext.alloc ?_ _ | refine Ext.drew ?_ | refine Ext.drewN ?_ _ | refine Ext.set ?_ (by first | exact Nat.le_refl _ | exact le1 _ | exact le2 _ | exact le3 _ | exact le4 _ | exact le5 _ | exact le6 _) _ | refine Ext.trans ?_ (by assumption)))⟩
  · rw [poseE_bad hE]
    have HN := hE
    generalize vehE v = E at *
    replace CV := Lib.hid CV
    clear CN CY hE
    go_enter Tryz.func15, Tryz.ntmps15
    go_wp2_with (go_at_call 37; refine (CV.out _ (by (repeat' (first | exact Ext.refl _ | assumption | refine Ext.alloc ?_ _ | refine Ext.drew ?_ | refine Ext.drewN ?_ _ | refine Ext.set ?_ (by first | exact Nat.le_refl _ | exact le1 _ | exact le2 _ | exact le3 _ | exact le4 _ | exact le5 _ | exact le6 _) _ | refine Ext.trans ?_ (by assumption))))).mono ?_; rintro e w1 ⟨rfl, hb1⟩; obtain ⟨hc, hf⟩ := bcell hb1)
    go_ret
    exact ⟨rfl, by (repeat' (first | exact Ext.refl _ | assumption | refine Ext.alloc ?_ _ | refine Ext.drew ?_ | refine Ext.drewN ?_ _ | refine Ext.set ?_ (by first | exact Nat.le_refl _ | exact le1 _ | exact le2 _ | exact le3 _ | exact le4 _ | exact le5 _ | exact le6 _) _ | refine Ext.trans ?_ (by assumption)))⟩
end
end Go.Proofs.YtcbjecpfijogcaaGreat

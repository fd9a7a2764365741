
/- Contracts: Straight, the law's works. -/
import Derived.Test.YtcbjecpfijogcaaGreatCStr2
import Derived.Test.YtcbjecpfijogcaaGreatHSame
import Derived.Test.YtcbjecpfijogcaaGreatCWorks
import Derived.Test.YtcbjecpfijogcaaGreatCLong
namespace Go.Proofs.YtcbjecpfijogcaaGreat
open Go.RowKit Go.Shelf

section
variable {vu : Value} {v : CVeh}
theorem Straight_c (l1 l2 b1 b2 : Int) (w : World) (hs : Sl 11 RUnit w vu v.units) :
    Calls Tryz.prog 26 #[vehV v vu, .agg #[.int .i64 l1, .int .i64 l2], .agg #[.int .i64 b1, .int .i64 b2]] w (StrR v (l1, l2) (b1, b2) w) := by
  by_cases h : vehE v = 0
  · cases h2 : okPt (l1, l2)
    · exact Straight_pts l1 l2 b1 b2 w hs h (by rw [h2]; rfl)
    · cases h3 : okPt (b1, b2)
      · exact Straight_pts l1 l2 b1 b2 w hs h (by rw [h2, h3]; rfl)
      · exact Straight_go l1 l2 b1 b2 w hs h h2 h3
  · exact Straight_veh l1 l2 b1 b2 w hs h
end
theorem exV_str : straightS exV (0, 0) (-100, 0) = ((0, 0), [(-4000, 0), (-10000, 0)], 0) := by decide +kernel
set_option maxRecDepth 100000 in
set_option maxHeartbeats 1600000 in
theorem cworks_c (w : World) : Calls Tryz.prog 6 #[] w fun e w' => e = .returned (.bool true) ∧ Ext w w' := by
  have CE := fun w => Example_c w
  have CL := fun vu w (hs : Sl 11 RUnit w vu exV.units) => Length_ok vu exV w hs exV_ok
  rw [exV_len] at CL
  have CS := fun vu w (hs : Sl 11 RUnit w vu exV.units) => Straight_c (v := exV) 0 0 (-100) 0 w hs
  unfold StrR at CS
  rw [exV_str] at CS
  unfold vehV poseEV at *
  simp only at CS
  replace CE := Lib.hid CE
  replace CL := Lib.hid CL
  replace CS := Lib.hid CS
  go_enter Tryz.func6, Tryz.ntmps6
  go_wp2_with (first
    | (go_at_call 25; refine (CE.out _).mono ?_; rintro e w1 ⟨vu, rfl, hs, hb1⟩)
    | (go_at_call 24; refine (CL.out _ _ hs).mono ?_; rintro e w2 ⟨rfl, hb2⟩)
    | (go_at_call 26; refine (CS.out _ _ hs).mono ?_; rintro e w3 ⟨vp, rfl, hp, hb3⟩; obtain ⟨A9, c9, rfl⟩ := pts_shape hp; obtain ⟨b9, off9, rfl, q0, q1⟩ := pts_atH (i := 1) (p := (-10000, 0)) hp rfl rfl; have q2 := lt_of_cell q0; clear hp))
  go_ret
  exact ⟨rfl, by (repeat' (first | exact Ext.refl _ | assumption | refine Ext.alloc ?_ _ | refine Ext.drew ?_ | refine Ext.drewN ?_ _ | refine Ext.set ?_ (by first | exact Nat.le_refl _ | exact le1 _ | exact le2 _ | exact le3 _ | exact le4 _ | exact le5 _ | exact le6 _) _ | refine Ext.trans ?_ (by assumption)))⟩
end Go.Proofs.YtcbjecpfijogcaaGreat

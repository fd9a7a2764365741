
/- Contracts: Pulled, the law's valid. -/
import Derived.Test.YtcbjecpfijogcaaGreatCJoint
import Derived.Test.YtcbjecpfijogcaaGreatCRCheck
import Derived.Test.YtcbjecpfijogcaaGreatCLong
namespace Go.Proofs.YtcbjecpfijogcaaGreat
open Go.RowKit Go.Shelf

section
variable {vu : Value} {v : CVeh}
set_option maxRecDepth 100000 in
set_option maxHeartbeats 1600000 in
theorem Pulled_ok (k : Nat) (w : World) (hs : Sl 11 RUnit w vu v.units) (hE : vehE v = 0) {u : CUnit} (hu : v.units[k]? = some u) :
    Calls Tryz.prog 16 #[vehV v vu, .int .i64 k] w fun e w' => e = .returned (.tuple #[.int .i64 (pulledN u), .int .i64 0]) ∧ Ext w w' := by
  have CV := fun w' (h : Ext w w') => VCheck_c vu v w' (hs.ext RUnit.stable h)
  rw [hE] at CV
  replace CV := Lib.hid CV
  have hvu := vehE_units hE u (mem_of_some hu)
  have hk := lt_of_some hu
  obtain ⟨A, cap, rfl, hl, hl2⟩ := hs.shape
  obtain ⟨b, off, csu, rfl, _, ⟨vx, rfl, hax⟩, hc⟩ := hs.at hu
  obtain ⟨A2, cap2, rfl, _, _⟩ := hax.shape
  have CP := Lib.hid (fun w' => pulled_x A2 u.axles.length cap2 u w' hvu)
  have k0 := hc 0 _ rfl
  have k1 := hc 1 _ rfl
  have k2 := hc 2 _ rfl
  have k3 := hc 3 _ rfl
  have k4 := hc 4 _ rfl
  have k5 := hc 5 _ rfl
  have k6 := hc 6 _ rfl
  have k7 := hc 7 _ rfl
  have k8 := hc 8 _ rfl
  have k9 := hc 9 _ rfl
  have k10 := hc 10 _ rfl
  simp only [Nat.add_zero] at k0
  have i0 : ¬ (k : Int) < 0 := by omega
  have i1 : (0 : Int) ≤ (k : Int) := by omega
  have i2 : (k : Int) < (v.units.length : Int) := by omega
  have i3 : ¬ (v.units.length : Int) ≤ (k : Int) := by omega
  generalize pulledN u = PU at *
  unfold vehV
  clear hs hE hvu hu hk hc hax
  go_enter Tryz.func16, Tryz.ntmps16
  go_wp2_with (first
    | (go_at_call 38; refine (CV.out _ (by (repeat' (first | exact Ext.refl _ | assumption | refine Ext.alloc ?_ _ | refine Ext.drew ?_ | refine Ext.drewN ?_ _ | refine Ext.set ?_ (by first | exact Nat.le_refl _ | exact le1 _ | exact le2 _ | exact le3 _ | exact le4 _ | exact le5 _ | exact le6 _) _ | refine Ext.trans ?_ (by assumption))))).mono ?_; rintro e w1 ⟨rfl, hb⟩; have y1 := Ext.cell hb (p := ⟨w.heap.size, 1, none⟩) (v := .slice (some ⟨b, off, none⟩) v.units.length cap) (by go_simp); have E1 : Ext w w1 := ((Ext.refl w).alloc _).trans hb; replace k0 := Ext.cell E1 k0; replace k1 := Ext.cell E1 k1; replace k2 := Ext.cell E1 k2; replace k3 := Ext.cell E1 k3; replace k4 := Ext.cell E1 k4; replace k5 := Ext.cell E1 k5; replace k6 := Ext.cell E1 k6; replace k7 := Ext.cell E1 k7; replace k8 := Ext.cell E1 k8; replace k9 := Ext.cell E1 k9; replace k10 := Ext.cell E1 k10; clear hb)
    | (go_at_call 28; refine (CP.out _).mono ?_; rintro e w2 ⟨rfl, hb2⟩))
  exact bodyPost_ret (v := .tuple #[.int .i64 PU, .int .i64 0]) (by simp [results, Tryz.results16, go_sem]) rfl ⟨rfl, by (repeat' (first | exact Ext.refl _ | assumption | refine Ext.alloc ?_ _ | refine Ext.drew ?_ | refine Ext.drewN ?_ _ | refine Ext.set ?_ (by first | exact Nat.le_refl _ | exact le1 _ | exact le2 _ | exact le3 _ | exact le4 _ | exact le5 _ | exact le6 _) _ | refine Ext.trans ?_ (by assumption)))⟩
set_option maxRecDepth 100000 in
set_option maxHeartbeats 1600000 in
theorem lvalid_c (w : World) (hs : Sl 11 RUnit w vu v.units) :
    Calls Tryz.prog 14 #[vehV v vu] w fun e w' => e = .returned (.bool (!longB v && decide (vehE v = 0))) ∧ Ext w w' := by
  have CL := fun w' (h : Ext w w') => long_c vu v w' (hs.ext RUnit.stable h)
  have CV := fun w' (h : Ext w w') => RVCheck_c vu v w' (hs.ext RUnit.stable h)
  obtain ⟨A, cap, rfl, hl, hl2⟩ := hs.shape
  unfold vehV at *
  clear hs
  cases h : longB v
  · by_cases h2 : vehE v = 0
    · rw [h] at CL
      rw [h2] at CV ⊢
      replace CL := Lib.hid CL
      replace CV := Lib.hid CV
      clear h h2
      go_enter Tryz.func14, Tryz.ntmps14
      go_wp2_with (first
        | (go_at_call 5; refine (CL.out _ (by (repeat' (first | exact Ext.refl _ | assumption | refine Ext.alloc ?_ _ | refine Ext.drew ?_ | refine Ext.drewN ?_ _ | refine Ext.set ?_ (by first | exact Nat.le_refl _ | exact le1 _ | exact le2 _ | exact le3 _ | exact le4 _ | exact le5 _ | exact le6 _) _ | refine Ext.trans ?_ (by assumption))))).mono ?_; rintro e w1 ⟨rfl, hb1⟩; obtain ⟨hc, hf⟩ := bcell hb1)
        | (go_at_call 37; refine (CV.out _ (by (repeat' (first | exact Ext.refl _ | assumption | refine Ext.alloc ?_ _ | refine Ext.drew ?_ | refine Ext.drewN ?_ _ | refine Ext.set ?_ (by first | exact Nat.le_refl _ | exact le1 _ | exact le2 _ | exact le3 _ | exact le4 _ | exact le5 _ | exact le6 _) _ | refine Ext.trans ?_ (by assumption))))).mono ?_; rintro e w2 ⟨rfl, hb2⟩))
      go_ret
      exact ⟨by rfl, by (repeat' (first | exact Ext.refl _ | assumption | refine Ext.alloc ?_ _ | refine Ext.drew ?_ | refine Ext.drewN ?_ _ | refine Ext.set ?_ (by first | exact Nat.le_refl _ | exact le1 _ | exact le2 _ | exact le3 _ | exact le4 _ | exact le5 _ | exact le6 _) _ | refine Ext.trans ?_ (by assumption)))⟩
    · rw [h] at CL
      have hd : decide (vehE v = 0) = false := decide_eq_false h2
      rw [hd]
      generalize vehE v = E at *
      replace CL := Lib.hid CL
      replace CV := Lib.hid CV
      clear h hd
      go_enter Tryz.func14, Tryz.ntmps14
      go_wp2_with (first
        | (go_at_call 5; refine (CL.out _ (by (repeat' (first | exact Ext.refl _ | assumption | refine Ext.alloc ?_ _ | refine Ext.drew ?_ | refine Ext.drewN ?_ _ | refine Ext.set ?_ (by first | exact Nat.le_refl _ | exact le1 _ | exact le2 _ | exact le3 _ | exact le4 _ | exact le5 _ | exact le6 _) _ | refine Ext.trans ?_ (by assumption))))).mono ?_; rintro e w1 ⟨rfl, hb1⟩; obtain ⟨hc, hf⟩ := bcell hb1)
        | (go_at_call 37; refine (CV.out _ (by (repeat' (first | exact Ext.refl _ | assumption | refine Ext.alloc ?_ _ | refine Ext.drew ?_ | refine Ext.drewN ?_ _ | refine Ext.set ?_ (by first | exact Nat.le_refl _ | exact le1 _ | exact le2 _ | exact le3 _ | exact le4 _ | exact le5 _ | exact le6 _) _ | refine Ext.trans ?_ (by assumption))))).mono ?_; rintro e w2 ⟨rfl, hb2⟩))
      go_ret
      exact ⟨by simp [h2], by (repeat' (first | exact Ext.refl _ | assumption | refine Ext.alloc ?_ _ | refine Ext.drew ?_ | refine Ext.drewN ?_ _ | refine Ext.set ?_ (by first | exact Nat.le_refl _ | exact le1 _ | exact le2 _ | exact le3 _ | exact le4 _ | exact le5 _ | exact le6 _) _ | refine Ext.trans ?_ (by assumption)))⟩
  · rw [h] at CL
    replace CL := Lib.hid CL
    clear h CV
    go_enter Tryz.func14, Tryz.ntmps14
    go_wp2_with (go_at_call 5; refine (CL.out _ (by (repeat' (first | exact Ext.refl _ | assumption | refine Ext.alloc ?_ _ | refine Ext.drew ?_ | refine Ext.drewN ?_ _ | refine Ext.set ?_ (by first | exact Nat.le_refl _ | exact le1 _ | exact le2 _ | exact le3 _ | exact le4 _ | exact le5 _ | exact le6 _) _ | refine Ext.trans ?_ (by assumption))))).mono ?_; rintro e w1 ⟨rfl, hb1⟩)
    go_ret
    exact ⟨by rfl, by (repeat' (first | exact Ext.refl _ | assumption | refine Ext.alloc ?_ _ | refine Ext.drew ?_ | refine Ext.drewN ?_ _ | refine Ext.set ?_ (by first | exact Nat.le_refl _ | exact le1 _ | exact le2 _ | exact le3 _ | exact le4 _ | exact le5 _ | exact le6 _) _ | refine Ext.trans ?_ (by assumption)))⟩
end
end Go.Proofs.YtcbjecpfijogcaaGreat

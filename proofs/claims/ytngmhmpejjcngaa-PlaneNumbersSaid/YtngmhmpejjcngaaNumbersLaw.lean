/- The law PlaneNumbers, walked. -/
import Derived.Test.YtngmhmpejjcngaaNumbers
import Derived.OpenShut
import Derived.Deep.RegionHeld3
namespace Go.Proofs.Ytngmhmpejjcngaa
open Go.RowKit

set_option maxRecDepth 100000 in
set_option maxHeartbeats 1600000 in
theorem numbers_law (n d ax ay bx by' cx cy : Int) (w : World) (wn : (Lit.int .i64 n).wf = true) :
    Calls Try.prog 6 #[.int .i64 n, .int .i64 d, .agg #[.int .i64 ax, .int .i64 ay], .agg #[.int .i64 bx, .int .i64 by'], .agg #[.int .i64 cx, .int .i64 cy]] w fun e w' => e = .returned (.bool true) ∧ Ext w w' := by
  have hn := (bounds_i64 wn).2
  have P1 := fun w => Floor_c n d w
  have P2 := fun w => RFloor_c n d w
  have P3 := fun w => Nearest_c n d w
  have P4 := fun w => RNearest_c n d w
  have P5 := fun w => Root_c n w hn
  have P6 := fun w => RRoot_c n w hn
  have P7 := fun w => Turn_c ax ay bx by' cx cy w
  have P8 := fun w => RTurn_c ax ay bx by' cx cy w
  have P9 := fun w => Check_c ax ay w
  have P10 := fun w => RCheck_c ax ay w
  have P11 := fun w => Distance_c ax ay bx by' w
  have P12 := fun w => RDistance_c ax ay bx by' w
  clear hn wn
  generalize floorS n d = fl at P1 P2
  generalize nearestS n d = ne at P3 P4
  generalize rootS n = ro at P5 P6
  generalize turnS (ax, ay) (bx, by') (cx, cy) = tu at P7 P8
  generalize checkS (ax, ay) = ch at P9 P10
  generalize distS (ax, ay) (bx, by') = di at P11 P12
  obtain ⟨fl1, fl2⟩ := fl
  obtain ⟨ne1, ne2⟩ := ne
  obtain ⟨ro1, ro2⟩ := ro
  obtain ⟨tu1, tu2⟩ := tu
  obtain ⟨di1, di2⟩ := di
  unfold i2V at P1 P2 P3 P4 P5 P6 P7 P8 P11 P12
  have H1 := Lib.hid P1
  have H2 := Lib.hid P2
  have H3 := Lib.hid P3
  have H4 := Lib.hid P4
  have H5 := Lib.hid P5
  have H6 := Lib.hid P6
  have H7 := Lib.hid P7
  have H8 := Lib.hid P8
  have H9 := Lib.hid P9
  have H10 := Lib.hid P10
  have H11 := Lib.hid P11
  have H12 := Lib.hid P12
  clear P1 P2 P3 P4 P5 P6 P7 P8 P9 P10 P11 P12
  go_enter Try.func6, Try.ntmps6
  go_wp2_with (first
    | (go_at_call 30; refine (H1.out _).mono ?_; rintro e w' ⟨rfl, rfl⟩)
    | (go_at_call 31; refine (H2.out _).mono ?_; rintro e w' ⟨rfl, rfl⟩)
    | (go_at_call 32; refine (H3.out _).mono ?_; rintro e w' ⟨rfl, rfl⟩)
    | (go_at_call 33; refine (H4.out _).mono ?_; rintro e w' ⟨rfl, rfl⟩)
    | (go_at_call 34; refine (H5.out _).mono ?_; rintro e w' ⟨rfl, rfl⟩)
    | (go_at_call 35; refine (H6.out _).mono ?_; rintro e w' ⟨rfl, rfl⟩)
    | (go_at_call 36; refine (H7.out _).mono ?_; rintro e w2 ⟨rfl, hb2⟩; (first | (replace hb := Ext.trans hb hb2; clear hb2 hc hf; obtain ⟨hc, hf⟩ := bcell hb) | (obtain ⟨hc, hf⟩ := bcell hb2; have hb := hb2; clear hb2)); have hz := Ext.sz hb; repeat (first | rw [size_alloc] at hz | rw [size_drewN] at hz | rw [size_drew] at hz | rw [size_setCell] at hz))
    | (go_at_call 37; refine (H8.out _).mono ?_; rintro e w2 ⟨rfl, hb2⟩; (first | (replace hb := Ext.trans hb hb2; clear hb2 hc hf; obtain ⟨hc, hf⟩ := bcell hb) | (obtain ⟨hc, hf⟩ := bcell hb2; have hb := hb2; clear hb2)); have hz := Ext.sz hb; repeat (first | rw [size_alloc] at hz | rw [size_drewN] at hz | rw [size_drew] at hz | rw [size_setCell] at hz)))
  have a0 : w2.cell? ⟨w.heap.size, 0, none⟩ = some (.int .i64 ax) := by go_simp
  have a1 : w2.cell? ⟨w.heap.size, 1, none⟩ = some (.int .i64 ay) := by go_simp
  have b0 : w2.cell? ⟨w.heap.size + 1, 0, none⟩ = some (.int .i64 bx) := by go_simp
  have b1 : w2.cell? ⟨w.heap.size + 1, 1, none⟩ = some (.int .i64 by') := by go_simp
  have HE : Ext w w2 := by (repeat' (first | exact Ext.refl _ | assumption | refine Ext.alloc ?_ _ | refine Ext.drew ?_ | refine Ext.drewN ?_ _ | refine Ext.set ?_ (by first | exact Nat.le_refl _ | exact le1 _ | exact le2 _ | exact le3 _ | exact le4 _ | exact le5 _ | exact le6 _) _ | refine Ext.trans ?_ (by assumption)))
  clear hc hf hb hz
  go_region_held3 (fun w' => w'.cell? ⟨w.heap.size, 0, none⟩ = some (.int .i64 ax) ∧ w'.cell? ⟨w.heap.size, 1, none⟩ = some (.int .i64 ay) ∧ w'.cell? ⟨w.heap.size + 1, 0, none⟩ = some (.int .i64 bx) ∧ w'.cell? ⟨w.heap.size + 1, 1, none⟩ = some (.int .i64 by'))
    (first | go_keep | (refine ⟨?_, ?_, ?_, ?_⟩ <;> exact Ext.cell hb (by go_simp)))
    (first
      | (go_at_call 38; refine (H9.out _).mono ?_; rintro e w' ⟨rfl, hb⟩)
      | (go_at_call 39; refine (H10.out _).mono ?_; rintro e w' ⟨rfl, hb⟩))
  rename_i hh
  obtain ⟨c0, c1, c2, c3⟩ := hh
  clear a0 a1 b0 b1
  go_wp2_with fail
  refine (H11.out _).mono ?_
  rintro e w5 ⟨rfl, hb5⟩
  have a0 := Ext.cell hb5 c0
  have a1 := Ext.cell hb5 c1
  have b0 := Ext.cell hb5 c2
  have b1 := Ext.cell hb5 c3
  clear c0 c1 c2 c3
  go_wp2_with (first
    | (go_at_call 40; refine (H12.out _).mono ?_; rintro e w6 ⟨rfl, hb6⟩)
    | (go_at_call 19; refine (works_c _).mono ?_; rintro e w7 ⟨rfl, hb7⟩))
  go_ret
  exact ⟨rfl, by (repeat' (first | exact Ext.refl _ | assumption | refine Ext.alloc ?_ _ | refine Ext.drew ?_ | refine Ext.drewN ?_ _ | refine Ext.set ?_ (by first | exact Nat.le_refl _ | exact le1 _ | exact le2 _ | exact le3 _ | exact le4 _ | exact le5 _ | exact le6 _) _ | refine Ext.trans ?_ (by assumption)))⟩
end Go.Proofs.Ytngmhmpejjcngaa

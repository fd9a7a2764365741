
/- Contracts: Joint, by the program, at the end; and Joint whole. -/
import Derived.Test.YtcbjecpfijogcaaGreatCJoint
namespace Go.Proofs.YtcbjecpfijogcaaGreat
open Go.RowKit Go.Shelf

section
variable {vu vp : Value} {v : CVeh} {lead : Pt} {ps : List Pt}
set_option maxRecDepth 100000 in
set_option maxHeartbeats 6400000 in
theorem Joint_end (w : World) (hs : Sl 11 RUnit w vu v.units) (hp : Pts w vp ps) (h1 : poseE v lead ps = 0) :
    Calls Tryz.prog 20 #[vehV v vu, poseV lead vp, .int .i64 v.units.length] w fun e w' => e = .returned (ptV (jointS v lead ps v.units.length)) ∧ Ext w w' := by
  have CB := fun w' (h : Ext w w') => look_bad (lead := lead) w' (hs.ext RUnit.stable h) (hp.ext h)
  have CO := fun w' (h : Ext w w') => look_ok (lead := lead) w' (hs.ext RUnit.stable h) (hp.ext h)
  obtain ⟨A, cap, rfl, hl, hl2⟩ := hs.shape
  obtain ⟨Ap, capp, rfl⟩ := pts_shape hp
  obtain ⟨l1, l2⟩ := lead
  clear hs hp
  unfold vehV poseV at *
  simp only at CB CO ⊢
  have hpl := puts_len h1
  have hvl := vehE_len hpl.2.1
  have HV := Lib.hid (vehE_units hpl.2.1)
  have C := Lib.hid (fun w' hw => CO w' hw h1)
  have i0 : ¬ (v.units.length : Int) < 0 := by omega
  obtain ⟨m, hm⟩ : ∃ m, v.units.length = m + 1 := ⟨v.units.length - 1, by omega⟩
  have e1 : IntKind.i64.wrap ((v.units.length : Int) - 1) = (m : Int) := by rw [IntWalk.i64_in ((v.units.length : Int) - 1) (by omega)]; omega
  have i1 : (0 : Int) ≤ (m : Int) := by omega
  have i2 : (m : Int) < (v.units.length : Int) := by omega
  have HJ := Lib.hid (fun u hu => jointS_end (lead := (l1, l2)) (ps := ps) (u := u) h1 hu)
  have HM1 := Lib.hid hm
  generalize jointS v (l1, l2) ps v.units.length = q at *
  clear CB CO h1 hpl hm
  go_enter Tryz.func20, Tryz.ntmps20
  go_wp2_with (go_at_call 35; refine (C.out _ (by (repeat' (first | exact Ext.refl _ | assumption | refine Ext.alloc ?_ _ | refine Ext.drew ?_ | refine Ext.drewN ?_ _ | refine Ext.set ?_ (by first | exact Nat.le_refl _ | exact le1 _ | exact le2 _ | exact le3 _ | exact le4 _ | exact le5 _ | exact le6 _) _ | refine Ext.trans ?_ (by assumption))))).mono ?_; rintro e w1 ⟨vl, xs, rfl, ho, hm, hxl, hb1⟩; have y0 := Ext.cell hb1 (p := ⟨w.heap.size + 1 + 1, 0, none⟩) (v := .int .i64 0) (by go_simp); have y1 := Ext.cell hb1 (p := ⟨w.heap.size + 1 + 1, 1, none⟩) (v := .int .i64 0) (by go_simp); have f0 := Ext.frz hb1 (p := ⟨w.heap.size + 1 + 1, 0, none⟩) (by simp) (by go_simp); have f1 := Ext.frz hb1 (p := ⟨w.heap.size + 1 + 1, 1, none⟩) (by simp) (by go_simp); have ly := lt_of_cell y0; obtain ⟨x, hx⟩ := some_of_lt (show m < xs.length by have := HM1.out; omega); obtain ⟨g, c, rfl, hcs⟩ := own_at ho hx; have k0 := hcs 0 _ rfl; have k1 := hcs 1 _ rfl; have k2 := hcs 2 _ rfl; have k3 := hcs 3 _ rfl; have k4 := hcs 4 _ rfl; have k5 := hcs 5 _ rfl; have k6 := hcs 6 _ rfl; have k7 := hcs 7 _ rfl; have k8 := hcs 8 _ rfl; have k9 := hcs 9 _ rfl; have k10 := hcs 10 _ rfl; have k11 := hcs 11 _ rfl; have k12 := hcs 12 _ rfl; have k13 := hcs 13 _ rfl; have k14 := hcs 14 _ rfl; simp only [Nat.add_zero] at k0; have hpx : (putsN (l1, l2) v.units ps)[m]? = some ⟨x.unit, x.joint, x.axle⟩ := (by rw [← hm, List.getElem?_map, hx]; rfl); have HQ := Lib.hid (HJ.out ⟨x.unit, x.joint, x.axle⟩ (by rw [show v.units.length - 1 = m by have := HM1.out; omega]; exact hpx)); have HVX := Lib.hid (HV.out x.unit (mem_of_some (putsN_at _ _ _ _ _ hpx).1)); rw [hxl]; clear hcs hm hx ho hpx)
  have EW : Ext w (w1.alloc (.cells #[.int .i64 x.unit.kind, .int .i64 x.unit.length, .int .i64 x.unit.behind, .int .i64 x.unit.front, .int .i64 x.unit.rear, .int .i64 x.unit.width, .int .i64 x.unit.height, .int .i64 x.unit.mass, .int .i64 x.unit.steer, .int .i64 x.unit.most, .slice x.A x.unit.axles.length x.cap, .int .i64 x.joint.1, .int .i64 x.joint.2, .int .i64 x.axle.1, .int .i64 x.axle.2] 64)) := by (repeat' (first | exact Ext.refl _ | assumption | refine Ext.alloc ?_ _ | refine Ext.drew ?_ | refine Ext.drewN ?_ _ | refine Ext.set ?_ (by first | exact Nat.le_refl _ | exact le1 _ | exact le2 _ | exact le3 _ | exact le4 _ | exact le5 _ | exact le6 _) _ | refine Ext.trans ?_ (by assumption)))
  have d0 : (w1.alloc (.cells #[.int .i64 x.unit.kind, .int .i64 x.unit.length, .int .i64 x.unit.behind, .int .i64 x.unit.front, .int .i64 x.unit.rear, .int .i64 x.unit.width, .int .i64 x.unit.height, .int .i64 x.unit.mass, .int .i64 x.unit.steer, .int .i64 x.unit.most, .slice x.A x.unit.axles.length x.cap, .int .i64 x.joint.1, .int .i64 x.joint.2, .int .i64 x.axle.1, .int .i64 x.axle.2] 64)).cell? ⟨w1.heap.size, 0, none⟩ = some (.int .i64 x.unit.kind) := by go_simp
  have d1 : (w1.alloc (.cells #[.int .i64 x.unit.kind, .int .i64 x.unit.length, .int .i64 x.unit.behind, .int .i64 x.unit.front, .int .i64 x.unit.rear, .int .i64 x.unit.width, .int .i64 x.unit.height, .int .i64 x.unit.mass, .int .i64 x.unit.steer, .int .i64 x.unit.most, .slice x.A x.unit.axles.length x.cap, .int .i64 x.joint.1, .int .i64 x.joint.2, .int .i64 x.axle.1, .int .i64 x.axle.2] 64)).cell? ⟨w1.heap.size, 1, none⟩ = some (.int .i64 x.unit.length) := by go_simp
  have d2 : (w1.alloc (.cells #[.int .i64 x.unit.kind, .int .i64 x.unit.length, .int .i64 x.unit.behind, .int .i64 x.unit.front, .int .i64 x.unit.rear, .int .i64 x.unit.width, .int .i64 x.unit.height, .int .i64 x.unit.mass, .int .i64 x.unit.steer, .int .i64 x.unit.most, .slice x.A x.unit.axles.length x.cap, .int .i64 x.joint.1, .int .i64 x.joint.2, .int .i64 x.axle.1, .int .i64 x.axle.2] 64)).cell? ⟨w1.heap.size, 2, none⟩ = some (.int .i64 x.unit.behind) := by go_simp
  have d3 : (w1.alloc (.cells #[.int .i64 x.unit.kind, .int .i64 x.unit.length, .int .i64 x.unit.behind, .int .i64 x.unit.front, .int .i64 x.unit.rear, .int .i64 x.unit.width, .int .i64 x.unit.height, .int .i64 x.unit.mass, .int .i64 x.unit.steer, .int .i64 x.unit.most, .slice x.A x.unit.axles.length x.cap, .int .i64 x.joint.1, .int .i64 x.joint.2, .int .i64 x.axle.1, .int .i64 x.axle.2] 64)).cell? ⟨w1.heap.size, 3, none⟩ = some (.int .i64 x.unit.front) := by go_simp
  have d4 : (w1.alloc (.cells #[.int .i64 x.unit.kind, .int .i64 x.unit.length, .int .i64 x.unit.behind, .int .i64 x.unit.front, .int .i64 x.unit.rear, .int .i64 x.unit.width, .int .i64 x.unit.height, .int .i64 x.unit.mass, .int .i64 x.unit.steer, .int .i64 x.unit.most, .slice x.A x.unit.axles.length x.cap, .int .i64 x.joint.1, .int .i64 x.joint.2, .int .i64 x.axle.1, .int .i64 x.axle.2] 64)).cell? ⟨w1.heap.size, 4, none⟩ = some (.int .i64 x.unit.rear) := by go_simp
  have d5 : (w1.alloc (.cells #[.int .i64 x.unit.kind, .int .i64 x.unit.length, .int .i64 x.unit.behind, .int .i64 x.unit.front, .int .i64 x.unit.rear, .int .i64 x.unit.width, .int .i64 x.unit.height, .int .i64 x.unit.mass, .int .i64 x.unit.steer, .int .i64 x.unit.most, .slice x.A x.unit.axles.length x.cap, .int .i64 x.joint.1, .int .i64 x.joint.2, .int .i64 x.axle.1, .int .i64 x.axle.2] 64)).cell? ⟨w1.heap.size, 5, none⟩ = some (.int .i64 x.unit.width) := by go_simp
  have d6 : (w1.alloc (.cells #[.int .i64 x.unit.kind, .int .i64 x.unit.length, .int .i64 x.unit.behind, .int .i64 x.unit.front, .int .i64 x.unit.rear, .int .i64 x.unit.width, .int .i64 x.unit.height, .int .i64 x.unit.mass, .int .i64 x.unit.steer, .int .i64 x.unit.most, .slice x.A x.unit.axles.length x.cap, .int .i64 x.joint.1, .int .i64 x.joint.2, .int .i64 x.axle.1, .int .i64 x.axle.2] 64)).cell? ⟨w1.heap.size, 6, none⟩ = some (.int .i64 x.unit.height) := by go_simp
  have d7 : (w1.alloc (.cells #[.int .i64 x.unit.kind, .int .i64 x.unit.length, .int .i64 x.unit.behind, .int .i64 x.unit.front, .int .i64 x.unit.rear, .int .i64 x.unit.width, .int .i64 x.unit.height, .int .i64 x.unit.mass, .int .i64 x.unit.steer, .int .i64 x.unit.most, .slice x.A x.unit.axles.length x.cap, .int .i64 x.joint.1, .int .i64 x.joint.2, .int .i64 x.axle.1, .int .i64 x.axle.2] 64)).cell? ⟨w1.heap.size, 7, none⟩ = some (.int .i64 x.unit.mass) := by go_simp
  have d8 : (w1.alloc (.cells #[.int .i64 x.unit.kind, .int .i64 x.unit.length, .int .i64 x.unit.behind, .int .i64 x.unit.front, .int .i64 x.unit.rear, .int .i64 x.unit.width, .int .i64 x.unit.height, .int .i64 x.unit.mass, .int .i64 x.unit.steer, .int .i64 x.unit.most, .slice x.A x.unit.axles.length x.cap, .int .i64 x.joint.1, .int .i64 x.joint.2, .int .i64 x.axle.1, .int .i64 x.axle.2] 64)).cell? ⟨w1.heap.size, 8, none⟩ = some (.int .i64 x.unit.steer) := by go_simp
  have d9 : (w1.alloc (.cells #[.int .i64 x.unit.kind, .int .i64 x.unit.length, .int .i64 x.unit.behind, .int .i64 x.unit.front, .int .i64 x.unit.rear, .int .i64 x.unit.width, .int .i64 x.unit.height, .int .i64 x.unit.mass, .int .i64 x.unit.steer, .int .i64 x.unit.most, .slice x.A x.unit.axles.length x.cap, .int .i64 x.joint.1, .int .i64 x.joint.2, .int .i64 x.axle.1, .int .i64 x.axle.2] 64)).cell? ⟨w1.heap.size, 9, none⟩ = some (.int .i64 x.unit.most) := by go_simp
  have d10 : (w1.alloc (.cells #[.int .i64 x.unit.kind, .int .i64 x.unit.length, .int .i64 x.unit.behind, .int .i64 x.unit.front, .int .i64 x.unit.rear, .int .i64 x.unit.width, .int .i64 x.unit.height, .int .i64 x.unit.mass, .int .i64 x.unit.steer, .int .i64 x.unit.most, .slice x.A x.unit.axles.length x.cap, .int .i64 x.joint.1, .int .i64 x.joint.2, .int .i64 x.axle.1, .int .i64 x.axle.2] 64)).cell? ⟨w1.heap.size, 10, none⟩ = some (.slice x.A x.unit.axles.length x.cap) := by go_simp
  have d11 : (w1.alloc (.cells #[.int .i64 x.unit.kind, .int .i64 x.unit.length, .int .i64 x.unit.behind, .int .i64 x.unit.front, .int .i64 x.unit.rear, .int .i64 x.unit.width, .int .i64 x.unit.height, .int .i64 x.unit.mass, .int .i64 x.unit.steer, .int .i64 x.unit.most, .slice x.A x.unit.axles.length x.cap, .int .i64 x.joint.1, .int .i64 x.joint.2, .int .i64 x.axle.1, .int .i64 x.axle.2] 64)).cell? ⟨w1.heap.size, 11, none⟩ = some (.int .i64 x.joint.1) := by go_simp
  have d12 : (w1.alloc (.cells #[.int .i64 x.unit.kind, .int .i64 x.unit.length, .int .i64 x.unit.behind, .int .i64 x.unit.front, .int .i64 x.unit.rear, .int .i64 x.unit.width, .int .i64 x.unit.height, .int .i64 x.unit.mass, .int .i64 x.unit.steer, .int .i64 x.unit.most, .slice x.A x.unit.axles.length x.cap, .int .i64 x.joint.1, .int .i64 x.joint.2, .int .i64 x.axle.1, .int .i64 x.axle.2] 64)).cell? ⟨w1.heap.size, 12, none⟩ = some (.int .i64 x.joint.2) := by go_simp
  have d13 : (w1.alloc (.cells #[.int .i64 x.unit.kind, .int .i64 x.unit.length, .int .i64 x.unit.behind, .int .i64 x.unit.front, .int .i64 x.unit.rear, .int .i64 x.unit.width, .int .i64 x.unit.height, .int .i64 x.unit.mass, .int .i64 x.unit.steer, .int .i64 x.unit.most, .slice x.A x.unit.axles.length x.cap, .int .i64 x.joint.1, .int .i64 x.joint.2, .int .i64 x.axle.1, .int .i64 x.axle.2] 64)).cell? ⟨w1.heap.size, 13, none⟩ = some (.int .i64 x.axle.1) := by go_simp
  have d14 : (w1.alloc (.cells #[.int .i64 x.unit.kind, .int .i64 x.unit.length, .int .i64 x.unit.behind, .int .i64 x.unit.front, .int .i64 x.unit.rear, .int .i64 x.unit.width, .int .i64 x.unit.height, .int .i64 x.unit.mass, .int .i64 x.unit.steer, .int .i64 x.unit.most, .slice x.A x.unit.axles.length x.cap, .int .i64 x.joint.1, .int .i64 x.joint.2, .int .i64 x.axle.1, .int .i64 x.axle.2] 64)).cell? ⟨w1.heap.size, 14, none⟩ = some (.int .i64 x.axle.2) := by go_simp
  have E1 : Ext w1 (w1.alloc (.cells #[.int .i64 x.unit.kind, .int .i64 x.unit.length, .int .i64 x.unit.behind, .int .i64 x.unit.front, .int .i64 x.unit.rear, .int .i64 x.unit.width, .int .i64 x.unit.height, .int .i64 x.unit.mass, .int .i64 x.unit.steer, .int .i64 x.unit.most, .slice x.A x.unit.axles.length x.cap, .int .i64 x.joint.1, .int .i64 x.joint.2, .int .i64 x.axle.1, .int .i64 x.axle.2] 64)) := (Ext.refl w1).alloc _
  replace y0 := Ext.cell E1 y0
  replace y1 := Ext.cell E1 y1
  replace f0 := Ext.frz E1 ly f0
  replace f1 := Ext.frz E1 ly f1
  have hne : w1.heap.size ≠ w.heap.size + 1 + 1 := by omega
  generalize (w1.alloc (.cells #[.int .i64 x.unit.kind, .int .i64 x.unit.length, .int .i64 x.unit.behind, .int .i64 x.unit.front, .int .i64 x.unit.rear, .int .i64 x.unit.width, .int .i64 x.unit.height, .int .i64 x.unit.mass, .int .i64 x.unit.steer, .int .i64 x.unit.most, .slice x.A x.unit.axles.length x.cap, .int .i64 x.joint.1, .int .i64 x.joint.2, .int .i64 x.axle.1, .int .i64 x.axle.2] 64)) = W4 at *
  have ly4 := lt_of_cell y0
  have CE := fun w' => end_x x.A x.unit.axles.length x.cap x.unit w' HVX.out
  have HCE := Lib.hid CE
  have CA := fun w' => at_c x (rearN x.unit) 0 w'
  have hq : placeS x.axle x.joint (rearN x.unit) 0 = q := HQ.out.symm
  rw [hq] at CA
  unfold putV at CA
  have HCA := Lib.hid CA
  unfold ptV at *
  clear CE CA hq k0 k1 k2 k3 k4 k5 k6 k7 k8 k9 k10 k11 k12 k13 k14 E1 ly hb1
  go_region_held3 (fun w' => w'.cell? ⟨w1.heap.size, 0, none⟩ = some (.int .i64 x.unit.kind) ∧ w'.cell? ⟨w1.heap.size, 1, none⟩ = some (.int .i64 x.unit.length) ∧ w'.cell? ⟨w1.heap.size, 2, none⟩ = some (.int .i64 x.unit.behind) ∧ w'.cell? ⟨w1.heap.size, 3, none⟩ = some (.int .i64 x.unit.front) ∧ w'.cell? ⟨w1.heap.size, 4, none⟩ = some (.int .i64 x.unit.rear) ∧ w'.cell? ⟨w1.heap.size, 5, none⟩ = some (.int .i64 x.unit.width) ∧ w'.cell? ⟨w1.heap.size, 6, none⟩ = some (.int .i64 x.unit.height) ∧ w'.cell? ⟨w1.heap.size, 7, none⟩ = some (.int .i64 x.unit.mass) ∧ w'.cell? ⟨w1.heap.size, 8, none⟩ = some (.int .i64 x.unit.steer) ∧ w'.cell? ⟨w1.heap.size, 9, none⟩ = some (.int .i64 x.unit.most) ∧ w'.cell? ⟨w1.heap.size, 10, none⟩ = some (.slice x.A x.unit.axles.length x.cap) ∧ w'.cell? ⟨w1.heap.size, 11, none⟩ = some (.int .i64 x.joint.1) ∧ w'.cell? ⟨w1.heap.size, 12, none⟩ = some (.int .i64 x.joint.2) ∧ w'.cell? ⟨w1.heap.size, 13, none⟩ = some (.int .i64 x.axle.1) ∧ w'.cell? ⟨w1.heap.size, 14, none⟩ = some (.int .i64 x.axle.2)) (refine ⟨?_, ?_, ?_, ?_, ?_, ?_, ?_, ?_, ?_, ?_, ?_, ?_, ?_, ?_, ?_⟩ <;> (repeat' (with_reducible (first | assumption | refine Ext.cell hb6 ?_ | refine Ext.cell hb5 ?_ | refine Ext.cell (Ext.refl _).drew ?_ | refine cell_set_ne (by first | omega | (simp; omega)) ?_)))) (first
    | (go_at_call 39; refine (HCE.out _).mono ?_; rintro e w5 ⟨rfl, hb5⟩; have a0 := Ext.cell hb5 y0; have a1 := Ext.cell hb5 y1; have b0 := Ext.frz hb5 ly4 f0; have b1 := Ext.frz hb5 ly4 f1)
    | (go_at_call 29; refine (HCA.out _).mono ?_; rintro e w6 ⟨rfl, hb6⟩; have c0 := Ext.cell hb6 a0; have c1 := Ext.cell hb6 a1; have g0 := Ext.frz hb6 (lt_of_cell a0) b0; have g1 := Ext.frz hb6 (lt_of_cell a0) b1))
  go_wp2_with fail
  have EF : Ext w w6 := by (repeat' (first | exact Ext.refl _ | assumption | refine Ext.alloc ?_ _ | refine Ext.drew ?_ | refine Ext.drewN ?_ _ | refine Ext.set ?_ (by first | exact Nat.le_refl _ | exact le1 _ | exact le2 _ | exact le3 _ | exact le4 _ | exact le5 _ | exact le6 _) _ | refine Ext.trans ?_ (by assumption)))
  exact bodyPost_ret (v := .tuple #[.agg #[.int .i64 q.1.1, .int .i64 q.1.2], .int .i64 q.2]) (by simp [results, Tryz.results20, go_sem, c0, c1]) rfl ⟨rfl, by (repeat' (first | exact Ext.refl _ | assumption | refine Ext.alloc ?_ _ | refine Ext.drew ?_ | refine Ext.drewN ?_ _ | refine Ext.set ?_ (by first | exact Nat.le_refl _ | exact le1 _ | exact le2 _ | exact le3 _ | exact le4 _ | exact le5 _ | exact le6 _) _ | refine Ext.trans ?_ (by assumption)))⟩

theorem CJoint_c (i : Int) (w : World) (hs : Sl 11 RUnit w vu v.units) (hp : Pts w vp ps) :
    Calls Tryz.prog 20 #[vehV v vu, poseV lead vp, .int .i64 i] w fun e w' => e = .returned (ptV (jointS v lead ps i)) ∧ Ext w w' := by
  by_cases h : ¬ poseE v lead ps = 0 ∨ i < 0 ∨ (v.units.length : Int) < i
  · exact Joint_bad i w hs hp h
  · have h1 : poseE v lead ps = 0 := Classical.not_not.1 (fun h2 => h (.inl h2))
    by_cases h2 : i = v.units.length
    · rw [h2]; exact Joint_end w hs hp h1
    · obtain ⟨k, rfl⟩ : ∃ k : Nat, i = k := ⟨i.toNat, by omega⟩
      exact Joint_in k w hs hp h1 (by omega)
end
end Go.Proofs.YtcbjecpfijogcaaGreat

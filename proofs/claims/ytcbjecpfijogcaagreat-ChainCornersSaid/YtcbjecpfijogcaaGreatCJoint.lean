
/- Contracts: Joint, by the program. -/
import Derived.Test.YtcbjecpfijogcaaGreatCPlace
namespace Go.Proofs.YtcbjecpfijogcaaGreat
open Go.RowKit Go.Shelf

set_option maxHeartbeats 800000 in
theorem pulled_x (A : Option Addr) (n c : Nat) (u : CUnit) (w : World) (h : unitB u = true) :
    Calls Tryz.prog 28 #[.agg #[.int .i64 u.kind, .int .i64 u.length, .int .i64 u.behind, .int .i64 u.front, .int .i64 u.rear, .int .i64 u.width, .int .i64 u.height, .int .i64 u.mass, .int .i64 u.steer, .int .i64 u.most, .slice A n c]] w fun e w' => e = .returned (.int .i64 (pulledN u)) ∧ Ext w w' := by
  obtain ⟨h1, _, h2, _⟩ := unitB_bds h
  have p1 : u.length * 100 ≤ u.length * (1000 - u.steer) := Int.mul_le_mul_of_nonneg_left (by omega) (by omega)
  have p2 : u.length * (1000 - u.steer) ≤ u.length * 1000 := Int.mul_le_mul_of_nonneg_left (by omega) (by omega)
  have e1 := IntWalk.i64_in (1000 - u.steer) (by omega)
  have e2 := IntWalk.i64_in (u.length * (1000 - u.steer)) (by omega)
  have hb := pulled_bds h
  unfold pulledN at hb ⊢
  have e3 := IntWalk.i64_in ((u.length * (1000 - u.steer)).tdiv 1000) (by omega)
  clear h h1 h2 p1 p2 hb
  go_enter Tryz.func28, Tryz.ntmps28
  go_wp2
  go_ret
  exact ⟨rfl, by (repeat' (first | exact Ext.refl _ | assumption | refine Ext.alloc ?_ _ | refine Ext.drew ?_ | refine Ext.drewN ?_ _ | refine Ext.set ?_ (by first | exact Nat.le_refl _ | exact le1 _ | exact le2 _ | exact le3 _ | exact le4 _ | exact le5 _ | exact le6 _) _ | refine Ext.trans ?_ (by assumption)))⟩
set_option maxHeartbeats 800000 in
theorem end_x (A : Option Addr) (n c : Nat) (u : CUnit) (w : World) (h : unitB u = true) :
    Calls Tryz.prog 39 #[.agg #[.int .i64 u.kind, .int .i64 u.length, .int .i64 u.behind, .int .i64 u.front, .int .i64 u.rear, .int .i64 u.width, .int .i64 u.height, .int .i64 u.mass, .int .i64 u.steer, .int .i64 u.most, .slice A n c]] w fun e w' => e = .returned (.int .i64 (rearN u)) ∧ Ext w w' := by
  have C := fun w' (_ : Ext w w') => pulled_x A n c u w' h
  have h1 := pulled_bds h
  have h2 := unitB_bds h
  unfold rearN
  generalize pulledN u = p at *
  have e1 := IntWalk.i64_in (p - u.length) (by omega)
  have e2 := IntWalk.i64_in (p - u.length - u.behind) (by omega)
  replace C := Lib.hid C
  clear h h1 h2
  go_enter Tryz.func39, Tryz.ntmps39
  go_wp2_with fail
  go_region_with (go_at_call 28; refine (C.out _ (by (repeat' (first | exact Ext.refl _ | assumption | refine Ext.alloc ?_ _ | refine Ext.drew ?_ | refine Ext.drewN ?_ _ | refine Ext.set ?_ (by first | exact Nat.le_refl _ | exact le1 _ | exact le2 _ | exact le3 _ | exact le4 _ | exact le5 _ | exact le6 _) _ | refine Ext.trans ?_ (by assumption))))).mono ?_; rintro e w1 ⟨rfl, hb1⟩; obtain ⟨hc, hf⟩ := bcell hb1)
  all_goals (go_wp2_with fail; go_ret; exact ⟨rfl, by (repeat' (first | exact Ext.refl _ | assumption | refine Ext.alloc ?_ _ | refine Ext.drew ?_ | refine Ext.drewN ?_ _ | refine Ext.set ?_ (by first | exact Nat.le_refl _ | exact le1 _ | exact le2 _ | exact le3 _ | exact le4 _ | exact le5 _ | exact le6 _) _ | refine Ext.trans ?_ (by assumption)))⟩)
theorem putsN_at : ∀ (us : List CUnit) (ps : List Pt) (j : Pt) (i : Nat) (u : CPut), (putsN j us ps)[i]? = some u → us[i]? = some u.unit ∧ ps[i]? = some u.axle
  | [], [], _, i, u, h => by simp [putsN] at h
  | [], _ :: _, _, i, u, h => by simp [putsN] at h
  | _ :: _, [], _, i, u, h => by simp [putsN] at h
  | x :: us, a :: ps, j, i, u, h => by
    simp only [putsN] at h
    split at h
    · simp at h
    · cases i with
      | zero => simp only [List.getElem?_cons_zero, Option.some.injEq] at h; subst h; exact ⟨rfl, rfl⟩
      | succ i =>
        simp only [List.getElem?_cons_succ] at h ⊢
        split at h
        · exact putsN_at us ps _ i u h
        · simp at h

section
variable {vu vp : Value} {v : CVeh} {lead : Pt} {ps : List Pt}
/-- a front joint, or the last rear joint -/
def jointS (v : CVeh) (lead : Pt) (ps : List Pt) (i : Int) : Pt × Int :=
  if poseE v lead ps = 0 then
    (if 0 ≤ i ∧ i < v.units.length then (match (putsN lead v.units ps)[i.toNat]? with | some u => (u.joint, 0) | none => ((0, 0), 3))
     else if i = v.units.length then (match (putsN lead v.units ps)[v.units.length - 1]? with | some u => placeS u.axle u.joint (rearN u.unit) 0 | none => ((0, 0), 3))
     else ((0, 0), 3))
  else ((0, 0), poseE v lead ps)
theorem jointS_pose {i : Int} (h : ¬ poseE v lead ps = 0) : jointS v lead ps i = ((0, 0), poseE v lead ps) := by unfold jointS; rw [if_neg h]
theorem jointS_no {i : Int} (h : poseE v lead ps = 0) (h2 : i < 0 ∨ (v.units.length : Int) < i) : jointS v lead ps i = ((0, 0), 3) := by
  unfold jointS; rw [if_pos h, if_neg (by omega), if_neg (by omega)]
theorem jointS_in {k : Nat} {u : CPut} (h : poseE v lead ps = 0) (h2 : k < v.units.length) (hu : (putsN lead v.units ps)[k]? = some u) : jointS v lead ps (k : Int) = (u.joint, 0) := by
  unfold jointS; rw [if_pos h, if_pos (by omega), show ((k : Int)).toNat = k by omega, hu]
theorem jointS_end {u : CPut} (h : poseE v lead ps = 0) (hu : (putsN lead v.units ps)[v.units.length - 1]? = some u) : jointS v lead ps (v.units.length : Int) = placeS u.axle u.joint (rearN u.unit) 0 := by
  unfold jointS; rw [if_pos h, if_neg (by omega), if_pos rfl, hu]

set_option maxRecDepth 100000 in
set_option maxHeartbeats 3200000 in
theorem Joint_bad (i : Int) (w : World) (hs : Sl 11 RUnit w vu v.units) (hp : Pts w vp ps) (h : ¬ poseE v lead ps = 0 ∨ i < 0 ∨ (v.units.length : Int) < i) :
    Calls Tryz.prog 20 #[vehV v vu, poseV lead vp, .int .i64 i] w fun e w' => e = .returned (ptV (jointS v lead ps i)) ∧ Ext w w' := by
  have CB := fun w' (h : Ext w w') => look_bad (lead := lead) w' (hs.ext RUnit.stable h) (hp.ext h)
  have CO := fun w' (h : Ext w w') => look_ok (lead := lead) w' (hs.ext RUnit.stable h) (hp.ext h)
  obtain ⟨A, cap, rfl, hl, hl2⟩ := hs.shape
  obtain ⟨Ap, capp, rfl⟩ := pts_shape hp
  obtain ⟨l1, l2⟩ := lead
  clear hs hp
  unfold vehV poseV at *
  simp only at CB CO ⊢
  by_cases h1 : poseE v (l1, l2) ps = 0
  · have hi : i < 0 ∨ (0 ≤ i ∧ (v.units.length : Int) < i) := by
      rcases h with h | h | h
      · exact absurd h1 h
      · exact .inl h
      · exact .inr ⟨by omega, h⟩
    rw [jointS_no h1 (by omega)]
    have C := Lib.hid (fun w' hw => CO w' hw h1)
    clear CB CO h h1
    unfold ptV
    rcases hi with hi | ⟨hi, hi2⟩
    all_goals
      go_enter Tryz.func20, Tryz.ntmps20
      go_wp2_with (go_at_call 35; refine (C.out _ (by (repeat' (first | exact Ext.refl _ | assumption | refine Ext.alloc ?_ _ | refine Ext.drew ?_ | refine Ext.drewN ?_ _ | refine Ext.set ?_ (by first | exact Nat.le_refl _ | exact le1 _ | exact le2 _ | exact le3 _ | exact le4 _ | exact le5 _ | exact le6 _) _ | refine Ext.trans ?_ (by assumption))))).mono ?_; rintro e w1 ⟨vl, xs, rfl, ho, hm, hxl, hb1⟩; have y0 := Ext.cell hb1 (p := ⟨w.heap.size + 1 + 1, 0, none⟩) (v := .int .i64 0) (by go_simp); have y1 := Ext.cell hb1 (p := ⟨w.heap.size + 1 + 1, 1, none⟩) (v := .int .i64 0) (by go_simp); have f0 := Ext.frz hb1 (p := ⟨w.heap.size + 1 + 1, 0, none⟩) (by simp) (by go_simp); have f1 := Ext.frz hb1 (p := ⟨w.heap.size + 1 + 1, 1, none⟩) (by simp) (by go_simp); have ly := lt_of_cell y0; obtain ⟨A3, c3, rfl⟩ := own_len ho; rw [hxl])
      exact bodyPost_ret (v := .tuple #[.agg #[.int .i64 0, .int .i64 0], .int .i64 3]) (by simp [results, Tryz.results20, go_sem, y0, y1]) rfl ⟨rfl, by (repeat' (first | exact Ext.refl _ | assumption | refine Ext.alloc ?_ _ | refine Ext.drew ?_ | refine Ext.drewN ?_ _ | refine Ext.set ?_ (by first | exact Nat.le_refl _ | exact le1 _ | exact le2 _ | exact le3 _ | exact le4 _ | exact le5 _ | exact le6 _) _ | refine Ext.trans ?_ (by assumption)))⟩
  · rw [jointS_pose h1]
    have C := fun w' hw => CB w' hw h1
    have HN := h1
    generalize poseE v (l1, l2) ps = E at *
    replace C := Lib.hid C
    clear CB CO h h1
    unfold ptV
    go_enter Tryz.func20, Tryz.ntmps20
    go_wp2_with (go_at_call 35; refine (C.out _ (by (repeat' (first | exact Ext.refl _ | assumption | refine Ext.alloc ?_ _ | refine Ext.drew ?_ | refine Ext.drewN ?_ _ | refine Ext.set ?_ (by first | exact Nat.le_refl _ | exact le1 _ | exact le2 _ | exact le3 _ | exact le4 _ | exact le5 _ | exact le6 _) _ | refine Ext.trans ?_ (by assumption))))).mono ?_; rintro e w1 ⟨rfl, hb1⟩; have y0 := Ext.cell hb1 (p := ⟨w.heap.size + 1 + 1, 0, none⟩) (v := .int .i64 0) (by go_simp); have y1 := Ext.cell hb1 (p := ⟨w.heap.size + 1 + 1, 1, none⟩) (v := .int .i64 0) (by go_simp); have f0 := Ext.frz hb1 (p := ⟨w.heap.size + 1 + 1, 0, none⟩) (by simp) (by go_simp); have f1 := Ext.frz hb1 (p := ⟨w.heap.size + 1 + 1, 1, none⟩) (by simp) (by go_simp); have ly := lt_of_cell y0)
    exact bodyPost_ret (v := .tuple #[.agg #[.int .i64 0, .int .i64 0], .int .i64 E]) (by simp [results, Tryz.results20, go_sem, y0, y1]) rfl ⟨rfl, by (repeat' (first | exact Ext.refl _ | assumption | refine Ext.alloc ?_ _ | refine Ext.drew ?_ | refine Ext.drewN ?_ _ | refine Ext.set ?_ (by first | exact Nat.le_refl _ | exact le1 _ | exact le2 _ | exact le3 _ | exact le4 _ | exact le5 _ | exact le6 _) _ | refine Ext.trans ?_ (by assumption)))⟩

set_option maxRecDepth 100000 in
set_option maxHeartbeats 3200000 in
theorem Joint_in (k : Nat) (w : World) (hs : Sl 11 RUnit w vu v.units) (hp : Pts w vp ps) (h1 : poseE v lead ps = 0) (hk : k < v.units.length) :
    Calls Tryz.prog 20 #[vehV v vu, poseV lead vp, .int .i64 k] w fun e w' => e = .returned (ptV (jointS v lead ps k)) ∧ Ext w w' := by
  have CB := fun w' (h : Ext w w') => look_bad (lead := lead) w' (hs.ext RUnit.stable h) (hp.ext h)
  have CO := fun w' (h : Ext w w') => look_ok (lead := lead) w' (hs.ext RUnit.stable h) (hp.ext h)
  obtain ⟨A, cap, rfl, hl, hl2⟩ := hs.shape
  obtain ⟨Ap, capp, rfl⟩ := pts_shape hp
  obtain ⟨l1, l2⟩ := lead
  clear hs hp
  unfold vehV poseV at *
  simp only at CB CO ⊢
  have C := Lib.hid (fun w' hw => CO w' hw h1)
  have i1 : (0 : Int) ≤ (k : Int) := by omega
  have i2 : (k : Int) < (v.units.length : Int) := by omega
  have HJ := Lib.hid (fun u hu => jointS_in (lead := (l1, l2)) (ps := ps) (u := u) h1 hk hu)
  generalize jointS v (l1, l2) ps k = q at *
  clear CB CO h1
  unfold ptV
  go_enter Tryz.func20, Tryz.ntmps20
  go_wp2_with (go_at_call 35; refine (C.out _ (by (repeat' (first | exact Ext.refl _ | assumption | refine Ext.alloc ?_ _ | refine Ext.drew ?_ | refine Ext.drewN ?_ _ | refine Ext.set ?_ (by first | exact Nat.le_refl _ | exact le1 _ | exact le2 _ | exact le3 _ | exact le4 _ | exact le5 _ | exact le6 _) _ | refine Ext.trans ?_ (by assumption))))).mono ?_; rintro e w1 ⟨vl, xs, rfl, ho, hm, hxl, hb1⟩; have y0 := Ext.cell hb1 (p := ⟨w.heap.size + 1 + 1, 0, none⟩) (v := .int .i64 0) (by go_simp); have y1 := Ext.cell hb1 (p := ⟨w.heap.size + 1 + 1, 1, none⟩) (v := .int .i64 0) (by go_simp); have f0 := Ext.frz hb1 (p := ⟨w.heap.size + 1 + 1, 0, none⟩) (by simp) (by go_simp); have f1 := Ext.frz hb1 (p := ⟨w.heap.size + 1 + 1, 1, none⟩) (by simp) (by go_simp); have ly := lt_of_cell y0; obtain ⟨x, hx⟩ := some_of_lt (show k < xs.length by omega); obtain ⟨g, c, rfl, hcs⟩ := own_at ho hx; have k11 := hcs 11 _ rfl; have k12 := hcs 12 _ rfl; have hq := HJ.out ⟨x.unit, x.joint, x.axle⟩ (by rw [← hm, List.getElem?_map, hx]; rfl); simp only at hq; subst hq; rw [hxl]; clear hcs hm hx ho)
  exact bodyPost_ret (v := .tuple #[.agg #[.int .i64 x.joint.1, .int .i64 x.joint.2], .int .i64 0]) (by simp [results, Tryz.results20, go_sem, y0, y1]) rfl ⟨rfl, by (repeat' (first | exact Ext.refl _ | assumption | refine Ext.alloc ?_ _ | refine Ext.drew ?_ | refine Ext.drewN ?_ _ | refine Ext.set ?_ (by first | exact Nat.le_refl _ | exact le1 _ | exact le2 _ | exact le3 _ | exact le4 _ | exact le5 _ | exact le6 _) _ | refine Ext.trans ?_ (by assumption)))⟩
end
end Go.Proofs.YtcbjecpfijogcaaGreat

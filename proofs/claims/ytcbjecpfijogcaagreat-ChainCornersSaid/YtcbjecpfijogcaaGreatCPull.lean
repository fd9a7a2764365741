
/- Contracts: the lengths of a unit, and its places. -/
import Derived.Test.YtcbjecpfijogcaaGreatCSpec
namespace Go.Proofs.YtcbjecpfijogcaaGreat
open Go.RowKit

theorem unitB_bds {u : CUnit} (h : unitB u = true) : (100 ≤ u.length ∧ u.length ≤ 131072) ∧ (-u.length ≤ u.behind ∧ u.behind ≤ 131072) ∧ (0 ≤ u.steer ∧ u.steer ≤ 900) ∧ (0 ≤ u.most ∧ u.most ≤ 40) := by
  unfold unitB sizesB barsB restB at h
  simp only [Bool.and_eq_true, inB_iff, decide_eq_true_eq] at h
  exact ⟨h.1.1.2.1.2, h.1.1.2.2, h.1.2.1.1.2, h.1.2.1.2⟩
theorem pulled_bds {u : CUnit} (h : unitB u = true) : 10 ≤ pulledN u ∧ pulledN u ≤ u.length := by
  obtain ⟨h1, _, h2, _⟩ := unitB_bds h
  unfold pulledN
  have p1 : u.length * 100 ≤ u.length * (1000 - u.steer) := Int.mul_le_mul_of_nonneg_left (by omega) (by omega)
  have p2 : u.length * (1000 - u.steer) ≤ u.length * 1000 := Int.mul_le_mul_of_nonneg_left (by omega) (by omega)
  rw [Int.tdiv_eq_ediv_of_nonneg (by omega)]
  omega
theorem rear_bds {u : CUnit} (h : unitB u = true) : -262144 ≤ rearN u ∧ rearN u ≤ 131072 := by
  have h1 := pulled_bds h
  have h2 := unitB_bds h
  unfold rearN
  omega

set_option maxHeartbeats 800000 in
theorem pulled_c (v : Value) (u : CUnit) (w : World) (h : unitB u = true) (hs : Sl 3 RAxle w v u.axles) :
    Calls Tryz.prog 28 #[.agg #[.int .i64 u.kind, .int .i64 u.length, .int .i64 u.behind, .int .i64 u.front, .int .i64 u.rear, .int .i64 u.width, .int .i64 u.height, .int .i64 u.mass, .int .i64 u.steer, .int .i64 u.most, v]] w fun e w' => e = .returned (.int .i64 (pulledN u)) ∧ Ext w w' := by
  obtain ⟨A, cap, rfl, hl, hl2⟩ := hs.shape
  obtain ⟨h1, _, h2, _⟩ := unitB_bds h
  have p1 : u.length * 100 ≤ u.length * (1000 - u.steer) := Int.mul_le_mul_of_nonneg_left (by omega) (by omega)
  have p2 : u.length * (1000 - u.steer) ≤ u.length * 1000 := Int.mul_le_mul_of_nonneg_left (by omega) (by omega)
  have e1 := IntWalk.i64_in (1000 - u.steer) (by omega)
  have e2 := IntWalk.i64_in (u.length * (1000 - u.steer)) (by omega)
  have hb := pulled_bds h
  unfold pulledN at hb ⊢
  have e3 := IntWalk.i64_in ((u.length * (1000 - u.steer)).tdiv 1000) (by omega)
  clear hs h h1 h2 p1 p2 hb
  go_enter Tryz.func28, Tryz.ntmps28
  go_wp2
  go_ret
  exact ⟨rfl, by (repeat' (first | exact Ext.refl _ | assumption | refine Ext.alloc ?_ _ | refine Ext.drew ?_ | refine Ext.drewN ?_ _ | refine Ext.set ?_ (by first | exact Nat.le_refl _ | exact le1 _ | exact le2 _ | exact le3 _ | exact le4 _ | exact le5 _ | exact le6 _) _ | refine Ext.trans ?_ (by assumption)))⟩
set_option maxHeartbeats 800000 in
theorem Rpulled_c (v : Value) (u : CUnit) (w : World) (h : unitB u = true) (hs : Sl 3 RAxle w v u.axles) :
    Calls Tryz.prog 32 #[.agg #[.int .i64 u.kind, .int .i64 u.length, .int .i64 u.behind, .int .i64 u.front, .int .i64 u.rear, .int .i64 u.width, .int .i64 u.height, .int .i64 u.mass, .int .i64 u.steer, .int .i64 u.most, v]] w fun e w' => e = .returned (.int .i64 (pulledN u)) ∧ Ext w w' := by
  obtain ⟨A, cap, rfl, hl, hl2⟩ := hs.shape
  obtain ⟨h1, _, h2, _⟩ := unitB_bds h
  have p1 : u.length * 100 ≤ u.length * (1000 - u.steer) := Int.mul_le_mul_of_nonneg_left (by omega) (by omega)
  have p2 : u.length * (1000 - u.steer) ≤ u.length * 1000 := Int.mul_le_mul_of_nonneg_left (by omega) (by omega)
  have e1 := IntWalk.i64_in (1000 - u.steer) (by omega)
  have e2 := IntWalk.i64_in (u.length * (1000 - u.steer)) (by omega)
  have hb := pulled_bds h
  unfold pulledN at hb ⊢
  have e3 := IntWalk.i64_in ((u.length * (1000 - u.steer)).tdiv 1000) (by omega)
  clear hs h h1 h2 p1 p2 hb
  go_enter Tryz.func32, Tryz.ntmps32
  go_wp2
  go_ret
  exact ⟨rfl, by (repeat' (first | exact Ext.refl _ | assumption | refine Ext.alloc ?_ _ | refine Ext.drew ?_ | refine Ext.drewN ?_ _ | refine Ext.set ?_ (by first | exact Nat.le_refl _ | exact le1 _ | exact le2 _ | exact le3 _ | exact le4 _ | exact le5 _ | exact le6 _) _ | refine Ext.trans ?_ (by assumption)))⟩
set_option maxHeartbeats 800000 in
theorem end_c (v : Value) (u : CUnit) (w : World) (h : unitB u = true) (hs : Sl 3 RAxle w v u.axles) :
    Calls Tryz.prog 39 #[.agg #[.int .i64 u.kind, .int .i64 u.length, .int .i64 u.behind, .int .i64 u.front, .int .i64 u.rear, .int .i64 u.width, .int .i64 u.height, .int .i64 u.mass, .int .i64 u.steer, .int .i64 u.most, v]] w fun e w' => e = .returned (.int .i64 (rearN u)) ∧ Ext w w' := by
  have C := fun w' (he : Ext w w') => pulled_c v u w' h (hs.ext RAxle.stable he)
  obtain ⟨A, cap, rfl, hl, hl2⟩ := hs.shape
  have h1 := pulled_bds h
  have h2 := unitB_bds h
  unfold rearN
  generalize pulledN u = p at *
  have e1 := IntWalk.i64_in (p - u.length) (by omega)
  have e2 := IntWalk.i64_in (p - u.length - u.behind) (by omega)
  replace C := Lib.hid C
  clear hs h h1 h2
  go_enter Tryz.func39, Tryz.ntmps39
  go_wp2_with fail
  go_region_with (go_at_call 28; refine (C.out _ (by (repeat' (first | exact Ext.refl _ | assumption | refine Ext.alloc ?_ _ | refine Ext.drew ?_ | refine Ext.drewN ?_ _ | refine Ext.set ?_ (by first | exact Nat.le_refl _ | exact le1 _ | exact le2 _ | exact le3 _ | exact le4 _ | exact le5 _ | exact le6 _) _ | refine Ext.trans ?_ (by assumption))))).mono ?_; rintro e w1 ⟨rfl, hb1⟩; obtain ⟨hc, hf⟩ := bcell hb1)
  all_goals (go_wp2_with fail; go_ret; exact ⟨rfl, by (repeat' (first | exact Ext.refl _ | assumption | refine Ext.alloc ?_ _ | refine Ext.drew ?_ | refine Ext.drewN ?_ _ | refine Ext.set ?_ (by first | exact Nat.le_refl _ | exact le1 _ | exact le2 _ | exact le3 _ | exact le4 _ | exact le5 _ | exact le6 _) _ | refine Ext.trans ?_ (by assumption)))⟩)
set_option maxHeartbeats 800000 in
theorem rear_c (v : Value) (u : CUnit) (w : World) (h : unitB u = true) (hs : Sl 3 RAxle w v u.axles) :
    Calls Tryz.prog 50 #[.agg #[.int .i64 u.kind, .int .i64 u.length, .int .i64 u.behind, .int .i64 u.front, .int .i64 u.rear, .int .i64 u.width, .int .i64 u.height, .int .i64 u.mass, .int .i64 u.steer, .int .i64 u.most, v]] w fun e w' => e = .returned (.int .i64 (rearN u)) ∧ Ext w w' := by
  have C := fun w' (he : Ext w w') => Rpulled_c v u w' h (hs.ext RAxle.stable he)
  obtain ⟨A, cap, rfl, hl, hl2⟩ := hs.shape
  have h1 := pulled_bds h
  have h2 := unitB_bds h
  unfold rearN
  generalize pulledN u = p at *
  have e1 := IntWalk.i64_in (p - u.length) (by omega)
  have e2 := IntWalk.i64_in (p - u.length - u.behind) (by omega)
  replace C := Lib.hid C
  clear hs h h1 h2
  go_enter Tryz.func50, Tryz.ntmps50
  go_wp2_with fail
  go_region_with (go_at_call 32; refine (C.out _ (by (repeat' (first | exact Ext.refl _ | assumption | refine Ext.alloc ?_ _ | refine Ext.drew ?_ | refine Ext.drewN ?_ _ | refine Ext.set ?_ (by first | exact Nat.le_refl _ | exact le1 _ | exact le2 _ | exact le3 _ | exact le4 _ | exact le5 _ | exact le6 _) _ | refine Ext.trans ?_ (by assumption))))).mono ?_; rintro e w1 ⟨rfl, hb1⟩; obtain ⟨hc, hf⟩ := bcell hb1)
  all_goals (go_wp2_with fail; go_ret; exact ⟨rfl, by (repeat' (first | exact Ext.refl _ | assumption | refine Ext.alloc ?_ _ | refine Ext.drew ?_ | refine Ext.drewN ?_ _ | refine Ext.set ?_ (by first | exact Nat.le_refl _ | exact le1 _ | exact le2 _ | exact le3 _ | exact le4 _ | exact le5 _ | exact le6 _) _ | refine Ext.trans ?_ (by assumption)))⟩)
end Go.Proofs.YtcbjecpfijogcaaGreat

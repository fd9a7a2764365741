
/- The examples ('works'). -/
import Derived.Test.YtlndcpjaeoppmaaHIs
namespace Go.Proofs.Ytlndcpjaeoppmaa
open Go.RowKit

set_option maxHeartbeats 800000 in
theorem Nearest_ex (w : World) :
    Calls Try.prog 32 #[.int .i64 (-7), .int .i64 2] w fun e w' => e = .returned (.tuple #[.int .i64 (-3), .int .i64 0]) ∧ w = w' := by
  have i1 : RowKit.Hid (inB (-7) (-2305843009213693952) 2305843009213693952 = true) := by simp [RowKit.Hid, inB]
  have i2 : RowKit.Hid (inB 2 1 2305843009213693952 = true) := by simp [RowKit.Hid, inB]
  have i3 : RowKit.Hid (Pl.near (-7) 2 = -3) := by unfold RowKit.Hid; decide
  go_enter Try.func32, Try.ntmps32
  go_wp2_with (first
    | (go_at_call 46; refine (within_c _ _ _ _).mono ?_; rintro e w' ⟨he, rfl⟩; (first | rw [i1.out] at he | rw [i2.out] at he); subst he)
    | (go_at_call 63; refine (near_c _ _ _ (by omega) (by omega) (by omega) (by omega)).mono ?_; rintro e w' ⟨he, rfl⟩; rw [i3.out] at he; subst he))
  go_ret2
  exact ⟨rfl, rfl⟩

set_option maxHeartbeats 800000 in
theorem Half_ex (w : World) :
    Calls Try.prog 33 #[.int .i64 1, .int .i64 2] w fun e w' => e = .returned (.tuple #[.agg #[.int .i64 3, .int .i64 4, .int .i64 5], .int .i64 0]) ∧ Ext w w' := by
  have i1 : RowKit.Hid (inB 1 (-2048) 2048 = true) := by simp [RowKit.Hid, inB]
  have i2 : RowKit.Hid (inB 2 1 2048 = true) := by simp [RowKit.Hid, inB]
  go_enter Try.func33, Try.ntmps33
  go_wp2_with (first
    | (go_at_call 46; refine (within_c _ _ _ _).mono ?_; rintro e w' ⟨he, rfl⟩; (first | rw [i1.out] at he | rw [i2.out] at he); subst he))
  exact bodyPost_ret (v := .tuple #[.agg #[.int .i64 3, .int .i64 4, .int .i64 5], .int .i64 0]) (by simp [results, Try.results33, go_sem]) rfl ⟨rfl, by (repeat' (first | exact Ext.refl _ | assumption | refine Ext.alloc ?_ _ | refine Ext.drew ?_ | refine Ext.drewN ?_ _ | refine Ext.set ?_ (by first | exact Nat.le_refl _ | exact le1 _ | exact le2 _ | exact le3 _ | exact le4 _ | exact le5 _ | exact le6 _) _ | refine Ext.trans ?_ (by assumption)))⟩

theorem isqrt_ex : Pl.isqrt (1024 * (300 * 300 + 400 * 400)) = 16000 := Pl.isqrt_eq (by omega) (by omega) (by omega)
theorem place_ex : placeS (0, 0) (300, 400) 10 0 = ((6, 8), 0) := by
  have h : putP (0, 0) (300, 400) 10 0 = (6, 8) := by
    simp only [putP]
    rw [show (1024 : Int) * ((300 - 0) * (300 - 0) + (400 - 0) * (400 - 0)) = 1024 * (300 * 300 + 400 * 400) by omega, isqrt_ex]
    decide
  rw [placeS_r (by decide) (by decide) (by decide) (by decide) (by decide), h]
  decide

theorem hull_ex : isHullB [(6, 8)] = true := by decide
set_option maxRecDepth 100000 in
set_option maxHeartbeats 1600000 in
theorem works_c (w : World) :
    Calls Try.prog 10 #[] w fun e w' => e = .returned (.bool true) ∧ Ext w w' := by
  go_enter Try.func10, Try.ntmps10
  go_wp2_with (first
    | (go_at_call 32; refine (Nearest_ex _).mono ?_; rintro e w' ⟨rfl, rfl⟩)
    | (go_at_call 33; refine (Half_ex _).mono ?_; rintro e w1 ⟨rfl, hb1⟩)
    | (go_at_call 34; refine (Place_c _ _ _ _ _ _ _).mono ?_; rintro e w2 ⟨he, hb2⟩; rw [place_ex] at he; unfold ptV at he; subst he
       have k0 := Ext.cell hb2 (p := ⟨w1.heap.size, 0, none⟩) (v := .int .i64 3) (by go_simp)
       have k1 := Ext.cell hb2 (p := ⟨w1.heap.size, 1, none⟩) (v := .int .i64 4) (by go_simp)
       have k2 := Ext.cell hb2 (p := ⟨w1.heap.size, 2, none⟩) (v := .int .i64 5) (by go_simp)
       have l0 := World.block_lt_of_cell? w2 _ k0
       simp only at l0))
  refine (IsHull_c _ [(6, 8)] _ (.inr ⟨w2.heap.size + 1, 0, 1, rfl, by decide, by decide, ?_⟩)).mono ?_
  · intro i hi
    have hi0 : i = 0 := by simp at hi; omega
    subst hi0
    exact ⟨by go_simp, by go_simp⟩
  rintro e w3 ⟨rfl, hb3⟩
  rw [hull_ex]
  go_wp2
  go_ret
  exact ⟨rfl, by (repeat' (first | exact Ext.refl _ | assumption | refine Ext.alloc ?_ _ | refine Ext.drew ?_ | refine Ext.drewN ?_ _ | refine Ext.set ?_ (by first | exact Nat.le_refl _ | exact le1 _ | exact le2 _ | exact le3 _ | exact le4 _ | exact le5 _ | exact le6 _) _ | refine Ext.trans ?_ (by assumption)))⟩

end Go.Proofs.Ytlndcpjaeoppmaa

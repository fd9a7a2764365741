
/- Contracts of the functions that look whether a result is valid; the numbers of a place. -/
import Derived.Test.YtgikfliibimkdaaValid
import Derived.Test.YtgikfliibimkdaaTail
import Derived.StillTailTactics
import Derived.StillTailTactics
import Derived.BigQuiet
import Derived.Deep.RegionHeld3
import Derived.Deep.QuietTactic
namespace Go.Proofs.Ytgikfliibimkdaa
open Go.RowKit

/-- a point and an error code, as a call hands them back -/
def ptV (q : (Int × Int) × Int) : Value := .tuple #[.agg #[.int .i64 q.1.1, .int .i64 q.1.2], .int .i64 q.2]
/-- a point, or ErrOver -/
def resS (p : Int × Int) : (Int × Int) × Int := if okPt p then (p, 0) else ((0, 0), 4)
theorem resS_yes {p : Int × Int} (h : okPt p = true) : resS p = (p, 0) := by simp [resS, h]
theorem resS_no {p : Int × Int} (h : okPt p = false) : resS p = ((0, 0), 4) := by simp [resS, h]

set_option maxHeartbeats 800000 in
theorem result_ref_c (x y : Int) (w : World) :
    Calls Try.prog 82 #[.agg #[.int .i64 x, .int .i64 y]] w fun e w' => e = .returned (ptV (resS (x, y))) ∧ Ext w w' := by
  cases hx : okPt (x, y)
  · rw [resS_no hx]; unfold ptV
    go_enter Try.func82, Try.ntmps82
    go_wp2_with (go_at_call 47; refine (Is_c _ _ _).mono ?_; rintro e w' ⟨rfl, hb⟩; obtain ⟨hc, hf⟩ := bcell hb)
    exact bodyPost_ret (v := .tuple #[.agg #[.int .i64 0, .int .i64 0], .int .i64 4]) (by simp [results, Try.results82, go_sem, hc]) rfl ⟨rfl, ((((Ext.refl w).alloc _).alloc _).trans hb).set (by simp) _ |>.set (by simp) _⟩
  · rw [resS_yes hx]; unfold ptV
    go_enter Try.func82, Try.ntmps82
    go_wp2_with (go_at_call 47; refine (Is_c _ _ _).mono ?_; rintro e w' ⟨rfl, hb⟩; obtain ⟨hc, hf⟩ := bcell hb)
    exact bodyPost_ret (v := .tuple #[.agg #[.int .i64 x, .int .i64 y], .int .i64 0]) (by simp [results, Try.results82, go_sem, hc]) rfl ⟨rfl, ((((Ext.refl w).alloc _).alloc _).trans hb).set (by simp) _ |>.set (by simp) _⟩

theorem one_pts (w : World) (x y : Int) (b : Nat) (h1 : w.cell? ⟨b, 0, none⟩ = some (.int .i64 x)) (h2 : w.cell? ⟨b, 1, none⟩ = some (.int .i64 y)) : Pts w (.slice (some ⟨b, 0, none⟩) 1 1) [(x, y)] :=
  .inr ⟨b, 0, 1, rfl, by simp, by simp, fun i hi => by simp at hi; subst hi; exact ⟨h1, h2⟩⟩

set_option maxHeartbeats 800000 in
theorem result_c (x y : Int) (w : World) :
    Calls Try.prog 100 #[.agg #[.int .i64 x, .int .i64 y]] w fun e w' => e = .returned (ptV (resS (x, y))) ∧ Ext w w' := by
  have hall : ∀ b, okPt (x, y) = b → RowKit.Hid ([(x, y)].all okPt = b) := fun b h => by simp [RowKit.Hid, h]
  cases hx : okPt (x, y)
  · rw [resS_no hx]; unfold ptV
    have hA := hall _ hx
    clear hall
    go_enter Try.func100, Try.ntmps100
    go_wp2_with (go_at_call 58; refine (valid_c _ [(x, y)] _ (one_pts _ _ _ _ ?_ ?_)).mono ?_)
    · go_simp
    · go_simp
    rintro e w' ⟨he, hb⟩
    rw [hA.out] at he; subst he
    obtain ⟨hc, hf⟩ := bcell hb
    go_wp2
    exact bodyPost_ret (v := .tuple #[.agg #[.int .i64 0, .int .i64 0], .int .i64 4]) (by simp [results, Try.results100, go_sem, hc]) rfl ⟨rfl, ((((Ext.refl w).alloc _).alloc _).alloc _ |>.trans hb).set (by simp) _ |>.set (by simp) _⟩
  · rw [resS_yes hx]; unfold ptV
    have hA := hall _ hx
    clear hall
    go_enter Try.func100, Try.ntmps100
    go_wp2_with (go_at_call 58; refine (valid_c _ [(x, y)] _ (one_pts _ _ _ _ ?_ ?_)).mono ?_)
    · go_simp
    · go_simp
    rintro e w' ⟨he, hb⟩
    rw [hA.out] at he; subst he
    obtain ⟨hc, hf⟩ := bcell hb
    go_wp2
    exact bodyPost_ret (v := .tuple #[.agg #[.int .i64 x, .int .i64 y], .int .i64 0]) (by simp [results, Try.results100, go_sem, hc]) rfl ⟨rfl, ((((Ext.refl w).alloc _).alloc _).alloc _ |>.trans hb).set (by simp) _ |>.set (by simp) _⟩

/-- a place of a body: as both texts reckon it -/
def putP (a h : Int × Int) (x y : Int) : Int × Int :=
  (a.1 + Pl.near (32 * ((h.1 - a.1) * x - (h.2 - a.2) * y)) (Pl.isqrt (1024 * ((h.1 - a.1) * (h.1 - a.1) + (h.2 - a.2) * (h.2 - a.2)))),
   a.2 + Pl.near (32 * ((h.2 - a.2) * x + (h.1 - a.1) * y)) (Pl.isqrt (1024 * ((h.1 - a.1) * (h.1 - a.1) + (h.2 - a.2) * (h.2 - a.2)))))

theorem okPt_iff {x y : Int} : okPt (x, y) = true ↔ (-16777216 ≤ x ∧ x ≤ 16777216) ∧ -16777216 ≤ y ∧ y ≤ 16777216 := by simp [okPt, inB]
/-- all that a walk through 'place' wants to know of its numbers -/
theorem put_bds {u v x y : Int} (hne : ¬ (u = 0 ∧ v = 0)) (u1 : -33554432 ≤ u) (u2 : u ≤ 33554432) (v1 : -33554432 ≤ v) (v2 : v ≤ 33554432) (x1 : -16777216 ≤ x) (x2 : x ≤ 16777216) (y1 : -16777216 ≤ y) (y2 : y ≤ 16777216) :
    0 ≤ u * u ∧ u * u ≤ 1125899906842624 ∧ 0 ≤ v * v ∧ v * v ≤ 1125899906842624 ∧ 1 ≤ u * u + v * v ∧
    -562949953421312 ≤ u * x ∧ u * x ≤ 562949953421312 ∧ -562949953421312 ≤ v * y ∧ v * y ≤ 562949953421312 ∧
    -562949953421312 ≤ v * x ∧ v * x ≤ 562949953421312 ∧ -562949953421312 ≤ u * y ∧ u * y ≤ 562949953421312 ∧
    1 ≤ Pl.isqrt (1024 * (u * u + v * v)) ∧ Pl.isqrt (1024 * (u * u + v * v)) ≤ 2147483648 ∧
    -36028797018963968 ≤ Pl.near (32 * (u * x - v * y)) (Pl.isqrt (1024 * (u * u + v * v))) ∧ Pl.near (32 * (u * x - v * y)) (Pl.isqrt (1024 * (u * u + v * v))) ≤ 36028797018963969 ∧
    -36028797018963968 ≤ Pl.near (32 * (v * x + u * y)) (Pl.isqrt (1024 * (u * u + v * v))) ∧ Pl.near (32 * (v * x + u * y)) (Pl.isqrt (1024 * (u * u + v * v))) ≤ 36028797018963969 := by
  have a1 := Pl.mul_bd u1 u2 u1 u2
  have a2 := Pl.mul_bd v1 v2 v1 v2
  have a3 := Pl.mul_bd u1 u2 x1 x2
  have a4 := Pl.mul_bd v1 v2 y1 y2
  have a5 := Pl.mul_bd v1 v2 x1 x2
  have a6 := Pl.mul_bd u1 u2 y1 y2
  have p1 : 0 ≤ u * u := by rcases Int.le_total 0 u with h | h; exact Int.mul_nonneg h h; exact Int.mul_nonneg_of_nonpos_of_nonpos h h
  have p2 : 0 ≤ v * v := by rcases Int.le_total 0 v with h | h; exact Int.mul_nonneg h h; exact Int.mul_nonneg_of_nonpos_of_nonpos h h
  have p3 : 1 ≤ u * u + v * v := by
    have h1 : u * u = 0 → u = 0 := fun h => by rcases Int.mul_eq_zero.1 h with h | h <;> exact h
    have h2 : v * v = 0 → v = 0 := fun h => by rcases Int.mul_eq_zero.1 h with h | h <;> exact h
    rcases Decidable.em (u = 0) with h | h
    · have : ¬ v * v = 0 := fun h3 => hne ⟨h, h2 h3⟩
      omega
    · have : ¬ u * u = 0 := fun h3 => h (h1 h3)
      omega
  have q := Pl.isqrt_bd (n := 1024 * (u * u + v * v)) (B := 2147483648) (by omega) (by omega) (by omega)
  have r1 := Pl.near_bd (n := 32 * (u * x - v * y)) (d := Pl.isqrt (1024 * (u * u + v * v))) (b := 36028797018963968) q.1 (by omega) (by omega) (by omega)
  have r2 := Pl.near_bd (n := 32 * (v * x + u * y)) (d := Pl.isqrt (1024 * (u * u + v * v))) (b := 36028797018963968) q.1 (by omega) (by omega) (by omega)
  omega

end Go.Proofs.Ytgikfliibimkdaa

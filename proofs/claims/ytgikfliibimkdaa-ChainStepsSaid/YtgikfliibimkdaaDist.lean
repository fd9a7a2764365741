
/- Contracts of the distances. -/
import Derived.Test.YtgikfliibimkdaaWorks
namespace Go.Proofs.Ytgikfliibimkdaa
open Go.RowKit

theorem okPt_bd {x y : Int} (h : okPt (x, y) = true) : -16777216 ≤ x ∧ x ≤ 16777216 ∧ -16777216 ≤ y ∧ y ≤ 16777216 := by
  rw [okPt_iff] at h; omega
/-- the square of a distance of two valid points -/
theorem dist_bd {u v : Int} (u1 : -33554432 ≤ u) (u2 : u ≤ 33554432) (v1 : -33554432 ≤ v) (v2 : v ≤ 33554432) : 0 ≤ u * u ∧ u * u ≤ 1125899906842624 ∧ 0 ≤ v * v ∧ v * v ≤ 1125899906842624 := by
  have a1 := Pl.mul_bd u1 u2 u1 u2
  have a2 := Pl.mul_bd v1 v2 v1 v2
  have p1 : 0 ≤ u * u := by rcases Int.le_total 0 u with h | h; exact Int.mul_nonneg h h; exact Int.mul_nonneg_of_nonpos_of_nonpos h h
  have p2 : 0 ≤ v * v := by rcases Int.le_total 0 v with h | h; exact Int.mul_nonneg h h; exact Int.mul_nonneg_of_nonpos_of_nonpos h h
  omega
/-- the distance -/
def farS (a b : Int × Int) : Int := Pl.isqrt ((b.1 - a.1) * (b.1 - a.1) + (b.2 - a.2) * (b.2 - a.2))

set_option maxHeartbeats 800000 in
theorem far_c (ax ay bx by' : Int) (w : World) (b1 : okPt (ax, ay) = true) (b2 : okPt (bx, by') = true) :
    Calls Try.prog 59 #[.agg #[.int .i64 ax, .int .i64 ay], .agg #[.int .i64 bx, .int .i64 by']] w fun e w' => e = .returned (.int .i64 (farS (ax, ay) (bx, by'))) ∧ Ext w w' := by
  obtain ⟨a1, a2, a3, a4⟩ := okPt_bd b1
  obtain ⟨a5, a6, a7, a8⟩ := okPt_bd b2
  obtain ⟨c1, c2, c3, c4⟩ := dist_bd (u := bx - ax) (v := by' - ay) (by omega) (by omega) (by omega) (by omega)
  unfold farS
  go_enter Try.func59, Try.ntmps59
  go_wp2
  go_quiet (fail)
  go_wp2_with (go_at_call 88; refine (root_c _ _ (by omega) (by omega)).mono ?_; rintro e w' ⟨rfl, rfl⟩)
  go_ret
  exact ⟨rfl, by (repeat' (first | exact Ext.refl _ | assumption | refine Ext.alloc ?_ _ | refine Ext.drew ?_ | refine Ext.drewN ?_ _ | refine Ext.set ?_ (by first | exact Nat.le_refl _ | exact le1 _ | exact le2 _ | exact le3 _ | exact le4 _ | exact le5 _ | exact le6 _) _ | refine Ext.trans ?_ (by assumption)))⟩

set_option maxHeartbeats 800000 in
theorem Far_c (ax ay bx by' : Int) (w : World) (b1 : okPt (ax, ay) = true) (b2 : okPt (bx, by') = true) :
    Calls Try.prog 93 #[.agg #[.int .i64 ax, .int .i64 ay], .agg #[.int .i64 bx, .int .i64 by']] w fun e w' => e = .returned (.int .i64 (farS (ax, ay) (bx, by'))) ∧ Ext w w' := by
  obtain ⟨a1, a2, a3, a4⟩ := okPt_bd b1
  obtain ⟨a5, a6, a7, a8⟩ := okPt_bd b2
  obtain ⟨c1, c2, c3, c4⟩ := dist_bd (u := bx - ax) (v := by' - ay) (by omega) (by omega) (by omega) (by omega)
  unfold farS
  go_enter Try.func93, Try.ntmps93
  go_wp2_with fail
  go_wp2_with (go_at_call 101; refine (Sqrt_c _ _ (by omega) (by omega)).mono ?_; rintro e w' ⟨rfl, rfl⟩)
  go_ret
  exact ⟨rfl, by (repeat' (first | exact Ext.refl _ | assumption | refine Ext.alloc ?_ _ | refine Ext.drew ?_ | refine Ext.drewN ?_ _ | refine Ext.set ?_ (by first | exact Nat.le_refl _ | exact le1 _ | exact le2 _ | exact le3 _ | exact le4 _ | exact le5 _ | exact le6 _) _ | refine Ext.trans ?_ (by assumption)))⟩

/-- 'Distance' -/
def distS (a b : Int × Int) : Int × Int := if okPt a && okPt b then (farS a b, 0) else (0, 2)
def i2V (p : Int × Int) : Value := .tuple #[.int .i64 p.1, .int .i64 p.2]

set_option maxHeartbeats 800000 in
theorem Distance_c (ax ay bx by' : Int) (w : World) :
    Calls Try.prog 23 #[.agg #[.int .i64 ax, .int .i64 ay], .agg #[.int .i64 bx, .int .i64 by']] w fun e w' => e = .returned (i2V (distS (ax, ay) (bx, by'))) ∧ Ext w w' := by
  cases h1 : (okPt (ax, ay) && okPt (bx, by'))
  · have hA : RowKit.Hid ([(ax, ay), (bx, by')].all okPt = false) := by simp [RowKit.Hid] at h1 ⊢; exact h1
    rw [show distS (ax, ay) (bx, by') = (0, 2) by simp only [distS, h1, Bool.false_eq_true, if_false]]
    unfold i2V
    clear h1
    go_enter Try.func23, Try.ntmps23
    go_wp2_with (go_at_call 58; refine (valid_c _ [(ax, ay), (bx, by')] _ (two_pts _ _ _ _ _ _ ?_ ?_ ?_ ?_)).mono ?_)
    · go_simp
    · go_simp
    · go_simp
    · go_simp
    rintro e w' ⟨he, hb2⟩
    rw [hA.out] at he; subst he
    go_wp2
    go_ret2
    exact ⟨rfl, by (repeat' (first | exact Ext.refl _ | assumption | refine Ext.alloc ?_ _ | refine Ext.drew ?_ | refine Ext.drewN ?_ _ | refine Ext.set ?_ (by first | exact Nat.le_refl _ | exact le1 _ | exact le2 _ | exact le3 _ | exact le4 _ | exact le5 _ | exact le6 _) _ | refine Ext.trans ?_ (by assumption)))⟩
  · have hA : RowKit.Hid ([(ax, ay), (bx, by')].all okPt = true) := by simp [RowKit.Hid] at h1 ⊢; exact h1
    rw [show distS (ax, ay) (bx, by') = (farS (ax, ay) (bx, by'), 0) by simp only [distS, h1, if_true]]
    unfold i2V
    simp only [Bool.and_eq_true] at h1
    have HF := Lib.hid (fun w => far_c ax ay bx by' w h1.1 h1.2)
    clear h1
    go_enter Try.func23, Try.ntmps23
    go_wp2_with (go_at_call 58; refine (valid_c _ [(ax, ay), (bx, by')] _ (two_pts _ _ _ _ _ _ ?_ ?_ ?_ ?_)).mono ?_)
    · go_simp
    · go_simp
    · go_simp
    · go_simp
    rintro e w' ⟨he, hb2⟩
    rw [hA.out] at he; subst he
    (first | (replace hb := Ext.trans hb hb2; clear hb2 hc hf; obtain ⟨hc, hf⟩ := bcell hb) | (obtain ⟨hc, hf⟩ := bcell hb2; have hb := hb2; clear hb2)); have hz := Ext.sz hb; repeat (first | rw [size_alloc] at hz | rw [size_drewN] at hz | rw [size_drew] at hz | rw [size_setCell] at hz)
    go_wp2_with (go_at_call 59; refine (HF.out _).mono ?_; rintro e w2 ⟨rfl, hb2⟩; (first | (replace hb := Ext.trans hb hb2; clear hb2 hc hf; obtain ⟨hc, hf⟩ := bcell hb) | (obtain ⟨hc, hf⟩ := bcell hb2; have hb := hb2; clear hb2)); have hz := Ext.sz hb; repeat (first | rw [size_alloc] at hz | rw [size_drewN] at hz | rw [size_drew] at hz | rw [size_setCell] at hz))
    go_ret2
    exact ⟨rfl, by (repeat' (first | exact Ext.refl _ | assumption | refine Ext.alloc ?_ _ | refine Ext.drew ?_ | refine Ext.drewN ?_ _ | refine Ext.set ?_ (by first | exact Nat.le_refl _ | exact le1 _ | exact le2 _ | exact le3 _ | exact le4 _ | exact le5 _ | exact le6 _) _ | refine Ext.trans ?_ (by assumption)))⟩

end Go.Proofs.Ytgikfliibimkdaa


/- Contracts: the order of points, and how they turn, also beyond a plane's limit. -/
import Derived.Test.YtkkeblgahbpmmaaHullMath
import Derived.Test.YtkkeblgahbpmmaaShelf
namespace Go.Proofs.Ytkkeblgahbpmmaa
open Go.RowKit Go.Shelf

/-- coordinates for which the cross product is right -/
def wideB (p : HPt) : Prop := (-536870912 ≤ p.1 ∧ p.1 ≤ 536870912) ∧ (-536870912 ≤ p.2 ∧ p.2 ≤ 536870912)
theorem cross_wide {a b c : HPt} (ha : wideB a) (hb : wideB b) (hc : wideB c) :
    IntKind.i64.wrap (b.1 - a.1) = b.1 - a.1 ∧ IntKind.i64.wrap (c.2 - a.2) = c.2 - a.2 ∧ IntKind.i64.wrap (b.2 - a.2) = b.2 - a.2 ∧ IntKind.i64.wrap (c.1 - a.1) = c.1 - a.1 ∧
    IntKind.i64.wrap ((b.1 - a.1) * (c.2 - a.2)) = (b.1 - a.1) * (c.2 - a.2) ∧ IntKind.i64.wrap ((b.2 - a.2) * (c.1 - a.1)) = (b.2 - a.2) * (c.1 - a.1) ∧
    IntKind.i64.wrap ((b.1 - a.1) * (c.2 - a.2) - (b.2 - a.2) * (c.1 - a.1)) = (b.1 - a.1) * (c.2 - a.2) - (b.2 - a.2) * (c.1 - a.1) := by
  have key : ∀ u v : Int, -1073741824 ≤ u → u ≤ 1073741824 → -1073741824 ≤ v → v ≤ 1073741824 → -1152921504606846976 ≤ u * v ∧ u * v ≤ 1152921504606846976 := by
    intro u v h1 h2 h3 h4
    have a1 : (1073741824 - u) * (1073741824 + v) ≥ 0 := Int.mul_nonneg (by omega) (by omega)
    have a2 : (1073741824 + u) * (1073741824 - v) ≥ 0 := Int.mul_nonneg (by omega) (by omega)
    have a3 : (1073741824 - u) * (1073741824 - v) ≥ 0 := Int.mul_nonneg (by omega) (by omega)
    have a4 : (1073741824 + u) * (1073741824 + v) ≥ 0 := Int.mul_nonneg (by omega) (by omega)
    simp only [Int.sub_mul, Int.add_mul, Int.mul_sub, Int.mul_add] at a1 a2 a3 a4
    omega
  unfold wideB at *
  have k1 := key (b.1 - a.1) (c.2 - a.2) (by omega) (by omega) (by omega) (by omega)
  have k2 := key (b.2 - a.2) (c.1 - a.1) (by omega) (by omega) (by omega) (by omega)
  refine ⟨IntWalk.i64_in _ (by omega), IntWalk.i64_in _ (by omega), IntWalk.i64_in _ (by omega), IntWalk.i64_in _ (by omega), IntWalk.i64_in _ (by omega), IntWalk.i64_in _ (by omega), IntWalk.i64_in _ (by omega)⟩
set_option maxHeartbeats 800000 in
theorem crossW_c (a1 a2 b1 b2 c1 c2 : Int) (w : World) (ha : wideB (a1, a2)) (hb : wideB (b1, b2)) (hc : wideB (c1, c2)) :
    Calls Try.prog 103 #[.agg #[.int .i64 a1, .int .i64 a2], .agg #[.int .i64 b1, .int .i64 b2], .agg #[.int .i64 c1, .int .i64 c2]] w fun e w' => e = .returned (.int .i64 (crossP (a1, a2) (b1, b2) (c1, c2))) ∧ Ext w w' := by
  obtain ⟨e1, e2, e3, e4, e5, e6, e7⟩ := cross_wide ha hb hc
  simp only at e1 e2 e3 e4 e5 e6 e7
  unfold crossP
  clear ha hb hc
  go_enter Try.func103, Try.ntmps103
  go_wp2
  go_ret
  exact ⟨rfl, by (repeat' (first | exact Ext.refl _ | assumption | refine Ext.alloc ?_ _ | refine Ext.drew ?_ | refine Ext.drewN ?_ _ | refine Ext.set ?_ (by first | exact Nat.le_refl _ | exact le1 _ | exact le2 _ | exact le3 _ | exact le4 _ | exact le5 _ | exact le6 _) _ | refine Ext.trans ?_ (by assumption)))⟩
set_option maxHeartbeats 800000 in
theorem right_c (a1 a2 b1 b2 c1 c2 : Int) (w : World) (ha : wideB (a1, a2)) (hb : wideB (b1, b2)) (hc : wideB (c1, c2)) :
    Calls Try.prog 102 #[.agg #[.int .i64 a1, .int .i64 a2], .agg #[.int .i64 b1, .int .i64 b2], .agg #[.int .i64 c1, .int .i64 c2]] w fun e w' => e = .returned (.bool (decide (crossP (a1, a2) (b1, b2) (c1, c2) ≤ 0))) ∧ Ext w w' := by
  have C := Lib.hid (fun w => crossW_c a1 a2 b1 b2 c1 c2 w ha hb hc)
  generalize crossP (a1, a2) (b1, b2) (c1, c2) = X at *
  clear ha hb hc
  go_enter Try.func102, Try.ntmps102
  go_wp2_with (go_at_call 103; refine (C.out _).mono ?_; rintro e w1 ⟨rfl, hb1⟩)
  go_ret
  exact ⟨by simp, by (repeat' (first | exact Ext.refl _ | assumption | refine Ext.alloc ?_ _ | refine Ext.drew ?_ | refine Ext.drewN ?_ _ | refine Ext.set ?_ (by first | exact Nat.le_refl _ | exact le1 _ | exact le2 _ | exact le3 _ | exact le4 _ | exact le5 _ | exact le6 _) _ | refine Ext.trans ?_ (by assumption)))⟩
theorem before_iff (a b : HPt) : decide (ltP a b) = (decide (a.1 < b.1) || (decide (a.1 = b.1) && decide (a.2 < b.2))) := by
  rw [Bool.eq_iff_iff]
  simp only [decide_eq_true_eq, Bool.or_eq_true, Bool.and_eq_true]
  exact Iff.rfl
def signP (x : Int) : Int := if 0 < x then 1 else if x < 0 then -1 else 0
end Go.Proofs.Ytkkeblgahbpmmaa

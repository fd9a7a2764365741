
/- Contracts of the number functions that are exported: Floor, Nearest, Root, Check, Turn (both texts). -/
import Derived.Test.YtgikfliibimkdaaDist
namespace Go.Proofs.Ytgikfliibimkdaa
open Go.RowKit

def floorS (n d : Int) : Int × Int := if inB n (-2305843009213693952) 2305843009213693952 && inB d 1 2305843009213693952 then (n / d, 0) else (0, 3)
def nearestS (n d : Int) : Int × Int := if inB n (-2305843009213693952) 2305843009213693952 && inB d 1 2305843009213693952 then (Pl.near n d, 0) else (0, 3)
def rootS (n : Int) : Int × Int := if n < 0 then (0, 2) else (Pl.isqrt n, 0)
def checkS (p : Int × Int) : Int := if okPt p then 0 else 2
def crossS (a b c : Int × Int) : Int := (b.1 - a.1) * (c.2 - a.2) - (b.2 - a.2) * (c.1 - a.1)
def sgn (x : Int) : Int := if x < 0 then -1 else if 0 < x then 1 else 0
def turnS (a b c : Int × Int) : Int × Int := if okPt a && (okPt b && okPt c) then (sgn (crossS a b c), 0) else (0, 2)
theorem sgn_neg {x : Int} (h : x < 0) : sgn x = -1 := by simp [sgn, h]
theorem sgn_pos {x : Int} (h : 0 < x) : sgn x = 1 := by unfold sgn; rw [if_neg (by omega), if_pos h]
theorem sgn_zero : sgn 0 = 0 := rfl

set_option maxHeartbeats 800000 in
theorem Check_c (x y : Int) (w : World) :
    Calls Try.prog 40 #[.agg #[.int .i64 x, .int .i64 y]] w fun e w' => e = .returned (.int .i64 (checkS (x, y))) ∧ Ext w w' := by
  cases h : okPt (x, y)
  · have hA : RowKit.Hid ([(x, y)].all okPt = false) := by simp [RowKit.Hid, h]
    rw [show checkS (x, y) = 2 by simp [checkS, h]]
    clear h
    go_enter Try.func40, Try.ntmps40
    go_wp2_with (go_at_call 58; refine (valid_c _ [(x, y)] _ (one_pts _ _ _ _ ?_ ?_)).mono ?_)
    · go_simp
    · go_simp
    rintro e w' ⟨he, hb2⟩
    rw [hA.out] at he; subst he
    go_wp2
    go_ret
    exact ⟨rfl, by (repeat' (first | exact Ext.refl _ | assumption | refine Ext.alloc ?_ _ | refine Ext.drew ?_ | refine Ext.drewN ?_ _ | refine Ext.set ?_ (by first | exact Nat.le_refl _ | exact le1 _ | exact le2 _ | exact le3 _ | exact le4 _ | exact le5 _ | exact le6 _) _ | refine Ext.trans ?_ (by assumption)))⟩
  · have hA : RowKit.Hid ([(x, y)].all okPt = true) := by simp [RowKit.Hid, h]
    rw [show checkS (x, y) = 0 by simp [checkS, h]]
    clear h
    go_enter Try.func40, Try.ntmps40
    go_wp2_with (go_at_call 58; refine (valid_c _ [(x, y)] _ (one_pts _ _ _ _ ?_ ?_)).mono ?_)
    · go_simp
    · go_simp
    rintro e w' ⟨he, hb2⟩
    rw [hA.out] at he; subst he
    go_wp2
    go_ret
    exact ⟨rfl, by (repeat' (first | exact Ext.refl _ | assumption | refine Ext.alloc ?_ _ | refine Ext.drew ?_ | refine Ext.drewN ?_ _ | refine Ext.set ?_ (by first | exact Nat.le_refl _ | exact le1 _ | exact le2 _ | exact le3 _ | exact le4 _ | exact le5 _ | exact le6 _) _ | refine Ext.trans ?_ (by assumption)))⟩

theorem cross_bds {ax ay bx by' cx cy : Int} (h1 : okPt (ax, ay) = true) (h2 : okPt (bx, by') = true) (h3 : okPt (cx, cy) = true) :
    (-33554432 ≤ bx - ax ∧ bx - ax ≤ 33554432) ∧ (-33554432 ≤ cy - ay ∧ cy - ay ≤ 33554432) ∧ (-33554432 ≤ by' - ay ∧ by' - ay ≤ 33554432) ∧ (-33554432 ≤ cx - ax ∧ cx - ax ≤ 33554432) ∧
    (-1125899906842624 ≤ (bx - ax) * (cy - ay) ∧ (bx - ax) * (cy - ay) ≤ 1125899906842624) ∧ (-1125899906842624 ≤ (by' - ay) * (cx - ax) ∧ (by' - ay) * (cx - ax) ≤ 1125899906842624) := by
  obtain ⟨a1, a2, a3, a4⟩ := okPt_bd h1
  obtain ⟨a5, a6, a7, a8⟩ := okPt_bd h2
  obtain ⟨a9, a10, a11, a12⟩ := okPt_bd h3
  have m1 := Pl.mul_bd (a := bx - ax) (b := cy - ay) (A := 33554432) (B := 33554432) (by omega) (by omega) (by omega) (by omega)
  have m2 := Pl.mul_bd (a := by' - ay) (b := cx - ax) (A := 33554432) (B := 33554432) (by omega) (by omega) (by omega) (by omega)
  omega

theorem sgn_sub (x y : Int) : sgn (x - y) = if x < y then -1 else if y < x then 1 else 0 := by
  unfold sgn
  by_cases h : x < y
  · rw [if_pos (by omega), if_pos h]
  · rw [if_neg (by omega), if_neg h]
    by_cases h2 : y < x
    · rw [if_pos (by omega), if_pos h2]
    · rw [if_neg (by omega), if_neg h2]
theorem three_pts (w : World) (x y z u s t : Int) (b : Nat) (h1 : w.cell? ⟨b, 0, none⟩ = some (.int .i64 x)) (h2 : w.cell? ⟨b, 1, none⟩ = some (.int .i64 y)) (h3 : w.cell? ⟨b, 2, none⟩ = some (.int .i64 z)) (h4 : w.cell? ⟨b, 3, none⟩ = some (.int .i64 u)) (h5 : w.cell? ⟨b, 4, none⟩ = some (.int .i64 s)) (h6 : w.cell? ⟨b, 5, none⟩ = some (.int .i64 t)) : Pts w (.slice (some ⟨b, 0, none⟩) 3 3) [(x, y), (z, u), (s, t)] :=
  .inr ⟨b, 0, 3, rfl, by simp, by simp, fun i hi => by
    have : i = 0 ∨ i = 1 ∨ i = 2 := by simp at hi; omega
    rcases this with rfl | rfl | rfl
    · exact ⟨h1, h2⟩
    · exact ⟨h3, h4⟩
    · exact ⟨h5, h6⟩⟩

end Go.Proofs.Ytgikfliibimkdaa

/- Contracts of the number functions that are exported: Floor, Nearest, Root, Check, Turn (both texts). -/
import Derived.Test.YtngmhmpejjcngaaDist
namespace Go.Proofs.Ytngmhmpejjcngaa
open Go.RowKit

def floorS (n d : Int) : Int × Int := if inB n (-2305843009213693952) 2305843009213693952 && inB d 1 2305843009213693952 then (n / d, 0) else (0, 3)
def nearestS (n d : Int) : Int × Int := if inB n (-2305843009213693952) 2305843009213693952 && inB d 1 2305843009213693952 then (Pl.near n d, 0) else (0, 3)
def rootS (n : Int) : Int × Int := if n < 0 then (0, 2) else (Pl.isqrt n, 0)
def checkS (p : Int × Int) : Int := if okPt p then 0 else 2
def crossS (a b c : Int × Int) : Int := (b.1 - a.1) * (c.2 - a.2) - (b.2 - a.2) * (c.1 - a.1)
def sgn (x : Int) : Int := if x < 0 then -1 else if 0 < x then 1 else 0
def turnS (a b c : Int × Int) : Int × Int := if okPt a && (okPt b && okPt c) then (sgn (crossS a b c), 0) else (0, 2)
theorem sgn_neg {x : Int} (h : x < 0) : sgn x = -1 := by simp [sgn, h]
theorem sgn_pos {x : Int} (h : 0 < x) : sgn x = 1 := by unfold sgn; rw [if_neg (by omega), if_pos h]
theorem sgn_zero : sgn 0 = 0 := rfl

set_option maxHeartbeats 800000 in
theorem Floor_c (n d : Int) (w : World) :
    Calls Try.prog 30 #[.int .i64 n, .int .i64 d] w fun e w' => e = .returned (i2V (floorS n d)) ∧ w = w' := by
  cases h1 : inB n (-2305843009213693952) 2305843009213693952
  · rw [show floorS n d = (0, 3) by simp [floorS, h1]]
    unfold i2V
    go_enter Try.func30, Try.ntmps30
    go_wp2_with (go_at_call 67; refine (within_c _ _ _ _).mono ?_; rintro e w' ⟨rfl, rfl⟩)
    go_ret2
    exact ⟨rfl, rfl⟩
  cases h2 : inB d 1 2305843009213693952
  · rw [show floorS n d = (0, 3) by simp [floorS, h2]]
    unfold i2V
    go_enter Try.func30, Try.ntmps30
    go_wp2_with (go_at_call 67; refine (within_c _ _ _ _).mono ?_; rintro e w' ⟨rfl, rfl⟩)
    go_ret2
    exact ⟨rfl, rfl⟩
  rw [show floorS n d = (n / d, 0) by simp [floorS, h1, h2]]
  unfold i2V
  obtain ⟨a1, a2⟩ := inB_iff.1 h1
  obtain ⟨a3, a4⟩ := inB_iff.1 h2
  go_enter Try.func30, Try.ntmps30
  go_wp2_with (first
    | (go_at_call 67; refine (within_c _ _ _ _).mono ?_; rintro e w' ⟨rfl, rfl⟩)
    | (go_at_call 79; refine (down_c _ _ _ (by omega) (by omega) (by omega) (by omega)).mono ?_; rintro e w' ⟨rfl, rfl⟩))
  go_ret2
  exact ⟨rfl, rfl⟩

set_option maxHeartbeats 800000 in
theorem RFloor_c (n d : Int) (w : World) :
    Calls Try.prog 31 #[.int .i64 n, .int .i64 d] w fun e w' => e = .returned (i2V (floorS n d)) ∧ w = w' := by
  cases h1 : inB n (-2305843009213693952) 2305843009213693952
  · rw [show floorS n d = (0, 3) by simp [floorS, h1]]
    unfold i2V
    go_enter Try.func31, Try.ntmps31
    go_wp2_with (go_at_call 70; refine (In_c _ _ _ _).mono ?_; rintro e w' ⟨rfl, rfl⟩)
    go_ret2
    exact ⟨rfl, rfl⟩
  cases h2 : inB d 1 2305843009213693952
  · rw [show floorS n d = (0, 3) by simp [floorS, h2]]
    unfold i2V
    go_enter Try.func31, Try.ntmps31
    go_wp2_with (go_at_call 70; refine (In_c _ _ _ _).mono ?_; rintro e w' ⟨rfl, rfl⟩)
    go_ret2
    exact ⟨rfl, rfl⟩
  rw [show floorS n d = (n / d, 0) by simp [floorS, h1, h2]]
  unfold i2V
  obtain ⟨a1, a2⟩ := inB_iff.1 h1
  obtain ⟨a3, a4⟩ := inB_iff.1 h2
  go_enter Try.func31, Try.ntmps31
  go_wp2_with (first
    | (go_at_call 70; refine (In_c _ _ _ _).mono ?_; rintro e w' ⟨rfl, rfl⟩)
    | (go_at_call 80; refine (Down_c _ _ _ (by omega) (by omega) (by omega) (by omega)).mono ?_; rintro e w' ⟨rfl, rfl⟩))
  go_ret2
  exact ⟨rfl, rfl⟩

set_option maxHeartbeats 800000 in
theorem Nearest_c (n d : Int) (w : World) :
    Calls Try.prog 32 #[.int .i64 n, .int .i64 d] w fun e w' => e = .returned (i2V (nearestS n d)) ∧ w = w' := by
  cases h1 : inB n (-2305843009213693952) 2305843009213693952
  · rw [show nearestS n d = (0, 3) by simp [nearestS, h1]]
    unfold i2V
    go_enter Try.func32, Try.ntmps32
    go_wp2_with (go_at_call 67; refine (within_c _ _ _ _).mono ?_; rintro e w' ⟨rfl, rfl⟩)
    go_ret2
    exact ⟨rfl, rfl⟩
  cases h2 : inB d 1 2305843009213693952
  · rw [show nearestS n d = (0, 3) by simp [nearestS, h2]]
    unfold i2V
    go_enter Try.func32, Try.ntmps32
    go_wp2_with (go_at_call 67; refine (within_c _ _ _ _).mono ?_; rintro e w' ⟨rfl, rfl⟩)
    go_ret2
    exact ⟨rfl, rfl⟩
  rw [show nearestS n d = (Pl.near n d, 0) by simp [nearestS, h1, h2]]
  unfold i2V
  obtain ⟨a1, a2⟩ := inB_iff.1 h1
  obtain ⟨a3, a4⟩ := inB_iff.1 h2
  go_enter Try.func32, Try.ntmps32
  go_wp2_with (first
    | (go_at_call 67; refine (within_c _ _ _ _).mono ?_; rintro e w' ⟨rfl, rfl⟩)
    | (go_at_call 77; refine (near_c _ _ _ (by omega) (by omega) (by omega) (by omega)).mono ?_; rintro e w' ⟨rfl, rfl⟩))
  go_ret2
  exact ⟨rfl, rfl⟩

set_option maxHeartbeats 800000 in
theorem RNearest_c (n d : Int) (w : World) :
    Calls Try.prog 33 #[.int .i64 n, .int .i64 d] w fun e w' => e = .returned (i2V (nearestS n d)) ∧ w = w' := by
  cases h1 : inB n (-2305843009213693952) 2305843009213693952
  · rw [show nearestS n d = (0, 3) by simp [nearestS, h1]]
    unfold i2V
    go_enter Try.func33, Try.ntmps33
    go_wp2_with (go_at_call 70; refine (In_c _ _ _ _).mono ?_; rintro e w' ⟨rfl, rfl⟩)
    go_ret2
    exact ⟨rfl, rfl⟩
  cases h2 : inB d 1 2305843009213693952
  · rw [show nearestS n d = (0, 3) by simp [nearestS, h2]]
    unfold i2V
    go_enter Try.func33, Try.ntmps33
    go_wp2_with (go_at_call 70; refine (In_c _ _ _ _).mono ?_; rintro e w' ⟨rfl, rfl⟩)
    go_ret2
    exact ⟨rfl, rfl⟩
  rw [show nearestS n d = (Pl.near n d, 0) by simp [nearestS, h1, h2]]
  unfold i2V
  obtain ⟨a1, a2⟩ := inB_iff.1 h1
  obtain ⟨a3, a4⟩ := inB_iff.1 h2
  go_enter Try.func33, Try.ntmps33
  go_wp2_with (first
    | (go_at_call 70; refine (In_c _ _ _ _).mono ?_; rintro e w' ⟨rfl, rfl⟩)
    | (go_at_call 81; refine (Near_c _ _ _ (by omega) (by omega) (by omega) (by omega)).mono ?_; rintro e w' ⟨rfl, rfl⟩))
  go_ret2
  exact ⟨rfl, rfl⟩

set_option maxHeartbeats 800000 in
theorem Root_c (n : Int) (w : World) (hn : n ≤ 9223372036854775807) :
    Calls Try.prog 34 #[.int .i64 n] w fun e w' => e = .returned (i2V (rootS n)) ∧ w = w' := by
  by_cases h : n < 0
  · rw [show rootS n = (0, 2) by simp [rootS, h]]
    unfold i2V
    go_enter Try.func34, Try.ntmps34
    go_wp2_with fail
    go_ret2
    exact ⟨rfl, rfl⟩
  · rw [show rootS n = (Pl.isqrt n, 0) by simp [rootS, h]]
    unfold i2V
    go_enter Try.func34, Try.ntmps34
    go_wp2_with (go_at_call 82; refine (root_c _ _ (by omega) (by omega)).mono ?_; rintro e w' ⟨rfl, rfl⟩)
    go_ret2
    exact ⟨rfl, rfl⟩

set_option maxHeartbeats 800000 in
theorem RRoot_c (n : Int) (w : World) (hn : n ≤ 9223372036854775807) :
    Calls Try.prog 35 #[.int .i64 n] w fun e w' => e = .returned (i2V (rootS n)) ∧ w = w' := by
  by_cases h : n < 0
  · rw [show rootS n = (0, 2) by simp [rootS, h]]
    unfold i2V
    go_enter Try.func35, Try.ntmps35
    go_wp2_with fail
    go_ret2
    exact ⟨rfl, rfl⟩
  · rw [show rootS n = (Pl.isqrt n, 0) by simp [rootS, h]]
    unfold i2V
    go_enter Try.func35, Try.ntmps35
    go_wp2_with (go_at_call 83; refine (Sqrt_c _ _ (by omega) (by omega)).mono ?_; rintro e w' ⟨rfl, rfl⟩)
    go_ret2
    exact ⟨rfl, rfl⟩

set_option maxHeartbeats 800000 in
theorem Check_c (x y : Int) (w : World) :
    Calls Try.prog 38 #[.agg #[.int .i64 x, .int .i64 y]] w fun e w' => e = .returned (.int .i64 (checkS (x, y))) ∧ Ext w w' := by
  cases h : okPt (x, y)
  · have hA : RowKit.Hid ([(x, y)].all okPt = false) := by simp [RowKit.Hid, h]
    rw [show checkS (x, y) = 2 by simp [checkS, h]]
    clear h
    go_enter Try.func38, Try.ntmps38
    go_wp2_with (go_at_call 66; refine (valid_c _ [(x, y)] _ (one_pts _ _ _ _ ?_ ?_)).mono ?_)
    · go_simp
    · go_simp
    rintro e w' ⟨he, hb2⟩
    rw [hA.out] at he; subst he
    go_wp2
    go_ret
    exact ⟨rfl, by (repeat' (first | exact Ext.refl _ | assumption | refine Ext.alloc ?_ _ | refine Ext.drew ?_ | refine Ext.drewN ?_ _ | refine Ext.set ?_ (by first | exact Nat.le_refl _ | exact le1 _ | exact le2 _ | exact le3 _ | exact le4 _ | exact le5 _ | exact le6 _) _ | refine Ext.trans ?_ (by assumption)))⟩
  · have hA : RowKit.Hid ([(x, y)].all okPt = true) := by simp [RowKit.Hid, h]
    rw [show checkS (x, y) = 0 by simp [checkS, h]]
    clear h
    go_enter Try.func38, Try.ntmps38
    go_wp2_with (go_at_call 66; refine (valid_c _ [(x, y)] _ (one_pts _ _ _ _ ?_ ?_)).mono ?_)
    · go_simp
    · go_simp
    rintro e w' ⟨he, hb2⟩
    rw [hA.out] at he; subst he
    go_wp2
    go_ret
    exact ⟨rfl, by (repeat' (first | exact Ext.refl _ | assumption | refine Ext.alloc ?_ _ | refine Ext.drew ?_ | refine Ext.drewN ?_ _ | refine Ext.set ?_ (by first | exact Nat.le_refl _ | exact le1 _ | exact le2 _ | exact le3 _ | exact le4 _ | exact le5 _ | exact le6 _) _ | refine Ext.trans ?_ (by assumption)))⟩

set_option maxHeartbeats 800000 in
theorem RCheck_c (x y : Int) (w : World) :
    Calls Try.prog 39 #[.agg #[.int .i64 x, .int .i64 y]] w fun e w' => e = .returned (.int .i64 (checkS (x, y))) ∧ Ext w w' := by
  unfold checkS
  cases h : okPt (x, y)
  all_goals
    go_enter Try.func39, Try.ntmps39
    go_wp2_with (go_at_call 69; refine (Is_c _ _ _).mono ?_; rintro e w' ⟨rfl, hb2⟩)
    go_ret
    exact ⟨rfl, by (repeat' (first | exact Ext.refl _ | assumption | refine Ext.alloc ?_ _ | refine Ext.drew ?_ | refine Ext.drewN ?_ _ | refine Ext.set ?_ (by first | exact Nat.le_refl _ | exact le1 _ | exact le2 _ | exact le3 _ | exact le4 _ | exact le5 _ | exact le6 _) _ | refine Ext.trans ?_ (by assumption)))⟩

theorem cross_bds {ax ay bx by' cx cy : Int} (h1 : okPt (ax, ay) = true) (h2 : okPt (bx, by') = true) (h3 : okPt (cx, cy) = true) :
    (-33554432 ≤ bx - ax ∧ bx - ax ≤ 33554432) ∧ (-33554432 ≤ cy - ay ∧ cy - ay ≤ 33554432) ∧ (-33554432 ≤ by' - ay ∧ by' - ay ≤ 33554432) ∧ (-33554432 ≤ cx - ax ∧ cx - ax ≤ 33554432) ∧
    (-1125899906842624 ≤ (bx - ax) * (cy - ay) ∧ (bx - ax) * (cy - ay) ≤ 1125899906842624) ∧ (-1125899906842624 ≤ (by' - ay) * (cx - ax) ∧ (by' - ay) * (cx - ax) ≤ 1125899906842624) := by
  obtain ⟨a1, a2, a3, a4⟩ := okPt_bd h1
  obtain ⟨a5, a6, a7, a8⟩ := okPt_bd h2
  obtain ⟨a9, a10, a11, a12⟩ := okPt_bd h3
  have m1 := Pl.mul_bd (a := bx - ax) (b := cy - ay) (A := 33554432) (B := 33554432) (by omega) (by omega) (by omega) (by omega)
  have m2 := Pl.mul_bd (a := by' - ay) (b := cx - ax) (A := 33554432) (B := 33554432) (by omega) (by omega) (by omega) (by omega)
  omega

/-- no number is the one that is not -/
theorem isNaN_c (x : Int) (w : World) : Calls Try.prog 107 #[.int .i64 x] w fun e w' => e = .returned (.bool false) ∧ w = w' := by
  go_enter Try.func107, Try.ntmps107
  go_wp2
  go_ret
  exact ⟨rfl, rfl⟩
theorem sgn_sub (x y : Int) : sgn (x - y) = if x < y then -1 else if y < x then 1 else 0 := by
  unfold sgn
  by_cases h : x < y
  · rw [if_pos (by omega), if_pos h]
  · rw [if_neg (by omega), if_neg h]
    by_cases h2 : y < x
    · rw [if_pos (by omega), if_pos h2]
    · rw [if_neg (by omega), if_neg h2]
set_option maxHeartbeats 800000 in
theorem Compare_c (x y : Int) (w : World) : Calls Try.prog 84 #[.int .i64 x, .int .i64 y] w fun e w' => e = .returned (.int .i64 (sgn (x - y))) ∧ w = w' := by
  rw [sgn_sub]
  by_cases h : x < y
  · rw [if_pos h]
    go_enter Try.func84, Try.ntmps84
    go_wp2_with (go_at_call 107; refine (isNaN_c _ _).mono ?_; rintro e w' ⟨rfl, rfl⟩)
    go_ret
    exact ⟨rfl, rfl⟩
  · rw [if_neg h]
    by_cases h2 : y < x
    · rw [if_pos h2]
      go_enter Try.func84, Try.ntmps84
      go_wp2_with (go_at_call 107; refine (isNaN_c _ _).mono ?_; rintro e w' ⟨rfl, rfl⟩)
      go_ret
      exact ⟨rfl, rfl⟩
    · rw [if_neg h2]
      go_enter Try.func84, Try.ntmps84
      go_wp2_with (go_at_call 107; refine (isNaN_c _ _).mono ?_; rintro e w' ⟨rfl, rfl⟩)
      go_ret
      exact ⟨rfl, rfl⟩

set_option maxHeartbeats 800000 in
theorem cross_c (ax ay bx by' cx cy : Int) (w : World) (h1 : okPt (ax, ay) = true) (h2 : okPt (bx, by') = true) (h3 : okPt (cx, cy) = true) :
    Calls Try.prog 85 #[.agg #[.int .i64 ax, .int .i64 ay], .agg #[.int .i64 bx, .int .i64 by'], .agg #[.int .i64 cx, .int .i64 cy]] w fun e w' => e = .returned (.int .i64 (crossS (ax, ay) (bx, by') (cx, cy))) ∧ Ext w w' := by
  obtain ⟨⟨a1, a2⟩, ⟨a3, a4⟩, ⟨a5, a6⟩, ⟨a7, a8⟩, ⟨a9, a10⟩, a11, a12⟩ := cross_bds h1 h2 h3
  unfold crossS
  go_enter Try.func85, Try.ntmps85
  go_wp2_with fail
  go_ret
  exact ⟨rfl, by (repeat' (first | exact Ext.refl _ | assumption | refine Ext.alloc ?_ _ | refine Ext.drew ?_ | refine Ext.drewN ?_ _ | refine Ext.set ?_ (by first | exact Nat.le_refl _ | exact le1 _ | exact le2 _ | exact le3 _ | exact le4 _ | exact le5 _ | exact le6 _) _ | refine Ext.trans ?_ (by assumption)))⟩

set_option maxHeartbeats 800000 in
theorem Sign_c (ax ay bx by' cx cy : Int) (w : World) (h1 : okPt (ax, ay) = true) (h2 : okPt (bx, by') = true) (h3 : okPt (cx, cy) = true) :
    Calls Try.prog 86 #[.agg #[.int .i64 ax, .int .i64 ay], .agg #[.int .i64 bx, .int .i64 by'], .agg #[.int .i64 cx, .int .i64 cy]] w fun e w' => e = .returned (.int .i64 (sgn (crossS (ax, ay) (bx, by') (cx, cy)))) ∧ Ext w w' := by
  obtain ⟨⟨a1, a2⟩, ⟨a3, a4⟩, ⟨a5, a6⟩, ⟨a7, a8⟩, ⟨a9, a10⟩, a11, a12⟩ := cross_bds h1 h2 h3
  unfold crossS
  by_cases p : 0 < (bx - ax) * (cy - ay) - (by' - ay) * (cx - ax)
  · rw [sgn_pos p]
    go_enter Try.func86, Try.ntmps86
    go_wp2_with fail
    go_ret
    exact ⟨rfl, by (repeat' (first | exact Ext.refl _ | assumption | refine Ext.alloc ?_ _ | refine Ext.drew ?_ | refine Ext.drewN ?_ _ | refine Ext.set ?_ (by first | exact Nat.le_refl _ | exact le1 _ | exact le2 _ | exact le3 _ | exact le4 _ | exact le5 _ | exact le6 _) _ | refine Ext.trans ?_ (by assumption)))⟩
  · by_cases q : (bx - ax) * (cy - ay) - (by' - ay) * (cx - ax) < 0
    · rw [sgn_neg q]
      go_enter Try.func86, Try.ntmps86
      go_wp2_with fail
      go_ret
      exact ⟨rfl, by (repeat' (first | exact Ext.refl _ | assumption | refine Ext.alloc ?_ _ | refine Ext.drew ?_ | refine Ext.drewN ?_ _ | refine Ext.set ?_ (by first | exact Nat.le_refl _ | exact le1 _ | exact le2 _ | exact le3 _ | exact le4 _ | exact le5 _ | exact le6 _) _ | refine Ext.trans ?_ (by assumption)))⟩
    · have hz : sgn ((bx - ax) * (cy - ay) - (by' - ay) * (cx - ax)) = 0 := by
        rw [show (bx - ax) * (cy - ay) - (by' - ay) * (cx - ax) = 0 by omega]; rfl
      rw [hz]
      clear hz
      go_enter Try.func86, Try.ntmps86
      go_wp2_with fail
      go_ret
      exact ⟨rfl, by (repeat' (first | exact Ext.refl _ | assumption | refine Ext.alloc ?_ _ | refine Ext.drew ?_ | refine Ext.drewN ?_ _ | refine Ext.set ?_ (by first | exact Nat.le_refl _ | exact le1 _ | exact le2 _ | exact le3 _ | exact le4 _ | exact le5 _ | exact le6 _) _ | refine Ext.trans ?_ (by assumption)))⟩

theorem three_pts (w : World) (x y z u s t : Int) (b : Nat) (h1 : w.cell? ⟨b, 0, none⟩ = some (.int .i64 x)) (h2 : w.cell? ⟨b, 1, none⟩ = some (.int .i64 y)) (h3 : w.cell? ⟨b, 2, none⟩ = some (.int .i64 z)) (h4 : w.cell? ⟨b, 3, none⟩ = some (.int .i64 u)) (h5 : w.cell? ⟨b, 4, none⟩ = some (.int .i64 s)) (h6 : w.cell? ⟨b, 5, none⟩ = some (.int .i64 t)) : Pts w (.slice (some ⟨b, 0, none⟩) 3 3) [(x, y), (z, u), (s, t)] :=
  .inr ⟨b, 0, 3, rfl, by simp, by simp, fun i hi => by
    have : i = 0 ∨ i = 1 ∨ i = 2 := by simp at hi; omega
    rcases this with rfl | rfl | rfl
    · exact ⟨h1, h2⟩
    · exact ⟨h3, h4⟩
    · exact ⟨h5, h6⟩⟩

set_option maxHeartbeats 800000 in
theorem Turn_c (ax ay bx by' cx cy : Int) (w : World) :
    Calls Try.prog 36 #[.agg #[.int .i64 ax, .int .i64 ay], .agg #[.int .i64 bx, .int .i64 by'], .agg #[.int .i64 cx, .int .i64 cy]] w fun e w' => e = .returned (i2V (turnS (ax, ay) (bx, by') (cx, cy))) ∧ Ext w w' := by
  cases h : okPt (ax, ay) && (okPt (bx, by') && okPt (cx, cy))
  · have hA : RowKit.Hid ([(ax, ay), (bx, by'), (cx, cy)].all okPt = false) := by simp [RowKit.Hid] at h ⊢; exact h
    rw [show turnS (ax, ay) (bx, by') (cx, cy) = (0, 2) by simp only [turnS, h, Bool.false_eq_true, if_false]]
    unfold i2V
    clear h
    go_enter Try.func36, Try.ntmps36
    go_wp2_with (go_at_call 66; refine (valid_c _ [(ax, ay), (bx, by'), (cx, cy)] _ (three_pts _ _ _ _ _ _ _ _ ?_ ?_ ?_ ?_ ?_ ?_)).mono ?_)
    iterate 6 (· go_simp)
    rintro e w' ⟨he, hb2⟩
    rw [hA.out] at he; subst he
    go_wp2
    go_ret2
    exact ⟨rfl, by (repeat' (first | exact Ext.refl _ | assumption | refine Ext.alloc ?_ _ | refine Ext.drew ?_ | refine Ext.drewN ?_ _ | refine Ext.set ?_ (by first | exact Nat.le_refl _ | exact le1 _ | exact le2 _ | exact le3 _ | exact le4 _ | exact le5 _ | exact le6 _) _ | refine Ext.trans ?_ (by assumption)))⟩
  · have hA : RowKit.Hid ([(ax, ay), (bx, by'), (cx, cy)].all okPt = true) := by simp [RowKit.Hid] at h ⊢; exact h
    rw [show turnS (ax, ay) (bx, by') (cx, cy) = (sgn (crossS (ax, ay) (bx, by') (cx, cy)), 0) by simp only [turnS, h, if_true]]
    unfold i2V
    simp only [Bool.and_eq_true] at h
    have HC := Lib.hid (fun w => cross_c ax ay bx by' cx cy w h.1 h.2.1 h.2.2)
    clear h
    go_enter Try.func36, Try.ntmps36
    go_wp2_with (go_at_call 66; refine (valid_c _ [(ax, ay), (bx, by'), (cx, cy)] _ (three_pts _ _ _ _ _ _ _ _ ?_ ?_ ?_ ?_ ?_ ?_)).mono ?_)
    iterate 6 (· go_simp)
    rintro e w' ⟨he, hb2⟩
    rw [hA.out] at he; subst he
    (first | (replace hb := Ext.trans hb hb2; clear hb2 hc hf; obtain ⟨hc, hf⟩ := bcell hb) | (obtain ⟨hc, hf⟩ := bcell hb2; have hb := hb2; clear hb2)); have hz := Ext.sz hb; repeat (first | rw [size_alloc] at hz | rw [size_drewN] at hz | rw [size_drew] at hz | rw [size_setCell] at hz)
    go_wp2_with (first
      | (go_at_call 85; refine (HC.out _).mono ?_; rintro e w2 ⟨rfl, hb2⟩; (first | (replace hb := Ext.trans hb hb2; clear hb2 hc hf; obtain ⟨hc, hf⟩ := bcell hb) | (obtain ⟨hc, hf⟩ := bcell hb2; have hb := hb2; clear hb2)); have hz := Ext.sz hb; repeat (first | rw [size_alloc] at hz | rw [size_drewN] at hz | rw [size_drew] at hz | rw [size_setCell] at hz))
      | (go_at_call 84; refine (Compare_c _ _ _).mono ?_; rintro e w' ⟨he, rfl⟩; rw [Int.sub_zero] at he; subst he))
    go_ret2
    exact ⟨rfl, by (repeat' (first | exact Ext.refl _ | assumption | refine Ext.alloc ?_ _ | refine Ext.drew ?_ | refine Ext.drewN ?_ _ | refine Ext.set ?_ (by first | exact Nat.le_refl _ | exact le1 _ | exact le2 _ | exact le3 _ | exact le4 _ | exact le5 _ | exact le6 _) _ | refine Ext.trans ?_ (by assumption)))⟩

set_option maxHeartbeats 800000 in
theorem RTurn_c (ax ay bx by' cx cy : Int) (w : World) :
    Calls Try.prog 37 #[.agg #[.int .i64 ax, .int .i64 ay], .agg #[.int .i64 bx, .int .i64 by'], .agg #[.int .i64 cx, .int .i64 cy]] w fun e w' => e = .returned (i2V (turnS (ax, ay) (bx, by') (cx, cy))) ∧ Ext w w' := by
  unfold i2V turnS
  cases h1 : okPt (ax, ay)
  · go_enter Try.func37, Try.ntmps37
    go_wp2_with (go_at_call 69; refine (Is_c _ _ _).mono ?_; rintro e w' ⟨rfl, hb2⟩; (first | (replace hb := Ext.trans hb hb2; clear hb2 hc hf; obtain ⟨hc, hf⟩ := bcell hb) | (obtain ⟨hc, hf⟩ := bcell hb2; have hb := hb2; clear hb2)); have hz := Ext.sz hb; repeat (first | rw [size_alloc] at hz | rw [size_drewN] at hz | rw [size_drew] at hz | rw [size_setCell] at hz))
    go_ret2
    exact ⟨rfl, by (repeat' (first | exact Ext.refl _ | assumption | refine Ext.alloc ?_ _ | refine Ext.drew ?_ | refine Ext.drewN ?_ _ | refine Ext.set ?_ (by first | exact Nat.le_refl _ | exact le1 _ | exact le2 _ | exact le3 _ | exact le4 _ | exact le5 _ | exact le6 _) _ | refine Ext.trans ?_ (by assumption)))⟩
  cases h2 : okPt (bx, by')
  · go_enter Try.func37, Try.ntmps37
    go_wp2_with (go_at_call 69; refine (Is_c _ _ _).mono ?_; rintro e w' ⟨rfl, hb2⟩; (first | (replace hb := Ext.trans hb hb2; clear hb2 hc hf; obtain ⟨hc, hf⟩ := bcell hb) | (obtain ⟨hc, hf⟩ := bcell hb2; have hb := hb2; clear hb2)); have hz := Ext.sz hb; repeat (first | rw [size_alloc] at hz | rw [size_drewN] at hz | rw [size_drew] at hz | rw [size_setCell] at hz))
    go_ret2
    exact ⟨rfl, by (repeat' (first | exact Ext.refl _ | assumption | refine Ext.alloc ?_ _ | refine Ext.drew ?_ | refine Ext.drewN ?_ _ | refine Ext.set ?_ (by first | exact Nat.le_refl _ | exact le1 _ | exact le2 _ | exact le3 _ | exact le4 _ | exact le5 _ | exact le6 _) _ | refine Ext.trans ?_ (by assumption)))⟩
  cases h3 : okPt (cx, cy)
  · go_enter Try.func37, Try.ntmps37
    go_wp2_with (go_at_call 69; refine (Is_c _ _ _).mono ?_; rintro e w' ⟨rfl, hb2⟩; (first | (replace hb := Ext.trans hb hb2; clear hb2 hc hf; obtain ⟨hc, hf⟩ := bcell hb) | (obtain ⟨hc, hf⟩ := bcell hb2; have hb := hb2; clear hb2)); have hz := Ext.sz hb; repeat (first | rw [size_alloc] at hz | rw [size_drewN] at hz | rw [size_drew] at hz | rw [size_setCell] at hz))
    go_ret2
    exact ⟨rfl, by (repeat' (first | exact Ext.refl _ | assumption | refine Ext.alloc ?_ _ | refine Ext.drew ?_ | refine Ext.drewN ?_ _ | refine Ext.set ?_ (by first | exact Nat.le_refl _ | exact le1 _ | exact le2 _ | exact le3 _ | exact le4 _ | exact le5 _ | exact le6 _) _ | refine Ext.trans ?_ (by assumption)))⟩
  have HC := Lib.hid (fun w => Sign_c ax ay bx by' cx cy w h1 h2 h3)
  go_enter Try.func37, Try.ntmps37
  go_wp2_with (first
    | (go_at_call 69; refine (Is_c _ _ _).mono ?_; rintro e w' ⟨rfl, hb2⟩; (first | (replace hb := Ext.trans hb hb2; clear hb2 hc hf; obtain ⟨hc, hf⟩ := bcell hb) | (obtain ⟨hc, hf⟩ := bcell hb2; have hb := hb2; clear hb2)); have hz := Ext.sz hb; repeat (first | rw [size_alloc] at hz | rw [size_drewN] at hz | rw [size_drew] at hz | rw [size_setCell] at hz))
    | (go_at_call 86; refine (HC.out _).mono ?_; rintro e w2 ⟨rfl, hb2⟩; (first | (replace hb := Ext.trans hb hb2; clear hb2 hc hf; obtain ⟨hc, hf⟩ := bcell hb) | (obtain ⟨hc, hf⟩ := bcell hb2; have hb := hb2; clear hb2)); have hz := Ext.sz hb; repeat (first | rw [size_alloc] at hz | rw [size_drewN] at hz | rw [size_drew] at hz | rw [size_setCell] at hz)))
  go_ret2
  exact ⟨rfl, by (repeat' (first | exact Ext.refl _ | assumption | refine Ext.alloc ?_ _ | refine Ext.drew ?_ | refine Ext.drewN ?_ _ | refine Ext.set ?_ (by first | exact Nat.le_refl _ | exact le1 _ | exact le2 _ | exact le3 _ | exact le4 _ | exact le5 _ | exact le6 _) _ | refine Ext.trans ?_ (by assumption)))⟩
end Go.Proofs.Ytngmhmpejjcngaa

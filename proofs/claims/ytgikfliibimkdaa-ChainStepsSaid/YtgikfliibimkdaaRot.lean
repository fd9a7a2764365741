
/- Contracts on turns: CheckRot, Half (both texts), the divisors. -/
import Derived.Test.YtgikfliibimkdaaDist
namespace Go.Proofs.Ytgikfliibimkdaa
open Go.RowKit

abbrev Rot3 := Int × Int × Int
def okRot (c s n : Int) : Bool := inB n 1 16777216 && (inB c (-n) n && (inB s (-n) n && !(c * c + s * s != n * n)))
def rotV (q : Rot3 × Int) : Value := .tuple #[.agg #[.int .i64 q.1.1, .int .i64 q.1.2.1, .int .i64 q.1.2.2], .int .i64 q.2]
theorem okRot_bd {c s n : Int} (h : okRot c s n = true) : (1 ≤ n ∧ n ≤ 16777216) ∧ (-n ≤ c ∧ c ≤ n) ∧ (-n ≤ s ∧ s ≤ n) ∧ c * c + s * s = n * n := by
  simp only [okRot, Bool.and_eq_true, inB_iff, Bool.not_eq_true', bne_eq_false_iff_eq] at h
  exact h
theorem sq24 {x : Int} (h1 : -16777216 ≤ x) (h2 : x ≤ 16777216) : 0 ≤ x * x ∧ x * x ≤ 281474976710656 := by
  have a := Pl.mul_bd h1 h2 h1 h2
  have b : 0 ≤ x * x := by rcases Int.le_total 0 x with h | h; exact Int.mul_nonneg h h; exact Int.mul_nonneg_of_nonpos_of_nonpos h h
  omega

def errRot (c s n : Int) : Int := if okRot c s n then 0 else 2
theorem errRot_1 {c s n : Int} (h : inB n 1 16777216 = false) : errRot c s n = 2 := by simp [errRot, okRot, h]
theorem errRot_2 {c s n : Int} (h : inB c (-n) n = false) : errRot c s n = 2 := by simp [errRot, okRot, h]
theorem errRot_3 {c s n : Int} (h : inB s (-n) n = false) : errRot c s n = 2 := by simp [errRot, okRot, h]
theorem errRot_4 {c s n : Int} (h : (c * c + s * s != n * n) = true) : errRot c s n = 2 := by simp [errRot, okRot, h]
theorem errRot_5 {c s n : Int} (h1 : inB n 1 16777216 = true) (h2 : inB c (-n) n = true) (h3 : inB s (-n) n = true) (h : (c * c + s * s != n * n) = false) : errRot c s n = 0 := by simp [errRot, okRot, h1, h2, h3, h]

set_option maxHeartbeats 800000 in
theorem CheckRot_c (c s n : Int) (w : World) :
    Calls Try.prog 105 #[.agg #[.int .i64 c, .int .i64 s, .int .i64 n]] w fun e w' => e = .returned (.int .i64 (errRot c s n)) ∧ Ext w w' := by
  cases h1 : inB n 1 16777216
  · rw [errRot_1 h1]
    go_enter Try.func105, Try.ntmps105
    go_wp2_with (go_at_call 72; refine (within_c _ _ _ _).mono ?_; rintro e w' ⟨rfl, rfl⟩)
    go_ret
    exact ⟨rfl, by (repeat' (first | exact Ext.refl _ | assumption | refine Ext.alloc ?_ _ | refine Ext.drew ?_ | refine Ext.drewN ?_ _ | refine Ext.set ?_ (by first | exact Nat.le_refl _ | exact le1 _ | exact le2 _ | exact le3 _ | exact le4 _ | exact le5 _ | exact le6 _) _ | refine Ext.trans ?_ (by assumption)))⟩
  have g1 := inB_iff.1 h1
  cases h2 : inB c (-n) n
  · rw [errRot_2 h2]
    go_enter Try.func105, Try.ntmps105
    go_wp2_with (go_at_call 72; refine (within_c _ _ _ _).mono ?_; rintro e w' ⟨rfl, rfl⟩)
    go_ret
    exact ⟨rfl, by (repeat' (first | exact Ext.refl _ | assumption | refine Ext.alloc ?_ _ | refine Ext.drew ?_ | refine Ext.drewN ?_ _ | refine Ext.set ?_ (by first | exact Nat.le_refl _ | exact le1 _ | exact le2 _ | exact le3 _ | exact le4 _ | exact le5 _ | exact le6 _) _ | refine Ext.trans ?_ (by assumption)))⟩
  have g2 := inB_iff.1 h2
  cases h3 : inB s (-n) n
  · rw [errRot_3 h3]
    go_enter Try.func105, Try.ntmps105
    go_wp2_with (go_at_call 72; refine (within_c _ _ _ _).mono ?_; rintro e w' ⟨rfl, rfl⟩)
    go_ret
    exact ⟨rfl, by (repeat' (first | exact Ext.refl _ | assumption | refine Ext.alloc ?_ _ | refine Ext.drew ?_ | refine Ext.drewN ?_ _ | refine Ext.set ?_ (by first | exact Nat.le_refl _ | exact le1 _ | exact le2 _ | exact le3 _ | exact le4 _ | exact le5 _ | exact le6 _) _ | refine Ext.trans ?_ (by assumption)))⟩
  have g3 := inB_iff.1 h3
  obtain ⟨b1, b2⟩ := sq24 (x := n) (by omega) (by omega)
  obtain ⟨b3, b4⟩ := sq24 (x := c) (by omega) (by omega)
  obtain ⟨b5, b6⟩ := sq24 (x := s) (by omega) (by omega)
  cases h4 : (c * c + s * s != n * n)
  · rw [errRot_5 h1 h2 h3 h4]
    go_enter Try.func105, Try.ntmps105
    go_wp2_with (go_at_call 72; refine (within_c _ _ _ _).mono ?_; rintro e w' ⟨rfl, rfl⟩)
    go_ret
    exact ⟨rfl, by (repeat' (first | exact Ext.refl _ | assumption | refine Ext.alloc ?_ _ | refine Ext.drew ?_ | refine Ext.drewN ?_ _ | refine Ext.set ?_ (by first | exact Nat.le_refl _ | exact le1 _ | exact le2 _ | exact le3 _ | exact le4 _ | exact le5 _ | exact le6 _) _ | refine Ext.trans ?_ (by assumption)))⟩
  · rw [errRot_4 h4]
    go_enter Try.func105, Try.ntmps105
    go_wp2_with (go_at_call 72; refine (within_c _ _ _ _).mono ?_; rintro e w' ⟨rfl, rfl⟩)
    go_ret
    exact ⟨rfl, by (repeat' (first | exact Ext.refl _ | assumption | refine Ext.alloc ?_ _ | refine Ext.drew ?_ | refine Ext.drewN ?_ _ | refine Ext.set ?_ (by first | exact Nat.le_refl _ | exact le1 _ | exact le2 _ | exact le3 _ | exact le4 _ | exact le5 _ | exact le6 _) _ | refine Ext.trans ?_ (by assumption)))⟩

set_option maxHeartbeats 800000 in
theorem RCheckRot_c (c s n : Int) (w : World) :
    Calls Try.prog 106 #[.agg #[.int .i64 c, .int .i64 s, .int .i64 n]] w fun e w' => e = .returned (.int .i64 (errRot c s n)) ∧ Ext w w' := by
  cases h1 : inB n 1 16777216
  · rw [errRot_1 h1]
    go_enter Try.func106, Try.ntmps106
    go_wp2_with (go_at_call 81; refine (In_c _ _ _ _).mono ?_; rintro e w' ⟨rfl, rfl⟩)
    go_ret
    exact ⟨rfl, by (repeat' (first | exact Ext.refl _ | assumption | refine Ext.alloc ?_ _ | refine Ext.drew ?_ | refine Ext.drewN ?_ _ | refine Ext.set ?_ (by first | exact Nat.le_refl _ | exact le1 _ | exact le2 _ | exact le3 _ | exact le4 _ | exact le5 _ | exact le6 _) _ | refine Ext.trans ?_ (by assumption)))⟩
  have g1 := inB_iff.1 h1
  cases h2 : inB c (-n) n
  · rw [errRot_2 h2]
    go_enter Try.func106, Try.ntmps106
    go_wp2_with (go_at_call 81; refine (In_c _ _ _ _).mono ?_; rintro e w' ⟨rfl, rfl⟩)
    go_ret
    exact ⟨rfl, by (repeat' (first | exact Ext.refl _ | assumption | refine Ext.alloc ?_ _ | refine Ext.drew ?_ | refine Ext.drewN ?_ _ | refine Ext.set ?_ (by first | exact Nat.le_refl _ | exact le1 _ | exact le2 _ | exact le3 _ | exact le4 _ | exact le5 _ | exact le6 _) _ | refine Ext.trans ?_ (by assumption)))⟩
  have g2 := inB_iff.1 h2
  cases h3 : inB s (-n) n
  · rw [errRot_3 h3]
    go_enter Try.func106, Try.ntmps106
    go_wp2_with (go_at_call 81; refine (In_c _ _ _ _).mono ?_; rintro e w' ⟨rfl, rfl⟩)
    go_ret
    exact ⟨rfl, by (repeat' (first | exact Ext.refl _ | assumption | refine Ext.alloc ?_ _ | refine Ext.drew ?_ | refine Ext.drewN ?_ _ | refine Ext.set ?_ (by first | exact Nat.le_refl _ | exact le1 _ | exact le2 _ | exact le3 _ | exact le4 _ | exact le5 _ | exact le6 _) _ | refine Ext.trans ?_ (by assumption)))⟩
  have g3 := inB_iff.1 h3
  obtain ⟨b1, b2⟩ := sq24 (x := n) (by omega) (by omega)
  obtain ⟨b3, b4⟩ := sq24 (x := c) (by omega) (by omega)
  obtain ⟨b5, b6⟩ := sq24 (x := s) (by omega) (by omega)
  cases h4 : (c * c + s * s != n * n)
  · rw [errRot_5 h1 h2 h3 h4]
    go_enter Try.func106, Try.ntmps106
    go_wp2_with (go_at_call 81; refine (In_c _ _ _ _).mono ?_; rintro e w' ⟨rfl, rfl⟩)
    go_ret
    exact ⟨rfl, by (repeat' (first | exact Ext.refl _ | assumption | refine Ext.alloc ?_ _ | refine Ext.drew ?_ | refine Ext.drewN ?_ _ | refine Ext.set ?_ (by first | exact Nat.le_refl _ | exact le1 _ | exact le2 _ | exact le3 _ | exact le4 _ | exact le5 _ | exact le6 _) _ | refine Ext.trans ?_ (by assumption)))⟩
  · rw [errRot_4 h4]
    go_enter Try.func106, Try.ntmps106
    go_wp2_with (go_at_call 81; refine (In_c _ _ _ _).mono ?_; rintro e w' ⟨rfl, rfl⟩)
    go_ret
    exact ⟨rfl, by (repeat' (first | exact Ext.refl _ | assumption | refine Ext.alloc ?_ _ | refine Ext.drew ?_ | refine Ext.drewN ?_ _ | refine Ext.set ?_ (by first | exact Nat.le_refl _ | exact le1 _ | exact le2 _ | exact le3 _ | exact le4 _ | exact le5 _ | exact le6 _) _ | refine Ext.trans ?_ (by assumption)))⟩

def halfS (n d : Int) : Rot3 × Int := if inB d 1 2048 && inB n (-2048) 2048 then ((d * d - n * n, 2 * n * d, d * d + n * n), 0) else ((0, 0, 0), 2)

set_option maxHeartbeats 800000 in
theorem Half_c (n d : Int) (w : World) :
    Calls Try.prog 86 #[.int .i64 n, .int .i64 d] w fun e w' => e = .returned (rotV (halfS n d)) ∧ Ext w w' := by
  cases h1 : inB d 1 2048
  · rw [show halfS n d = ((0, 0, 0), 2) by simp [halfS, h1]]
    go_enter Try.func86, Try.ntmps86
    go_wp2_with (go_at_call 72; refine (within_c _ _ _ _).mono ?_; rintro e w' ⟨rfl, rfl⟩)
    exact bodyPost_ret (v := rotV ((0, 0, 0), 2)) (by simp [results, Try.results86, go_sem, rotV]) rfl ⟨rfl, by (repeat' (first | exact Ext.refl _ | assumption | refine Ext.alloc ?_ _ | refine Ext.drew ?_ | refine Ext.drewN ?_ _ | refine Ext.set ?_ (by first | exact Nat.le_refl _ | exact le1 _ | exact le2 _ | exact le3 _ | exact le4 _ | exact le5 _ | exact le6 _) _ | refine Ext.trans ?_ (by assumption)))⟩
  cases h2 : inB n (-2048) 2048
  · rw [show halfS n d = ((0, 0, 0), 2) by simp [halfS, h2]]
    go_enter Try.func86, Try.ntmps86
    go_wp2_with (go_at_call 72; refine (within_c _ _ _ _).mono ?_; rintro e w' ⟨rfl, rfl⟩)
    exact bodyPost_ret (v := rotV ((0, 0, 0), 2)) (by simp [results, Try.results86, go_sem, rotV]) rfl ⟨rfl, by (repeat' (first | exact Ext.refl _ | assumption | refine Ext.alloc ?_ _ | refine Ext.drew ?_ | refine Ext.drewN ?_ _ | refine Ext.set ?_ (by first | exact Nat.le_refl _ | exact le1 _ | exact le2 _ | exact le3 _ | exact le4 _ | exact le5 _ | exact le6 _) _ | refine Ext.trans ?_ (by assumption)))⟩
  obtain ⟨g1, g2⟩ := inB_iff.1 h1
  obtain ⟨g3, g4⟩ := inB_iff.1 h2
  have e1 : d * d - n * n = (d - n) * (d + n) := by grind
  rw [show halfS n d = (((d - n) * (d + n), 2 * n * d, d * d + n * n), 0) by simp [halfS, h1, h2, e1]]
  clear e1
  have m1 := Pl.mul_bd (a := d - n) (b := d + n) (A := 4096) (B := 4096) (by omega) (by omega) (by omega) (by omega)
  have m2 := Pl.mul_bd (a := 2 * n) (b := d) (A := 4096) (B := 2048) (by omega) (by omega) (by omega) (by omega)
  have m3 := Pl.mul_bd (a := d) (b := d) (A := 2048) (B := 2048) (by omega) (by omega) (by omega) (by omega)
  have m4 := Pl.mul_bd (a := n) (b := n) (A := 2048) (B := 2048) (by omega) (by omega) (by omega) (by omega)
  obtain ⟨m5, m6⟩ := m1
  obtain ⟨m7, m8⟩ := m2
  obtain ⟨m9, m10⟩ := m3
  obtain ⟨m11, m12⟩ := m4
  go_enter Try.func86, Try.ntmps86
  go_wp2_with (go_at_call 72; refine (within_c _ _ _ _).mono ?_; rintro e w' ⟨rfl, rfl⟩)
  exact bodyPost_ret (v := rotV (((d - n) * (d + n), 2 * n * d, d * d + n * n), 0)) (by simp [results, Try.results86, go_sem, rotV]) rfl ⟨rfl, by (repeat' (first | exact Ext.refl _ | assumption | refine Ext.alloc ?_ _ | refine Ext.drew ?_ | refine Ext.drewN ?_ _ | refine Ext.set ?_ (by first | exact Nat.le_refl _ | exact le1 _ | exact le2 _ | exact le3 _ | exact le4 _ | exact le5 _ | exact le6 _) _ | refine Ext.trans ?_ (by assumption)))⟩

set_option maxHeartbeats 800000 in
theorem RHalf_c (n d : Int) (w : World) :
    Calls Try.prog 89 #[.int .i64 n, .int .i64 d] w fun e w' => e = .returned (rotV (halfS n d)) ∧ Ext w w' := by
  cases h1 : inB d 1 2048
  · rw [show halfS n d = ((0, 0, 0), 2) by simp [halfS, h1]]
    go_enter Try.func89, Try.ntmps89
    go_wp2_with (go_at_call 81; refine (In_c _ _ _ _).mono ?_; rintro e w' ⟨rfl, rfl⟩)
    exact bodyPost_ret (v := rotV ((0, 0, 0), 2)) (by simp [results, Try.results89, go_sem, rotV]) rfl ⟨rfl, by (repeat' (first | exact Ext.refl _ | assumption | refine Ext.alloc ?_ _ | refine Ext.drew ?_ | refine Ext.drewN ?_ _ | refine Ext.set ?_ (by first | exact Nat.le_refl _ | exact le1 _ | exact le2 _ | exact le3 _ | exact le4 _ | exact le5 _ | exact le6 _) _ | refine Ext.trans ?_ (by assumption)))⟩
  cases h2 : inB n (-2048) 2048
  · rw [show halfS n d = ((0, 0, 0), 2) by simp [halfS, h2]]
    go_enter Try.func89, Try.ntmps89
    go_wp2_with (go_at_call 81; refine (In_c _ _ _ _).mono ?_; rintro e w' ⟨rfl, rfl⟩)
    exact bodyPost_ret (v := rotV ((0, 0, 0), 2)) (by simp [results, Try.results89, go_sem, rotV]) rfl ⟨rfl, by (repeat' (first | exact Ext.refl _ | assumption | refine Ext.alloc ?_ _ | refine Ext.drew ?_ | refine Ext.drewN ?_ _ | refine Ext.set ?_ (by first | exact Nat.le_refl _ | exact le1 _ | exact le2 _ | exact le3 _ | exact le4 _ | exact le5 _ | exact le6 _) _ | refine Ext.trans ?_ (by assumption)))⟩
  obtain ⟨g1, g2⟩ := inB_iff.1 h1
  obtain ⟨g3, g4⟩ := inB_iff.1 h2
  rw [show halfS n d = ((d * d - n * n, 2 * n * d, d * d + n * n), 0) by simp [halfS, h1, h2]]
  have m2 := Pl.mul_bd (a := 2 * n) (b := d) (A := 4096) (B := 2048) (by omega) (by omega) (by omega) (by omega)
  have m3 := Pl.mul_bd (a := d) (b := d) (A := 2048) (B := 2048) (by omega) (by omega) (by omega) (by omega)
  have m4 := Pl.mul_bd (a := n) (b := n) (A := 2048) (B := 2048) (by omega) (by omega) (by omega) (by omega)
  obtain ⟨m7, m8⟩ := m2
  obtain ⟨m9, m10⟩ := m3
  obtain ⟨m11, m12⟩ := m4
  go_enter Try.func89, Try.ntmps89
  go_wp2_with (go_at_call 81; refine (In_c _ _ _ _).mono ?_; rintro e w' ⟨rfl, rfl⟩)
  exact bodyPost_ret (v := rotV ((d * d - n * n, 2 * n * d, d * d + n * n), 0)) (by simp [results, Try.results89, go_sem, rotV]) rfl ⟨rfl, by (repeat' (first | exact Ext.refl _ | assumption | refine Ext.alloc ?_ _ | refine Ext.drew ?_ | refine Ext.drewN ?_ _ | refine Ext.set ?_ (by first | exact Nat.le_refl _ | exact le1 _ | exact le2 _ | exact le3 _ | exact le4 _ | exact le5 _ | exact le6 _) _ | refine Ext.trans ?_ (by assumption)))⟩

/-! the divisors -/
def gcdI (a b : Int) : Int := (Nat.gcd a.natAbs b.natAbs : Int)
theorem gcdI_zero (a : Int) (h : 0 ≤ a) : gcdI a 0 = a := by simp only [gcdI, Int.natAbs_zero, Nat.gcd_zero_right]; omega
theorem gcdI_step (a b : Int) (ha : 0 ≤ a) (hb : 1 ≤ b) : gcdI b (a % b) = gcdI a b := by
  obtain ⟨m, rfl⟩ := Int.eq_ofNat_of_zero_le ha
  obtain ⟨n, rfl⟩ := Int.eq_ofNat_of_zero_le (show 0 ≤ b by omega)
  rw [show ((m : Int) % (n : Int)) = ((m % n : Nat) : Int) from rfl]
  simp only [gcdI, Int.natAbs_natCast]
  rw [Nat.gcd_comm n, ← Nat.gcd_rec, Nat.gcd_comm]
theorem gcdI_nonneg (a b : Int) : 0 ≤ gcdI a b := Int.natCast_nonneg _

end Go.Proofs.Ytgikfliibimkdaa

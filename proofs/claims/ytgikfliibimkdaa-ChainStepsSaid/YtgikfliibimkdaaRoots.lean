
/- Contracts of the two roots. -/
import Derived.Test.YtgikfliibimkdaaNums
namespace Go.Proofs.Ytgikfliibimkdaa
open Go.RowKit

namespace Pl
def half : Nat → Int
  | 0 => 0
  | k + 1 => 2 ^ k
theorem half_bd (k : Nat) (h : k ≤ 32) : 0 ≤ half k ∧ half k ≤ 2147483648 := by
  cases k with
  | zero => exact ⟨by simp [half], by simp [half]⟩
  | succ j =>
    have h1 : (2 : Int) ^ j ≤ 2 ^ 31 := by
      have := Nat.pow_le_pow_right (n := 2) (by omega) (show j ≤ 31 by omega)
      exact_mod_cast this
    have h2 : (0 : Int) < 2 ^ j := by exact_mod_cast Nat.pow_pos (n := j) (show 0 < 2 by omega)
    refine ⟨by simp [half]; omega, ?_⟩
    have h3 : (2 : Int) ^ 31 = 2147483648 := by decide
    simp only [half]; omega
theorem half_pos (k : Nat) : 1 ≤ half (k + 1) := by
  have h2 : (0 : Int) < 2 ^ k := by exact_mod_cast Nat.pow_pos (n := k) (show 0 < 2 by omega)
  simp only [half]; omega
theorem half_half (k : Nat) : half (k + 1) / 2 = half k := by
  cases k with
  | zero => decide
  | succ j => simp only [half]; rw [Int.pow_succ]; omega
theorem pow_half (k : Nat) : (2 : Int) ^ (k + 1) = 2 * half (k + 1) := by
  simp only [half]; rw [Int.pow_succ]; omega
end Pl

/-- what the reference's loop holds: the root so far, and how many digits are to come -/
def SqRel (n R : Int) (k : Nat) : Prop := 0 ≤ R ∧ R * R ≤ n ∧ n < (R + 2 ^ k) * (R + 2 ^ k) ∧ R + 2 ^ k ≤ 4294967296
theorem SqRel.take {n R : Int} {j : Nat} (h : SqRel n R (j + 1)) (h1 : (R + Pl.half (j + 1)) * (R + Pl.half (j + 1)) ≤ n) : SqRel n (R + Pl.half (j + 1)) j := by
  obtain ⟨a, b, c, d⟩ := h
  rw [Pl.pow_half] at c d
  have := Pl.half_pos j
  have e : (2 : Int) ^ j = Pl.half (j + 1) := rfl
  refine ⟨by omega, h1, ?_, ?_⟩
  · rw [e]; rwa [show R + Pl.half (j + 1) + Pl.half (j + 1) = R + 2 * Pl.half (j + 1) by omega]
  · rw [e]; omega
theorem SqRel.leave {n R : Int} {j : Nat} (h : SqRel n R (j + 1)) (h1 : n < (R + Pl.half (j + 1)) * (R + Pl.half (j + 1))) : SqRel n R j := by
  obtain ⟨a, b, c, d⟩ := h
  rw [Pl.pow_half] at c d
  have := Pl.half_pos j
  have e : (2 : Int) ^ j = Pl.half (j + 1) := rfl
  exact ⟨a, b, by rw [e]; exact h1, by rw [e]; omega⟩

set_option maxHeartbeats 400000 in
theorem Sqrt_c (n : Int) (w : World) (h1 : 0 ≤ n) (h2 : n ≤ 9223372036854775807) :
    Calls Try.prog 101 #[.int .i64 n] w fun e w' => e = .returned (.int .i64 (Pl.isqrt n)) ∧ w = w' := by
  go_enter Try.func101, Try.ntmps101
  go_wp2
  go_loop [3, 4] (fun r b => ∃ (k : Nat) (R : Int), k ≤ 32 ∧ b = .int .i64 (Pl.half k) ∧ r = .int .i64 R ∧ SqRel n R k) (fun _ b => (intOf b).toNat)
  case atStart => exact ⟨32, 0, by omega, rfl, rfl, by omega, by omega, by simp; omega, by decide⟩
  case round =>
    obtain ⟨k, R, hk, rfl, rfl, hs⟩ := hrel
    cases k with
    | zero =>
      go_wp2
      go_ret
      obtain ⟨a, b, c, d⟩ := hs
      exact ⟨ret_int (Pl.isqrt_eq a b (by simpa using c)).symm, rfl⟩
    | succ j =>
      have p1 := Pl.half_pos j
      have p2 := (Pl.half_bd (j + 1) hk).2
      have p3 := Pl.half_half j
      have p4 : Pl.half j < Pl.half (j + 1) := by omega
      have p5 := (Pl.half_bd j (by omega)).1
      have q1 := hs.1
      have q2 : R + Pl.half (j + 1) ≤ 4294967296 := by have := hs.2.2.2; rw [Pl.pow_half] at this; omega
      have HS := Lib.hid hs
      clear hs
      by_cases hx : R + Pl.half (j + 1) ≤ 3037000499
      · have s1 : 0 ≤ (R + Pl.half (j + 1)) * (R + Pl.half (j + 1)) := Int.mul_nonneg (by omega) (by omega)
        have s2 : (R + Pl.half (j + 1)) * (R + Pl.half (j + 1)) ≤ 9223372030926249001 := Pl.sq_le_of_le (b := 3037000499) (by omega) hx
        by_cases hy : (R + Pl.half (j + 1)) * (R + Pl.half (j + 1)) ≤ n
        · go_wp2
          go_round
          case rel => exact ⟨j, _, by omega, by rw [p3], rfl, HS.out.take hy⟩
          case measure => simp [intOf]; omega
        · go_wp2
          go_round
          case rel => exact ⟨j, _, by omega, by rw [p3], rfl, HS.out.leave (by omega)⟩
          case measure => simp [intOf]; omega
      · have s3 : n < (R + Pl.half (j + 1)) * (R + Pl.half (j + 1)) := by
          have := Pl.sq_le_of_le (a := 3037000500) (b := R + Pl.half (j + 1)) (by omega) (by omega)
          omega
        go_wp2
        go_round
        case rel => exact ⟨j, _, by omega, by rw [p3], rfl, HS.out.leave s3⟩
        case measure => simp [intOf]; omega

/-- what the program's loop holds: R: the root so far, j digits to come -/
def RtRel (n L r : Int) (j : Nat) : Prop := ∃ R : Int, 0 ≤ R ∧ L = n - R * R ∧ 0 ≤ L ∧ r = R * 2 ^ j ∧ n < (R + 2 ^ j) * (R + 2 ^ j) ∧ R + 2 ^ j ≤ 4294967296
theorem pow_two_mul (m : Nat) : (2 : Int) ^ (2 * m) = 2 ^ m * 2 ^ m := by rw [Nat.two_mul, Int.pow_add]
theorem pow_pos' (m : Nat) : (1 : Int) ≤ 2 ^ m := by
  have h2 : (0 : Int) < 2 ^ m := by exact_mod_cast Nat.pow_pos (n := m) (show 0 < 2 by omega)
  omega
theorem RtRel.bd {n L r : Int} {m : Nat} (hn : n ≤ 9223372036854775807) (h : RtRel n L r (m + 1)) : 0 ≤ r ∧ r + 2 ^ (2 * m) ≤ 18446744065119617025 ∧ 1 ≤ (2 : Int) ^ (2 * m) ∧ 0 ≤ L ∧ L ≤ 9223372036854775807 := by
  obtain ⟨R, a, b, c, d, e, f⟩ := h
  have hp := pow_pos' m
  have h2 := pow_pos' (2 * m)
  rw [Int.pow_succ] at d f
  rw [pow_two_mul] at h2 ⊢
  generalize hT : (2 : Int) ^ m = T at *
  subst d
  have g1 := Pl.sq_le_of_le (a := R + T) (b := 4294967295) (by omega) (by omega)
  have g2 : (R + T) * (R + T) = R * R + (R * (T * 2) + T * T) := by grind
  have g3 := Int.mul_nonneg a a
  refine ⟨Int.mul_nonneg a (by omega), by omega, by omega, c, by omega⟩
theorem RtRel.take {n L r : Int} {m : Nat} (h : RtRel n L r (m + 1)) (ht : r + 2 ^ (2 * m) ≤ L) : RtRel n (L - (r + 2 ^ (2 * m))) (r / 2 + 2 ^ (2 * m)) m := by
  obtain ⟨R, a, b, c, d, e, f⟩ := h
  have hp := pow_pos' m
  rw [Int.pow_succ] at d e f
  rw [pow_two_mul] at ht ⊢
  unfold RtRel
  generalize hT : (2 : Int) ^ m = T at *
  subst d b
  refine ⟨R + T, by omega, by grind, by omega, ?_, ?_, by omega⟩
  · have : R * (T * 2) = 2 * (R * T) := by grind
    rw [this, Int.mul_ediv_cancel_left _ (by omega)]; grind
  · rwa [show R + T + T = R + T * 2 by omega]
theorem RtRel.leave {n L r : Int} {m : Nat} (h : RtRel n L r (m + 1)) (ht : L < r + 2 ^ (2 * m)) : RtRel n L (r / 2) m := by
  obtain ⟨R, a, b, c, d, e, f⟩ := h
  have hp := pow_pos' m
  rw [Int.pow_succ] at d e f
  rw [pow_two_mul] at ht
  unfold RtRel
  generalize hT : (2 : Int) ^ m = T at *
  subst d b
  refine ⟨R, by omega, rfl, by omega, ?_, ?_, by omega⟩
  · have : R * (T * 2) = 2 * (R * T) := by grind
    rw [this, Int.mul_ediv_cancel_left _ (by omega)]
  · have : (R + T) * (R + T) = R * R + (R * (T * 2) + T * T) := by grind
    omega

set_option maxHeartbeats 400000 in
theorem root_c (n : Int) (w : World) (h1 : 0 ≤ n) (h2 : n ≤ 9223372036854775807) :
    Calls Try.prog 88 #[.int .i64 n] w fun e w' => e = .returned (.int .i64 (Pl.isqrt n)) ∧ w = w' := by
  go_enter Try.func88, Try.ntmps88
  go_wp2
  go_loop [3, 4, 9] (fun l r i => ∃ (k : Nat) (L R : Int), k ≤ 32 ∧ i = .int .i64 k ∧ l = .int .u64 L ∧ r = .int .u64 R ∧ RtRel n L R (32 - k)) (fun _ _ i => 32 - (intOf i).toNat)
  case atStart => exact ⟨0, n, 0, by omega, rfl, rfl, rfl, 0, by omega, by simp, by omega, by simp, by simp; omega, by decide⟩
  case round =>
    obtain ⟨k, L, R, hk, rfl, rfl, rfl, hs⟩ := hrel
    by_cases hlt : k < 32
    · rw [show 32 - k = (31 - k) + 1 by omega] at hs
      obtain ⟨b1, b2, b3, b4, b5⟩ := hs.bd h2
      rw [show 2 * (31 - k) = 62 - 2 * k by omega] at b2 b3
      have HS := Lib.hid hs
      clear hs
      by_cases ht : R + 2 ^ (62 - 2 * k) ≤ L
      · go_wp2
        go_round
        case rel => exact ⟨k + 1, _, _, by omega, by go_num, rfl, rfl, by have := HS.out.take (by rwa [show 2 * (31 - k) = 62 - 2 * k by omega]); rw [show 2 * (31 - k) = 62 - 2 * k by omega] at this; rwa [show 32 - (k + 1) = 31 - k by omega]⟩
        case measure => simp [intOf]; omega
      · go_wp2
        go_round
        case rel => exact ⟨k + 1, _, _, by omega, by go_num, rfl, rfl, by have := HS.out.leave (by rw [show 2 * (31 - k) = 62 - 2 * k by omega]; omega); rwa [show 32 - (k + 1) = 31 - k by omega]⟩
        case measure => simp [intOf]; omega
    · obtain rfl : k = 32 := by omega
      obtain ⟨Q, a, b, c, d, e, f⟩ := hs
      simp only [Nat.sub_self, Int.pow_zero, Int.mul_one] at d e f
      subst d
      have HE : RowKit.Hid (Pl.isqrt n = R) := Pl.isqrt_eq a (by omega) e
      clear b c e
      go_wp2
      go_ret
      exact ⟨ret_int HE.out.symm, rfl⟩

end Go.Proofs.Ytgikfliibimkdaa

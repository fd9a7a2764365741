
/- Plain facts on numbers: division rounded down, nearest, the root. -/
namespace Go.Proofs.Ytgikfliibimkdaa
namespace Pl

theorem ediv_bd (n d : Int) (hd : 1 ≤ d) : n / d * d ≤ n ∧ n < n / d * d + d := by
  have h1 := Int.emod_add_mul_ediv n d
  have h2 := Int.emod_nonneg n (b := d) (by omega)
  have h3 := Int.emod_lt_of_pos n (b := d) (by omega)
  rw [Int.mul_comm d] at h1
  omega
theorem ediv_eq (n d q : Int) (hd : 1 ≤ d) (h1 : q * d ≤ n) (h2 : n < q * d + d) : n / d = q := by
  have a := (Int.le_ediv_iff_mul_le (a := q) (b := n) (c := d) (by omega)).2 h1
  have b := (Int.ediv_lt_iff_lt_mul (a := n) (b := q + 1) (c := d) (by omega)).2 (by rw [Int.add_mul]; omega)
  omega
theorem tdiv_of_tmod_neg (n d : Int) (hd : 1 ≤ d) (h : n.tmod d < 0) : n.tdiv d - 1 = n / d := by
  have h1 := Int.tmod_def n d
  have h2 : -d < n.tmod d := Int.lt_tmod_of_pos n (by omega)
  rw [Int.mul_comm d] at h1
  symm
  apply ediv_eq n d _ hd <;> rw [Int.sub_mul] <;> omega
theorem tdiv_of_tmod_nonneg (n d : Int) (hd : 1 ≤ d) (h : 0 ≤ n.tmod d) : n.tdiv d = n / d := by
  have h1 := Int.tmod_def n d
  have h2 : n.tmod d < d := Int.tmod_lt_of_pos n (by omega)
  rw [Int.mul_comm d] at h1
  symm
  apply ediv_eq n d _ hd <;> omega
theorem ediv_le (n d b : Int) (hd : 1 ≤ d) (h0 : 0 ≤ b) (h : n ≤ b) : n / d ≤ b := by
  have := (Int.ediv_lt_iff_lt_mul (a := n) (b := b + 1) (c := d) (by omega)).2 (by
    have := Int.mul_le_mul_of_nonneg_left (c := b + 1) hd (by omega)
    omega)
  omega
theorem le_ediv (n d b : Int) (hd : 1 ≤ d) (h0 : 0 ≤ b) (h : -b ≤ n) : -b ≤ n / d := by
  refine (Int.le_ediv_iff_mul_le (a := -b) (b := n) (c := d) (by omega)).2 ?_
  have := Int.mul_le_mul_of_nonneg_left (c := b) hd h0
  rw [Int.neg_mul]; omega
theorem tdiv_bd (n d b : Int) (hd : 1 ≤ d) (h0 : 0 ≤ b) (h1 : -b ≤ n) (h2 : n ≤ b) : -b ≤ n.tdiv d ∧ n.tdiv d ≤ b + 1 := by
  have a := ediv_le n d b hd h0 h2
  have c := le_ediv n d b hd h0 h1
  by_cases h : n.tmod d < 0
  · have := tdiv_of_tmod_neg n d hd h; omega
  · have := tdiv_of_tmod_nonneg n d hd (by omega); omega

/-- nearest -/
def near (n d : Int) : Int := if 2 * (n - n / d * d) ≥ d then n / d + 1 else n / d

/-- the root -/
def isqrt (n : Int) : Int := (Nat.sqrt n.toNat : Int)
theorem isqrt_nonneg (n : Int) : 0 ≤ isqrt n := Int.natCast_nonneg _
theorem isqrt_le (n : Int) (h : 0 ≤ n) : isqrt n * isqrt n ≤ n := by
  have := Nat.sqrt_le n.toNat
  unfold isqrt
  have h2 : ((Nat.sqrt n.toNat * Nat.sqrt n.toNat : Nat) : Int) ≤ (n.toNat : Int) := by exact_mod_cast this
  rw [Int.toNat_of_nonneg h] at h2
  simpa using h2
theorem lt_isqrt (n : Int) (h : 0 ≤ n) : n < (isqrt n + 1) * (isqrt n + 1) := by
  have := Nat.lt_succ_sqrt n.toNat
  unfold isqrt
  have h2 : (n.toNat : Int) < ((Nat.succ (Nat.sqrt n.toNat) * Nat.succ (Nat.sqrt n.toNat) : Nat) : Int) := by exact_mod_cast this
  rw [Int.toNat_of_nonneg h] at h2
  simpa using h2
theorem sq_lt_of_lt {a b : Int} (h0 : 0 ≤ a) (h : a < b) : a * a < b * b := by
  have h1 : a * a ≤ a * b := Int.mul_le_mul_of_nonneg_left (by omega) h0
  have h2 : a * b < b * b := Int.mul_lt_mul_of_pos_right h (by omega)
  omega
theorem sq_le_of_le {a b : Int} (h0 : 0 ≤ a) (h : a ≤ b) : a * a ≤ b * b :=
  Int.mul_le_mul h h h0 (by omega)
theorem lt_of_sq_lt {a b : Int} (h0 : 0 ≤ b) (h : a * a < b * b) : a < b := by
  by_cases hb : b ≤ a
  · have := sq_le_of_le h0 hb; omega
  · omega
theorem isqrt_eq {n r : Int} (h0 : 0 ≤ r) (h1 : r * r ≤ n) (h2 : n < (r + 1) * (r + 1)) : isqrt n = r := by
  have hn : 0 ≤ n := by have := Int.mul_nonneg h0 h0; omega
  have a := isqrt_le n hn
  have b := lt_isqrt n hn
  have c := isqrt_nonneg n
  have d : isqrt n < r + 1 := lt_of_sq_lt (by omega) (by omega)
  have e : r < isqrt n + 1 := lt_of_sq_lt (by omega) (by omega)
  omega
theorem mul_bd {a b A B : Int} (h1 : -A ≤ a) (h2 : a ≤ A) (h3 : -B ≤ b) (h4 : b ≤ B) : -(A * B) ≤ a * b ∧ a * b ≤ A * B := by
  have e1 := Int.mul_nonneg (show 0 ≤ A - a by omega) (show 0 ≤ B - b by omega)
  have e2 := Int.mul_nonneg (show 0 ≤ A - a by omega) (show 0 ≤ B + b by omega)
  have e3 := Int.mul_nonneg (show 0 ≤ A + a by omega) (show 0 ≤ B - b by omega)
  have e4 := Int.mul_nonneg (show 0 ≤ A + a by omega) (show 0 ≤ B + b by omega)
  have f1 : (A - a) * (B - b) = A * B - A * b - a * B + a * b := by grind
  have f2 : (A - a) * (B + b) = A * B + A * b - a * B - a * b := by grind
  have f3 : (A + a) * (B - b) = A * B - A * b + a * B - a * b := by grind
  have f4 : (A + a) * (B + b) = A * B + A * b + a * B + a * b := by grind
  omega
theorem isqrt_bd {n B : Int} (h1 : 1 ≤ n) (hB : 0 ≤ B) (h2 : n ≤ B * B) : 1 ≤ isqrt n ∧ isqrt n ≤ B := by
  have a := isqrt_le n (by omega)
  have b := lt_isqrt n (by omega)
  have c := isqrt_nonneg n
  have d : 1 < isqrt n + 1 := lt_of_sq_lt (by omega) (by omega)
  have e : isqrt n < B + 1 := lt_of_sq_lt (by omega) (by
    have : (B + 1) * (B + 1) = B * B + 2 * B + 1 := by grind
    omega)
  omega
theorem near_bd {n d b : Int} (hd : 1 ≤ d) (h0 : 0 ≤ b) (h1 : -b ≤ n) (h2 : n ≤ b) : -b ≤ near n d ∧ near n d ≤ b + 1 := by
  have a := ediv_le n d b hd h0 h2
  have c := le_ediv n d b hd h0 h1
  unfold near; split <;> omega
end Pl
end Go.Proofs.Ytgikfliibimkdaa

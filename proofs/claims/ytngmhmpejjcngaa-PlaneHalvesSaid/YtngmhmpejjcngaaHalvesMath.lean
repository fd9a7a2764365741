/- Plain facts on turns: a half makes a valid turn; two turns make one; a turned point is as far from the centre as before, but for 2. -/
import Derived.Test.YtngmhmpejjcngaaRBoth
import Derived.Test.YtngmhmpejjcngaaRotate
import Derived.Test.YtngmhmpejjcngaaPullMath
namespace Go.Proofs.Ytngmhmpejjcngaa

theorem okRot_mk {c s n : Int} (h1 : 1 ≤ n) (h2 : n ≤ 16777216) (h3 : -n ≤ c) (h4 : c ≤ n) (h5 : -n ≤ s) (h6 : s ≤ n) (h7 : c * c + s * s = n * n) : okRot c s n = true := by
  simp only [okRot, Bool.and_eq_true, inB_iff, Bool.not_eq_true', bne_eq_false_iff_eq]
  exact ⟨⟨h1, h2⟩, ⟨h3, h4⟩, ⟨h5, h6⟩, h7⟩

theorem half_facts {n d : Int} (h1 : -2048 ≤ n) (h2 : n ≤ 2048) (h3 : 1 ≤ d) (h4 : d ≤ 2048) :
    ∃ C S N : Int, halfS n d = ((C, S, N), 0) ∧ okRot C S N = true := by
  refine ⟨d * d - n * n, 2 * n * d, d * d + n * n, by simp [halfS, inB_iff.2 ⟨h1, h2⟩, inB_iff.2 ⟨h3, h4⟩], ?_⟩
  have a1 := Pl.mul_bd (a := d) (b := d) (A := 2048) (B := 2048) (by omega) (by omega) (by omega) (by omega)
  have a2 := Pl.mul_bd (a := n) (b := n) (A := 2048) (B := 2048) (by omega) (by omega) (by omega) (by omega)
  have a3 := Pl.sq_nonneg n
  have a4 : 1 ≤ d * d := by have := Pl.sq_le_of_le (a := 1) (b := d) (by omega) h3; omega
  have a5 := Pl.sq_nonneg (d + n)
  have a6 := Pl.sq_nonneg (d - n)
  have e1 : (d + n) * (d + n) = d * d + n * n + 2 * n * d := by grind
  have e2 : (d - n) * (d - n) = d * d + n * n - 2 * n * d := by grind
  exact okRot_mk (by omega) (by omega) (by omega) (by omega) (by omega) (by omega) (by grind)

theorem tdiv_exact {a g : Int} (h : g ∣ a) : g * a.tdiv g = a := Int.mul_tdiv_cancel' h
theorem bothG_dvd (c s n : Int) : bothG c s n ∣ c ∧ bothG c s n ∣ s ∧ bothG c s n ∣ n := by
  have d1 := Nat.gcd_dvd_left (gcdI (max c (-c)) (max s (-s))).natAbs n.natAbs
  have d2 := Nat.gcd_dvd_right (gcdI (max c (-c)) (max s (-s))).natAbs n.natAbs
  have d3 := Nat.gcd_dvd_left (max c (-c)).natAbs (max s (-s)).natAbs
  have d4 := Nat.gcd_dvd_right (max c (-c)).natAbs (max s (-s)).natAbs
  have e : (gcdI (max c (-c)) (max s (-s))).natAbs = Nat.gcd (max c (-c)).natAbs (max s (-s)).natAbs := by simp [gcdI]
  rw [e] at d1 d2
  have m1 : (max c (-c)).natAbs = c.natAbs := by omega
  have m2 : (max s (-s)).natAbs = s.natAbs := by omega
  rw [m1, m2] at d1 d2 d3 d4
  have hG : bothG c s n = ((Nat.gcd (Nat.gcd c.natAbs s.natAbs) n.natAbs : Nat) : Int) := by unfold bothG gcdI; simp only [Int.natAbs_natCast, m1, m2]
  rw [hG]
  exact ⟨Int.ofNat_dvd_left.2 (Nat.dvd_trans d1 d3), Int.ofNat_dvd_left.2 (Nat.dvd_trans d1 d4), Int.ofNat_dvd_left.2 d2⟩

theorem le_of_mul {g a b : Int} (hg : 1 ≤ g) (h : g * a ≤ g * b) : a ≤ b := Int.le_of_mul_le_mul_left h (by omega)

theorem bothR_facts {c s n : Int} (hn : 1 ≤ n) (h3 : -n ≤ c) (h4 : c ≤ n) (h5 : -n ≤ s) (h6 : s ≤ n) (h7 : c * c + s * s = n * n) :
    bothR c s n = ((0, 0, 0), 4) ∨ ∃ C S N : Int, bothR c s n = ((C, S, N), 0) ∧ okRot C S N = true := by
  by_cases hq : 16777216 < n / bothG c s n
  · left; simp [bothR, hq]
  · right
    refine ⟨c.tdiv (bothG c s n), s.tdiv (bothG c s n), n / bothG c s n, by simp [bothR, hq], ?_⟩
    obtain ⟨d1, d2, d3⟩ := bothG_dvd c s n
    have g1 := bothG_pos c s n hn
    have g2 := bothG_le c s n hn
    generalize bothG c s n = g at *
    have e1 := tdiv_exact d1
    have e2 := tdiv_exact d2
    have e3 : g * (n / g) = n := Int.mul_ediv_cancel' d3
    generalize c.tdiv g = C at *
    generalize s.tdiv g = S at *
    generalize n / g = N at *
    subst e1 e2 e3
    refine okRot_mk ?_ (by omega) (le_of_mul g1 (by rw [Int.mul_neg]; exact h3)) (le_of_mul g1 h4) (le_of_mul g1 (by rw [Int.mul_neg]; exact h5)) (le_of_mul g1 h6) ?_
    · exact le_of_mul g1 (by omega)
    · have : g * g * (C * C + S * S) = g * g * (N * N) := by grind
      exact Int.eq_of_mul_eq_mul_left (by have := Int.mul_pos (show 0 < g by omega) (show 0 < g by omega); omega) this

theorem both_facts {a b c a' b' c' : Int} (h1 : okRot a b c = true) (h2 : okRot a' b' c' = true) :
    bothS (a, b, c) (a', b', c') = ((0, 0, 0), 4) ∨ ∃ C S N : Int, bothS (a, b, c) (a', b', c') = ((C, S, N), 0) ∧ okRot C S N = true := by
  have e : bothS (a, b, c) (a', b', c') = bothR (a * a' - b * b') (b * a' + a * b') (c * c') := by simp [bothS, h1, h2]
  rw [e]
  obtain ⟨⟨p1, _⟩, _, _, p4⟩ := okRot_bd h1
  obtain ⟨⟨q1, _⟩, _, _, q4⟩ := okRot_bd h2
  have hn : 1 ≤ c * c' := by have := Int.mul_pos (show 0 < c by omega) (show 0 < c' by omega); omega
  have hs : (a * a' - b * b') * (a * a' - b * b') + (b * a' + a * b') * (b * a' + a * b') = (c * c') * (c * c') := by
    have e1 : (a * a' - b * b') * (a * a' - b * b') + (b * a' + a * b') * (b * a' + a * b') = (a * a + b * b) * (a' * a' + b' * b') := by grind
    rw [e1, p4, q4]; grind
  have b1 := Pl.sq_le_sq (a := a * a' - b * b') (b := c * c') (by omega) (by have := Pl.sq_nonneg (b * a' + a * b'); omega)
  have b2 := Pl.sq_le_sq (a := b * a' + a * b') (b := c * c') (by omega) (by have := Pl.sq_nonneg (a * a' - b * b'); omega)
  exact bothR_facts hn b1.1 b1.2 b2.1 b2.2 hs

theorem okRot_back {c s n : Int} (h : okRot c s n = true) : okRot c (-s) n = true := by
  obtain ⟨⟨p1, p2⟩, ⟨p3, p4⟩, ⟨p5, p6⟩, p7⟩ := okRot_bd h
  exact okRot_mk p1 p2 p3 p4 (by omega) (by omega) (by rw [Int.neg_mul_neg]; exact p7)

theorem back_facts {c s n : Int} (h : okRot c s n = true) : bothS (c, s, n) (c, -s, n) = ((1, 0, 1), 0) := by
  have e : bothS (c, s, n) (c, -s, n) = bothR (c * c - s * -s) (s * c + c * -s) (n * n) := by simp [bothS, h, okRot_back h]
  obtain ⟨⟨p1, _⟩, _, _, p7⟩ := okRot_bd h
  have e1 : c * c - s * -s = n * n := by rw [Int.mul_neg]; omega
  have e2 : s * c + c * -s = 0 := by rw [Int.mul_neg, Int.mul_comm c s]; omega
  rw [e, e1, e2]
  have hn : 1 ≤ n * n := by have := Int.mul_pos (show 0 < n by omega) (show 0 < n by omega); omega
  generalize n * n = m at hn
  have hg : bothG m 0 m = m := by
    unfold bothG
    rw [show max m (-m) = m by omega, show max (0 : Int) (-0) = 0 by omega, gcdI_zero m (by omega)]
    unfold gcdI
    rw [Nat.gcd_self]; omega
  have hd : m / m = 1 := Int.ediv_self (by omega)
  have ht : m.tdiv m = 1 := Int.tdiv_self (by omega)
  simp only [bothR, hg, hd, ht, Int.zero_tdiv]
  decide

namespace Pl
/-- a turned point is as far from the centre as before, but for 2 -/
theorem turned_far {x y c s n A B : Int} (hn : 1 ≤ n) (hcs : c * c + s * s = n * n)
    (hA1 : -n ≤ 2 * (A * n - (x * c - y * s))) (hA2 : 2 * (A * n - (x * c - y * s)) ≤ n) (hB1 : -n ≤ 2 * (B * n - (x * s + y * c))) (hB2 : 2 * (B * n - (x * s + y * c)) ≤ n) :
    -2 ≤ isqrt (A * A + B * B) - isqrt (x * x + y * y) ∧ isqrt (A * A + B * B) - isqrt (x * x + y * y) ≤ 2 := by
  have hD : 0 ≤ x * x + y * y := by have := sq_nonneg x; have := sq_nonneg y; omega
  have hAB : 0 ≤ A * A + B * B := by have := sq_nonneg A; have := sq_nonneg B; omega
  have g0 := isqrt_nonneg (x * x + y * y)
  have g1 := isqrt_le (x * x + y * y) hD
  have g2 := lt_isqrt (x * x + y * y) hD
  generalize isqrt (x * x + y * y) = G at *
  generalize hX : x * c - y * s = X at *
  generalize hY : x * s + y * c = Y at *
  have hXY : X * X + Y * Y = (x * x + y * y) * (n * n) := by rw [← hcs, ← hX, ← hY]; grind
  generalize hu : A * n - X = u at hA1 hA2
  generalize hv : B * n - Y = v at hB1 hB2
  have hS : n * n * (A * A + B * B) = (x * x + y * y) * (n * n) + 2 * (X * u + Y * v) + (u * u + v * v) := by
    have e1 : A * n = u + X := by omega
    have e2 : B * n = v + Y := by omega
    have e3 : n * n * (A * A + B * B) = (A * n) * (A * n) + (B * n) * (B * n) := by grind
    rw [e3, e1, e2, ← hXY]; grind
  have hu2 : 4 * (u * u) ≤ n * n := by
    have := mul_bd (a := 2 * u) (b := 2 * u) hA1 hA2 hA1 hA2
    have e : (2 * u) * (2 * u) = 4 * (u * u) := by grind
    omega
  have hv2 : 4 * (v * v) ≤ n * n := by
    have := mul_bd (a := 2 * v) (b := 2 * v) hB1 hB2 hB1 hB2
    have e : (2 * v) * (2 * v) = 4 * (v * v) := by grind
    omega
  have hun := sq_nonneg u
  have hvn := sq_nonneg v
  have hnn : 0 < n * n := Int.mul_pos (by omega) (by omega)
  generalize hc : X * u + Y * v = k at hS
  have hkk : k * k ≤ (X * X + Y * Y) * (u * u + v * v) := by
    have e : (X * X + Y * Y) * (u * u + v * v) - k * k = (X * v - Y * u) * (X * v - Y * u) := by rw [← hc]; grind
    have := sq_nonneg (X * v - Y * u)
    omega
  have hkb : -(n * n * (G + 1)) ≤ k ∧ k ≤ n * n * (G + 1) := by
    apply sq_le_sq (Int.mul_nonneg (by omega) (by omega))
    have e1 : (X * X + Y * Y) * (u * u + v * v) ≤ (X * X + Y * Y) * (n * n) := Int.mul_le_mul_of_nonneg_left (by omega) (by have := sq_nonneg X; have := sq_nonneg Y; omega)
    have e2 : (x * x + y * y) * (n * n) ≤ (G + 1) * (G + 1) * (n * n) := Int.mul_le_mul_of_nonneg_right (by omega) (by omega)
    have e3 : (x * x + y * y) * (n * n) * (n * n) ≤ (G + 1) * (G + 1) * (n * n) * (n * n) := Int.mul_le_mul_of_nonneg_right e2 (by omega)
    have e4 : n * n * (G + 1) * (n * n * (G + 1)) = (G + 1) * (G + 1) * (n * n) * (n * n) := by grind
    rw [hXY] at e1 hkk
    omega
  have f1 : n * n * (G + 1) = n * n * G + n * n := by grind
  have f2 : (x * x + y * y) * (n * n) ≤ n * n * (G * G) + 2 * (n * n * G) + n * n := by
    have := Int.mul_le_mul_of_nonneg_right (c := n * n) (show x * x + y * y ≤ (G + 1) * (G + 1) by omega) (by omega)
    have e : (G + 1) * (G + 1) * (n * n) = n * n * (G * G) + 2 * (n * n * G) + n * n := by grind
    omega
  have f3 : n * n * (G * G) ≤ (x * x + y * y) * (n * n) := by
    have := Int.mul_le_mul_of_nonneg_right (c := n * n) g1 (by omega)
    have e : G * G * (n * n) = n * n * (G * G) := by grind
    omega
  have f4 : n * n * ((G + 3) * (G + 3)) = n * n * (G * G) + 6 * (n * n * G) + 9 * (n * n) := by grind
  have f5 : n * n * ((G - 2) * (G - 2)) = n * n * (G * G) - 4 * (n * n * G) + 4 * (n * n) := by grind
  have f6 : 0 ≤ n * n * G := Int.mul_nonneg (by omega) g0
  have up : A * A + B * B < (G + 3) * (G + 3) := Int.lt_of_mul_lt_mul_left (a := n * n) (by omega) (by omega)
  have r1 := isqrt_nonneg (A * A + B * B)
  have r2 : isqrt (A * A + B * B) < G + 3 := lt_of_sq_lt (by omega) (by have := isqrt_le (A * A + B * B) hAB; omega)
  have r3 : 3 ≤ G → G - 2 ≤ isqrt (A * A + B * B) := fun h3 => by
    have f7 : 3 * (n * n) ≤ n * n * G := by
      have := Int.mul_le_mul_of_nonneg_left (c := n * n) h3 (by omega)
      omega
    refine isqrt_ge hAB (by omega) ?_
    exact Int.le_of_mul_le_mul_left (a := n * n) (by omega) hnn
  omega
end Pl

theorem rotate_facts {px py ox oy c s n : Int} (h : okRot c s n = true) (p1 : -32768 ≤ px) (p2 : px ≤ 32768) (p3 : -32768 ≤ py) (p4 : py ≤ 32768) (o1 : -128 ≤ ox) (o2 : ox ≤ 128) (o3 : -128 ≤ oy) (o4 : oy ≤ 128) :
    ∃ zx zy : Int, rotateS (px, py) (ox, oy) c s n = ((zx, zy), 0) ∧ okPt (zx, zy) = true ∧
      (-2 ≤ farS (px, py) (ox, oy) - farS (zx, zy) (ox, oy) ∧ farS (px, py) (ox, oy) - farS (zx, zy) (ox, oy) ≤ 2) := by
  obtain ⟨⟨q1, q2⟩, ⟨q3, q4⟩, ⟨q5, q6⟩, q7⟩ := okRot_bd h
  generalize hx : px - ox = x
  generalize hy : py - oy = y
  have a1 := Pl.mul_bd (a := x) (b := c) (A := 40000) (B := n) (by omega) (by omega) (by omega) (by omega)
  have a2 := Pl.mul_bd (a := y) (b := s) (A := 40000) (B := n) (by omega) (by omega) (by omega) (by omega)
  have a3 := Pl.mul_bd (a := x) (b := s) (A := 40000) (B := n) (by omega) (by omega) (by omega) (by omega)
  have a4 := Pl.mul_bd (a := y) (b := c) (A := 40000) (B := n) (by omega) (by omega) (by omega) (by omega)
  have b1 := Pl.abs_le_of (n := x * c - y * s) (r := n) (k := 80000) q1 (by omega) (by omega)
  have b2 := Pl.abs_le_of (n := x * s + y * c) (r := n) (k := 80000) q1 (by omega) (by omega)
  have s1 := Pl.near_spec (x * c - y * s) n q1
  have s2 := Pl.near_spec (x * s + y * c) n q1
  have ht : turnP (px, py) (ox, oy) c s n = (ox + Pl.near (x * c - y * s) n, oy + Pl.near (x * s + y * c) n) := by simp only [turnP, hx, hy]
  generalize hA : Pl.near (x * c - y * s) n = A at *
  generalize hB : Pl.near (x * s + y * c) n = B at *
  have oP : okPt (px, py) = true := okPt_of (by omega) (by omega) (by omega) (by omega)
  have oO : okPt (ox, oy) = true := okPt_of (by omega) (by omega) (by omega) (by omega)
  have oZ : okPt (ox + A, oy + B) = true := okPt_of (by omega) (by omega) (by omega) (by omega)
  refine ⟨ox + A, oy + B, ?_, oZ, ?_⟩
  · simp only [rotateS, oP, oO, h, Bool.and_self, Bool.true_eq_false, if_false, ht]
    exact resS_yes oZ
  · have far := Pl.turned_far q1 q7 s1.1 s1.2 s2.1 s2.2
    have e1 : farS (px, py) (ox, oy) = Pl.isqrt (x * x + y * y) := by
      unfold farS; congr 1; rw [← hx, ← hy]; grind
    have e2 : farS (ox + A, oy + B) (ox, oy) = Pl.isqrt (A * A + B * B) := by
      unfold farS; congr 1; grind
    rw [e1, e2]; omega
end Go.Proofs.Ytngmhmpejjcngaa

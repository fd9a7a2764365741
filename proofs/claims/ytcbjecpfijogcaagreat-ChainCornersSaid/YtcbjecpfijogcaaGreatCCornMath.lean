
/- The body of a unit, plainly: two places that differ in one coordinate alone are nearly as far apart as the coordinate says; each place within the rectangle lies in the corners' hull, grown by 1. -/
import Derived.Test.YtcbjecpfijogcaaGreatHGeo2
import Derived.Test.YtcbjecpfijogcaaGreatHGrown
namespace Go.Proofs.YtcbjecpfijogcaaGreat
open Go.RowKit

namespace Pl
theorem far_K {p q K r A B : Int} (hr : 1 ≤ r) (h1 : r * r ≤ 1024 * (p * p + q * q)) (h2 : 1024 * (p * p + q * q) < (r + 1) * (r + 1)) (hK0 : 0 ≤ K) (hK : K ≤ r)
    (hA1 : -r ≤ A * r - 32 * (p * K)) (hA2 : A * r - 32 * (p * K) ≤ r) (hB1 : -r ≤ B * r - 32 * (q * K)) (hB2 : B * r - 32 * (q * K) ≤ r) :
    A * A + B * B ≤ (K + 4) * (K + 4) ∧ (4 ≤ K → (K - 4) * (K - 4) ≤ A * A + B * B) := by
  generalize hx : A * r - 32 * (p * K) = x at hA1 hA2
  generalize hy : B * r - 32 * (q * K) = y at hB1 hB2
  have hS : r * r * (A * A + B * B) = 1024 * (p * p + q * q) * (K * K) + 64 * K * (p * x + q * y) + (x * x + y * y) := by
    have e1 : A * r = x + 32 * (p * K) := by omega
    have e2 : B * r = y + 32 * (q * K) := by omega
    have e3 : r * r * (A * A + B * B) = (A * r) * (A * r) + (B * r) * (B * r) := by grind
    rw [e3, e1, e2]; grind
  have hx2 : x * x ≤ r * r := (mul_bd hA1 hA2 hA1 hA2).2
  have hy2 : y * y ≤ r * r := (mul_bd hB1 hB2 hB1 hB2).2
  have hxn := sq_nonneg x
  have hyn := sq_nonneg y
  generalize hc : 32 * (p * x + q * y) = c
  have hcc : c * c ≤ 1024 * (p * p + q * q) * (x * x + y * y) := by
    have e : 1024 * (p * p + q * q) * (x * x + y * y) - c * c = 1024 * ((p * y - q * x) * (p * y - q * x)) := by rw [← hc]; grind
    have := sq_nonneg (p * y - q * x)
    omega
  have hrr : 0 ≤ r * r := sq_nonneg r
  have hcb : -(3 * (r * (r + 1))) ≤ 2 * c ∧ 2 * c ≤ 3 * (r * (r + 1)) := by
    have hm : 0 ≤ r * (r + 1) := Int.mul_nonneg (by omega) (by omega)
    apply sq_le_sq (by omega)
    have e1 : 1024 * (p * p + q * q) * (x * x + y * y) ≤ (r + 1) * (r + 1) * (x * x + y * y) := Int.mul_le_mul_of_nonneg_right (by omega) (by omega)
    have e2 : (r + 1) * (r + 1) * (x * x + y * y) ≤ (r + 1) * (r + 1) * (2 * (r * r)) := Int.mul_le_mul_of_nonneg_left (by omega) (sq_nonneg _)
    have e3 : 3 * (r * (r + 1)) * (3 * (r * (r + 1))) = 9 * ((r + 1) * (r + 1) * (r * r)) := by grind
    have e4 : (r + 1) * (r + 1) * (2 * (r * r)) = 2 * ((r + 1) * (r + 1) * (r * r)) := by grind
    have e5 : 2 * c * (2 * c) = 4 * (c * c) := by grind
    have e6 : 0 ≤ (r + 1) * (r + 1) * (r * r) := Int.mul_nonneg (sq_nonneg _) hrr
    omega
  have hl2 : 64 * K * (p * x + q * y) = K * (2 * c) := by rw [← hc]; grind
  have hlc1 : K * (2 * c) ≤ K * (3 * (r * (r + 1))) := Int.mul_le_mul_of_nonneg_left hcb.2 hK0
  have hlc2 : -(K * (3 * (r * (r + 1)))) ≤ K * (2 * c) := by
    have := Int.mul_le_mul_of_nonneg_left (c := K) hcb.1 hK0
    rw [Int.mul_neg] at this; omega
  have hll : 0 ≤ K * K := sq_nonneg K
  have hSl1 : 1024 * (p * p + q * q) * (K * K) ≤ (r * r + 2 * r) * (K * K) := Int.mul_le_mul_of_nonneg_right (by
    have : (r + 1) * (r + 1) = r * r + 2 * r + 1 := by grind
    omega) hll
  have hSl2 : r * r * (K * K) ≤ 1024 * (p * p + q * q) * (K * K) := Int.mul_le_mul_of_nonneg_right h1 hll
  have f1 : (r * r + 2 * r) * (K * K) = r * r * (K * K) + 2 * (r * (K * K)) := by grind
  have f2 : K * (3 * (r * (r + 1))) = 3 * (K * (r * r)) + 3 * (K * r) := by grind
  have f3 : r * r * ((K + 4) * (K + 4)) = r * r * (K * K) + 8 * (K * (r * r)) + 16 * (r * r) := by grind
  have f4 : r * r * ((K - 4) * (K - 4)) = r * r * (K * K) - 8 * (K * (r * r)) + 16 * (r * r) := by grind
  have f5 : r * (K * K) ≤ K * (r * r) := by
    have := Int.mul_le_mul_of_nonneg_left (c := K * r) hK (Int.mul_nonneg hK0 (by omega))
    have e1 : K * r * K = r * (K * K) := by grind
    have e2 : K * r * r = K * (r * r) := by grind
    omega
  have f6 : K * r ≤ r * r := Int.mul_le_mul_of_nonneg_right hK (by omega)
  have hpos : 0 < r * r := Int.mul_pos (by omega) (by omega)
  have f7 : 0 ≤ K * (r * r) := Int.mul_nonneg hK0 hrr
  constructor
  · exact Int.le_of_mul_le_mul_left (a := r * r) (by omega) hpos
  · intro h4
    have f9 : 4 * (r * r) ≤ K * (r * r) := Int.mul_le_mul_of_nonneg_right h4 hrr
    exact Int.le_of_mul_le_mul_left (a := r * r) (by omega) hpos
theorem isqrt_ge' {n b : Int} (hn : 0 ≤ n) (hb : 0 ≤ b) (h : b * b ≤ n) : b ≤ isqrt n := isqrt_ge hn hb h
/-- the root of such a sum -/
theorem far_root {K A B : Int} (hK0 : 0 ≤ K) (h1 : A * A + B * B ≤ (K + 4) * (K + 4)) (h2 : 4 ≤ K → (K - 4) * (K - 4) ≤ A * A + B * B) : -4 ≤ isqrt (A * A + B * B) - K ∧ isqrt (A * A + B * B) - K ≤ 4 := by
  have a := sq_nonneg A
  have b := sq_nonneg B
  have c := isqrt_le_of (n := A * A + B * B) (b := K + 4) (by omega) (by omega) h1
  have d := isqrt_nonneg (A * A + B * B)
  constructor
  · by_cases h : 4 ≤ K
    · have := isqrt_ge (n := A * A + B * B) (b := K - 4) (by omega) (by omega) (h2 h)
      omega
    · omega
  · omega
theorem near_dif {n m r K p : Int} (hr : 1 ≤ r) (h : n - m = 32 * (p * K)) : -r ≤ (near n r - near m r) * r - 32 * (p * K) ∧ (near n r - near m r) * r - 32 * (p * K) ≤ r := by
  have a := near_spec n r hr
  have b := near_spec m r hr
  rw [Int.sub_mul]
  omega
/-- the root of 1024 times a sum is at least 32 times the root of the sum -/
theorem root_32 {s : Int} (hs : 0 ≤ s) : 32 * isqrt s ≤ isqrt (1024 * s) := by
  have h1 := isqrt_le s hs
  have h2 := isqrt_nonneg s
  refine isqrt_ge (by omega) (by omega) ?_
  have e : 32 * isqrt s * (32 * isqrt s) = 1024 * (isqrt s * isqrt s) := by grind
  omega
end Pl
/-- places that differ in the second coordinate alone -/
theorem wide_far {a h : HPt} {x W : Int} (hr : 1 ≤ Pl.isqrt (1024 * ((h.1 - a.1) * (h.1 - a.1) + (h.2 - a.2) * (h.2 - a.2)))) (hW : 0 ≤ W) (hd : W ≤ 16 * Pl.isqrt ((h.1 - a.1) * (h.1 - a.1) + (h.2 - a.2) * (h.2 - a.2))) (e : HPt) (he : e = (((putP a h x (-W)).1 - (putP a h x W).1), ((putP a h x (-W)).2 - (putP a h x W).2))) :
    -4 ≤ Pl.isqrt (e.1 * e.1 + e.2 * e.2) - 2 * W ∧ Pl.isqrt (e.1 * e.1 + e.2 * e.2) - 2 * W ≤ 4 := by
  subst he
  unfold putP
  simp only
  generalize h.1 - a.1 = u at *
  generalize h.2 - a.2 = v at *
  have n1 := Pl.sq_nonneg u
  have n2 := Pl.sq_nonneg v
  have r1 := Pl.isqrt_le (1024 * (u * u + v * v)) (by omega)
  have r2 := Pl.lt_isqrt (1024 * (u * u + v * v)) (by omega)
  have r3 := Pl.root_32 (s := u * u + v * v) (by omega)
  generalize Pl.isqrt (1024 * (u * u + v * v)) = r at *
  have d1 := Pl.near_dif (n := 32 * (u * x - v * -W)) (m := 32 * (u * x - v * W)) (K := 2 * W) (p := v) hr (by grind)
  have d2 := Pl.near_dif (n := 32 * (v * x + u * -W)) (m := 32 * (v * x + u * W)) (K := 2 * W) (p := -u) hr (by grind)
  have e1 : a.1 + Pl.near (32 * (u * x - v * -W)) r - (a.1 + Pl.near (32 * (u * x - v * W)) r) = Pl.near (32 * (u * x - v * -W)) r - Pl.near (32 * (u * x - v * W)) r := by omega
  have e2 : a.2 + Pl.near (32 * (v * x + u * -W)) r - (a.2 + Pl.near (32 * (v * x + u * W)) r) = Pl.near (32 * (v * x + u * -W)) r - Pl.near (32 * (v * x + u * W)) r := by omega
  rw [e1, e2]
  have hs : v * v + -u * -u = u * u + v * v := by grind
  obtain ⟨f1, f2⟩ := Pl.far_K (p := v) (q := -u) hr (by rw [hs]; exact r1) (by rw [hs]; exact r2) (by omega) (by omega) d1.1 d1.2 d2.1 d2.2
  exact Pl.far_root (by omega) f1 f2
/-- places that differ in the first coordinate alone -/
theorem long_far {a h : HPt} {x y W : Int} (hr : 1 ≤ Pl.isqrt (1024 * ((h.1 - a.1) * (h.1 - a.1) + (h.2 - a.2) * (h.2 - a.2)))) (hL : 0 ≤ x - y) (hd : x - y ≤ 16 * Pl.isqrt ((h.1 - a.1) * (h.1 - a.1) + (h.2 - a.2) * (h.2 - a.2))) (e : HPt) (he : e = (((putP a h y W).1 - (putP a h x W).1), ((putP a h y W).2 - (putP a h x W).2))) :
    -4 ≤ Pl.isqrt (e.1 * e.1 + e.2 * e.2) - (x - y) ∧ Pl.isqrt (e.1 * e.1 + e.2 * e.2) - (x - y) ≤ 4 := by
  subst he
  unfold putP
  simp only
  generalize h.1 - a.1 = u at *
  generalize h.2 - a.2 = v at *
  have n1 := Pl.sq_nonneg u
  have n2 := Pl.sq_nonneg v
  have r1 := Pl.isqrt_le (1024 * (u * u + v * v)) (by omega)
  have r2 := Pl.lt_isqrt (1024 * (u * u + v * v)) (by omega)
  have r3 := Pl.root_32 (s := u * u + v * v) (by omega)
  have r4 := Pl.isqrt_nonneg (u * u + v * v)
  generalize Pl.isqrt (1024 * (u * u + v * v)) = r at *
  have d1 := Pl.near_dif (n := 32 * (u * y - v * W)) (m := 32 * (u * x - v * W)) (K := x - y) (p := -u) hr (by grind)
  have d2 := Pl.near_dif (n := 32 * (v * y + u * W)) (m := 32 * (v * x + u * W)) (K := x - y) (p := -v) hr (by grind)
  have e1 : a.1 + Pl.near (32 * (u * y - v * W)) r - (a.1 + Pl.near (32 * (u * x - v * W)) r) = Pl.near (32 * (u * y - v * W)) r - Pl.near (32 * (u * x - v * W)) r := by omega
  have e2 : a.2 + Pl.near (32 * (v * y + u * W)) r - (a.2 + Pl.near (32 * (v * x + u * W)) r) = Pl.near (32 * (v * y + u * W)) r - Pl.near (32 * (v * x + u * W)) r := by omega
  rw [e1, e2]
  have hs : -u * -u + -v * -v = u * u + v * v := by grind
  obtain ⟨f1, f2⟩ := Pl.far_K (p := -u) (q := -v) hr (by rw [hs]; exact r1) (by rw [hs]; exact r2) hL (by omega) d1.1 d1.2 d2.1 d2.2
  exact Pl.far_root hL f1 f2
/-! ### each place lies in the body, grown by 1 -/
def magC (d : HPt) : Int := d.1.natAbs + d.2.natAbs
theorem mul_magC {x y t : Int} (h : -t ≤ y ∧ y ≤ t) : x * y ≤ t * x.natAbs := by
  rcases Int.le_total 0 x with hx | hx
  · have e : (x.natAbs : Int) = x := by omega
    rw [e, Int.mul_comm t x]
    exact Int.mul_le_mul_of_nonneg_left h.2 hx
  · have e : (x.natAbs : Int) = -x := by omega
    have k := Int.mul_le_mul_of_nonneg_left (show -y ≤ t by omega) (show 0 ≤ -x by omega)
    rw [Int.neg_mul_neg] at k
    rw [e, Int.mul_comm t (-x)]
    exact k
theorem grow_topC (d p : HPt) : ∃ r ∈ rgP 1 p, dotP d r = dotP d p + magC d := by
  obtain ⟨d1, d2⟩ := d
  obtain ⟨p1, p2⟩ := p
  unfold rgP dotP magC
  simp only [List.mem_cons, List.not_mem_nil, or_false]
  rcases Int.le_total 0 d1 with h1 | h1 <;> rcases Int.le_total 0 d2 with h2 | h2
  · refine ⟨(p1 + 1, p2 + 1), by simp, ?_⟩
    rw [show (d1.natAbs : Int) = d1 by omega, show (d2.natAbs : Int) = d2 by omega]; grind
  · refine ⟨(p1 + 1, p2 - 1), by simp, ?_⟩
    rw [show (d1.natAbs : Int) = d1 by omega, show (d2.natAbs : Int) = -d2 by omega]; grind
  · refine ⟨(p1 - 1, p2 + 1), by simp, ?_⟩
    rw [show (d1.natAbs : Int) = -d1 by omega, show (d2.natAbs : Int) = d2 by omega]; grind
  · refine ⟨(p1 - 1, p2 - 1), by simp, ?_⟩
    rw [show (d1.natAbs : Int) = -d1 by omega, show (d2.natAbs : Int) = -d2 by omega]; grind
/-- a place, in one direction -/
theorem put_dot (d a h : HPt) (x y : Int) (hr : 1 ≤ Pl.isqrt (1024 * ((h.1 - a.1) * (h.1 - a.1) + (h.2 - a.2) * (h.2 - a.2)))) :
    2 * (Pl.isqrt (1024 * ((h.1 - a.1) * (h.1 - a.1) + (h.2 - a.2) * (h.2 - a.2))) * (dotP d (putP a h x y) - dotP d a)) ≤ 64 * ((d.1 * (h.1 - a.1) + d.2 * (h.2 - a.2)) * x + (d.2 * (h.1 - a.1) - d.1 * (h.2 - a.2)) * y) + Pl.isqrt (1024 * ((h.1 - a.1) * (h.1 - a.1) + (h.2 - a.2) * (h.2 - a.2))) * magC d
    ∧ 64 * ((d.1 * (h.1 - a.1) + d.2 * (h.2 - a.2)) * x + (d.2 * (h.1 - a.1) - d.1 * (h.2 - a.2)) * y) - Pl.isqrt (1024 * ((h.1 - a.1) * (h.1 - a.1) + (h.2 - a.2) * (h.2 - a.2))) * magC d ≤ 2 * (Pl.isqrt (1024 * ((h.1 - a.1) * (h.1 - a.1) + (h.2 - a.2) * (h.2 - a.2))) * (dotP d (putP a h x y) - dotP d a)) := by
  obtain ⟨d1, d2⟩ := d
  unfold putP dotP magC
  simp only
  generalize h.1 - a.1 = u at *
  generalize h.2 - a.2 = v at *
  generalize Pl.isqrt (1024 * (u * u + v * v)) = r at *
  have s1 := Pl.near_spec (32 * (u * x - v * y)) r hr
  have s2 := Pl.near_spec (32 * (v * x + u * y)) r hr
  generalize Pl.near (32 * (u * x - v * y)) r = A at *
  generalize Pl.near (32 * (v * x + u * y)) r = B at *
  generalize hP : 2 * (A * r - 32 * (u * x - v * y)) = P at *
  generalize hQ : 2 * (B * r - 32 * (v * x + u * y)) = Q at *
  have m1 := mul_magC (x := d1) s1
  have m2 := mul_magC (x := d2) s2
  have m3 := mul_magC (x := d1) (y := -P) (t := r) (by omega)
  have m4 := mul_magC (x := d2) (y := -Q) (t := r) (by omega)
  have e : 2 * (r * (d1 * (a.1 + A) + d2 * (a.2 + B) - (d1 * a.1 + d2 * a.2))) = 64 * ((d1 * u + d2 * v) * x + (d2 * u - d1 * v) * y) + (d1 * P + d2 * Q) := by rw [← hP, ← hQ]; grind
  have e2 : r * ((d1.natAbs : Int) + (d2.natAbs : Int)) = r * d1.natAbs + r * d2.natAbs := Int.mul_add _ _ _
  rw [e, e2]
  rw [Int.mul_neg] at m3 m4
  generalize (d1 * u + d2 * v) * x + (d2 * u - d1 * v) * y = Z at *
  omega
theorem body_has {a h : HPt} {x0 x1 W x y : Int} (hr : 1 ≤ Pl.isqrt (1024 * ((h.1 - a.1) * (h.1 - a.1) + (h.2 - a.2) * (h.2 - a.2)))) (hx : x0 ≤ x ∧ x ≤ x1) (hy : -W ≤ y ∧ y ≤ W) :
    cornersP (cornersP (growP 1 (cornersP [putP a h x1 W, putP a h x1 (-W), putP a h x0 W, putP a h x0 (-W)])) ++ [putP a h x y]) = cornersP (growP 1 (cornersP [putP a h x1 W, putP a h x1 (-W), putP a h x0 W, putP a h x0 (-W)])) := by
  obtain ⟨C, hC⟩ : ∃ C, [putP a h x1 W, putP a h x1 (-W), putP a h x0 W, putP a h x0 (-W)] = C := ⟨_, rfl⟩
  have hC0 : C ≠ [] := by rw [← hC]; simp
  rw [hC]
  have hg0 : growP 1 (cornersP C) ≠ [] := by
    obtain ⟨s, hs, _⟩ := support hC0 (0, 0)
    intro e
    have : (s.1 - 1, s.2 - 1) ∈ growP 1 (cornersP C) := List.mem_flatMap.2 ⟨s, hs, by simp [rgP]⟩
    rw [e] at this
    simp at this
  have hn0 : cornersP (growP 1 (cornersP C)) ≠ [] := by
    obtain ⟨s, hs, _⟩ := support hg0 (0, 0)
    intro e
    rw [e] at hs
    simp at hs
  rw [has_iff (corners_idem _) hn0]
  rintro ⟨d, k⟩
  -- the corner that is farthest
  have key : ∃ X Y, putP a h X Y ∈ C ∧ (d.1 * (h.1 - a.1) + d.2 * (h.2 - a.2)) * x + (d.2 * (h.1 - a.1) - d.1 * (h.2 - a.2)) * y ≤ (d.1 * (h.1 - a.1) + d.2 * (h.2 - a.2)) * X + (d.2 * (h.1 - a.1) - d.1 * (h.2 - a.2)) * Y := by
    generalize d.1 * (h.1 - a.1) + d.2 * (h.2 - a.2) = P
    generalize d.2 * (h.1 - a.1) - d.1 * (h.2 - a.2) = Q
    rcases Int.le_total 0 P with p0 | p0 <;> rcases Int.le_total 0 Q with q0 | q0
    · refine ⟨x1, W, by rw [← hC]; simp, ?_⟩
      have m1 := Int.mul_le_mul_of_nonneg_left hx.2 p0
      have m2 := Int.mul_le_mul_of_nonneg_left hy.2 q0
      omega
    · refine ⟨x1, -W, by rw [← hC]; simp, ?_⟩
      have m1 := Int.mul_le_mul_of_nonneg_left hx.2 p0
      have m2 := Int.mul_le_mul_of_nonpos_left q0 hy.1
      omega
    · refine ⟨x0, W, by rw [← hC]; simp, ?_⟩
      have m1 := Int.mul_le_mul_of_nonpos_left p0 hx.1
      have m2 := Int.mul_le_mul_of_nonneg_left hy.2 q0
      omega
    · refine ⟨x0, -W, by rw [← hC]; simp, ?_⟩
      have m1 := Int.mul_le_mul_of_nonpos_left p0 hx.1
      have m2 := Int.mul_le_mul_of_nonpos_left q0 hy.1
      omega
  obtain ⟨X, Y, hm, hle⟩ := key
  have b1 := (put_dot d a h x y hr).1
  have b2 := (put_dot d a h X Y hr).2
  obtain ⟨s, hs, ks⟩ := support hC0 d
  have c1 := ks _ hm
  obtain ⟨g, hg, eg⟩ := grow_topC d s
  obtain ⟨t, ht, kt⟩ := support hg0 d
  have c2 := kt g (List.mem_flatMap.2 ⟨s, hs, hg⟩)
  have c3 := k t ht
  generalize Pl.isqrt (1024 * ((h.1 - a.1) * (h.1 - a.1) + (h.2 - a.2) * (h.2 - a.2))) = r at *
  have c4 : dotP d (putP a h X Y) - dotP d a + magC d < dotP d (putP a h x y) - dotP d a := by omega
  have c5 := Int.mul_lt_mul_of_pos_left c4 (show 0 < r by omega)
  rw [Int.mul_add] at c5
  omega
end Go.Proofs.YtcbjecpfijogcaaGreat


/- Plain facts on pulled points: how far a pulled point is from its hitch. -/
import Derived.Test.YtgikfliibimkdaaPull
namespace Go.Proofs.Ytgikfliibimkdaa
namespace Pl

theorem sq_nonneg (a : Int) : 0 ≤ a * a := by
  rcases Int.le_total 0 a with h | h
  · exact Int.mul_nonneg h h
  · exact Int.mul_nonneg_of_nonpos_of_nonpos h h
theorem sq_le_sq {a b : Int} (hb : 0 ≤ b) (h : a * a ≤ b * b) : -b ≤ a ∧ a ≤ b := by
  constructor
  · by_cases hc : a < -b
    · have := sq_lt_of_lt (a := b) (b := -a) hb (by omega)
      rw [Int.neg_mul_neg] at this; omega
    · omega
  · by_cases hc : b < a
    · have := sq_lt_of_lt (a := b) (b := a) hb hc; omega
    · omega
/-- nearest: what is left -/
theorem near_spec (n d : Int) (hd : 1 ≤ d) : -d ≤ 2 * (near n d * d - n) ∧ 2 * (near n d * d - n) ≤ d := by
  have h := ediv_bd n d hd
  unfold near
  split
  · rw [Int.add_mul]; omega
  · omega
theorem near_le {n d k : Int} (hd : 1 ≤ d) (h : n ≤ k * d) : near n d ≤ k := by
  have h1 := near_spec n d hd
  by_cases hc : k < near n d
  · have h2 : (k + 1) * d ≤ near n d * d := Int.mul_le_mul_of_nonneg_right (by omega) (by omega)
    rw [Int.add_mul] at h2
    omega
  · omega
theorem le_near {n d k : Int} (hd : 1 ≤ d) (h : k * d ≤ n) : k ≤ near n d := by
  have h1 := near_spec n d hd
  by_cases hc : near n d < k
  · have h2 : (near n d + 1) * d ≤ k * d := Int.mul_le_mul_of_nonneg_right (by omega) (by omega)
    rw [Int.add_mul] at h2
    omega
  · omega

/-- the root of 1024 times a sum of squares -/
theorem root32 {u v : Int} : 32 * u ≤ isqrt (1024 * (u * u + v * v)) ∧ -(32 * u) ≤ isqrt (1024 * (u * u + v * v)) := by
  have a := sq_nonneg u
  have b := sq_nonneg v
  have c := lt_isqrt (1024 * (u * u + v * v)) (by omega)
  have d := isqrt_nonneg (1024 * (u * u + v * v))
  generalize isqrt (1024 * (u * u + v * v)) = r at c d
  have e : (32 * u) * (32 * u) = 1024 * (u * u) := by grind
  constructor
  · by_cases h : r < 32 * u
    · have := sq_le_of_le (a := r + 1) (b := 32 * u) (by omega) (by omega); omega
    · omega
  · by_cases h : r < -(32 * u)
    · have := sq_le_of_le (a := r + 1) (b := -(32 * u)) (by omega) (by omega)
      rw [Int.neg_mul_neg] at this; omega
    · omega

/-- the nearest point on the way to (u, v) at l is nearly l away, if l is at most half the root -/
theorem pulled_far {u v l r A B : Int} (hr : 32 ≤ r) (h1 : r * r ≤ 1024 * (u * u + v * v)) (h2 : 1024 * (u * u + v * v) < (r + 1) * (r + 1)) (hl : 1 ≤ l) (hlr : 2 * l ≤ r)
    (hA1 : -r ≤ 2 * (A * r - 32 * (u * l))) (hA2 : 2 * (A * r - 32 * (u * l)) ≤ r) (hB1 : -r ≤ 2 * (B * r - 32 * (v * l))) (hB2 : 2 * (B * r - 32 * (v * l)) ≤ r) :
    A * A + B * B ≤ (l + 2) * (l + 2) ∧ (2 ≤ l → (l - 2) * (l - 2) ≤ A * A + B * B) := by
  -- x, y: what is left
  generalize hx : A * r - 32 * (u * l) = x at hA1 hA2
  generalize hy : B * r - 32 * (v * l) = y at hB1 hB2
  -- 64 (u x + v y) is at most t r / 2 · .. : (64 (u x + v y))^2 ≤ ..
  have hS : r * r * (A * A + B * B) = 1024 * (u * u + v * v) * (l * l) + 64 * l * (u * x + v * y) + (x * x + y * y) := by
    have e1 : A * r = x + 32 * (u * l) := by omega
    have e2 : B * r = y + 32 * (v * l) := by omega
    have e3 : r * r * (A * A + B * B) = (A * r) * (A * r) + (B * r) * (B * r) := by grind
    rw [e3, e1, e2]; grind
  have hx2 : 4 * (x * x) ≤ r * r := by
    have := mul_bd (a := 2 * x) (b := 2 * x) hA1 hA2 hA1 hA2
    have e : (2 * x) * (2 * x) = 4 * (x * x) := by grind
    omega
  have hy2 : 4 * (y * y) ≤ r * r := by
    have := mul_bd (a := 2 * y) (b := 2 * y) hB1 hB2 hB1 hB2
    have e : (2 * y) * (2 * y) = 4 * (y * y) := by grind
    omega
  have hxn := sq_nonneg x
  have hyn := sq_nonneg y
  -- c: 32 (u x + v y), its square at most S (x^2 + y^2)
  generalize hc : 32 * (u * x + v * y) = c
  have hcc : c * c ≤ 1024 * (u * u + v * v) * (x * x + y * y) := by
    have e : 1024 * (u * u + v * v) * (x * x + y * y) - c * c = 1024 * ((u * y - v * x) * (u * y - v * x)) := by rw [← hc]; grind
    have := sq_nonneg (u * y - v * x)
    omega
  have hrr : 0 ≤ r * r := sq_nonneg r
  have hcb : -(r * (r + 1)) ≤ c ∧ c ≤ r * (r + 1) := by
    apply sq_le_sq (Int.mul_nonneg (by omega) (by omega))
    have e1 : 1024 * (u * u + v * v) * (x * x + y * y) ≤ (r + 1) * (r + 1) * (x * x + y * y) := Int.mul_le_mul_of_nonneg_right (by omega) (by omega)
    have e2 : (r + 1) * (r + 1) * (x * x + y * y) ≤ (r + 1) * (r + 1) * (r * r) := Int.mul_le_mul_of_nonneg_left (by omega) (sq_nonneg _)
    have e3 : r * (r + 1) * (r * (r + 1)) = (r + 1) * (r + 1) * (r * r) := by grind
    omega
  have hl2 : 64 * l * (u * x + v * y) = 2 * (l * c) := by rw [← hc]; grind
  have hlc1 : l * c ≤ l * (r * (r + 1)) := Int.mul_le_mul_of_nonneg_left hcb.2 (by omega)
  have hlc2 : -(l * (r * (r + 1))) ≤ l * c := by
    have := Int.mul_le_mul_of_nonneg_left (c := l) hcb.1 (by omega)
    rw [Int.mul_neg] at this; omega
  have hll : 0 ≤ l * l := sq_nonneg l
  have hSl1 : 1024 * (u * u + v * v) * (l * l) ≤ (r * r + 2 * r) * (l * l) := Int.mul_le_mul_of_nonneg_right (by
    have : (r + 1) * (r + 1) = r * r + 2 * r + 1 := by grind
    omega) hll
  have hSl2 : r * r * (l * l) ≤ 1024 * (u * u + v * v) * (l * l) := Int.mul_le_mul_of_nonneg_right h1 hll
  have f1 : (r * r + 2 * r) * (l * l) = r * r * (l * l) + 2 * (r * (l * l)) := by grind
  have f2 : l * (r * (r + 1)) = l * (r * r) + l * r := by grind
  have f3 : r * r * ((l + 2) * (l + 2)) = r * r * (l * l) + 4 * (l * (r * r)) + 4 * (r * r) := by grind
  have f4 : r * r * ((l - 2) * (l - 2)) = r * r * (l * l) - 4 * (l * (r * r)) + 4 * (r * r) := by grind
  have f5 : 2 * (r * (l * l)) ≤ l * (r * r) := by
    have := Int.mul_le_mul_of_nonneg_left (c := l * r) hlr (Int.mul_nonneg (by omega) (by omega))
    have e1 : l * r * (2 * l) = 2 * (r * (l * l)) := by grind
    have e2 : l * r * r = l * (r * r) := by grind
    omega
  have f6 : 32 * (l * r) ≤ l * (r * r) := by
    have := Int.mul_le_mul_of_nonneg_left (c := l * r) hr (Int.mul_nonneg (by omega) (by omega))
    have e2 : l * r * r = l * (r * r) := by grind
    omega
  have f7 : 0 ≤ l * r := Int.mul_nonneg (by omega) (by omega)
  have f8 : 0 ≤ r * (l * l) := Int.mul_nonneg (by omega) hll
  have hpos : 0 < r * r := Int.mul_pos (by omega) (by omega)
  constructor
  · exact Int.le_of_mul_le_mul_left (a := r * r) (by omega) hpos
  · intro h2l
    by_cases h3 : 2 < l
    · have f9 : 3 * (r * r) ≤ l * (r * r) := Int.mul_le_mul_of_nonneg_right (by omega) hrr
      exact Int.le_of_mul_le_mul_left (a := r * r) (by omega) hpos
    · obtain rfl : l = 2 := by omega
      have := sq_nonneg A
      have := sq_nonneg B
      omega
theorem abs_le_of {n r k : Int} (hr : 1 ≤ r) (h1 : n ≤ k * r) (h2 : -(k * r) ≤ n) : -k ≤ near n r ∧ near n r ≤ k :=
  ⟨le_near hr (by rw [Int.neg_mul]; exact h2), near_le hr h1⟩
/-- what is put at l on the way to (u, v) is at most l away, in each direction -/
theorem put_abs {u v l : Int} (hl : 0 ≤ l) (hr : 1 ≤ isqrt (1024 * (u * u + v * v))) :
    -l ≤ near (32 * (u * l)) (isqrt (1024 * (u * u + v * v))) ∧ near (32 * (u * l)) (isqrt (1024 * (u * u + v * v))) ≤ l := by
  have h := root32 (u := u) (v := v)
  generalize isqrt (1024 * (u * u + v * v)) = r at hr h
  have e : 32 * (u * l) = l * (32 * u) := by grind
  rw [e]
  refine abs_le_of hr ?_ ?_
  · exact Int.mul_le_mul_of_nonneg_left h.1 hl
  · have := Int.mul_le_mul_of_nonneg_left h.2 hl
    rw [Int.mul_neg] at this; omega
theorem isqrt_ge {n b : Int} (hn : 0 ≤ n) (_ : 0 ≤ b) (h : b * b ≤ n) : b ≤ isqrt n := by
  have h1 := lt_isqrt n hn
  have h2 := isqrt_nonneg n
  by_cases hc : isqrt n < b
  · have := sq_le_of_le (a := isqrt n + 1) (b := b) (by omega) (by omega); omega
  · omega
theorem isqrt_le_of {n b : Int} (hn : 0 ≤ n) (hb : 0 ≤ b) (h : n ≤ b * b) : isqrt n ≤ b := by
  have h1 := isqrt_le n hn
  have h2 := isqrt_nonneg n
  by_cases hc : b < isqrt n
  · have := sq_lt_of_lt (a := b) (b := isqrt n) hb hc; omega
  · omega
/-- pulled once more, a point stays nearly -/
theorem put_again {A B l : Int} (hl : 3 ≤ l) (h1 : A * A + B * B ≤ (l + 2) * (l + 2)) (h2 : (l - 2) * (l - 2) ≤ A * A + B * B) :
    -2 ≤ near (32 * (A * l)) (isqrt (1024 * (A * A + B * B))) - A ∧ near (32 * (A * l)) (isqrt (1024 * (A * A + B * B))) - A ≤ 2 := by
  have hp : 1 ≤ (l - 2) * (l - 2) := by have := sq_le_of_le (a := 1) (b := l - 2) (by omega) (by omega); omega
  have r1 : 32 * (l - 2) ≤ isqrt (1024 * (A * A + B * B)) := isqrt_ge (by omega) (by omega) (by
    have e : 32 * (l - 2) * (32 * (l - 2)) = 1024 * ((l - 2) * (l - 2)) := by grind
    omega)
  have r2 : isqrt (1024 * (A * A + B * B)) ≤ 32 * (l + 2) := isqrt_le_of (by omega) (by omega) (by
    have e : 32 * (l + 2) * (32 * (l + 2)) = 1024 * ((l + 2) * (l + 2)) := by grind
    omega)
  have h := root32 (u := A) (v := B)
  generalize isqrt (1024 * (A * A + B * B)) = r at r1 r2 h
  -- 32 A l = A r + A (32 l - r), and |A| |32 l - r| ≤ 64 |A| ≤ 2 r
  generalize hd : 32 * l - r = d
  have hd1 : -64 ≤ d ∧ d ≤ 64 := by omega
  have e : 32 * (A * l) = A * r + A * d := by rw [← hd]; grind
  have hA : -(2 * r) ≤ A * d ∧ A * d ≤ 2 * r := by
    have b1 := mul_bd (a := 32 * A) (b := d) (A := r) (B := 64) (by omega) h.1 hd1.1 hd1.2
    have e2 : 32 * A * d = 32 * (A * d) := by grind
    omega
  have k1 : near (32 * (A * l)) r ≤ A + 2 := near_le (by omega) (by rw [e, Int.add_mul]; omega)
  have k2 : A - 2 ≤ near (32 * (A * l)) r := le_near (by omega) (by rw [e, Int.sub_mul]; omega)
  omega
end Pl

theorem okPt_of {x y : Int} (h1 : -16777216 ≤ x) (h2 : x ≤ 16777216) (h3 : -16777216 ≤ y) (h4 : y ≤ 16777216) : okPt (x, y) = true := okPt_iff.2 ⟨⟨h1, h2⟩, h3, h4⟩

theorem pull_facts {hx hy yx yy l : Int} (a1 : -128 ≤ hx) (a2 : hx ≤ 128) (a3 : -128 ≤ hy) (a4 : hy ≤ 128) (b1 : -8388608 ≤ yx) (b2 : yx ≤ 8388608) (b3 : -8388608 ≤ yy) (b4 : yy ≤ 8388608) (hl1 : 1 ≤ l) (hl2 : l ≤ 1048576)
    (hne : ¬ (yx = hx ∧ yy = hy)) :
    ∃ px py : Int, pullS (hx, hy) (yx, yy) l = ((px, py), 0) ∧ (-2000000 ≤ px ∧ px ≤ 2000000) ∧ (-2000000 ≤ py ∧ py ≤ 2000000) ∧
      (l ≤ 16 * Pl.isqrt ((yx - hx) * (yx - hx) + (yy - hy) * (yy - hy)) →
        (-2 ≤ Pl.isqrt ((px - hx) * (px - hx) + (py - hy) * (py - hy)) - l ∧ Pl.isqrt ((px - hx) * (px - hx) + (py - hy) * (py - hy)) - l ≤ 2) ∧
        (100 ≤ l → ∃ qx qy : Int, pullS (hx, hy) (px, py) l = ((qx, qy), 0) ∧ (-2 ≤ px - qx ∧ px - qx ≤ 2) ∧ (-2 ≤ py - qy ∧ py - qy ≤ 2))) := by
  have hne' : ¬ (yx - hx = 0 ∧ yy - hy = 0) := by omega
  have PB := put_bds (x := 1) (y := 0) hne' (by omega) (by omega) (by omega) (by omega) (by omega) (by omega) (by omega) (by omega)
  obtain ⟨c1, c2, c3, c4, c5, _, _, _, _, _, _, _, _, c14, c15, _⟩ := PB
  generalize hu : yx - hx = u at *
  generalize hv : yy - hy = v at *
  have m1 := Pl.put_abs (u := u) (v := v) (l := l) (by omega) c14
  have m2 := Pl.put_abs (u := v) (v := u) (l := l) (by omega) (by rw [Int.add_comm]; exact c14)
  rw [Int.add_comm (v * v)] at m2
  have s1 := Pl.near_spec (32 * (u * l)) _ c14
  have s2 := Pl.near_spec (32 * (v * l)) _ c14
  have g1 := Pl.isqrt_le (1024 * (u * u + v * v)) (by omega)
  have g2 := Pl.lt_isqrt (1024 * (u * u + v * v)) (by omega)
  have g3 : 32 ≤ Pl.isqrt (1024 * (u * u + v * v)) := Pl.isqrt_ge (by omega) (by omega) (by omega)
  have g4 : 32 * Pl.isqrt (u * u + v * v) ≤ Pl.isqrt (1024 * (u * u + v * v)) := by
    have k1 := Pl.isqrt_le (u * u + v * v) (by omega)
    have k2 := Pl.isqrt_nonneg (u * u + v * v)
    refine Pl.isqrt_ge (by omega) (by omega) ?_
    have e : 32 * Pl.isqrt (u * u + v * v) * (32 * Pl.isqrt (u * u + v * v)) = 1024 * (Pl.isqrt (u * u + v * v) * Pl.isqrt (u * u + v * v)) := by grind
    omega
  have hput : putP (hx, hy) (yx, yy) l 0 = (hx + Pl.near (32 * (u * l)) (Pl.isqrt (1024 * (u * u + v * v))), hy + Pl.near (32 * (v * l)) (Pl.isqrt (1024 * (u * u + v * v)))) := by
    simp only [putP, hu, hv, Int.mul_zero, Int.sub_zero, Int.add_zero]
  generalize hr : Pl.isqrt (1024 * (u * u + v * v)) = r at *
  generalize hA : Pl.near (32 * (u * l)) r = A at *
  generalize hB : Pl.near (32 * (v * l)) r = B at *
  refine ⟨hx + A, hy + B, ?_, by omega, by omega, ?_⟩
  · rw [pullS_r (okPt_of (by omega) (by omega) (by omega) (by omega)) (okPt_of (by omega) (by omega) (by omega) (by omega)) (inB_iff.2 ⟨by omega, by omega⟩) (by simp only [Prod.mk.injEq]; omega), hput]
    exact resS_yes (okPt_of (by omega) (by omega) (by omega) (by omega))
  · intro hd
    rw [show hx + A - hx = A by omega, show hy + B - hy = B by omega]
    have far := Pl.pulled_far g3 g1 g2 hl1 (by omega) s1.1 s1.2 s2.1 s2.2
    have hAB : 0 ≤ A * A + B * B := by have := Pl.sq_nonneg A; have := Pl.sq_nonneg B; omega
    constructor
    · have k1 := Pl.isqrt_le_of hAB (by omega) far.1
      have k2 := Pl.isqrt_nonneg (A * A + B * B)
      have k3 : 2 ≤ l → l - 2 ≤ Pl.isqrt (A * A + B * B) := fun h => Pl.isqrt_ge hAB (by omega) (far.2 h)
      omega
    · intro h100
      have f2 := far.2 (by omega)
      have p1 := Pl.put_again (A := A) (B := B) (l := l) (by omega) far.1 f2
      have p2 := Pl.put_again (A := B) (B := A) (l := l) (by omega) (by rw [Int.add_comm]; exact far.1) (by rw [Int.add_comm]; exact f2)
      rw [Int.add_comm (B * B)] at p2
      have hput2 : putP (hx, hy) (hx + A, hy + B) l 0 = (hx + Pl.near (32 * (A * l)) (Pl.isqrt (1024 * (A * A + B * B))), hy + Pl.near (32 * (B * l)) (Pl.isqrt (1024 * (A * A + B * B)))) := by
        simp only [putP, show hx + A - hx = A by omega, show hy + B - hy = B by omega, Int.mul_zero, Int.sub_zero, Int.add_zero]
      have hne2 : ¬ (A = 0 ∧ B = 0) := by
        rintro ⟨rfl, rfl⟩
        have := Pl.sq_le_of_le (a := 98) (b := l - 2) (by omega) (by omega)
        omega
      refine ⟨hx + Pl.near (32 * (A * l)) (Pl.isqrt (1024 * (A * A + B * B))), hy + Pl.near (32 * (B * l)) (Pl.isqrt (1024 * (A * A + B * B))), ?_, by omega, by omega⟩
      · rw [pullS_r (okPt_of (by omega) (by omega) (by omega) (by omega)) (okPt_of (by omega) (by omega) (by omega) (by omega)) (inB_iff.2 ⟨by omega, by omega⟩) (by simp only [Prod.mk.injEq]; omega), hput2]
        exact resS_yes (okPt_of (by omega) (by omega) (by omega) (by omega))
end Go.Proofs.Ytgikfliibimkdaa

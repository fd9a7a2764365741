
/- PlaneB: several texts in one. -/
import Derived.Test.YtkkeblgahbpmmaaPlaneA
import Derived.Deep.RegionHeld3
import Derived.Deep.DrawnRows
/- Contracts: whether a list of points is valid and not too long. -/
namespace Go.Proofs.Ytkkeblgahbpmmaa
open Go.RowKit

/-- the refusal of a list of points -/
def errPts (l : List (Int × Int)) : Int := if 256 < l.length then 6 else if l.all okPt = true then 0 else 2
theorem errPts_many {l : List (Int × Int)} (h : 256 < l.length) : errPts l = 6 := by simp [errPts, h]
theorem errPts_bad {l : List (Int × Int)} (h : ¬ 256 < l.length) (k : l.all okPt = false) : errPts l = 2 := by simp [errPts, h, k]
theorem errPts_ok {l : List (Int × Int)} (h : ¬ 256 < l.length) (k : l.all okPt = true) : errPts l = 0 := by simp only [errPts, h, k, if_true, if_false]
theorem Pts.shape {w : World} {v : Value} {l : List (Int × Int)} (h : Pts w v l) : ∃ a cap, v = .slice a l.length cap ∧ l.length ≤ 9223372036854775807 := by
  rcases h with ⟨a, c, rfl, rfl⟩ | ⟨b, off, cap, rfl, hl, _, _⟩
  · exact ⟨_, _, rfl, by simp⟩
  · exact ⟨_, _, rfl, hl⟩

set_option maxHeartbeats 800000 in
theorem checkPoints_c (b cap : Nat) (v : Value) (l : List (Int × Int)) (w : World) (hp : Pts w v l) (h1 : w.cell? ⟨b, 0, none⟩ = some v) :
    Calls Try.prog 95 #[.slice (some ⟨b, 0, none⟩) 1 cap] w fun e w' => e = .returned (.int .i64 (errPts l)) ∧ Ext w w' := by
  obtain ⟨a, cap', rfl, hl⟩ := hp.shape
  have HP := Lib.hid hp
  clear hp
  by_cases hm : 256 < l.length
  · rw [errPts_many hm]
    go_enter Try.func95, Try.ntmps95
    go_wp2
    go_loop [9] (fun i => i = .int .i64 0) (fun i => 2 - (intOf i).toNat)
    case atStart => rfl
    case round =>
      subst hrel
      go_wp2
      go_ret
      exact ⟨rfl, Ext.refl _⟩
  · have hm' : (l.length : Int) ≤ 256 := by omega
    cases ha : l.all okPt
    · rw [errPts_bad hm ha]
      have HA := Lib.hid ha
      clear ha hm
      go_enter Try.func95, Try.ntmps95
      go_wp2
      go_loop [9] (fun i => i = .int .i64 0 ∨ i = .int .i64 1) (fun i => 2 - (intOf i).toNat)
      case atStart => exact .inl rfl
      case round =>
        rcases hrel with rfl | rfl
        · go_wp2
          go_round
          case rel => exact .inr rfl
          case measure => simp [intOf]
        · go_wp2
          go_loopw [19] (fun i wr => i = .int .i64 0 ∧ wr = w) (fun i _ => 0)
          case atStart => exact ⟨rfl, rfl⟩
          case round =>
            obtain ⟨rfl, rfl⟩ := hrel
            go_wp2_with (go_at_call 100; refine (valid_c _ _ _ HP.out).mono ?_; rintro e w' ⟨he, hb⟩; rw [HA.out] at he; subst he)
            go_ret
            exact ⟨rfl, hb⟩
    · rw [errPts_ok hm ha]
      have HA := Lib.hid ha
      clear ha hm
      go_enter Try.func95, Try.ntmps95
      go_wp2
      go_loop [9] (fun i => i = .int .i64 0 ∨ i = .int .i64 1) (fun i => 2 - (intOf i).toNat)
      case atStart => exact .inl rfl
      case round =>
        rcases hrel with rfl | rfl
        · go_wp2
          go_round
          case rel => exact .inr rfl
          case measure => simp [intOf]
        · go_wp2
          go_loopw [19] (fun i wr => (i = .int .i64 0 ∧ wr = w) ∨ (i = .int .i64 1 ∧ Ext w wr)) (fun i _ => 2 - (intOf i).toNat)
          case atStart => exact .inl ⟨rfl, rfl⟩
          case round =>
            rcases hrel with ⟨rfl, rfl⟩ | ⟨rfl, hE⟩
            · go_wp2_with (go_at_call 100; refine (valid_c _ _ _ HP.out).mono ?_; rintro e w' ⟨he, hb⟩; rw [HA.out] at he; subst he)
              go_roundw
              case rel => exact .inr ⟨rfl, hb⟩
              case measure => simp [intOf]
            · go_wp2
              go_ret
              exact ⟨rfl, hE⟩

end Go.Proofs.Ytkkeblgahbpmmaa
/- Contracts: the length of a polyline. -/
namespace Go.Proofs.Ytkkeblgahbpmmaa
open Go.RowKit

/-- the distance of a point of a list and the next one; the length up to a point -/
def farAt (l : List (Int × Int)) (i : Nat) : Int := farS (l.getD i (0, 0)) (l.getD (i + 1) (0, 0))
def longN (l : List (Int × Int)) : Nat → Int
  | 0 => 0
  | k + 1 => longN l k + farAt l k
def longS (l : List (Int × Int)) : Int := longN l (l.length - 1)
theorem okAt {l : List (Int × Int)} (h : l.all okPt = true) {k : Nat} (hk : k < l.length) : okPt (l.getD k (0, 0)) = true := by
  rw [getD_lt hk]; exact List.all_eq_true.1 h _ (List.getElem_mem hk)
theorem farAt_bd {l : List (Int × Int)} (h : l.all okPt = true) {k : Nat} (hk : k + 1 < l.length) : 0 ≤ farAt l k ∧ farAt l k ≤ 67108864 := by
  obtain ⟨a1, a2, a3, a4⟩ := okPt_bd (x := (l.getD k (0, 0)).1) (y := (l.getD k (0, 0)).2) (okAt h (by omega))
  obtain ⟨a5, a6, a7, a8⟩ := okPt_bd (x := (l.getD (k + 1) (0, 0)).1) (y := (l.getD (k + 1) (0, 0)).2) (okAt h hk)
  unfold farAt farS
  generalize l.getD k (0, 0) = P at *
  generalize l.getD (k + 1) (0, 0) = Q at *
  obtain ⟨c1, c2, c3, c4⟩ := dist_bd (u := Q.1 - P.1) (v := Q.2 - P.2) (by omega) (by omega) (by omega) (by omega)
  exact ⟨Pl.isqrt_nonneg _, Pl.isqrt_le_of (by omega) (by omega) (by omega)⟩
theorem longN_bd {l : List (Int × Int)} (h : l.all okPt = true) : ∀ k : Nat, k < l.length → 0 ≤ longN l k ∧ longN l k ≤ 67108864 * k
  | 0, _ => ⟨Int.le_refl _, by simp [longN]⟩
  | k + 1, hk => by
    have a := longN_bd h k (by omega)
    have b := farAt_bd h hk
    simp only [longN]
    omega

end Go.Proofs.Ytkkeblgahbpmmaa
/- Contracts: 'Length'. -/
namespace Go.Proofs.Ytkkeblgahbpmmaa
open Go.RowKit

def lenS (l : List (Int × Int)) : Int × Int := if errPts l = 0 then (if l.length = 0 then (0, 5) else (longS l, 0)) else (0, errPts l)
theorem errPts_0 {l : List (Int × Int)} (h : errPts l = 0) : l.length ≤ 256 ∧ l.all okPt = true := by
  unfold errPts at h
  by_cases h1 : 256 < l.length
  · simp [h1] at h
  · cases h2 : l.all okPt
    · simp [h1, h2] at h
    · exact ⟨by omega, rfl⟩
theorem lenS_bad {l : List (Int × Int)} (h : ¬ errPts l = 0) : lenS l = (0, errPts l) := by simp [lenS, h]
theorem lenS_none {l : List (Int × Int)} (h : errPts l = 0) (k : l.length = 0) : lenS l = (0, 5) := by simp [lenS, h, k]
theorem lenS_ok {l : List (Int × Int)} (h : errPts l = 0) (k : ¬ l.length = 0) : lenS l = (longS l, 0) := by simp [lenS, h, k]

end Go.Proofs.Ytkkeblgahbpmmaa
/- Contracts: the point at a length of a polyline. -/
namespace Go.Proofs.Ytkkeblgahbpmmaa
open Go.RowKit

/-- the point at s of the piece k, which is d long -/
def ptAt (l : List (Int × Int)) (k : Nat) (s d : Int) : Int × Int := ((l.getD k (0, 0)).1 + Pl.near (((l.getD (k + 1) (0, 0)).1 - (l.getD k (0, 0)).1) * s) d, (l.getD k (0, 0)).2 + Pl.near (((l.getD (k + 1) (0, 0)).2 - (l.getD k (0, 0)).2) * s) d)
def atN (l : List (Int × Int)) : Nat → Nat → Int → (Int × Int) × Int
  | 0, _, _ => (l.getD 0 (0, 0), 0)
  | f + 1, k, s => if 0 < farAt l k ∧ s ≤ farAt l k then (ptAt l k s (farAt l k), (k : Int)) else atN l f (k + 1) (s - farAt l k)
def atS (l : List (Int × Int)) (s : Int) : (Int × Int) × Int := atN l (l.length - 1) 0 s
def alongS (l : List (Int × Int)) (s : Int) : ((Int × Int) × Int) × Int :=
  if (lenS l).2 = 0 then (if inB s 0 (lenS l).1 = true then (atS l s, 0) else (((0, 0), 0), 3)) else (((0, 0), 0), (lenS l).2)
def ptiV (p : (Int × Int) × Int) : Value := .tuple #[.agg #[.int .i64 p.1.1, .int .i64 p.1.2], .int .i64 p.2]
def ptieV (p : ((Int × Int) × Int) × Int) : Value := .tuple #[.agg #[.int .i64 p.1.1.1, .int .i64 p.1.1.2], .int .i64 p.1.2, .int .i64 p.2]

theorem Ext.frz' {w w' : World} (h : Ext w w') {p : Addr} (hp : p.block < w.heap.size) (hf : w.frozen? p = false) : w'.frozen? p = false := (Below.frozen h hp).trans hf
theorem atN_yes {l : List (Int × Int)} {f k : Nat} {s : Int} (h : 0 < farAt l k ∧ s ≤ farAt l k) : atN l (f + 1) k s = (ptAt l k s (farAt l k), (k : Int)) := by simp only [atN]; rw [if_pos h]
theorem atN_no {l : List (Int × Int)} {f k : Nat} {s : Int} (h : ¬ (0 < farAt l k ∧ s ≤ farAt l k)) : atN l (f + 1) k s = atN l f (k + 1) (s - farAt l k) := by simp only [atN]; rw [if_neg h]

end Go.Proofs.Ytkkeblgahbpmmaa
/- Contracts: 'Along'. -/
namespace Go.Proofs.Ytkkeblgahbpmmaa
open Go.RowKit

theorem alongS_bad {l : List (Int × Int)} {s : Int} (h : ¬ (lenS l).2 = 0) : alongS l s = (((0, 0), 0), (lenS l).2) := by simp [alongS, h]
theorem alongS_out {l : List (Int × Int)} {s : Int} (h : (lenS l).2 = 0) (k : inB s 0 (lenS l).1 = false) : alongS l s = (((0, 0), 0), 3) := by simp [alongS, h, k]
theorem alongS_in {l : List (Int × Int)} {s : Int} (h : (lenS l).2 = 0) (k : inB s 0 (lenS l).1 = true) : alongS l s = (atS l s, 0) := by simp [alongS, h, k]
theorem lenS_0 {l : List (Int × Int)} (h : (lenS l).2 = 0) : errPts l = 0 ∧ ¬ l.length = 0 ∧ (lenS l).1 = longS l := by
  by_cases he : errPts l = 0
  · by_cases hz : l.length = 0
    · rw [lenS_none he hz] at h; cases h
    · rw [lenS_ok he hz]; exact ⟨he, hz, rfl⟩
  · rw [lenS_bad he] at h; exact absurd h he
theorem longS_le {l : List (Int × Int)} (h : errPts l = 0) (hz : ¬ l.length = 0) : 0 ≤ longS l ∧ longS l ≤ 17179869184 := by
  obtain ⟨hm, ha⟩ := errPts_0 h
  have := longN_bd ha (l.length - 1) (by omega)
  unfold longS
  omega

end Go.Proofs.Ytkkeblgahbpmmaa
/- What the points along a polyline are like. -/
namespace Go.Proofs.Ytkkeblgahbpmmaa

def restN (l : List (Int × Int)) : Nat → Nat → Int
  | 0, _ => 0
  | f + 1, k => farAt l k + restN l f (k + 1)
theorem restN_longN (l : List (Int × Int)) : ∀ (f k : Nat), longN l (k + f) = longN l k + restN l f k
  | 0, k => by simp [restN]
  | f + 1, k => by
    have := restN_longN l f (k + 1)
    rw [show k + (f + 1) = k + 1 + f by omega, this]
    simp only [restN, longN]; omega
theorem longS_rest (l : List (Int × Int)) : longS l = restN l (l.length - 1) 0 := by
  unfold longS
  have := restN_longN l (l.length - 1) 0
  rw [Nat.zero_add] at this
  rw [this]; simp [longN]
theorem farS_nonneg (a b : Int × Int) : 0 ≤ farS a b := Pl.isqrt_nonneg _
theorem farAt_nonneg (l : List (Int × Int)) (k : Nat) : 0 ≤ farAt l k := farS_nonneg _ _
theorem restN_nonneg (l : List (Int × Int)) : ∀ f k, 0 ≤ restN l f k
  | 0, _ => Int.le_refl _
  | f + 1, k => by have := farAt_nonneg l k; have := restN_nonneg l f (k + 1); simp only [restN]; omega
theorem sq_zero {u v : Int} (h : u * u + v * v < 1) : u = 0 ∧ v = 0 := by
  have h1 : 0 ≤ u * u := by rcases Int.le_total 0 u with h | h; exact Int.mul_nonneg h h; exact Int.mul_nonneg_of_nonpos_of_nonpos h h
  have h2 : 0 ≤ v * v := by rcases Int.le_total 0 v with h | h; exact Int.mul_nonneg h h; exact Int.mul_nonneg_of_nonpos_of_nonpos h h
  have e1 : u * u = 0 := by omega
  have e2 : v * v = 0 := by omega
  exact ⟨by rcases Int.mul_eq_zero.1 e1 with h | h <;> exact h, by rcases Int.mul_eq_zero.1 e2 with h | h <;> exact h⟩
theorem sq_nonneg (u : Int) : 0 ≤ u * u := by rcases Int.le_total 0 u with h | h; exact Int.mul_nonneg h h; exact Int.mul_nonneg_of_nonpos_of_nonpos h h
theorem farS_zero {a b : Int × Int} (h : farS a b = 0) : a = b := by
  unfold farS at h
  have h1 := sq_nonneg (b.1 - a.1)
  have h2 := sq_nonneg (b.2 - a.2)
  have h3 := Pl.lt_isqrt ((b.1 - a.1) * (b.1 - a.1) + (b.2 - a.2) * (b.2 - a.2)) (by omega)
  rw [h] at h3
  obtain ⟨h4, h5⟩ := sq_zero (u := b.1 - a.1) (v := b.2 - a.2) (by simpa using h3)
  exact Prod.ext (by omega) (by omega)
theorem farS_ge {a b : Int × Int} : b.1 - a.1 ≤ farS a b ∧ a.1 - b.1 ≤ farS a b ∧ b.2 - a.2 ≤ farS a b ∧ a.2 - b.2 ≤ farS a b := by
  have hn := farS_nonneg a b
  unfold farS at hn ⊢
  have h1 := sq_nonneg (b.1 - a.1)
  have h2 := sq_nonneg (b.2 - a.2)
  have h3 := Pl.lt_isqrt ((b.1 - a.1) * (b.1 - a.1) + (b.2 - a.2) * (b.2 - a.2)) (by omega)
  generalize Pl.isqrt ((b.1 - a.1) * (b.1 - a.1) + (b.2 - a.2) * (b.2 - a.2)) = D at *
  generalize hu : b.1 - a.1 = u at *
  generalize hv : b.2 - a.2 = v at *
  have key : ∀ x : Int, x * x < (D + 1) * (D + 1) → x ≤ D := fun x hx => by
    by_cases hc : x ≤ D
    · exact hc
    · exfalso
      have : (D + 1) * (D + 1) ≤ x * x := Int.mul_le_mul (by omega) (by omega) (by omega) (by omega)
      omega
  have e1 : -u * -u = u * u := by rw [Int.neg_mul_neg]
  have e2 : -v * -v = v * v := by rw [Int.neg_mul_neg]
  have k1 := key u (by omega)
  have k2 := key (-u) (by omega)
  have k3 := key v (by omega)
  have k4 := key (-v) (by omega)
  exact ⟨k1, by omega, k3, by omega⟩
theorem rest_zero {l : List (Int × Int)} : ∀ f k, restN l f k = 0 → l.getD (k + f) (0, 0) = l.getD k (0, 0)
  | 0, k, _ => rfl
  | f + 1, k, h => by
    have a := farAt_nonneg l k
    have b := restN_nonneg l f (k + 1)
    simp only [restN] at h
    have c := rest_zero (l := l) f (k + 1) (by omega)
    have d : farAt l k = 0 := by omega
    have e := farS_zero d
    rw [show k + (f + 1) = k + 1 + f by omega, c, ← e]
theorem near_zero {d : Int} (h : 1 ≤ d) : Pl.near 0 d = 0 := by
  have h1 := Pl.near_spec 0 d h
  have a := Pl.near_le (n := 0) (d := d) (k := 0) h (by omega)
  have b := h1.1
  by_cases hc : 0 ≤ Pl.near 0 d
  · omega
  · have : Pl.near 0 d * d ≤ (-1) * d := Int.mul_le_mul_of_nonneg_right (by omega) (by omega)
    omega
theorem near_mul {k d : Int} (h : 1 ≤ d) : Pl.near (k * d) d = k := by
  have h1 := Pl.near_spec (k * d) d h
  have a := Pl.near_le (n := k * d) (d := d) (k := k) h (Int.le_refl _)
  have b := h1.1
  by_cases hc : k ≤ Pl.near (k * d) d
  · omega
  · have : Pl.near (k * d) d * d ≤ (k - 1) * d := Int.mul_le_mul_of_nonneg_right (by omega) (by omega)
    rw [Int.sub_mul] at this
    omega
/-- the first point -/
theorem at_first (l : List (Int × Int)) : ∀ f k, l.getD k (0, 0) = l.getD 0 (0, 0) → (atN l f k 0).1 = l.getD 0 (0, 0)
  | 0, k, _ => rfl
  | f + 1, k, h => by
    have a := farAt_nonneg l k
    by_cases hd : 0 < farAt l k
    · rw [atN_yes ⟨hd, a⟩]
      simp only [ptAt, Int.mul_zero, near_zero (show 1 ≤ farAt l k by omega), Int.add_zero]
      exact h
    · have hd0 : farAt l k = 0 := by omega
      rw [atN_no (by omega), hd0, Int.sub_zero]
      exact at_first l f (k + 1) (by rw [← farS_zero hd0]; exact h)
/-- the last point -/
theorem at_last (l : List (Int × Int)) : ∀ f k, 0 < restN l f k → (atN l f k (restN l f k)).1 = l.getD (k + f) (0, 0)
  | 0, k, h => by simp [restN] at h
  | f + 1, k, h => by
    have a := farAt_nonneg l k
    have b := restN_nonneg l f (k + 1)
    have hr : restN l (f + 1) k = farAt l k + restN l f (k + 1) := rfl
    by_cases hz : restN l f (k + 1) = 0
    · have hd : 0 < farAt l k := by omega
      rw [atN_yes ⟨hd, by omega⟩, hr, hz, Int.add_zero]
      simp only [ptAt]
      rw [near_mul (by omega), near_mul (by omega)]
      have := rest_zero f (k + 1) hz
      rw [show k + (f + 1) = k + 1 + f by omega, this]
      exact Prod.ext (by simp only; omega) (by simp only; omega)
    · rw [atN_no (by omega), hr, show farAt l k + restN l f (k + 1) - farAt l k = restN l f (k + 1) by omega, at_last l f (k + 1) (by omega)]
      rw [show k + (f + 1) = k + 1 + f by omega]
/-- the piece -/
theorem at_piece (l : List (Int × Int)) : ∀ f k s, 0 ≤ s → s ≤ restN l f k → 1 ≤ restN l f k → (k : Int) ≤ (atN l f k s).2 ∧ (atN l f k s).2 < k + f
  | 0, k, s, _, _, h => by simp [restN] at h
  | f + 1, k, s, h0, h1, h2 => by
    have a := farAt_nonneg l k
    have hr : restN l (f + 1) k = farAt l k + restN l f (k + 1) := rfl
    by_cases hy : 0 < farAt l k ∧ s ≤ farAt l k
    · rw [atN_yes hy]; simp only; omega
    · rw [atN_no hy]
      have hs : 0 ≤ s - farAt l k := by
        by_cases h : 0 < farAt l k
        · have : ¬ s ≤ farAt l k := fun k => hy ⟨h, k⟩
          omega
        · omega
      have hr2 : 1 ≤ restN l f (k + 1) := by
        by_cases h : 0 < farAt l k
        · have : ¬ s ≤ farAt l k := fun k => hy ⟨h, k⟩
          omega
        · omega
      have := at_piece l f (k + 1) (s - farAt l k) hs (by omega) hr2
      omega
theorem near_step {u s d : Int} (hd : 1 ≤ d) (h1 : -d ≤ u) (h2 : u ≤ d) : -2 ≤ Pl.near (u * (s + 1)) d - Pl.near (u * s) d ∧ Pl.near (u * (s + 1)) d - Pl.near (u * s) d ≤ 2 := by
  have a := Pl.near_spec (u * (s + 1)) d hd
  have b := Pl.near_spec (u * s) d hd
  have e : u * (s + 1) = u * s + u := by rw [Int.mul_add, Int.mul_one]
  rw [e] at a ⊢
  generalize Pl.near (u * s + u) d = x at *
  generalize Pl.near (u * s) d = y at *
  generalize u * s = m at *
  have k1 : 2 * ((x - y) * d) ≤ 2 * u + 2 * d := by rw [Int.sub_mul]; omega
  have k2 : -(2 * d) + 2 * u ≤ 2 * ((x - y) * d) := by rw [Int.sub_mul]; omega
  generalize x - y = z at *
  constructor
  · by_cases hc : -2 ≤ z
    · exact hc
    · have : z * d ≤ (-3) * d := Int.mul_le_mul_of_nonneg_right (by omega) (by omega)
      omega
  · by_cases hc : z ≤ 2
    · exact hc
    · have : 3 * d ≤ z * d := Int.mul_le_mul_of_nonneg_right (by omega) (by omega)
      omega
/-- two points that are 1 apart -/
theorem at_step (l : List (Int × Int)) : ∀ f k s, 0 ≤ s → s + 1 ≤ restN l f k → (atN l f k s).2 ≤ (atN l f k (s + 1)).2 ∧
    ((atN l f k s).2 = (atN l f k (s + 1)).2 → (-2 ≤ (atN l f k s).1.1 - (atN l f k (s + 1)).1.1 ∧ (atN l f k s).1.1 - (atN l f k (s + 1)).1.1 ≤ 2 ∧ -2 ≤ (atN l f k s).1.2 - (atN l f k (s + 1)).1.2 ∧ (atN l f k s).1.2 - (atN l f k (s + 1)).1.2 ≤ 2))
  | 0, k, s, h, h' => by simp [restN] at h'; omega
  | f + 1, k, s, h0, h1 => by
    have a := farAt_nonneg l k
    have hr : restN l (f + 1) k = farAt l k + restN l f (k + 1) := rfl
    by_cases hy : 0 < farAt l k ∧ s + 1 ≤ farAt l k
    · rw [atN_yes hy, atN_yes ⟨hy.1, by omega⟩]
      refine ⟨Int.le_refl _, fun _ => ?_⟩
      have g := @farS_ge (l.getD k (0, 0)) (l.getD (k + 1) (0, 0))
      have hf : farS (l.getD k (0, 0)) (l.getD (k + 1) (0, 0)) = farAt l k := rfl
      rw [hf] at g
      have n1 := near_step (u := (l.getD (k + 1) (0, 0)).1 - (l.getD k (0, 0)).1) (s := s) (d := farAt l k) (by omega) (by omega) (by omega)
      have n2 := near_step (u := (l.getD (k + 1) (0, 0)).2 - (l.getD k (0, 0)).2) (s := s) (d := farAt l k) (by omega) (by omega) (by omega)
      simp only [ptAt]
      omega
    · by_cases hy2 : 0 < farAt l k ∧ s ≤ farAt l k
      · rw [atN_yes hy2, atN_no hy]
        have hs : s = farAt l k := by
          have : ¬ s + 1 ≤ farAt l k := fun h => hy ⟨hy2.1, h⟩
          omega
        have := at_piece l f (k + 1) (s + 1 - farAt l k) (by omega) (by omega) (by omega)
        exact ⟨by simp only; omega, fun h => by simp only at h; omega⟩
      · rw [atN_no hy, atN_no hy2]
        have hs : 0 ≤ s - farAt l k := by
          by_cases h : 0 < farAt l k
          · have : ¬ s ≤ farAt l k := fun k => hy2 ⟨h, k⟩
            omega
          · omega
        have := at_step l f (k + 1) (s - farAt l k) hs (by omega)
        rw [show s - farAt l k + 1 = s + 1 - farAt l k by omega] at this
        exact this
end Go.Proofs.Ytkkeblgahbpmmaa

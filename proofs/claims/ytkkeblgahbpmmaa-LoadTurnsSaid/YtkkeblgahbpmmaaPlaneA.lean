
/- PlaneA: several texts in one. -/
import Derived.Test.YtkkeblgahbpmmaaRows
import Derived.WalkKit
import Derived.WalkSpells
import Derived.WalkLawsBesides
import Derived.Lib.Hide
import Derived.StillTail
import Derived.Tactics
import Derived.Tactics2
import Derived.KernelRfl
import Derived.StillTailTactics
import Derived.BigQuiet
import Derived.Deep.RegionHeld3
import Derived.Deep.QuietTactic
import Derived.Deep.DeepCutAuto
/- Plain facts on numbers: division rounded down, nearest, the root. -/
namespace Go.Proofs.Ytkkeblgahbpmmaa
namespace Pl

theorem ediv_bd (n d : Int) (hd : 1 ≤ d) : n / d * d ≤ n ∧ n < n / d * d + d := by
  have h1 := Int.emod_add_mul_ediv n d
  have h2 := Int.emod_nonneg n (b := d) (by omega)
  have h3 := Int.emod_lt_of_pos n (b := d) (by omega)
  rw [Int.mul_comm d] at h1
  omega
theorem ediv_eq (n d q : Int) (hd : 1 ≤ d) (h1 : q * d ≤ n) (h2 : n < q * d + d) : n / d = q := by
  have a := (Int.le_ediv_iff_mul_le (a := q) (b := n) (c := d) (by omega)).2 h1
  have b := (Int.ediv_lt_iff_lt_mul (a := n) (b := q + 1) (c := d) (by omega)).2 (by rw [Int.add_mul]; omega)
  omega
theorem tdiv_of_tmod_neg (n d : Int) (hd : 1 ≤ d) (h : n.tmod d < 0) : n.tdiv d - 1 = n / d := by
  have h1 := Int.tmod_def n d
  have h2 : -d < n.tmod d := Int.lt_tmod_of_pos n (by omega)
  rw [Int.mul_comm d] at h1
  symm
  apply ediv_eq n d _ hd <;> rw [Int.sub_mul] <;> omega
theorem tdiv_of_tmod_nonneg (n d : Int) (hd : 1 ≤ d) (h : 0 ≤ n.tmod d) : n.tdiv d = n / d := by
  have h1 := Int.tmod_def n d
  have h2 : n.tmod d < d := Int.tmod_lt_of_pos n (by omega)
  rw [Int.mul_comm d] at h1
  symm
  apply ediv_eq n d _ hd <;> omega
theorem ediv_le (n d b : Int) (hd : 1 ≤ d) (h0 : 0 ≤ b) (h : n ≤ b) : n / d ≤ b := by
  have := (Int.ediv_lt_iff_lt_mul (a := n) (b := b + 1) (c := d) (by omega)).2 (by
    have := Int.mul_le_mul_of_nonneg_left (c := b + 1) hd (by omega)
    omega)
  omega
theorem le_ediv (n d b : Int) (hd : 1 ≤ d) (h0 : 0 ≤ b) (h : -b ≤ n) : -b ≤ n / d := by
  refine (Int.le_ediv_iff_mul_le (a := -b) (b := n) (c := d) (by omega)).2 ?_
  have := Int.mul_le_mul_of_nonneg_left (c := b) hd h0
  rw [Int.neg_mul]; omega
theorem tdiv_bd (n d b : Int) (hd : 1 ≤ d) (h0 : 0 ≤ b) (h1 : -b ≤ n) (h2 : n ≤ b) : -b ≤ n.tdiv d ∧ n.tdiv d ≤ b + 1 := by
  have a := ediv_le n d b hd h0 h2
  have c := le_ediv n d b hd h0 h1
  by_cases h : n.tmod d < 0
  · have := tdiv_of_tmod_neg n d hd h; omega
  · have := tdiv_of_tmod_nonneg n d hd (by omega); omega

/-- nearest -/
def near (n d : Int) : Int := if 2 * (n - n / d * d) ≥ d then n / d + 1 else n / d

/-- the root -/
def isqrt (n : Int) : Int := (Nat.sqrt n.toNat : Int)
theorem isqrt_nonneg (n : Int) : 0 ≤ isqrt n := Int.natCast_nonneg _
theorem isqrt_le (n : Int) (h : 0 ≤ n) : isqrt n * isqrt n ≤ n := by
  have := Nat.sqrt_le n.toNat
  unfold isqrt
  have h2 : ((Nat.sqrt n.toNat * Nat.sqrt n.toNat : Nat) : Int) ≤ (n.toNat : Int) := by exact_mod_cast this
  rw [Int.toNat_of_nonneg h] at h2
  simpa using h2
theorem lt_isqrt (n : Int) (h : 0 ≤ n) : n < (isqrt n + 1) * (isqrt n + 1) := by
  have := Nat.lt_succ_sqrt n.toNat
  unfold isqrt
  have h2 : (n.toNat : Int) < ((Nat.succ (Nat.sqrt n.toNat) * Nat.succ (Nat.sqrt n.toNat) : Nat) : Int) := by exact_mod_cast this
  rw [Int.toNat_of_nonneg h] at h2
  simpa using h2
theorem sq_lt_of_lt {a b : Int} (h0 : 0 ≤ a) (h : a < b) : a * a < b * b := by
  have h1 : a * a ≤ a * b := Int.mul_le_mul_of_nonneg_left (by omega) h0
  have h2 : a * b < b * b := Int.mul_lt_mul_of_pos_right h (by omega)
  omega
theorem sq_le_of_le {a b : Int} (h0 : 0 ≤ a) (h : a ≤ b) : a * a ≤ b * b :=
  Int.mul_le_mul h h h0 (by omega)
theorem lt_of_sq_lt {a b : Int} (h0 : 0 ≤ b) (h : a * a < b * b) : a < b := by
  by_cases hb : b ≤ a
  · have := sq_le_of_le h0 hb; omega
  · omega
theorem isqrt_eq {n r : Int} (h0 : 0 ≤ r) (h1 : r * r ≤ n) (h2 : n < (r + 1) * (r + 1)) : isqrt n = r := by
  have hn : 0 ≤ n := by have := Int.mul_nonneg h0 h0; omega
  have a := isqrt_le n hn
  have b := lt_isqrt n hn
  have c := isqrt_nonneg n
  have d : isqrt n < r + 1 := lt_of_sq_lt (by omega) (by omega)
  have e : r < isqrt n + 1 := lt_of_sq_lt (by omega) (by omega)
  omega
theorem mul_bd {a b A B : Int} (h1 : -A ≤ a) (h2 : a ≤ A) (h3 : -B ≤ b) (h4 : b ≤ B) : -(A * B) ≤ a * b ∧ a * b ≤ A * B := by
  have e1 := Int.mul_nonneg (show 0 ≤ A - a by omega) (show 0 ≤ B - b by omega)
  have e2 := Int.mul_nonneg (show 0 ≤ A - a by omega) (show 0 ≤ B + b by omega)
  have e3 := Int.mul_nonneg (show 0 ≤ A + a by omega) (show 0 ≤ B - b by omega)
  have e4 := Int.mul_nonneg (show 0 ≤ A + a by omega) (show 0 ≤ B + b by omega)
  have f1 : (A - a) * (B - b) = A * B - A * b - a * B + a * b := by grind
  have f2 : (A - a) * (B + b) = A * B + A * b - a * B - a * b := by grind
  have f3 : (A + a) * (B - b) = A * B - A * b + a * B - a * b := by grind
  have f4 : (A + a) * (B + b) = A * B + A * b + a * B + a * b := by grind
  omega
theorem isqrt_bd {n B : Int} (h1 : 1 ≤ n) (hB : 0 ≤ B) (h2 : n ≤ B * B) : 1 ≤ isqrt n ∧ isqrt n ≤ B := by
  have a := isqrt_le n (by omega)
  have b := lt_isqrt n (by omega)
  have c := isqrt_nonneg n
  have d : 1 < isqrt n + 1 := lt_of_sq_lt (by omega) (by omega)
  have e : isqrt n < B + 1 := lt_of_sq_lt (by omega) (by
    have : (B + 1) * (B + 1) = B * B + 2 * B + 1 := by grind
    omega)
  omega
theorem near_bd {n d b : Int} (hd : 1 ≤ d) (h0 : 0 ≤ b) (h1 : -b ≤ n) (h2 : n ≤ b) : -b ≤ near n d ∧ near n d ≤ b + 1 := by
  have a := ediv_le n d b hd h0 h2
  have c := le_ediv n d b hd h0 h1
  unfold near; split <;> omega
end Pl
end Go.Proofs.Ytkkeblgahbpmmaa
/- Contracts of the number functions of both texts. -/
namespace Go.Proofs.Ytkkeblgahbpmmaa
open Go.RowKit

theorem ret_bool {a b : Bool} (h : a = b) : Ending.returned (.bool a) = .returned (.bool b) := by rw [h]
theorem ret_int {k : IntKind} {a b : Int} (h : a = b) : Ending.returned (.int k a) = .returned (.int k b) := by rw [h]

def inB (x lo hi : Int) : Bool := decide (lo ≤ x ∧ x ≤ hi)
theorem inB_yes {x lo hi : Int} (h1 : lo ≤ x) (h2 : x ≤ hi) : true = inB x lo hi := by simp [inB, h1, h2]
theorem inB_no1 {x lo hi : Int} (h1 : x < lo) : false = inB x lo hi := by simp [inB]; omega
theorem inB_no2 {x lo hi : Int} (h1 : hi < x) : false = inB x lo hi := by simp [inB]; omega

set_option maxHeartbeats 400000 in
theorem within_c (x lo hi : Int) (w : World) :
    Calls Try.prog 117 #[.int .i64 x, .int .i64 lo, .int .i64 hi] w fun e w' => e = .returned (.bool (inB x lo hi)) ∧ w = w' := by
  by_cases h1 : lo ≤ x
  · by_cases h2 : x ≤ hi
    · go_enter Try.func117, Try.ntmps117
      go_wp2
      go_ret
      exact ⟨ret_bool (inB_yes (by omega) (by omega)), rfl⟩
    · go_enter Try.func117, Try.ntmps117
      go_wp2
      go_ret
      exact ⟨ret_bool (inB_no2 (by omega)), rfl⟩
  · go_enter Try.func117, Try.ntmps117
    go_wp2
    go_ret
    exact ⟨ret_bool (inB_no1 (by omega)), rfl⟩

theorem near_yes {n d : Int} (h : d - (n - n / d * d) ≤ n - n / d * d) : n / d + 1 = Pl.near n d := by unfold Pl.near; rw [if_pos (by omega)]
theorem near_no {n d : Int} (h : n - n / d * d < d - (n - n / d * d)) : n / d = Pl.near n d := by unfold Pl.near; rw [if_neg (by omega)]
theorem near_yes2 {n d : Int} (h : d ≤ 2 * (n - n / d * d)) : n / d + 1 = Pl.near n d := by unfold Pl.near; rw [if_pos (by omega)]
theorem near_no2 {n d : Int} (h : 2 * (n - n / d * d) < d) : n / d = Pl.near n d := by unfold Pl.near; rw [if_neg (by omega)]

end Go.Proofs.Ytkkeblgahbpmmaa
/- Contracts of the two roots. -/
namespace Go.Proofs.Ytkkeblgahbpmmaa
open Go.RowKit

namespace Pl
def half : Nat → Int
  | 0 => 0
  | k + 1 => 2 ^ k
theorem half_bd (k : Nat) (h : k ≤ 32) : 0 ≤ half k ∧ half k ≤ 2147483648 := by
  cases k with
  | zero => exact ⟨by simp [half], by simp [half]⟩
  | succ j =>
    have h1 : (2 : Int) ^ j ≤ 2 ^ 31 := by
      have := Nat.pow_le_pow_right (n := 2) (by omega) (show j ≤ 31 by omega)
      exact_mod_cast this
    have h2 : (0 : Int) < 2 ^ j := by exact_mod_cast Nat.pow_pos (n := j) (show 0 < 2 by omega)
    refine ⟨by simp [half]; omega, ?_⟩
    have h3 : (2 : Int) ^ 31 = 2147483648 := by decide
    simp only [half]; omega
theorem half_pos (k : Nat) : 1 ≤ half (k + 1) := by
  have h2 : (0 : Int) < 2 ^ k := by exact_mod_cast Nat.pow_pos (n := k) (show 0 < 2 by omega)
  simp only [half]; omega
theorem half_half (k : Nat) : half (k + 1) / 2 = half k := by
  cases k with
  | zero => decide
  | succ j => simp only [half]; rw [Int.pow_succ]; omega
theorem pow_half (k : Nat) : (2 : Int) ^ (k + 1) = 2 * half (k + 1) := by
  simp only [half]; rw [Int.pow_succ]; omega
end Pl

/-- what the reference's loop holds: the root so far, and how many digits are to come -/
def SqRel (n R : Int) (k : Nat) : Prop := 0 ≤ R ∧ R * R ≤ n ∧ n < (R + 2 ^ k) * (R + 2 ^ k) ∧ R + 2 ^ k ≤ 4294967296
theorem SqRel.take {n R : Int} {j : Nat} (h : SqRel n R (j + 1)) (h1 : (R + Pl.half (j + 1)) * (R + Pl.half (j + 1)) ≤ n) : SqRel n (R + Pl.half (j + 1)) j := by
  obtain ⟨a, b, c, d⟩ := h
  rw [Pl.pow_half] at c d
  have := Pl.half_pos j
  have e : (2 : Int) ^ j = Pl.half (j + 1) := rfl
  refine ⟨by omega, h1, ?_, ?_⟩
  · rw [e]; rwa [show R + Pl.half (j + 1) + Pl.half (j + 1) = R + 2 * Pl.half (j + 1) by omega]
  · rw [e]; omega
theorem SqRel.leave {n R : Int} {j : Nat} (h : SqRel n R (j + 1)) (h1 : n < (R + Pl.half (j + 1)) * (R + Pl.half (j + 1))) : SqRel n R j := by
  obtain ⟨a, b, c, d⟩ := h
  rw [Pl.pow_half] at c d
  have := Pl.half_pos j
  have e : (2 : Int) ^ j = Pl.half (j + 1) := rfl
  exact ⟨a, b, by rw [e]; exact h1, by rw [e]; omega⟩

/-- what the program's loop holds: R: the root so far, j digits to come -/
def RtRel (n L r : Int) (j : Nat) : Prop := ∃ R : Int, 0 ≤ R ∧ L = n - R * R ∧ 0 ≤ L ∧ r = R * 2 ^ j ∧ n < (R + 2 ^ j) * (R + 2 ^ j) ∧ R + 2 ^ j ≤ 4294967296
theorem pow_two_mul (m : Nat) : (2 : Int) ^ (2 * m) = 2 ^ m * 2 ^ m := by rw [Nat.two_mul, Int.pow_add]
theorem pow_pos' (m : Nat) : (1 : Int) ≤ 2 ^ m := by
  have h2 : (0 : Int) < 2 ^ m := by exact_mod_cast Nat.pow_pos (n := m) (show 0 < 2 by omega)
  omega
theorem RtRel.bd {n L r : Int} {m : Nat} (hn : n ≤ 9223372036854775807) (h : RtRel n L r (m + 1)) : 0 ≤ r ∧ r + 2 ^ (2 * m) ≤ 18446744065119617025 ∧ 1 ≤ (2 : Int) ^ (2 * m) ∧ 0 ≤ L ∧ L ≤ 9223372036854775807 := by
  obtain ⟨R, a, b, c, d, e, f⟩ := h
  have hp := pow_pos' m
  have h2 := pow_pos' (2 * m)
  rw [Int.pow_succ] at d f
  rw [pow_two_mul] at h2 ⊢
  generalize hT : (2 : Int) ^ m = T at *
  subst d
  have g1 := Pl.sq_le_of_le (a := R + T) (b := 4294967295) (by omega) (by omega)
  have g2 : (R + T) * (R + T) = R * R + (R * (T * 2) + T * T) := by grind
  have g3 := Int.mul_nonneg a a
  refine ⟨Int.mul_nonneg a (by omega), by omega, by omega, c, by omega⟩
theorem RtRel.take {n L r : Int} {m : Nat} (h : RtRel n L r (m + 1)) (ht : r + 2 ^ (2 * m) ≤ L) : RtRel n (L - (r + 2 ^ (2 * m))) (r / 2 + 2 ^ (2 * m)) m := by
  obtain ⟨R, a, b, c, d, e, f⟩ := h
  have hp := pow_pos' m
  rw [Int.pow_succ] at d e f
  rw [pow_two_mul] at ht ⊢
  unfold RtRel
  generalize hT : (2 : Int) ^ m = T at *
  subst d b
  refine ⟨R + T, by omega, by grind, by omega, ?_, ?_, by omega⟩
  · have : R * (T * 2) = 2 * (R * T) := by grind
    rw [this, Int.mul_ediv_cancel_left _ (by omega)]; grind
  · rwa [show R + T + T = R + T * 2 by omega]
theorem RtRel.leave {n L r : Int} {m : Nat} (h : RtRel n L r (m + 1)) (ht : L < r + 2 ^ (2 * m)) : RtRel n L (r / 2) m := by
  obtain ⟨R, a, b, c, d, e, f⟩ := h
  have hp := pow_pos' m
  rw [Int.pow_succ] at d e f
  rw [pow_two_mul] at ht
  unfold RtRel
  generalize hT : (2 : Int) ^ m = T at *
  subst d b
  refine ⟨R, by omega, rfl, by omega, ?_, ?_, by omega⟩
  · have : R * (T * 2) = 2 * (R * T) := by grind
    rw [this, Int.mul_ediv_cancel_left _ (by omega)]
  · have : (R + T) * (R + T) = R * R + (R * (T * 2) + T * T) := by grind
    omega

end Go.Proofs.Ytkkeblgahbpmmaa
/- How slices of points read; facts on worlds that grow. -/
namespace Go.Proofs.Ytkkeblgahbpmmaa
open Go.RowKit

/-- from a world on, memory that was there is as it was -/
def Ext (w w' : World) : Prop := Below w.heap.size w w'
theorem Ext.refl (w : World) : Ext w w := Below.refl _ _
theorem Ext.trans {a b c : World} (h : Ext a b) (k : Ext b c) : Ext a c := Below.trans h (Below.mono k (Below.size h))
theorem Ext.cell {w w' : World} (h : Ext w w') {p : Addr} {v : Value} (hp : w.cell? p = some v) : w'.cell? p = some v := by
  have hlt : p.block < w.heap.size := by
    rcases Nat.lt_or_ge p.block w.heap.size with h | h
    · exact h
    · unfold World.cell? at hp
      simp [Array.getElem?_eq_none h] at hp
  rw [Below.cell h hlt]; exact hp
theorem Ext.alloc {w W : World} (h : Ext w W) (o : Obj) : Ext w (W.alloc o) := Below.alloc h (Below.size h) o
theorem Ext.set {w W : World} (h : Ext w W) {p : Addr} (hp : w.heap.size ≤ p.block) (u : Value) : Ext w (W.setCell p u) := Below.setCell h hp u
theorem Ext.drew {w W : World} (h : Ext w W) : Ext w W.drew := Below.drew h
theorem Ext.trans' {w W W' : World} (h : Ext w W) {row : Option Nat} (hg : W.grownBy W' row) (hr : ∀ k, row = some k → w.heap.size ≤ k) : Ext w W' := Below.grown h hg (Below.size h) hr
theorem Ext.sz {w W : World} (h : Ext w W) : w.heap.size ≤ W.heap.size := Below.size h
theorem le1 (n : Nat) : n ≤ n + 1 := by omega
theorem le2 (n : Nat) : n ≤ n + 1 + 1 := by omega
theorem le3 (n : Nat) : n ≤ n + 1 + 1 + 1 := by omega
theorem le5 (n : Nat) : n ≤ n + 1 + 1 + 1 + 1 + 1 := by omega
theorem le6 (n : Nat) : n ≤ n + 1 + 1 + 1 + 1 + 1 + 1 := by omega
theorem le4 (n : Nat) : n ≤ n + 1 + 1 + 1 + 1 := by omega
theorem cell_set_ne {w : World} {p a : Addr} {u v : Value} (h : p.block ≠ a.block) (hc : w.cell? p = some v) : (w.setCell a u).cell? p = some v := by
  rw [World.cell?_of_block (w := w) (Below.heap_setCell w a u p.block h)]; exact hc
theorem size_alloc (w : World) (o : Obj) : (w.alloc o).heap.size = w.heap.size + 1 := by simp
theorem size_drew (w : World) : w.drew.heap.size = w.heap.size := rfl
theorem size_drewN (w : World) (n : Nat) : (w.drewN n).heap.size = w.heap.size := rfl
theorem size_setCell (w : World) (a : Addr) (u : Value) : (w.setCell a u).heap.size = w.heap.size := by simp [World.setCell]
theorem bcell {W w1 : World} (hb : Ext W w1) : (∀ b o, b < W.heap.size → w1.cell? ⟨b, o, none⟩ = W.cell? ⟨b, o, none⟩) ∧ (∀ b o, b < W.heap.size → w1.frozen? ⟨b, o, none⟩ = W.frozen? ⟨b, o, none⟩) :=
  ⟨fun b o h => Below.cell hb (p := ⟨b, o, none⟩) h, fun b o h => Below.frozen hb (p := ⟨b, o, none⟩) h⟩
theorem Ext.drewN {w W : World} (h : Ext w W) (n : Nat) : Ext w (W.drewN n) := ⟨h.os, h.tape, h.output, h.size, h.block⟩

/-- the cells of a list of points -/
def PtCells (w : World) (b off : Nat) (l : List (Int × Int)) : Prop :=
  ∀ i, i < l.length → w.cell? ⟨b, off + i * 2, none⟩ = some (.int .i64 (l.getD i (0, 0)).1) ∧ w.cell? ⟨b, off + i * 2 + 1, none⟩ = some (.int .i64 (l.getD i (0, 0)).2)
/-- a slice value reads as a list of points -/
def Pts (w : World) (v : Value) (l : List (Int × Int)) : Prop :=
  (∃ (a : Option Addr) (c : Nat), v = .slice a 0 c ∧ l = []) ∨ ∃ b off cap : Nat, v = .slice (some ⟨b, off, none⟩) l.length cap ∧ l.length ≤ 9223372036854775807 ∧ l.length ≤ cap ∧ PtCells w b off l
theorem Pts.ext {w w' : World} {v : Value} {l : List (Int × Int)} (h : Pts w v l) (he : Ext w w') : Pts w' v l := by
  rcases h with h | ⟨b, off, cap, hv, hl, hc, hp⟩
  · exact .inl h
  · exact .inr ⟨b, off, cap, hv, hl, hc, fun i hi => ⟨he.cell (hp i hi).1, he.cell (hp i hi).2⟩⟩

end Go.Proofs.Ytkkeblgahbpmmaa
/- Contracts of the functions that look whether points are valid. -/
namespace Go.Proofs.Ytkkeblgahbpmmaa
open Go.RowKit

def vPt (p : Int × Int) : Value := .agg #[.int .i64 p.1, .int .i64 p.2]
def okPt (p : Int × Int) : Bool := inB p.1 (-16777216) 16777216 && inB p.2 (-16777216) 16777216

theorem getD_lt {α : Type} {l : List α} {k : Nat} {d : α} (h : k < l.length) : l.getD k d = l[k] := by simp [List.getD, h]
theorem all_okPt_false {l : List (Int × Int)} {k : Nat} (hk : k < l.length) (h : okPt (l.getD k (0, 0)) = false) : l.all okPt = false := by
  rw [getD_lt hk] at h
  rw [List.all_eq_false]
  exact ⟨_, List.getElem_mem hk, by simp [h]⟩
theorem all_take_succ {l : List (Int × Int)} {k : Nat} (hk : k < l.length) (h0 : (l.take k).all okPt = true) (h : okPt (l.getD k (0, 0)) = true) : (l.take (k + 1)).all okPt = true := by
  rw [getD_lt hk] at h
  rw [List.take_succ_eq_append_getElem hk, List.all_append, h0]; simp [h]

set_option maxHeartbeats 800000 in
theorem valid_c (v : Value) (l : List (Int × Int)) (w : World) (hp : Pts w v l) :
    Calls Try.prog 100 #[v] w fun e w' => e = .returned (.bool (l.all okPt)) ∧ Ext w w' := by
  rcases hp with ⟨a0, c0, rfl, rfl⟩ | ⟨b, off, cap, rfl, hl, hcap, hc⟩
  · go_enter Try.func100, Try.ntmps100
    go_wp2
    go_loop [7] (fun i => i = .int .i64 0) (fun i => 0)
    case atStart => rfl
    case round =>
      subst hrel
      go_wp2
      go_ret
      exact ⟨rfl, Below.refl _ _⟩
  · have HC : RowKit.Hid (PtCells w b off l) := hc
    clear hc
    go_enter Try.func100, Try.ntmps100
    go_wp2
    go_loopw [7] (fun i wr => ∃ k : Nat, k ≤ l.length ∧ i = .int .i64 k ∧ (l.take k).all okPt = true ∧ Below w.heap.size w wr) (fun i _ => l.length - (intOf i).toNat)
    case atStart => exact ⟨0, by omega, rfl, by simp, Below.refl _ _⟩
    case round =>
      obtain ⟨k, hk, rfl, ha, hb⟩ := hrel
      by_cases hlt : k < l.length
      · have c1 := Ext.cell hb (HC.out k hlt).1
        have c2 := Ext.cell hb (HC.out k hlt).2
        generalize hP : l.getD k (0, 0) = P at c1 c2
        have HA := Lib.hid ha
        have HP := Lib.hid hP
        clear ha hP
        cases hx : inB P.1 (-16777216) 16777216
        · have HF : RowKit.Hid (okPt P = false) := by simp [RowKit.Hid, okPt, hx]
          go_wp2_with (go_at_call 117; refine (within_c _ _ _ _).mono ?_; rintro e w' ⟨rfl, rfl⟩)
          go_ret
          exact ⟨ret_bool (all_okPt_false hlt (by rw [HP.out]; exact HF.out)).symm, hb.alloc hb.size _⟩
        · cases hy : inB P.2 (-16777216) 16777216
          · have HF : RowKit.Hid (okPt P = false) := by simp [RowKit.Hid, okPt, hy]
            go_wp2_with (go_at_call 117; refine (within_c _ _ _ _).mono ?_; rintro e w' ⟨rfl, rfl⟩)
            go_ret
            exact ⟨ret_bool (all_okPt_false hlt (by rw [HP.out]; exact HF.out)).symm, hb.alloc hb.size _⟩
          · have HF : RowKit.Hid (okPt P = true) := by simp [RowKit.Hid, okPt, hx, hy]
            go_wp2_with (go_at_call 117; refine (within_c _ _ _ _).mono ?_; rintro e w' ⟨rfl, rfl⟩)
            go_roundw
            case rel => exact ⟨k + 1, by omega, by go_num, all_take_succ hlt HA.out (by rw [HP.out]; exact HF.out), hb.alloc hb.size _⟩
            case measure => simp [intOf]; omega
      · have HA := Lib.hid ha
        clear ha
        go_wp2
        go_ret
        exact ⟨ret_bool (by have := HA.out; rw [List.take_of_length_le (by omega)] at this; exact this.symm), hb⟩
end Go.Proofs.Ytkkeblgahbpmmaa
/- A region that draws its order: its head only reads and calls quietly; its tail is a chain, but for extracts that may come in any order: it may be walked in the order of the text. -/
namespace Go.Proofs.Ytkkeblgahbpmmaa
namespace Tail
variable {P : Program} {ops : Array Oper} {md : Region.Mode} {w : World}

def isExt (o : Oper) : Bool := o.dst.isSome && match o.op with | .extract .. => true | _ => false
theorem isExt_dst {o : Oper} (h : isExt o = true) : ∃ t, o.dst = some t := by
  unfold isExt at h
  simp only [Bool.and_eq_true] at h
  exact Option.isSome_iff_exists.1 h.1
def extAt (ops : Array Oper) (k : Nat) : Bool := match ops[k]? with | some o => isExt o | none => false
def tailB (md : Region.Mode) (ops : Array Oper) : Nat → Nat → Array Bool → Bool
  | 0, _, listed => (Region.ready md ops listed).isEmpty
  | g + 1, k, listed => (decide (Region.ready md ops listed = [k]) || (extAt ops k && (Region.ready md ops listed).contains k && Region.free md ops listed k)) && tailB md ops g (k + 1) (listed.setIfInBounds k true)

theorem ext_run {o : Oper} {ev : Operand → Value} (h : isExt o = true) : (∃ v, ∀ w, (execOp ev o).run P w = .ok (.value v) w ∧ (execOp ev o).runT P w #[] = (.ok (.value v) w, #[])) ∨ (∃ s, ∀ w, (execOp ev o).run P w = .halt (.stuck s) w ∧ ((execOp ev o).runT P w #[]).2 = #[]) := by
  obtain ⟨dst, op, type, pos, after, guard⟩ := o
  cases op
  case extract t ix =>
    simp only [execOp, Instr.extract]
    cases hv : ev t with
    | tuple vs =>
      simp only []
      cases hx : vs[ix]? with
      | some v => exact .inl ⟨v, fun w => ⟨rfl, rfl⟩⟩
      | none => exact .inr ⟨_, fun w => ⟨rfl, rfl⟩⟩
    | _ => exact .inr ⟨_, fun w => ⟨rfl, rfl⟩⟩
  all_goals (simp only [isExt] at h; exact absurd h (by simp))

theorem ext_step {Q : Exit → Act → World → Prop} {o : Oper} {a : Act} {w : World} {k : Nat} {K : Act → World → Prop} (h0 : ops[k]? = some o) (he : isExt o = true) (h : wpOp P ops Q k K a w) : ∃ v, Yields P ops o v a ∧ K (a.put o.dst v) w := by
  unfold wpOp at h
  simp only [h0] at h
  by_cases hw : Region.wanted o (yielded ops a.tmps) = true
  · simp only [hw, if_true] at h
    rcases ext_run (P := P) (ev := a.eval) he with ⟨v, hv⟩ | ⟨s, hs⟩
    · refine ⟨v, .inl ⟨hw, fun w => (hv w).1⟩, ?_⟩
      rcases h with h | ⟨h, _⟩
      · unfold Oper.wp at h; rw [(hv w).1] at h; exact h
      · unfold Oper.asks at h; rw [(hv w).2] at h; exact absurd h.1 (by simp)
    · rcases h with h | ⟨h, _⟩
      · unfold Oper.wp at h; rw [(hs w).1] at h; exact h.elim
      · unfold Oper.asks at h; rw [(hs w).2] at h; exact absurd h.1 (by simp)
  · simp only [hw] at h
    exact ⟨undef, .inr ⟨by simpa using hw, rfl⟩, by simpa using h⟩

theorem wpAny_of_tail {Q' : Exit → Act → World → Prop} (hsel : Region.noSelect ops = true) (hQ : ∀ c a t v w, Q' (.panic c) (a.put (some t) v) w → Q' (.panic c) a w) : ∀ (l : List Oper) (k : Nat) (listed : Array Bool) (a : Act) (w : World), (∀ j, l[j]? = ops[k + j]?) →
    tailB md ops l.length k listed = true → wpList P ops Q' l a w → wpAny P md ops Q' l.length listed a w
  | [], _, _, _, _, _, hB, h => ⟨by simpa [tailB] using hB, h⟩
  | o :: l, k, listed, a, w, hl, hB, h => by
    have h0 : ops[k]? = some o := by simpa using (hl 0).symm
    have hl' : ∀ j, l[j]? = ops[k + 1 + j]? := fun j => by have := hl (j + 1); simpa [Nat.add_assoc, Nat.add_comm 1 j] using this
    simp only [List.length_cons, tailB, Bool.and_eq_true, Bool.or_eq_true, decide_eq_true_eq] at hB
    obtain ⟨hB, hB'⟩ := hB
    have hw : wpOp P ops Q' k (wpList P ops Q' l) a w := by unfold wpOp; simp only [h0]; exact h
    rcases hB with hB | ⟨⟨he, hr⟩, hf⟩
    · refine ⟨fun h1 => (by rw [hB] at h1; cases h1), fun i hi => ?_⟩
      rw [hB] at hi
      have hik : i = k := by simpa using hi
      subst hik
      exact wpOp_mono (fun a' w' h' => wpAny_of_tail hsel hQ l (i + 1) _ a' w' hl' hB' h') hw
    · have he' : isExt o = true := by unfold extAt at he; rw [h0] at he; exact he
      obtain ⟨v, hy, hK⟩ := ext_step h0 he' hw
      obtain ⟨t, ht⟩ := isExt_dst he'
      exact wpAny_take h0 hsel hf hr (fun c a w => by rw [ht]; exact hQ c a t v w) hy (wpAny_of_tail hsel hQ l (k + 1) _ _ w hl' hB' hK)

def lexHead (md : Region.Mode) (ops : Array Oper) (g : Nat) : Nat → Nat → Array Bool → Bool
  | 0, k, listed => tailB md ops g k listed && (Region.ready md ops listed).all (fun j => decide (k ≤ j))
  | f + 1, k, listed => (Region.ready md ops listed).contains k && Region.free md ops listed k && lexHead md ops g f (k + 1) (listed.setIfInBounds k true)
/-- each operation of the tail waits, through others, for the tail's first one -/
def rootB (md : Region.Mode) (ops : Array Oper) (n : Nat) : Bool :=
  (List.range ops.size).all fun t => decide (t ≤ n) || (List.range t).any fun s => decide (n ≤ s) && Region.waitsFor md ops t s
def lexTailB (md : Region.Mode) (ops : Array Oper) (n : Nat) : Bool :=
  Region.noSelect ops && decide (n < ops.size) && Region.sinkB md ops n && rootB md ops n && lexHead md ops (ops.size - n) n 0 (Array.replicate ops.size false)

theorem tail_waits {n : Nat} {listed : Array Bool} (hs : Region.sinkB md ops n = true) (hc : rootB md ops n = true) (hn : n < ops.size) (inv : HeadInv md ops n listed) :
    ∀ (d i : Nat), n - i = d → i < n → listed.getD i true = false → ∀ t, n ≤ t → t ∉ Region.ready md ops listed := by
  intro d
  induction d using Nat.strongRecOn with
  | _ d ih =>
    intro i hd hi hun t ht hr
    obtain ⟨_, ot, hot, hall⟩ := mem_ready.1 hr
    have htlt : t < ops.size := (Array.getElem?_eq_some_iff.1 hot).1
    by_cases htn : t = n
    · subst htn
      have h1 := List.all_eq_true.1 hs i (List.mem_range.2 hi)
      obtain ⟨j, hj, hj2⟩ := List.any_eq_true.1 h1
      simp only [Bool.and_eq_true, decide_eq_true_eq] at hj2
      obtain ⟨oj, hoj, e, he, hb, hon⟩ := Region.waitsFor_spec hj2.2
      have hjle : j ≤ t := by have := List.mem_range.1 hj; omega
      by_cases hjt : j = t
      · subst hjt
        have : oj = ot := Option.some.inj (hoj.symm.trans hot)
        subst this
        have h2 := hall e he hb
        rw [hon, getD_both hun] at h2
        cases h2
      · cases hl : listed.getD j false with
        | true =>
          have h2 := inv.closed j oj hoj hl e he hb
          rw [hon, getD_both hun] at h2
          cases h2
        | false =>
          have hjs : j < listed.size := by rw [inv.size]; omega
          exact ih (t - j) (by omega) j rfl (by omega) (getD_in hjs hl) t (Nat.le_refl _) hr
    · have h1 := List.all_eq_true.1 hc t (List.mem_range.2 htlt)
      simp only [Bool.or_eq_true, decide_eq_true_eq] at h1
      rcases h1 with h1 | h1
      · omega
      · obtain ⟨s, hs1, hs2⟩ := List.any_eq_true.1 h1
        simp only [Bool.and_eq_true, decide_eq_true_eq] at hs2
        have hst := List.mem_range.1 hs1
        obtain ⟨o', ho', e, he, hb, hon⟩ := Region.waitsFor_spec hs2.2
        have : o' = ot := Option.some.inj (ho'.symm.trans hot)
        subst this
        have h2 := hall e he hb
        rw [hon, getD_both (inv.tail s hs2.1 (by omega))] at h2
        cases h2

theorem wpAnyL_first {n i : Nat} {oi : Oper} {v : Value} {L : Array Bool → Act → Prop} (hi : ops[i]? = some oi) (hsel : ∀ (j : Nat) (o : Oper) cs b, ops[j]? = some o → o.op ≠ .select cs b)
    (hs : Region.sinkB md ops n = true) (hc : rootB md ops n = true) (hn : n < ops.size) (hin : i < n)
    (hdone : ∀ listed a, L listed a → ∀ j ∈ Region.ready md ops listed, n ≤ j) :
    ∀ (f : Nat) (listed : Array Bool) (a : Act), HeadInv md ops n listed →
      (∀ j oj, ops[j]? = some oj → j ≠ i → listed.getD j true = false → (∀ e ∈ oj.after, Region.binds md e = true → e.on ≠ i) → oi.apart ops oj = true) →
      i ∈ Region.ready md ops listed → YieldsAt P ops w oi v a →
      wpAnyL P md ops w n L f (listed.setIfInBounds i true) (a.put oi.dst v) → wpAnyL P md ops w n L (f + 1) listed a := by
  intro f
  induction f with
  | zero =>
    intro listed a inv _ hr hy H
    have hun := (mem_ready.1 hr).1
    refine ⟨fun h => (by rw [h] at hr; cases hr), fun j hj => ?_⟩
    have hjn : j < n := by
      rcases Nat.lt_or_ge j n with h | h
      · exact h
      · exact absurd hj (tail_waits hs hc hn inv _ i rfl hin hun j h)
    refine ⟨hjn, ?_⟩
    by_cases hji : j = i
    · subst hji; exact hy.stOp hi H
    · have := hdone _ _ H j (ready_mono hj hji)
      omega
  | succ f ih =>
    intro listed a inv hfree hr hy H
    have hun := (mem_ready.1 hr).1
    refine ⟨fun h => (by rw [h] at hr; cases hr), fun j hj => ?_⟩
    have hjn : j < n := by
      rcases Nat.lt_or_ge j n with h | h
      · exact h
      · exact absurd hj (tail_waits hs hc hn inv _ i rfl hin hun j h)
    refine ⟨hjn, ?_⟩
    by_cases hji : j = i
    · subst hji; exact hy.stOp hi H
    · have h1 := (H.2 j (ready_mono hj hji)).2
      obtain ⟨hjun, oj, hoj, hall⟩ := mem_ready.1 hj
      have hnot : ∀ e ∈ oj.after, Region.binds md e = true → e.on ≠ i := fun e he hb heq => by
        have h1 := hall e he hb
        rw [heq, getD_both hun] at h1
        cases h1
      have h2 := stOp_put hoj (hfree j oj hoj hji hjun hnot) (fun cs b => hsel i oi cs b hi) (fun cs b => hsel j oj cs b hoj) hy h1
      have hfree' : ∀ k ok, ops[k]? = some ok → k ≠ i → (listed.setIfInBounds j true).getD k true = false →
          (∀ e ∈ ok.after, Region.binds md e = true → e.on ≠ i) → oi.apart ops ok = true := fun k ok hk hki hun hno => by
        refine hfree k ok hk hki ?_ hno
        by_cases hjk : j = k
        · subst hjk; exact hjun
        · rw [getD_set_ne true hjk] at hun; exact hun
      refine stOp_mono (fun a' h3 => ih (listed.setIfInBounds j true) a' (inv.set hj hjn) hfree' (ready_mono hr (Ne.symm hji)) h3.1 ?_) h2
      rw [Array.setIfInBounds_comm _ _ hji]
      exact h3.2

theorem wpAnyL_lex {n g : Nat} {Lq : Act → Prop} (hsel : Region.noSelect ops = true) (hs : Region.sinkB md ops n = true) (hc : rootB md ops n = true) (hn : n < ops.size) :
    ∀ (l : List Oper) (k : Nat) (listed : Array Bool) (a : Act), (∀ j, j < l.length → l[j]? = ops[k + j]?) → k + l.length = n → HeadInv md ops n listed →
    lexHead md ops g l.length k listed = true → wpStill P ops w Lq l a →
    wpAnyL P md ops w n (fun listed' a' => (tailB md ops g n listed' = true ∧ ∀ j ∈ Region.ready md ops listed', n ≤ j) ∧ Lq a') l.length listed a
  | [], k, listed, a, _, hk, _, hB, h => by
    have : k = n := by simpa using hk
    subst this
    simp only [List.length_nil, lexHead, Bool.and_eq_true] at hB
    exact ⟨⟨hB.1, fun j hj => by have := List.all_eq_true.1 hB.2 j hj; simpa using this⟩, h⟩
  | o :: l, k, listed, a, hl, hk, inv, hB, h => by
    have h0 : ops[k]? = some o := by simpa using (hl 0 (by simp)).symm
    simp only [List.length_cons, lexHead, Bool.and_eq_true] at hB
    obtain ⟨⟨hr, hf⟩, hB'⟩ := hB
    have hkn : k < n := by simp only [List.length_cons] at hk; omega
    have hr' : k ∈ Region.ready md ops listed := by simpa using hr
    have hst : stOp P ops w k (wpStill P ops w Lq l) a := by unfold stOp; simp only [h0]; exact h
    obtain ⟨v, hy, hK⟩ := yieldsAt_of_stOp h0 hst
    exact wpAnyL_first h0 (Region.noSelect_spec hsel) hs hc hn hkn (fun listed' a' hL => hL.1.2) l.length listed a inv (Region.free_spec h0 hf) hr' hy
      (wpAnyL_lex hsel hs hc hn l (k + 1) _ _ (fun j hj => by have := hl (j + 1) (by simp; omega); simpa [Nat.add_assoc, Nat.add_comm 1 j] using this) (by simp only [List.length_cons] at hk; omega) (inv.set hr' hkn) hB' hK)

theorem wp_region_tail {id : Nat} {Q : Exit → Act → World → Prop} {a : Act} {w : World} {l : List Oper} (n : Nat) (hm : P.follows .mixedOrders = true) (hB : lexTailB .any l.toArray n = true)
    (hQ : ∀ c a t v w, Q (.panic c) (a.put (some t) v) w → Q (.panic c) a w)
    (h : wpStill P l.toArray w.drew (fun a' => wpList P l.toArray Q (l.drop n) a' w.drew) (l.take n) a) : (Code.region id l.toArray true).wp P Q a w := by
  simp only [lexTailB, Bool.and_eq_true, decide_eq_true_eq] at hB
  obtain ⟨⟨⟨⟨hsel, hn⟩, hs⟩, hc⟩, hlex⟩ := hB
  have hn' : n < l.length := by simpa using hn
  have htl : (l.take n).length = n := by simp; omega
  have hdl : (l.drop n).length = l.toArray.size - n := by simp
  have inv0 : HeadInv .any l.toArray n (Array.replicate l.toArray.size false) :=
    ⟨by simp, fun j oj _ hl => (by rw [getD_replicate_false] at hl; cases hl), fun t _ ht => getD_in (by simpa using ht) (getD_replicate_false _ _)⟩
  have H := wpAnyL_lex (md := .any) (g := l.toArray.size - n) hsel hs hc hn (l.take n) 0 _ a (fun j hj => by
    have hj' : j < n := by rw [htl] at hj; exact hj
    simp [hj']) (by simpa using htl) inv0 (by rw [htl]; exact hlex) h
  refine wp_region_any hm ?_
  have := wpAny_of_head (Q' := Q) (g := l.toArray.size - n) (fun listed a' hL => by
    have := wpAny_of_tail (md := .any) (Q' := Q) hsel hQ (l.drop n) n listed a' w.drew (fun j => by simp [List.getElem?_drop]) (by rw [hdl]; exact hL.1.1) hL.2
    rwa [hdl] at this) _ _ _ H
  rw [htl, show n + (l.toArray.size - n) = l.toArray.size by omega] at this
  exact this
end Tail
end Go.Proofs.Ytkkeblgahbpmmaa
/- Contracts of the functions that look whether a result is valid; the numbers of a place. -/
namespace Go.Proofs.Ytkkeblgahbpmmaa
open Go.RowKit

/-- a point and an error code, as a call hands them back -/
def ptV (q : (Int × Int) × Int) : Value := .tuple #[.agg #[.int .i64 q.1.1, .int .i64 q.1.2], .int .i64 q.2]
/-- a point, or ErrOver -/
def resS (p : Int × Int) : (Int × Int) × Int := if okPt p then (p, 0) else ((0, 0), 4)
theorem resS_yes {p : Int × Int} (h : okPt p = true) : resS p = (p, 0) := by simp [resS, h]
theorem resS_no {p : Int × Int} (h : okPt p = false) : resS p = ((0, 0), 4) := by simp [resS, h]

theorem one_pts (w : World) (x y : Int) (b : Nat) (h1 : w.cell? ⟨b, 0, none⟩ = some (.int .i64 x)) (h2 : w.cell? ⟨b, 1, none⟩ = some (.int .i64 y)) : Pts w (.slice (some ⟨b, 0, none⟩) 1 1) [(x, y)] :=
  .inr ⟨b, 0, 1, rfl, by simp, by simp, fun i hi => by simp at hi; subst hi; exact ⟨h1, h2⟩⟩

/-- a place of a body: as both texts reckon it -/
def putP (a h : Int × Int) (x y : Int) : Int × Int :=
  (a.1 + Pl.near (32 * ((h.1 - a.1) * x - (h.2 - a.2) * y)) (Pl.isqrt (1024 * ((h.1 - a.1) * (h.1 - a.1) + (h.2 - a.2) * (h.2 - a.2)))),
   a.2 + Pl.near (32 * ((h.2 - a.2) * x + (h.1 - a.1) * y)) (Pl.isqrt (1024 * ((h.1 - a.1) * (h.1 - a.1) + (h.2 - a.2) * (h.2 - a.2)))))

theorem okPt_iff {x y : Int} : okPt (x, y) = true ↔ (-16777216 ≤ x ∧ x ≤ 16777216) ∧ -16777216 ≤ y ∧ y ≤ 16777216 := by simp [okPt, inB]
/-- all that a walk through 'place' wants to know of its numbers -/
theorem put_bds {u v x y : Int} (hne : ¬ (u = 0 ∧ v = 0)) (u1 : -33554432 ≤ u) (u2 : u ≤ 33554432) (v1 : -33554432 ≤ v) (v2 : v ≤ 33554432) (x1 : -16777216 ≤ x) (x2 : x ≤ 16777216) (y1 : -16777216 ≤ y) (y2 : y ≤ 16777216) :
    0 ≤ u * u ∧ u * u ≤ 1125899906842624 ∧ 0 ≤ v * v ∧ v * v ≤ 1125899906842624 ∧ 1 ≤ u * u + v * v ∧
    -562949953421312 ≤ u * x ∧ u * x ≤ 562949953421312 ∧ -562949953421312 ≤ v * y ∧ v * y ≤ 562949953421312 ∧
    -562949953421312 ≤ v * x ∧ v * x ≤ 562949953421312 ∧ -562949953421312 ≤ u * y ∧ u * y ≤ 562949953421312 ∧
    1 ≤ Pl.isqrt (1024 * (u * u + v * v)) ∧ Pl.isqrt (1024 * (u * u + v * v)) ≤ 2147483648 ∧
    -36028797018963968 ≤ Pl.near (32 * (u * x - v * y)) (Pl.isqrt (1024 * (u * u + v * v))) ∧ Pl.near (32 * (u * x - v * y)) (Pl.isqrt (1024 * (u * u + v * v))) ≤ 36028797018963969 ∧
    -36028797018963968 ≤ Pl.near (32 * (v * x + u * y)) (Pl.isqrt (1024 * (u * u + v * v))) ∧ Pl.near (32 * (v * x + u * y)) (Pl.isqrt (1024 * (u * u + v * v))) ≤ 36028797018963969 := by
  have a1 := Pl.mul_bd u1 u2 u1 u2
  have a2 := Pl.mul_bd v1 v2 v1 v2
  have a3 := Pl.mul_bd u1 u2 x1 x2
  have a4 := Pl.mul_bd v1 v2 y1 y2
  have a5 := Pl.mul_bd v1 v2 x1 x2
  have a6 := Pl.mul_bd u1 u2 y1 y2
  have p1 : 0 ≤ u * u := by rcases Int.le_total 0 u with h | h; exact Int.mul_nonneg h h; exact Int.mul_nonneg_of_nonpos_of_nonpos h h
  have p2 : 0 ≤ v * v := by rcases Int.le_total 0 v with h | h; exact Int.mul_nonneg h h; exact Int.mul_nonneg_of_nonpos_of_nonpos h h
  have p3 : 1 ≤ u * u + v * v := by
    have h1 : u * u = 0 → u = 0 := fun h => by rcases Int.mul_eq_zero.1 h with h | h <;> exact h
    have h2 : v * v = 0 → v = 0 := fun h => by rcases Int.mul_eq_zero.1 h with h | h <;> exact h
    rcases Decidable.em (u = 0) with h | h
    · have : ¬ v * v = 0 := fun h3 => hne ⟨h, h2 h3⟩
      omega
    · have : ¬ u * u = 0 := fun h3 => h (h1 h3)
      omega
  have q := Pl.isqrt_bd (n := 1024 * (u * u + v * v)) (B := 2147483648) (by omega) (by omega) (by omega)
  have r1 := Pl.near_bd (n := 32 * (u * x - v * y)) (d := Pl.isqrt (1024 * (u * u + v * v))) (b := 36028797018963968) q.1 (by omega) (by omega) (by omega)
  have r2 := Pl.near_bd (n := 32 * (v * x + u * y)) (d := Pl.isqrt (1024 * (u * u + v * v))) (b := 36028797018963968) q.1 (by omega) (by omega) (by omega)
  omega

end Go.Proofs.Ytkkeblgahbpmmaa
/- Contracts of 'place' and 'Put': a place of a body. -/
namespace Go.Proofs.Ytkkeblgahbpmmaa
open Go.RowKit

end Go.Proofs.Ytkkeblgahbpmmaa
/- The contract of Place. -/
namespace Go.Proofs.Ytkkeblgahbpmmaa
open Go.RowKit

/-- 'place' and 'Place', 'Pull' as both texts have them -/
def placeS (a h : Int × Int) (x y : Int) : (Int × Int) × Int :=
  if (okPt a && okPt h) = false then ((0, 0), 2)
  else if (inB x (-16777216) 16777216 && inB y (-16777216) 16777216) = false then ((0, 0), 3)
  else if a = h then ((0, 0), 9)
  else resS (putP a h x y)

theorem two_pts (w : World) (x y z u : Int) (b : Nat) (h1 : w.cell? ⟨b, 0, none⟩ = some (.int .i64 x)) (h2 : w.cell? ⟨b, 1, none⟩ = some (.int .i64 y)) (h3 : w.cell? ⟨b, 2, none⟩ = some (.int .i64 z)) (h4 : w.cell? ⟨b, 3, none⟩ = some (.int .i64 u)) : Pts w (.slice (some ⟨b, 0, none⟩) 2 2) [(x, y), (z, u)] :=
  .inr ⟨b, 0, 2, rfl, by simp, by simp, fun i hi => by
    have : i = 0 ∨ i = 1 := by simp at hi; omega
    rcases this with rfl | rfl
    · exact ⟨h1, h2⟩
    · exact ⟨h3, h4⟩⟩

theorem inB_iff {x lo hi : Int} : inB x lo hi = true ↔ lo ≤ x ∧ x ≤ hi := by simp [inB]

end Go.Proofs.Ytkkeblgahbpmmaa
/- Contracts of Place (the reference's) and Pull (both texts). -/
namespace Go.Proofs.Ytkkeblgahbpmmaa
open Go.RowKit

theorem placeS_2 {a h : Int × Int} {x y : Int} (h1 : (okPt a && okPt h) = false) : placeS a h x y = ((0, 0), 2) := by simp only [placeS, h1, if_true]
theorem placeS_3 {a h : Int × Int} {x y : Int} (h1 : okPt a = true) (h2 : okPt h = true) (h3 : (inB x (-16777216) 16777216 && inB y (-16777216) 16777216) = false) : placeS a h x y = ((0, 0), 3) := by simp [placeS, h1, h2, h3]
theorem placeS_9 {a : Int × Int} {x y : Int} (h1 : okPt a = true) (h3 : inB x (-16777216) 16777216 = true) (h4 : inB y (-16777216) 16777216 = true) : placeS a a x y = ((0, 0), 9) := by simp [placeS, h1, h3, h4]
theorem placeS_r {a h : Int × Int} {x y : Int} (h1 : okPt a = true) (h2 : okPt h = true) (h3 : inB x (-16777216) 16777216 = true) (h4 : inB y (-16777216) 16777216 = true) (hne : ¬ a = h) : placeS a h x y = resS (putP a h x y) := by
  simp only [placeS, h1, h2, h3, h4, Bool.and_self, Bool.true_eq_false, if_false]; rw [if_neg hne]

def pullS (h a : Int × Int) (l : Int) : (Int × Int) × Int :=
  if (okPt a && okPt h) = false then ((0, 0), 2)
  else if inB l 1 16777216 = false then ((0, 0), 3)
  else if a = h then ((0, 0), 9)
  else resS (putP h a l 0)
theorem pullS_2 {h a : Int × Int} {l : Int} (h1 : (okPt a && okPt h) = false) : pullS h a l = ((0, 0), 2) := by simp only [pullS, h1, if_true]
theorem pullS_3 {h a : Int × Int} {l : Int} (h1 : okPt a = true) (h2 : okPt h = true) (h3 : inB l 1 16777216 = false) : pullS h a l = ((0, 0), 3) := by simp [pullS, h1, h2, h3]
theorem pullS_9 {a : Int × Int} {l : Int} (h1 : okPt a = true) (h3 : inB l 1 16777216 = true) : pullS a a l = ((0, 0), 9) := by simp [pullS, h1, h3]
theorem pullS_r {h a : Int × Int} {l : Int} (h1 : okPt a = true) (h2 : okPt h = true) (h3 : inB l 1 16777216 = true) (hne : ¬ a = h) : pullS h a l = resS (putP h a l 0) := by
  simp only [pullS, h1, h2, h3, Bool.and_self, Bool.true_eq_false, if_false]; rw [if_neg hne]

end Go.Proofs.Ytkkeblgahbpmmaa
/- (No hull here.) -/
/- Contracts of the distances. -/
namespace Go.Proofs.Ytkkeblgahbpmmaa
open Go.RowKit

theorem okPt_bd {x y : Int} (h : okPt (x, y) = true) : -16777216 ≤ x ∧ x ≤ 16777216 ∧ -16777216 ≤ y ∧ y ≤ 16777216 := by
  rw [okPt_iff] at h; omega
/-- the square of a distance of two valid points -/
theorem dist_bd {u v : Int} (u1 : -33554432 ≤ u) (u2 : u ≤ 33554432) (v1 : -33554432 ≤ v) (v2 : v ≤ 33554432) : 0 ≤ u * u ∧ u * u ≤ 1125899906842624 ∧ 0 ≤ v * v ∧ v * v ≤ 1125899906842624 := by
  have a1 := Pl.mul_bd u1 u2 u1 u2
  have a2 := Pl.mul_bd v1 v2 v1 v2
  have p1 : 0 ≤ u * u := by rcases Int.le_total 0 u with h | h; exact Int.mul_nonneg h h; exact Int.mul_nonneg_of_nonpos_of_nonpos h h
  have p2 : 0 ≤ v * v := by rcases Int.le_total 0 v with h | h; exact Int.mul_nonneg h h; exact Int.mul_nonneg_of_nonpos_of_nonpos h h
  omega
/-- the distance -/
def farS (a b : Int × Int) : Int := Pl.isqrt ((b.1 - a.1) * (b.1 - a.1) + (b.2 - a.2) * (b.2 - a.2))

/-- 'Distance' -/
def distS (a b : Int × Int) : Int × Int := if okPt a && okPt b then (farS a b, 0) else (0, 2)
def i2V (p : Int × Int) : Value := .tuple #[.int .i64 p.1, .int .i64 p.2]

end Go.Proofs.Ytkkeblgahbpmmaa
/- Contracts on turns: CheckRot, Half (both texts), the divisors. -/
namespace Go.Proofs.Ytkkeblgahbpmmaa
open Go.RowKit

abbrev Rot3 := Int × Int × Int
def okRot (c s n : Int) : Bool := inB n 1 16777216 && (inB c (-n) n && (inB s (-n) n && !(c * c + s * s != n * n)))
def rotV (q : Rot3 × Int) : Value := .tuple #[.agg #[.int .i64 q.1.1, .int .i64 q.1.2.1, .int .i64 q.1.2.2], .int .i64 q.2]
theorem okRot_bd {c s n : Int} (h : okRot c s n = true) : (1 ≤ n ∧ n ≤ 16777216) ∧ (-n ≤ c ∧ c ≤ n) ∧ (-n ≤ s ∧ s ≤ n) ∧ c * c + s * s = n * n := by
  simp only [okRot, Bool.and_eq_true, inB_iff, Bool.not_eq_true', bne_eq_false_iff_eq] at h
  exact h
theorem sq24 {x : Int} (h1 : -16777216 ≤ x) (h2 : x ≤ 16777216) : 0 ≤ x * x ∧ x * x ≤ 281474976710656 := by
  have a := Pl.mul_bd h1 h2 h1 h2
  have b : 0 ≤ x * x := by rcases Int.le_total 0 x with h | h; exact Int.mul_nonneg h h; exact Int.mul_nonneg_of_nonpos_of_nonpos h h
  omega

def errRot (c s n : Int) : Int := if okRot c s n then 0 else 2
theorem errRot_1 {c s n : Int} (h : inB n 1 16777216 = false) : errRot c s n = 2 := by simp [errRot, okRot, h]
theorem errRot_2 {c s n : Int} (h : inB c (-n) n = false) : errRot c s n = 2 := by simp [errRot, okRot, h]
theorem errRot_3 {c s n : Int} (h : inB s (-n) n = false) : errRot c s n = 2 := by simp [errRot, okRot, h]
theorem errRot_4 {c s n : Int} (h : (c * c + s * s != n * n) = true) : errRot c s n = 2 := by simp [errRot, okRot, h]
theorem errRot_5 {c s n : Int} (h1 : inB n 1 16777216 = true) (h2 : inB c (-n) n = true) (h3 : inB s (-n) n = true) (h : (c * c + s * s != n * n) = false) : errRot c s n = 0 := by simp [errRot, okRot, h1, h2, h3, h]

def halfS (n d : Int) : Rot3 × Int := if inB d 1 2048 && inB n (-2048) 2048 then ((d * d - n * n, 2 * n * d, d * d + n * n), 0) else ((0, 0, 0), 2)

/-! the divisors -/
def gcdI (a b : Int) : Int := (Nat.gcd a.natAbs b.natAbs : Int)
theorem gcdI_zero (a : Int) (h : 0 ≤ a) : gcdI a 0 = a := by simp only [gcdI, Int.natAbs_zero, Nat.gcd_zero_right]; omega
theorem gcdI_step (a b : Int) (ha : 0 ≤ a) (hb : 1 ≤ b) : gcdI b (a % b) = gcdI a b := by
  obtain ⟨m, rfl⟩ := Int.eq_ofNat_of_zero_le ha
  obtain ⟨n, rfl⟩ := Int.eq_ofNat_of_zero_le (show 0 ≤ b by omega)
  rw [show ((m : Int) % (n : Int)) = ((m % n : Nat) : Int) from rfl]
  simp only [gcdI, Int.natAbs_natCast]
  rw [Nat.gcd_comm n, ← Nat.gcd_rec, Nat.gcd_comm]
theorem gcdI_nonneg (a b : Int) : 0 ≤ gcdI a b := Int.natCast_nonneg _

end Go.Proofs.Ytkkeblgahbpmmaa
/- Contracts on turns: the divisor of some numbers, Both, Rotate (both texts). -/
namespace Go.Proofs.Ytkkeblgahbpmmaa
open Go.RowKit

theorem Ext.frz {w w' : World} (h : Ext w w') {p : Addr} (hp : p.block < w.heap.size) (hf : w.frozen? p = false) : w'.frozen? p = false := (Below.frozen h hp).trans hf

def gcdL (l : List Int) : Int := l.foldl (fun g x => gcdI g (max x (-x))) 0
theorem gcdL_snoc (l : List Int) (x : Int) : gcdL (l ++ [x]) = gcdI (gcdL l) (max x (-x)) := by simp [gcdL]
theorem gcdL_take {l : List Int} {k : Nat} (h : k < l.length) : gcdL (l.take (k + 1)) = gcdI (gcdL (l.take k)) (max (l.getD k 0) (-(l.getD k 0))) := by
  rw [List.take_succ_eq_append_getElem h, gcdL_snoc, getD_lt h]
theorem gcdI_zero_left (a : Int) (h : 0 ≤ a) : gcdI 0 a = a := by simp only [gcdI, Int.natAbs_zero, Nat.gcd_zero_left]; omega
theorem gcdI_le (a b B : Int) (ha : 0 ≤ a) (hb : 0 ≤ b) (h1 : a ≤ B) (h2 : b ≤ B) : gcdI a b ≤ B := by
  by_cases h0 : b = 0
  · subst h0; rw [gcdI_zero a ha]; exact h1
  · have := Nat.le_of_dvd (by omega) (Nat.gcd_dvd_right a.natAbs b.natAbs)
    unfold gcdI; omega
theorem gcdL_bd (l : List Int) (B : Int) (hB : 0 ≤ B) (h : ∀ x ∈ l, -B ≤ x ∧ x ≤ B) : 0 ≤ gcdL l ∧ gcdL l ≤ B := by
  have : ∀ (l : List Int) (g : Int), 0 ≤ g → g ≤ B → (∀ x ∈ l, -B ≤ x ∧ x ≤ B) → 0 ≤ l.foldl (fun g x => gcdI g (max x (-x))) g ∧ l.foldl (fun g x => gcdI g (max x (-x))) g ≤ B := by
    intro l
    induction l with
    | nil => intro g h1 h2 _; exact ⟨h1, h2⟩
    | cons x l ih =>
      intro g h1 h2 h3
      have hx := h3 x (by simp)
      exact ih _ (gcdI_nonneg _ _) (gcdI_le _ _ _ h1 (by omega) h2 (by omega)) (fun y hy => h3 y (by simp [hy]))
  exact this l 0 (by omega) hB h

end Go.Proofs.Ytkkeblgahbpmmaa
/- Contracts on turns: Rotate (both texts). -/
namespace Go.Proofs.Ytkkeblgahbpmmaa
open Go.RowKit

/-- a point, turned -/
def turnP (p o : Int × Int) (c s n : Int) : Int × Int :=
  (o.1 + Pl.near ((p.1 - o.1) * c - (p.2 - o.2) * s) n, o.2 + Pl.near ((p.1 - o.1) * s + (p.2 - o.2) * c) n)
def rotateS (p o : Int × Int) (c s n : Int) : (Int × Int) × Int :=
  if (okPt p && okPt o) = false then ((0, 0), 2) else if okRot c s n = false then ((0, 0), 2) else resS (turnP p o c s n)

theorem turn_bds {u v c s n : Int} (h : okRot c s n = true) (u1 : -33554432 ≤ u) (u2 : u ≤ 33554432) (v1 : -33554432 ≤ v) (v2 : v ≤ 33554432) :
    (-562949953421312 ≤ u * c ∧ u * c ≤ 562949953421312) ∧ (-562949953421312 ≤ v * s ∧ v * s ≤ 562949953421312) ∧ (-562949953421312 ≤ u * s ∧ u * s ≤ 562949953421312) ∧ (-562949953421312 ≤ v * c ∧ v * c ≤ 562949953421312) ∧
    (1 ≤ n ∧ n ≤ 16777216) ∧ (-2000000000000000 ≤ Pl.near (u * c - v * s) n ∧ Pl.near (u * c - v * s) n ≤ 2000000000000000) ∧ (-2000000000000000 ≤ Pl.near (u * s + v * c) n ∧ Pl.near (u * s + v * c) n ≤ 2000000000000000) := by
  obtain ⟨p1, p2, p3, _⟩ := okRot_bd h
  have m1 := Pl.mul_bd (a := u) (b := c) (A := 33554432) (B := 16777216) (by omega) (by omega) (by omega) (by omega)
  have m2 := Pl.mul_bd (a := v) (b := s) (A := 33554432) (B := 16777216) (by omega) (by omega) (by omega) (by omega)
  have m3 := Pl.mul_bd (a := u) (b := s) (A := 33554432) (B := 16777216) (by omega) (by omega) (by omega) (by omega)
  have m4 := Pl.mul_bd (a := v) (b := c) (A := 33554432) (B := 16777216) (by omega) (by omega) (by omega) (by omega)
  have r1 := Pl.near_bd (n := u * c - v * s) (d := n) (b := 1200000000000000) (by omega) (by omega) (by omega) (by omega)
  have r2 := Pl.near_bd (n := u * s + v * c) (d := n) (b := 1200000000000000) (by omega) (by omega) (by omega) (by omega)
  omega

end Go.Proofs.Ytkkeblgahbpmmaa
/- Plain facts on pulled points: how far a pulled point is from its hitch. -/
namespace Go.Proofs.Ytkkeblgahbpmmaa
namespace Pl

theorem sq_nonneg (a : Int) : 0 ≤ a * a := by
  rcases Int.le_total 0 a with h | h
  · exact Int.mul_nonneg h h
  · exact Int.mul_nonneg_of_nonpos_of_nonpos h h
theorem sq_le_sq {a b : Int} (hb : 0 ≤ b) (h : a * a ≤ b * b) : -b ≤ a ∧ a ≤ b := by
  constructor
  · by_cases hc : a < -b
    · have := sq_lt_of_lt (a := b) (b := -a) hb (by omega)
      rw [Int.neg_mul_neg] at this; omega
    · omega
  · by_cases hc : b < a
    · have := sq_lt_of_lt (a := b) (b := a) hb hc; omega
    · omega
/-- nearest: what is left -/
theorem near_spec (n d : Int) (hd : 1 ≤ d) : -d ≤ 2 * (near n d * d - n) ∧ 2 * (near n d * d - n) ≤ d := by
  have h := ediv_bd n d hd
  unfold near
  split
  · rw [Int.add_mul]; omega
  · omega
theorem near_le {n d k : Int} (hd : 1 ≤ d) (h : n ≤ k * d) : near n d ≤ k := by
  have h1 := near_spec n d hd
  by_cases hc : k < near n d
  · have h2 : (k + 1) * d ≤ near n d * d := Int.mul_le_mul_of_nonneg_right (by omega) (by omega)
    rw [Int.add_mul] at h2
    omega
  · omega
theorem le_near {n d k : Int} (hd : 1 ≤ d) (h : k * d ≤ n) : k ≤ near n d := by
  have h1 := near_spec n d hd
  by_cases hc : near n d < k
  · have h2 : (near n d + 1) * d ≤ k * d := Int.mul_le_mul_of_nonneg_right (by omega) (by omega)
    rw [Int.add_mul] at h2
    omega
  · omega

/-- the root of 1024 times a sum of squares -/
theorem root32 {u v : Int} : 32 * u ≤ isqrt (1024 * (u * u + v * v)) ∧ -(32 * u) ≤ isqrt (1024 * (u * u + v * v)) := by
  have a := sq_nonneg u
  have b := sq_nonneg v
  have c := lt_isqrt (1024 * (u * u + v * v)) (by omega)
  have d := isqrt_nonneg (1024 * (u * u + v * v))
  generalize isqrt (1024 * (u * u + v * v)) = r at c d
  have e : (32 * u) * (32 * u) = 1024 * (u * u) := by grind
  constructor
  · by_cases h : r < 32 * u
    · have := sq_le_of_le (a := r + 1) (b := 32 * u) (by omega) (by omega); omega
    · omega
  · by_cases h : r < -(32 * u)
    · have := sq_le_of_le (a := r + 1) (b := -(32 * u)) (by omega) (by omega)
      rw [Int.neg_mul_neg] at this; omega
    · omega

/-- the nearest point on the way to (u, v) at l is nearly l away, if l is at most half the root -/
theorem pulled_far {u v l r A B : Int} (hr : 32 ≤ r) (h1 : r * r ≤ 1024 * (u * u + v * v)) (h2 : 1024 * (u * u + v * v) < (r + 1) * (r + 1)) (hl : 1 ≤ l) (hlr : 2 * l ≤ r)
    (hA1 : -r ≤ 2 * (A * r - 32 * (u * l))) (hA2 : 2 * (A * r - 32 * (u * l)) ≤ r) (hB1 : -r ≤ 2 * (B * r - 32 * (v * l))) (hB2 : 2 * (B * r - 32 * (v * l)) ≤ r) :
    A * A + B * B ≤ (l + 2) * (l + 2) ∧ (2 ≤ l → (l - 2) * (l - 2) ≤ A * A + B * B) := by
  -- x, y: what is left
  generalize hx : A * r - 32 * (u * l) = x at hA1 hA2
  generalize hy : B * r - 32 * (v * l) = y at hB1 hB2
  -- 64 (u x + v y) is at most t r / 2 · .. : (64 (u x + v y))^2 ≤ ..
  have hS : r * r * (A * A + B * B) = 1024 * (u * u + v * v) * (l * l) + 64 * l * (u * x + v * y) + (x * x + y * y) := by
    have e1 : A * r = x + 32 * (u * l) := by omega
    have e2 : B * r = y + 32 * (v * l) := by omega
    have e3 : r * r * (A * A + B * B) = (A * r) * (A * r) + (B * r) * (B * r) := by grind
    rw [e3, e1, e2]; grind
  have hx2 : 4 * (x * x) ≤ r * r := by
    have := mul_bd (a := 2 * x) (b := 2 * x) hA1 hA2 hA1 hA2
    have e : (2 * x) * (2 * x) = 4 * (x * x) := by grind
    omega
  have hy2 : 4 * (y * y) ≤ r * r := by
    have := mul_bd (a := 2 * y) (b := 2 * y) hB1 hB2 hB1 hB2
    have e : (2 * y) * (2 * y) = 4 * (y * y) := by grind
    omega
  have hxn := sq_nonneg x
  have hyn := sq_nonneg y
  -- c: 32 (u x + v y), its square at most S (x^2 + y^2)
  generalize hc : 32 * (u * x + v * y) = c
  have hcc : c * c ≤ 1024 * (u * u + v * v) * (x * x + y * y) := by
    have e : 1024 * (u * u + v * v) * (x * x + y * y) - c * c = 1024 * ((u * y - v * x) * (u * y - v * x)) := by rw [← hc]; grind
    have := sq_nonneg (u * y - v * x)
    omega
  have hrr : 0 ≤ r * r := sq_nonneg r
  have hcb : -(r * (r + 1)) ≤ c ∧ c ≤ r * (r + 1) := by
    apply sq_le_sq (Int.mul_nonneg (by omega) (by omega))
    have e1 : 1024 * (u * u + v * v) * (x * x + y * y) ≤ (r + 1) * (r + 1) * (x * x + y * y) := Int.mul_le_mul_of_nonneg_right (by omega) (by omega)
    have e2 : (r + 1) * (r + 1) * (x * x + y * y) ≤ (r + 1) * (r + 1) * (r * r) := Int.mul_le_mul_of_nonneg_left (by omega) (sq_nonneg _)
    have e3 : r * (r + 1) * (r * (r + 1)) = (r + 1) * (r + 1) * (r * r) := by grind
    omega
  have hl2 : 64 * l * (u * x + v * y) = 2 * (l * c) := by rw [← hc]; grind
  have hlc1 : l * c ≤ l * (r * (r + 1)) := Int.mul_le_mul_of_nonneg_left hcb.2 (by omega)
  have hlc2 : -(l * (r * (r + 1))) ≤ l * c := by
    have := Int.mul_le_mul_of_nonneg_left (c := l) hcb.1 (by omega)
    rw [Int.mul_neg] at this; omega
  have hll : 0 ≤ l * l := sq_nonneg l
  have hSl1 : 1024 * (u * u + v * v) * (l * l) ≤ (r * r + 2 * r) * (l * l) := Int.mul_le_mul_of_nonneg_right (by
    have : (r + 1) * (r + 1) = r * r + 2 * r + 1 := by grind
    omega) hll
  have hSl2 : r * r * (l * l) ≤ 1024 * (u * u + v * v) * (l * l) := Int.mul_le_mul_of_nonneg_right h1 hll
  have f1 : (r * r + 2 * r) * (l * l) = r * r * (l * l) + 2 * (r * (l * l)) := by grind
  have f2 : l * (r * (r + 1)) = l * (r * r) + l * r := by grind
  have f3 : r * r * ((l + 2) * (l + 2)) = r * r * (l * l) + 4 * (l * (r * r)) + 4 * (r * r) := by grind
  have f4 : r * r * ((l - 2) * (l - 2)) = r * r * (l * l) - 4 * (l * (r * r)) + 4 * (r * r) := by grind
  have f5 : 2 * (r * (l * l)) ≤ l * (r * r) := by
    have := Int.mul_le_mul_of_nonneg_left (c := l * r) hlr (Int.mul_nonneg (by omega) (by omega))
    have e1 : l * r * (2 * l) = 2 * (r * (l * l)) := by grind
    have e2 : l * r * r = l * (r * r) := by grind
    omega
  have f6 : 32 * (l * r) ≤ l * (r * r) := by
    have := Int.mul_le_mul_of_nonneg_left (c := l * r) hr (Int.mul_nonneg (by omega) (by omega))
    have e2 : l * r * r = l * (r * r) := by grind
    omega
  have f7 : 0 ≤ l * r := Int.mul_nonneg (by omega) (by omega)
  have f8 : 0 ≤ r * (l * l) := Int.mul_nonneg (by omega) hll
  have hpos : 0 < r * r := Int.mul_pos (by omega) (by omega)
  constructor
  · exact Int.le_of_mul_le_mul_left (a := r * r) (by omega) hpos
  · intro h2l
    by_cases h3 : 2 < l
    · have f9 : 3 * (r * r) ≤ l * (r * r) := Int.mul_le_mul_of_nonneg_right (by omega) hrr
      exact Int.le_of_mul_le_mul_left (a := r * r) (by omega) hpos
    · obtain rfl : l = 2 := by omega
      have := sq_nonneg A
      have := sq_nonneg B
      omega
theorem abs_le_of {n r k : Int} (hr : 1 ≤ r) (h1 : n ≤ k * r) (h2 : -(k * r) ≤ n) : -k ≤ near n r ∧ near n r ≤ k :=
  ⟨le_near hr (by rw [Int.neg_mul]; exact h2), near_le hr h1⟩
/-- what is put at l on the way to (u, v) is at most l away, in each direction -/
theorem put_abs {u v l : Int} (hl : 0 ≤ l) (hr : 1 ≤ isqrt (1024 * (u * u + v * v))) :
    -l ≤ near (32 * (u * l)) (isqrt (1024 * (u * u + v * v))) ∧ near (32 * (u * l)) (isqrt (1024 * (u * u + v * v))) ≤ l := by
  have h := root32 (u := u) (v := v)
  generalize isqrt (1024 * (u * u + v * v)) = r at hr h
  have e : 32 * (u * l) = l * (32 * u) := by grind
  rw [e]
  refine abs_le_of hr ?_ ?_
  · exact Int.mul_le_mul_of_nonneg_left h.1 hl
  · have := Int.mul_le_mul_of_nonneg_left h.2 hl
    rw [Int.mul_neg] at this; omega
theorem isqrt_ge {n b : Int} (hn : 0 ≤ n) (_ : 0 ≤ b) (h : b * b ≤ n) : b ≤ isqrt n := by
  have h1 := lt_isqrt n hn
  have h2 := isqrt_nonneg n
  by_cases hc : isqrt n < b
  · have := sq_le_of_le (a := isqrt n + 1) (b := b) (by omega) (by omega); omega
  · omega
theorem isqrt_le_of {n b : Int} (hn : 0 ≤ n) (hb : 0 ≤ b) (h : n ≤ b * b) : isqrt n ≤ b := by
  have h1 := isqrt_le n hn
  have h2 := isqrt_nonneg n
  by_cases hc : b < isqrt n
  · have := sq_lt_of_lt (a := b) (b := isqrt n) hb hc; omega
  · omega
/-- pulled once more, a point stays nearly -/
theorem put_again {A B l : Int} (hl : 3 ≤ l) (h1 : A * A + B * B ≤ (l + 2) * (l + 2)) (h2 : (l - 2) * (l - 2) ≤ A * A + B * B) :
    -2 ≤ near (32 * (A * l)) (isqrt (1024 * (A * A + B * B))) - A ∧ near (32 * (A * l)) (isqrt (1024 * (A * A + B * B))) - A ≤ 2 := by
  have hp : 1 ≤ (l - 2) * (l - 2) := by have := sq_le_of_le (a := 1) (b := l - 2) (by omega) (by omega); omega
  have r1 : 32 * (l - 2) ≤ isqrt (1024 * (A * A + B * B)) := isqrt_ge (by omega) (by omega) (by
    have e : 32 * (l - 2) * (32 * (l - 2)) = 1024 * ((l - 2) * (l - 2)) := by grind
    omega)
  have r2 : isqrt (1024 * (A * A + B * B)) ≤ 32 * (l + 2) := isqrt_le_of (by omega) (by omega) (by
    have e : 32 * (l + 2) * (32 * (l + 2)) = 1024 * ((l + 2) * (l + 2)) := by grind
    omega)
  have h := root32 (u := A) (v := B)
  generalize isqrt (1024 * (A * A + B * B)) = r at r1 r2 h
  -- 32 A l = A r + A (32 l - r), and |A| |32 l - r| ≤ 64 |A| ≤ 2 r
  generalize hd : 32 * l - r = d
  have hd1 : -64 ≤ d ∧ d ≤ 64 := by omega
  have e : 32 * (A * l) = A * r + A * d := by rw [← hd]; grind
  have hA : -(2 * r) ≤ A * d ∧ A * d ≤ 2 * r := by
    have b1 := mul_bd (a := 32 * A) (b := d) (A := r) (B := 64) (by omega) h.1 hd1.1 hd1.2
    have e2 : 32 * A * d = 32 * (A * d) := by grind
    omega
  have k1 : near (32 * (A * l)) r ≤ A + 2 := near_le (by omega) (by rw [e, Int.add_mul]; omega)
  have k2 : A - 2 ≤ near (32 * (A * l)) r := le_near (by omega) (by rw [e, Int.sub_mul]; omega)
  omega
end Pl

theorem okPt_of {x y : Int} (h1 : -16777216 ≤ x) (h2 : x ≤ 16777216) (h3 : -16777216 ≤ y) (h4 : y ≤ 16777216) : okPt (x, y) = true := okPt_iff.2 ⟨⟨h1, h2⟩, h3, h4⟩

theorem pull_facts {hx hy yx yy l : Int} (a1 : -128 ≤ hx) (a2 : hx ≤ 128) (a3 : -128 ≤ hy) (a4 : hy ≤ 128) (b1 : -8388608 ≤ yx) (b2 : yx ≤ 8388608) (b3 : -8388608 ≤ yy) (b4 : yy ≤ 8388608) (hl1 : 1 ≤ l) (hl2 : l ≤ 1048576)
    (hne : ¬ (yx = hx ∧ yy = hy)) :
    ∃ px py : Int, pullS (hx, hy) (yx, yy) l = ((px, py), 0) ∧ (-2000000 ≤ px ∧ px ≤ 2000000) ∧ (-2000000 ≤ py ∧ py ≤ 2000000) ∧
      (l ≤ 16 * Pl.isqrt ((yx - hx) * (yx - hx) + (yy - hy) * (yy - hy)) →
        (-2 ≤ Pl.isqrt ((px - hx) * (px - hx) + (py - hy) * (py - hy)) - l ∧ Pl.isqrt ((px - hx) * (px - hx) + (py - hy) * (py - hy)) - l ≤ 2) ∧
        (100 ≤ l → ∃ qx qy : Int, pullS (hx, hy) (px, py) l = ((qx, qy), 0) ∧ (-2 ≤ px - qx ∧ px - qx ≤ 2) ∧ (-2 ≤ py - qy ∧ py - qy ≤ 2))) := by
  have hne' : ¬ (yx - hx = 0 ∧ yy - hy = 0) := by omega
  have PB := put_bds (x := 1) (y := 0) hne' (by omega) (by omega) (by omega) (by omega) (by omega) (by omega) (by omega) (by omega)
  obtain ⟨c1, c2, c3, c4, c5, _, _, _, _, _, _, _, _, c14, c15, _⟩ := PB
  generalize hu : yx - hx = u at *
  generalize hv : yy - hy = v at *
  have m1 := Pl.put_abs (u := u) (v := v) (l := l) (by omega) c14
  have m2 := Pl.put_abs (u := v) (v := u) (l := l) (by omega) (by rw [Int.add_comm]; exact c14)
  rw [Int.add_comm (v * v)] at m2
  have s1 := Pl.near_spec (32 * (u * l)) _ c14
  have s2 := Pl.near_spec (32 * (v * l)) _ c14
  have g1 := Pl.isqrt_le (1024 * (u * u + v * v)) (by omega)
  have g2 := Pl.lt_isqrt (1024 * (u * u + v * v)) (by omega)
  have g3 : 32 ≤ Pl.isqrt (1024 * (u * u + v * v)) := Pl.isqrt_ge (by omega) (by omega) (by omega)
  have g4 : 32 * Pl.isqrt (u * u + v * v) ≤ Pl.isqrt (1024 * (u * u + v * v)) := by
    have k1 := Pl.isqrt_le (u * u + v * v) (by omega)
    have k2 := Pl.isqrt_nonneg (u * u + v * v)
    refine Pl.isqrt_ge (by omega) (by omega) ?_
    have e : 32 * Pl.isqrt (u * u + v * v) * (32 * Pl.isqrt (u * u + v * v)) = 1024 * (Pl.isqrt (u * u + v * v) * Pl.isqrt (u * u + v * v)) := by grind
    omega
  have hput : putP (hx, hy) (yx, yy) l 0 = (hx + Pl.near (32 * (u * l)) (Pl.isqrt (1024 * (u * u + v * v))), hy + Pl.near (32 * (v * l)) (Pl.isqrt (1024 * (u * u + v * v)))) := by
    simp only [putP, hu, hv, Int.mul_zero, Int.sub_zero, Int.add_zero]
  generalize hr : Pl.isqrt (1024 * (u * u + v * v)) = r at *
  generalize hA : Pl.near (32 * (u * l)) r = A at *
  generalize hB : Pl.near (32 * (v * l)) r = B at *
  refine ⟨hx + A, hy + B, ?_, by omega, by omega, ?_⟩
  · rw [pullS_r (okPt_of (by omega) (by omega) (by omega) (by omega)) (okPt_of (by omega) (by omega) (by omega) (by omega)) (inB_iff.2 ⟨by omega, by omega⟩) (by simp only [Prod.mk.injEq]; omega), hput]
    exact resS_yes (okPt_of (by omega) (by omega) (by omega) (by omega))
  · intro hd
    rw [show hx + A - hx = A by omega, show hy + B - hy = B by omega]
    have far := Pl.pulled_far g3 g1 g2 hl1 (by omega) s1.1 s1.2 s2.1 s2.2
    have hAB : 0 ≤ A * A + B * B := by have := Pl.sq_nonneg A; have := Pl.sq_nonneg B; omega
    constructor
    · have k1 := Pl.isqrt_le_of hAB (by omega) far.1
      have k2 := Pl.isqrt_nonneg (A * A + B * B)
      have k3 : 2 ≤ l → l - 2 ≤ Pl.isqrt (A * A + B * B) := fun h => Pl.isqrt_ge hAB (by omega) (far.2 h)
      omega
    · intro h100
      have f2 := far.2 (by omega)
      have p1 := Pl.put_again (A := A) (B := B) (l := l) (by omega) far.1 f2
      have p2 := Pl.put_again (A := B) (B := A) (l := l) (by omega) (by rw [Int.add_comm]; exact far.1) (by rw [Int.add_comm]; exact f2)
      rw [Int.add_comm (B * B)] at p2
      have hput2 : putP (hx, hy) (hx + A, hy + B) l 0 = (hx + Pl.near (32 * (A * l)) (Pl.isqrt (1024 * (A * A + B * B))), hy + Pl.near (32 * (B * l)) (Pl.isqrt (1024 * (A * A + B * B)))) := by
        simp only [putP, show hx + A - hx = A by omega, show hy + B - hy = B by omega, Int.mul_zero, Int.sub_zero, Int.add_zero]
      have hne2 : ¬ (A = 0 ∧ B = 0) := by
        rintro ⟨rfl, rfl⟩
        have := Pl.sq_le_of_le (a := 98) (b := l - 2) (by omega) (by omega)
        omega
      refine ⟨hx + Pl.near (32 * (A * l)) (Pl.isqrt (1024 * (A * A + B * B))), hy + Pl.near (32 * (B * l)) (Pl.isqrt (1024 * (A * A + B * B))), ?_, by omega, by omega⟩
      · rw [pullS_r (okPt_of (by omega) (by omega) (by omega) (by omega)) (okPt_of (by omega) (by omega) (by omega) (by omega)) (inB_iff.2 ⟨by omega, by omega⟩) (by simp only [Prod.mk.injEq]; omega), hput2]
        exact resS_yes (okPt_of (by omega) (by omega) (by omega) (by omega))
end Go.Proofs.Ytkkeblgahbpmmaa
/- Contracts of the number functions that are exported: Floor, Nearest, Root, Check, Turn (both texts). -/
namespace Go.Proofs.Ytkkeblgahbpmmaa
open Go.RowKit

def floorS (n d : Int) : Int × Int := if inB n (-2305843009213693952) 2305843009213693952 && inB d 1 2305843009213693952 then (n / d, 0) else (0, 3)
def nearestS (n d : Int) : Int × Int := if inB n (-2305843009213693952) 2305843009213693952 && inB d 1 2305843009213693952 then (Pl.near n d, 0) else (0, 3)
def rootS (n : Int) : Int × Int := if n < 0 then (0, 2) else (Pl.isqrt n, 0)
def checkS (p : Int × Int) : Int := if okPt p then 0 else 2
def crossS (a b c : Int × Int) : Int := (b.1 - a.1) * (c.2 - a.2) - (b.2 - a.2) * (c.1 - a.1)
def sgn (x : Int) : Int := if x < 0 then -1 else if 0 < x then 1 else 0
def turnS (a b c : Int × Int) : Int × Int := if okPt a && (okPt b && okPt c) then (sgn (crossS a b c), 0) else (0, 2)
theorem sgn_neg {x : Int} (h : x < 0) : sgn x = -1 := by simp [sgn, h]
theorem sgn_pos {x : Int} (h : 0 < x) : sgn x = 1 := by unfold sgn; rw [if_neg (by omega), if_pos h]
theorem sgn_zero : sgn 0 = 0 := rfl

theorem cross_bds {ax ay bx by' cx cy : Int} (h1 : okPt (ax, ay) = true) (h2 : okPt (bx, by') = true) (h3 : okPt (cx, cy) = true) :
    (-33554432 ≤ bx - ax ∧ bx - ax ≤ 33554432) ∧ (-33554432 ≤ cy - ay ∧ cy - ay ≤ 33554432) ∧ (-33554432 ≤ by' - ay ∧ by' - ay ≤ 33554432) ∧ (-33554432 ≤ cx - ax ∧ cx - ax ≤ 33554432) ∧
    (-1125899906842624 ≤ (bx - ax) * (cy - ay) ∧ (bx - ax) * (cy - ay) ≤ 1125899906842624) ∧ (-1125899906842624 ≤ (by' - ay) * (cx - ax) ∧ (by' - ay) * (cx - ax) ≤ 1125899906842624) := by
  obtain ⟨a1, a2, a3, a4⟩ := okPt_bd h1
  obtain ⟨a5, a6, a7, a8⟩ := okPt_bd h2
  obtain ⟨a9, a10, a11, a12⟩ := okPt_bd h3
  have m1 := Pl.mul_bd (a := bx - ax) (b := cy - ay) (A := 33554432) (B := 33554432) (by omega) (by omega) (by omega) (by omega)
  have m2 := Pl.mul_bd (a := by' - ay) (b := cx - ax) (A := 33554432) (B := 33554432) (by omega) (by omega) (by omega) (by omega)
  omega

/-- no number is the one that is not -/
theorem isNaN_c (x : Int) (w : World) : Calls Try.prog 126 #[.int .i64 x] w fun e w' => e = .returned (.bool false) ∧ w = w' := by
  go_enter Try.func126, Try.ntmps126
  go_wp2
  go_ret
  exact ⟨rfl, rfl⟩
theorem sgn_sub (x y : Int) : sgn (x - y) = if x < y then -1 else if y < x then 1 else 0 := by
  unfold sgn
  by_cases h : x < y
  · rw [if_pos (by omega), if_pos h]
  · rw [if_neg (by omega), if_neg h]
    by_cases h2 : y < x
    · rw [if_pos (by omega), if_pos h2]
    · rw [if_neg (by omega), if_neg h2]
set_option maxHeartbeats 800000 in
theorem Compare_c (x y : Int) (w : World) : Calls Try.prog 118 #[.int .i64 x, .int .i64 y] w fun e w' => e = .returned (.int .i64 (sgn (x - y))) ∧ w = w' := by
  rw [sgn_sub]
  by_cases h : x < y
  · rw [if_pos h]
    go_enter Try.func118, Try.ntmps118
    go_wp2_with (go_at_call 126; refine (isNaN_c _ _).mono ?_; rintro e w' ⟨rfl, rfl⟩)
    go_ret
    exact ⟨rfl, rfl⟩
  · rw [if_neg h]
    by_cases h2 : y < x
    · rw [if_pos h2]
      go_enter Try.func118, Try.ntmps118
      go_wp2_with (go_at_call 126; refine (isNaN_c _ _).mono ?_; rintro e w' ⟨rfl, rfl⟩)
      go_ret
      exact ⟨rfl, rfl⟩
    · rw [if_neg h2]
      go_enter Try.func118, Try.ntmps118
      go_wp2_with (go_at_call 126; refine (isNaN_c _ _).mono ?_; rintro e w' ⟨rfl, rfl⟩)
      go_ret
      exact ⟨rfl, rfl⟩

set_option maxHeartbeats 800000 in
theorem cross_c (ax ay bx by' cx cy : Int) (w : World) (h1 : okPt (ax, ay) = true) (h2 : okPt (bx, by') = true) (h3 : okPt (cx, cy) = true) :
    Calls Try.prog 103 #[.agg #[.int .i64 ax, .int .i64 ay], .agg #[.int .i64 bx, .int .i64 by'], .agg #[.int .i64 cx, .int .i64 cy]] w fun e w' => e = .returned (.int .i64 (crossS (ax, ay) (bx, by') (cx, cy))) ∧ Ext w w' := by
  obtain ⟨⟨a1, a2⟩, ⟨a3, a4⟩, ⟨a5, a6⟩, ⟨a7, a8⟩, ⟨a9, a10⟩, a11, a12⟩ := cross_bds h1 h2 h3
  unfold crossS
  go_enter Try.func103, Try.ntmps103
  go_wp2_with fail
  go_ret
  exact ⟨rfl, by (repeat' (first | exact Ext.refl _ | assumption | refine Ext.alloc ?_ _ | refine Ext.drew ?_ | refine Ext.drewN ?_ _ | refine Ext.set ?_ (by first | exact Nat.le_refl _ | exact le1 _ | exact le2 _ | exact le3 _ | exact le4 _ | exact le5 _ | exact le6 _) _ | refine Ext.trans ?_ (by assumption)))⟩

theorem three_pts (w : World) (x y z u s t : Int) (b : Nat) (h1 : w.cell? ⟨b, 0, none⟩ = some (.int .i64 x)) (h2 : w.cell? ⟨b, 1, none⟩ = some (.int .i64 y)) (h3 : w.cell? ⟨b, 2, none⟩ = some (.int .i64 z)) (h4 : w.cell? ⟨b, 3, none⟩ = some (.int .i64 u)) (h5 : w.cell? ⟨b, 4, none⟩ = some (.int .i64 s)) (h6 : w.cell? ⟨b, 5, none⟩ = some (.int .i64 t)) : Pts w (.slice (some ⟨b, 0, none⟩) 3 3) [(x, y), (z, u), (s, t)] :=
  .inr ⟨b, 0, 3, rfl, by simp, by simp, fun i hi => by
    have : i = 0 ∨ i = 1 ∨ i = 2 := by simp at hi; omega
    rcases this with rfl | rfl | rfl
    · exact ⟨h1, h2⟩
    · exact ⟨h3, h4⟩
    · exact ⟨h5, h6⟩⟩

end Go.Proofs.Ytkkeblgahbpmmaa

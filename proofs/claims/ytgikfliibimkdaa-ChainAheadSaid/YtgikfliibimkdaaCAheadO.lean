/- Contracts: the points of an axis. -/
import Derived.Test.YtgikfliibimkdaaCFold
namespace Go.Proofs.Ytgikfliibimkdaa
open Go.RowKit Go.Shelf

def dirN (a : Int) : Int × Int := if a % 4 = 0 then (1, 0) else if a % 4 = 1 then (-1, 0) else if a % 4 = 2 then (0, 1) else (0, -1)
theorem dirN_is (a : Int) : isDir (dirN a) := by
  unfold dirN isDir
  split
  · simp
  · split
    · simp
    · split <;> simp
set_option maxHeartbeats 1600000 in
theorem on_c (a t : Int) (w : World) (h0 : 0 ≤ a) (t1 : -1000000 ≤ t) (t2 : t ≤ 1000000) :
    Calls Try.prog 29 #[.int .u8 a, .int .i64 t] w fun e w' => e = .returned (.agg #[.int .i64 (axP (dirN a) t).1, .int .i64 (axP (dirN a) t).2]) ∧ Ext w w' := by
  have h4 : a % 4 = 0 ∨ a % 4 = 1 ∨ a % 4 = 2 ∨ a % 4 = 3 := by omega
  have e2 : a.tmod 2 = a % 2 := Int.tmod_eq_emod_of_nonneg h0
  have e4 : a.tmod 4 = a % 4 := Int.tmod_eq_emod_of_nonneg h0
  have ew := IntWalk.i64_in (-t) (by omega)
  rcases h4 with h | h | h | h
  · have g2 : a % 2 = 0 := by omega
    unfold dirN axP
    rw [if_pos h]
    simp only [Int.one_mul, Int.zero_mul]
    go_enter Try.func29, Try.ntmps29
    go_wp2
    exact bodyPost_ret (v := .agg #[.int .i64 t, .int .i64 0]) (by simp [results, Try.results29, go_sem]) rfl ⟨rfl, by (repeat' (first | exact Ext.refl _ | assumption | refine Ext.alloc ?_ _ | refine Ext.drew ?_ | refine Ext.drewN ?_ _ | refine Ext.set ?_ (by first | exact Nat.le_refl _ | exact le1 _ | exact le2 _ | exact le3 _ | exact le4 _ | exact le5 _ | exact le6 _) _ | refine Ext.trans ?_ (by assumption)))⟩
  · have g2 : a % 2 = 1 := by omega
    unfold dirN axP
    rw [if_neg (show ¬ a % 4 = 0 by omega), if_pos h]
    simp only [Int.one_mul, Int.zero_mul, Int.neg_mul]
    go_enter Try.func29, Try.ntmps29
    go_wp2
    exact bodyPost_ret (v := .agg #[.int .i64 (-t), .int .i64 0]) (by simp [results, Try.results29, go_sem]) rfl ⟨rfl, by (repeat' (first | exact Ext.refl _ | assumption | refine Ext.alloc ?_ _ | refine Ext.drew ?_ | refine Ext.drewN ?_ _ | refine Ext.set ?_ (by first | exact Nat.le_refl _ | exact le1 _ | exact le2 _ | exact le3 _ | exact le4 _ | exact le5 _ | exact le6 _) _ | refine Ext.trans ?_ (by assumption)))⟩
  · have g2 : a % 2 = 0 := by omega
    unfold dirN axP
    rw [if_neg (show ¬ a % 4 = 0 by omega), if_neg (show ¬ a % 4 = 1 by omega), if_pos h]
    simp only [Int.one_mul, Int.zero_mul]
    go_enter Try.func29, Try.ntmps29
    go_wp2
    exact bodyPost_ret (v := .agg #[.int .i64 0, .int .i64 t]) (by simp [results, Try.results29, go_sem]) rfl ⟨rfl, by (repeat' (first | exact Ext.refl _ | assumption | refine Ext.alloc ?_ _ | refine Ext.drew ?_ | refine Ext.drewN ?_ _ | refine Ext.set ?_ (by first | exact Nat.le_refl _ | exact le1 _ | exact le2 _ | exact le3 _ | exact le4 _ | exact le5 _ | exact le6 _) _ | refine Ext.trans ?_ (by assumption)))⟩
  · have g2 : a % 2 = 1 := by omega
    unfold dirN axP
    rw [if_neg (show ¬ a % 4 = 0 by omega), if_neg (show ¬ a % 4 = 1 by omega), if_neg (show ¬ a % 4 = 2 by omega)]
    simp only [Int.one_mul, Int.zero_mul, Int.neg_mul]
    go_enter Try.func29, Try.ntmps29
    go_wp2
    exact bodyPost_ret (v := .agg #[.int .i64 0, .int .i64 (-t)]) (by simp [results, Try.results29, go_sem]) rfl ⟨rfl, by (repeat' (first | exact Ext.refl _ | assumption | refine Ext.alloc ?_ _ | refine Ext.drew ?_ | refine Ext.drewN ?_ _ | refine Ext.set ?_ (by first | exact Nat.le_refl _ | exact le1 _ | exact le2 _ | exact le3 _ | exact le4 _ | exact le5 _ | exact le6 _) _ | refine Ext.trans ?_ (by assumption)))⟩
set_option maxHeartbeats 1600000 in
theorem off_c (a t : Int) (w : World) (h0 : 0 ≤ a) :
    Calls Try.prog 31 #[.int .u8 a, .agg #[.int .i64 (axP (dirN a) t).1, .int .i64 (axP (dirN a) t).2]] w fun e w' => e = .returned (.bool false) ∧ Ext w w' := by
  have h4 : a % 4 = 0 ∨ a % 4 = 1 ∨ a % 4 = 2 ∨ a % 4 = 3 := by omega
  have e4 : a.tmod 4 = a % 4 := Int.tmod_eq_emod_of_nonneg h0
  rcases h4 with h | h | h | h
  · unfold dirN axP
    rw [if_pos h]
    simp only [Int.one_mul, Int.zero_mul]
    go_enter Try.func31, Try.ntmps31
    go_wp2
    go_ret
    exact ⟨rfl, by (repeat' (first | exact Ext.refl _ | assumption | refine Ext.alloc ?_ _ | refine Ext.drew ?_ | refine Ext.drewN ?_ _ | refine Ext.set ?_ (by first | exact Nat.le_refl _ | exact le1 _ | exact le2 _ | exact le3 _ | exact le4 _ | exact le5 _ | exact le6 _) _ | refine Ext.trans ?_ (by assumption)))⟩
  · unfold dirN axP
    rw [if_neg (show ¬ a % 4 = 0 by omega), if_pos h]
    simp only [Int.one_mul, Int.zero_mul, Int.neg_mul]
    go_enter Try.func31, Try.ntmps31
    go_wp2
    go_ret
    exact ⟨rfl, by (repeat' (first | exact Ext.refl _ | assumption | refine Ext.alloc ?_ _ | refine Ext.drew ?_ | refine Ext.drewN ?_ _ | refine Ext.set ?_ (by first | exact Nat.le_refl _ | exact le1 _ | exact le2 _ | exact le3 _ | exact le4 _ | exact le5 _ | exact le6 _) _ | refine Ext.trans ?_ (by assumption)))⟩
  · unfold dirN axP
    rw [if_neg (show ¬ a % 4 = 0 by omega), if_neg (show ¬ a % 4 = 1 by omega), if_pos h]
    simp only [Int.one_mul, Int.zero_mul]
    go_enter Try.func31, Try.ntmps31
    go_wp2
    go_ret
    exact ⟨rfl, by (repeat' (first | exact Ext.refl _ | assumption | refine Ext.alloc ?_ _ | refine Ext.drew ?_ | refine Ext.drewN ?_ _ | refine Ext.set ?_ (by first | exact Nat.le_refl _ | exact le1 _ | exact le2 _ | exact le3 _ | exact le4 _ | exact le5 _ | exact le6 _) _ | refine Ext.trans ?_ (by assumption)))⟩
  · unfold dirN axP
    rw [if_neg (show ¬ a % 4 = 0 by omega), if_neg (show ¬ a % 4 = 1 by omega), if_neg (show ¬ a % 4 = 2 by omega)]
    simp only [Int.one_mul, Int.zero_mul, Int.neg_mul]
    go_enter Try.func31, Try.ntmps31
    go_wp2
    go_ret
    exact ⟨rfl, by (repeat' (first | exact Ext.refl _ | assumption | refine Ext.alloc ?_ _ | refine Ext.drew ?_ | refine Ext.drewN ?_ _ | refine Ext.set ?_ (by first | exact Nat.le_refl _ | exact le1 _ | exact le2 _ | exact le3 _ | exact le4 _ | exact le5 _ | exact le6 _) _ | refine Ext.trans ?_ (by assumption)))⟩
end Go.Proofs.Ytgikfliibimkdaa

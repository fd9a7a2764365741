
/- Contracts: when a unit is valid. -/
import Derived.Test.YtcbjecpfijogcaaGreatCSpec
import Derived.Test.YtcbjecpfijogcaaGreatCIdx
namespace Go.Proofs.YtcbjecpfijogcaaGreat
open Go.RowKit

set_option maxHeartbeats 400000 in
theorem cwithin_c (x lo hi : Int) (w : World) :
    Calls Tryz.prog 88 #[.int .i64 x, .int .i64 lo, .int .i64 hi] w fun e w' => e = .returned (.bool (inB x lo hi)) ∧ w = w' := by
  by_cases h1 : lo ≤ x <;> by_cases h2 : x ≤ hi
  all_goals
    go_enter Tryz.func88, Tryz.ntmps88
    go_wp2
    go_ret
    exact ⟨ret_bool (by simp [inB]; omega), rfl⟩
set_option maxHeartbeats 400000 in
theorem in3_c (x lo hi : Int) (w : World) :
    Calls Tryz.prog 82 #[.int .i64 x, .int .i64 lo, .int .i64 hi] w fun e w' => e = .returned (.bool (inB x lo hi)) ∧ w = w' := by
  by_cases h1 : lo ≤ x <;> by_cases h2 : x ≤ hi
  all_goals
    go_enter Tryz.func82, Tryz.ntmps82
    go_wp2
    go_ret
    exact ⟨ret_bool (by simp [inB]; omega), rfl⟩

theorem checkUnit1_c (x : Int) (w : World) :
    Calls Tryz.prog 87 #[.int .i64 x] w fun e w' => e = .returned (.bool (!inB x 0 131072)) ∧ Ext w w' := by
  go_enter Tryz.func87, Tryz.ntmps87
  go_wp2_with (go_at_call 88; refine (cwithin_c _ _ _ _).mono ?_; rintro e w1 ⟨rfl, rfl⟩)
  go_ret
  exact ⟨rfl, Ext.refl _⟩
theorem four_ints (w : World) (a b c d : Int) (B : Nat) (h0 : w.cell? ⟨B, 0, none⟩ = some (.int .i64 a)) (h1 : w.cell? ⟨B, 1, none⟩ = some (.int .i64 b)) (h2 : w.cell? ⟨B, 2, none⟩ = some (.int .i64 c)) (h3 : w.cell? ⟨B, 3, none⟩ = some (.int .i64 d)) :
    Sl 1 RInt w (.slice (some ⟨B, 0, none⟩) 4 4) [a, b, c, d] := by
  refine ⟨some ⟨B, 0, none⟩, 4, rfl, by simp, by simp, fun i x hi => ?_⟩
  have hx : ∀ (y : Int) (k : Nat), w.cell? ⟨B, k, none⟩ = some (.int .i64 y) → ∀ j c, [Value.int .i64 y][j]? = some c → w.cell? ⟨B, 0 + k * 1 + j, none⟩ = some c := by
    intro y k h j c hj
    cases j with
    | zero => simp only [List.getElem?_cons_zero, Option.some.injEq] at hj; subst hj; simpa using h
    | succ j => simp at hj
  refine ⟨B, 0, [.int .i64 x], rfl, rfl, rfl, hx x i ?_⟩
  match i, hi with
  | 0, hi => simp only [List.getElem?_cons_zero, Option.some.injEq] at hi; subst hi; exact h0
  | 1, hi => simp only [List.getElem?_cons_succ, List.getElem?_cons_zero, Option.some.injEq] at hi; subst hi; exact h1
  | 2, hi => simp only [List.getElem?_cons_succ, List.getElem?_cons_zero, Option.some.injEq] at hi; subst hi; exact h2
  | 3, hi => simp only [List.getElem?_cons_succ, List.getElem?_cons_zero, Option.some.injEq] at hi; subst hi; exact h3
  | k + 4, hi => simp at hi
theorem sizes_any (u : CUnit) : ([u.front, u.rear, u.width, u.height].any fun x => !inB x 0 131072) = !sizesB u := by
  unfold sizesB
  simp only [List.any_cons, List.any_nil, Bool.or_false]
  cases inB u.front 0 131072 <;> cases inB u.rear 0 131072 <;> cases inB u.width 0 131072 <;> cases inB u.height 0 131072 <;> rfl
theorem sizes_c (u : CUnit) (B : Nat) (w : World) (hs : Sl 1 RInt w (.slice (some ⟨B, 0, none⟩) 4 4) [u.front, u.rear, u.width, u.height]) :
    Calls Tryz.prog 86 #[.slice (some ⟨B, 0, none⟩) 4 4, .func (.func 87) #[] #[]] w fun e w' => e = .returned (.bool (!sizesB u)) ∧ Ext w w' := by
  rw [← sizes_any]
  exact ContainsFuncInt_c 87 #[] (enters_of Tryz.func87 (by kernel_rfl) rfl) _ _ _ w hs (fun W x _ => checkUnit1_c x W)

theorem axlesB_drop {m : Int} {l : List CAxle} {k : Nat} {a : CAxle} (h : l[k]? = some a) (least : Int) : axlesB m least (l.drop k) = (inB a.x least m && inB a.limit 1 1048576 && inB a.wheels 1 16 && axlesB m a.x (l.drop (k + 1))) := by
  obtain ⟨hk, rfl⟩ := List.getElem?_eq_some_iff.1 h
  rw [List.drop_eq_getElem_cons hk]; rfl
theorem axlesB_end {m : Int} {l : List CAxle} {k : Nat} (h : l.length ≤ k) (least : Int) : axlesB m least (l.drop k) = true := by
  rw [List.drop_eq_nil_of_le h]; rfl

set_option maxRecDepth 100000 in
set_option maxHeartbeats 4000000 in
theorem checkUnit_c (v : Value) (u : CUnit) (w : World) (hs : Sl 3 RAxle w v u.axles) :
    Calls Tryz.prog 64 #[.agg #[.int .i64 u.kind, .int .i64 u.length, .int .i64 u.behind, .int .i64 u.front, .int .i64 u.rear, .int .i64 u.width, .int .i64 u.height, .int .i64 u.mass, .int .i64 u.steer, .int .i64 u.most, v]] w fun e w' => e = .returned (.bool (unitB u)) ∧ Ext w w' := by
  have S1 := fun B w h => sizes_c u B w h
  unfold unitB
  obtain ⟨s, hsz⟩ : ∃ s, sizesB u = s := ⟨_, rfl⟩
  rw [hsz] at S1 ⊢
  obtain ⟨kind, length, behind, front, rear, width, height, mass, steer, most, axles⟩ := u
  unfold barsB restB
  simp only at hs S1 ⊢
  have hrl : s = true → 0 ≤ rear ∧ rear ≤ 131072 := by
    rintro rfl
    unfold sizesB at hsz
    simp only [Bool.and_eq_true, inB_iff] at hsz
    omega
  clear hsz
  obtain ⟨A, cap, rfl, hl, hl2⟩ := hs.shape
  have HS := Lib.hid hs
  clear hs
  have hq1 : inB length 100 131072 = true → 100 ≤ length ∧ length ≤ 131072 := inB_iff.1
  have B1 := fun w => cwithin_c length 100 131072 w
  have B2 := fun w => cwithin_c behind (-length) 131072 w
  have B3 := fun w => cwithin_c mass 1 1048576 w
  have B4 := fun w => cwithin_c steer 0 900 w
  obtain ⟨q1, e1⟩ : ∃ q, inB length 100 131072 = q := ⟨_, rfl⟩
  obtain ⟨q2, e2⟩ : ∃ q, inB behind (-length) 131072 = q := ⟨_, rfl⟩
  obtain ⟨q3, e3⟩ : ∃ q, inB mass 1 1048576 = q := ⟨_, rfl⟩
  obtain ⟨q4, e4⟩ : ∃ q, inB steer 0 900 = q := ⟨_, rfl⟩
  rw [e1] at B1 hq1 ⊢
  rw [e2] at B2 ⊢
  rw [e3] at B3 ⊢
  rw [e4] at B4 ⊢
  clear e1 e2 e3 e4
  obtain ⟨qk, ek⟩ : ∃ q, inB kind 0 3 = q := ⟨_, rfl⟩
  obtain ⟨qm, em⟩ : ∃ q, inB most 0 40 = q := ⟨_, rfl⟩
  obtain ⟨qa, ea⟩ : ∃ q, decide (1 ≤ axles.length) = q := ⟨_, rfl⟩
  rw [ek, em, ea]
  obtain ⟨x, ex⟩ : ∃ x, axlesB (length + rear) 0 axles = x := ⟨_, rfl⟩
  rw [ex]
  have HX := Lib.hid ex
  clear ex
  replace S1 := Lib.hid S1
  replace B1 := Lib.hid B1
  replace B2 := Lib.hid B2
  replace B3 := Lib.hid B3
  replace B4 := Lib.hid B4
  cases s
  · clear hq1 hrl ek em ea
    go_enter Tryz.func64, Tryz.ntmps64
    go_wp2_with (first | (go_at_call 86; refine (S1.out _ _ (four_ints _ _ _ _ _ _ (by go_simp) (by go_simp) (by go_simp) (by go_simp))).mono ?_; rintro e w1 ⟨rfl, hb1⟩; obtain ⟨hc, hf⟩ := bcell hb1) | (go_at_call 88; (with_reducible refine (B1.out _).mono ?_); rintro e w2 ⟨rfl, rfl⟩) | (go_at_call 88; (with_reducible refine (B2.out _).mono ?_); rintro e w2 ⟨rfl, rfl⟩) | (go_at_call 88; (with_reducible refine (B3.out _).mono ?_); rintro e w2 ⟨rfl, rfl⟩) | (go_at_call 88; (with_reducible refine (B4.out _).mono ?_); rintro e w2 ⟨rfl, rfl⟩))
    go_ret
    exact ⟨ret_bool (by simp), by (repeat' (first | exact Ext.refl _ | assumption | refine Ext.alloc ?_ _ | refine Ext.drew ?_ | refine Ext.drewN ?_ _ | refine Ext.set ?_ (by first | exact Nat.le_refl _ | exact le1 _ | exact le2 _ | exact le3 _ | exact le4 _ | exact le5 _ | exact le6 _) _ | refine Ext.trans ?_ (by assumption)))⟩
  replace hrl := hrl rfl
  by_cases b1 : kind < 0
  · obtain rfl : qk = false := by rw [← ek]; simp [inB]; omega
    clear hq1 ek em ea
    go_enter Tryz.func64, Tryz.ntmps64
    go_wp2_with (first | (go_at_call 86; refine (S1.out _ _ (four_ints _ _ _ _ _ _ (by go_simp) (by go_simp) (by go_simp) (by go_simp))).mono ?_; rintro e w1 ⟨rfl, hb1⟩; obtain ⟨hc, hf⟩ := bcell hb1) | (go_at_call 88; (with_reducible refine (B1.out _).mono ?_); rintro e w2 ⟨rfl, rfl⟩) | (go_at_call 88; (with_reducible refine (B2.out _).mono ?_); rintro e w2 ⟨rfl, rfl⟩) | (go_at_call 88; (with_reducible refine (B3.out _).mono ?_); rintro e w2 ⟨rfl, rfl⟩) | (go_at_call 88; (with_reducible refine (B4.out _).mono ?_); rintro e w2 ⟨rfl, rfl⟩))
    go_ret
    exact ⟨ret_bool (by simp), by (repeat' (first | exact Ext.refl _ | assumption | refine Ext.alloc ?_ _ | refine Ext.drew ?_ | refine Ext.drewN ?_ _ | refine Ext.set ?_ (by first | exact Nat.le_refl _ | exact le1 _ | exact le2 _ | exact le3 _ | exact le4 _ | exact le5 _ | exact le6 _) _ | refine Ext.trans ?_ (by assumption)))⟩
  by_cases b2 : (4 : Int) ≤ kind
  · obtain rfl : qk = false := by rw [← ek]; simp [inB]; omega
    clear hq1 ek em ea
    go_enter Tryz.func64, Tryz.ntmps64
    go_wp2_with (first | (go_at_call 86; refine (S1.out _ _ (four_ints _ _ _ _ _ _ (by go_simp) (by go_simp) (by go_simp) (by go_simp))).mono ?_; rintro e w1 ⟨rfl, hb1⟩; obtain ⟨hc, hf⟩ := bcell hb1) | (go_at_call 88; (with_reducible refine (B1.out _).mono ?_); rintro e w2 ⟨rfl, rfl⟩) | (go_at_call 88; (with_reducible refine (B2.out _).mono ?_); rintro e w2 ⟨rfl, rfl⟩) | (go_at_call 88; (with_reducible refine (B3.out _).mono ?_); rintro e w2 ⟨rfl, rfl⟩) | (go_at_call 88; (with_reducible refine (B4.out _).mono ?_); rintro e w2 ⟨rfl, rfl⟩))
    go_ret
    exact ⟨ret_bool (by simp), by (repeat' (first | exact Ext.refl _ | assumption | refine Ext.alloc ?_ _ | refine Ext.drew ?_ | refine Ext.drewN ?_ _ | refine Ext.set ?_ (by first | exact Nat.le_refl _ | exact le1 _ | exact le2 _ | exact le3 _ | exact le4 _ | exact le5 _ | exact le6 _) _ | refine Ext.trans ?_ (by assumption)))⟩
  obtain rfl : qk = true := by rw [← ek]; simp [inB]; omega
  clear ek
  cases q1
  · clear hq1 em ea
    go_enter Tryz.func64, Tryz.ntmps64
    go_wp2_with (first | (go_at_call 86; refine (S1.out _ _ (four_ints _ _ _ _ _ _ (by go_simp) (by go_simp) (by go_simp) (by go_simp))).mono ?_; rintro e w1 ⟨rfl, hb1⟩; obtain ⟨hc, hf⟩ := bcell hb1) | (go_at_call 88; (with_reducible refine (B1.out _).mono ?_); rintro e w2 ⟨rfl, rfl⟩) | (go_at_call 88; (with_reducible refine (B2.out _).mono ?_); rintro e w2 ⟨rfl, rfl⟩) | (go_at_call 88; (with_reducible refine (B3.out _).mono ?_); rintro e w2 ⟨rfl, rfl⟩) | (go_at_call 88; (with_reducible refine (B4.out _).mono ?_); rintro e w2 ⟨rfl, rfl⟩))
    go_ret
    exact ⟨ret_bool (by simp), by (repeat' (first | exact Ext.refl _ | assumption | refine Ext.alloc ?_ _ | refine Ext.drew ?_ | refine Ext.drewN ?_ _ | refine Ext.set ?_ (by first | exact Nat.le_refl _ | exact le1 _ | exact le2 _ | exact le3 _ | exact le4 _ | exact le5 _ | exact le6 _) _ | refine Ext.trans ?_ (by assumption)))⟩
  have hq := hq1 rfl
  have n1 := IntWalk.i64_in (-length) (by omega)
  clear hq1
  cases q2
  · clear em ea
    go_enter Tryz.func64, Tryz.ntmps64
    go_wp2_with (first | (go_at_call 86; refine (S1.out _ _ (four_ints _ _ _ _ _ _ (by go_simp) (by go_simp) (by go_simp) (by go_simp))).mono ?_; rintro e w1 ⟨rfl, hb1⟩; obtain ⟨hc, hf⟩ := bcell hb1) | (go_at_call 88; (with_reducible refine (B1.out _).mono ?_); rintro e w2 ⟨rfl, rfl⟩) | (go_at_call 88; (with_reducible refine (B2.out _).mono ?_); rintro e w2 ⟨rfl, rfl⟩) | (go_at_call 88; (with_reducible refine (B3.out _).mono ?_); rintro e w2 ⟨rfl, rfl⟩) | (go_at_call 88; (with_reducible refine (B4.out _).mono ?_); rintro e w2 ⟨rfl, rfl⟩))
    go_ret
    exact ⟨ret_bool (by simp), by (repeat' (first | exact Ext.refl _ | assumption | refine Ext.alloc ?_ _ | refine Ext.drew ?_ | refine Ext.drewN ?_ _ | refine Ext.set ?_ (by first | exact Nat.le_refl _ | exact le1 _ | exact le2 _ | exact le3 _ | exact le4 _ | exact le5 _ | exact le6 _) _ | refine Ext.trans ?_ (by assumption)))⟩
  cases q3
  · clear em ea
    go_enter Tryz.func64, Tryz.ntmps64
    go_wp2_with (first | (go_at_call 86; refine (S1.out _ _ (four_ints _ _ _ _ _ _ (by go_simp) (by go_simp) (by go_simp) (by go_simp))).mono ?_; rintro e w1 ⟨rfl, hb1⟩; obtain ⟨hc, hf⟩ := bcell hb1) | (go_at_call 88; (with_reducible refine (B1.out _).mono ?_); rintro e w2 ⟨rfl, rfl⟩) | (go_at_call 88; (with_reducible refine (B2.out _).mono ?_); rintro e w2 ⟨rfl, rfl⟩) | (go_at_call 88; (with_reducible refine (B3.out _).mono ?_); rintro e w2 ⟨rfl, rfl⟩) | (go_at_call 88; (with_reducible refine (B4.out _).mono ?_); rintro e w2 ⟨rfl, rfl⟩))
    go_ret
    exact ⟨ret_bool (by simp), by (repeat' (first | exact Ext.refl _ | assumption | refine Ext.alloc ?_ _ | refine Ext.drew ?_ | refine Ext.drewN ?_ _ | refine Ext.set ?_ (by first | exact Nat.le_refl _ | exact le1 _ | exact le2 _ | exact le3 _ | exact le4 _ | exact le5 _ | exact le6 _) _ | refine Ext.trans ?_ (by assumption)))⟩
  cases q4
  · clear em ea
    go_enter Tryz.func64, Tryz.ntmps64
    go_wp2_with (first | (go_at_call 86; refine (S1.out _ _ (four_ints _ _ _ _ _ _ (by go_simp) (by go_simp) (by go_simp) (by go_simp))).mono ?_; rintro e w1 ⟨rfl, hb1⟩; obtain ⟨hc, hf⟩ := bcell hb1) | (go_at_call 88; (with_reducible refine (B1.out _).mono ?_); rintro e w2 ⟨rfl, rfl⟩) | (go_at_call 88; (with_reducible refine (B2.out _).mono ?_); rintro e w2 ⟨rfl, rfl⟩) | (go_at_call 88; (with_reducible refine (B3.out _).mono ?_); rintro e w2 ⟨rfl, rfl⟩) | (go_at_call 88; (with_reducible refine (B4.out _).mono ?_); rintro e w2 ⟨rfl, rfl⟩))
    go_ret
    exact ⟨ret_bool (by simp), by (repeat' (first | exact Ext.refl _ | assumption | refine Ext.alloc ?_ _ | refine Ext.drew ?_ | refine Ext.drewN ?_ _ | refine Ext.set ?_ (by first | exact Nat.le_refl _ | exact le1 _ | exact le2 _ | exact le3 _ | exact le4 _ | exact le5 _ | exact le6 _) _ | refine Ext.trans ?_ (by assumption)))⟩
  by_cases b5 : most < 0
  · obtain rfl : qm = false := by rw [← em]; simp [inB]; omega
    clear em ea
    go_enter Tryz.func64, Tryz.ntmps64
    go_wp2_with (first | (go_at_call 86; refine (S1.out _ _ (four_ints _ _ _ _ _ _ (by go_simp) (by go_simp) (by go_simp) (by go_simp))).mono ?_; rintro e w1 ⟨rfl, hb1⟩; obtain ⟨hc, hf⟩ := bcell hb1) | (go_at_call 88; (with_reducible refine (B1.out _).mono ?_); rintro e w2 ⟨rfl, rfl⟩) | (go_at_call 88; (with_reducible refine (B2.out _).mono ?_); rintro e w2 ⟨rfl, rfl⟩) | (go_at_call 88; (with_reducible refine (B3.out _).mono ?_); rintro e w2 ⟨rfl, rfl⟩) | (go_at_call 88; (with_reducible refine (B4.out _).mono ?_); rintro e w2 ⟨rfl, rfl⟩))
    go_ret
    exact ⟨ret_bool (by simp), by (repeat' (first | exact Ext.refl _ | assumption | refine Ext.alloc ?_ _ | refine Ext.drew ?_ | refine Ext.drewN ?_ _ | refine Ext.set ?_ (by first | exact Nat.le_refl _ | exact le1 _ | exact le2 _ | exact le3 _ | exact le4 _ | exact le5 _ | exact le6 _) _ | refine Ext.trans ?_ (by assumption)))⟩
  by_cases b6 : (40 : Int) < most
  · obtain rfl : qm = false := by rw [← em]; simp [inB]; omega
    clear em ea
    go_enter Tryz.func64, Tryz.ntmps64
    go_wp2_with (first | (go_at_call 86; refine (S1.out _ _ (four_ints _ _ _ _ _ _ (by go_simp) (by go_simp) (by go_simp) (by go_simp))).mono ?_; rintro e w1 ⟨rfl, hb1⟩; obtain ⟨hc, hf⟩ := bcell hb1) | (go_at_call 88; (with_reducible refine (B1.out _).mono ?_); rintro e w2 ⟨rfl, rfl⟩) | (go_at_call 88; (with_reducible refine (B2.out _).mono ?_); rintro e w2 ⟨rfl, rfl⟩) | (go_at_call 88; (with_reducible refine (B3.out _).mono ?_); rintro e w2 ⟨rfl, rfl⟩) | (go_at_call 88; (with_reducible refine (B4.out _).mono ?_); rintro e w2 ⟨rfl, rfl⟩))
    go_ret
    exact ⟨ret_bool (by simp), by (repeat' (first | exact Ext.refl _ | assumption | refine Ext.alloc ?_ _ | refine Ext.drew ?_ | refine Ext.drewN ?_ _ | refine Ext.set ?_ (by first | exact Nat.le_refl _ | exact le1 _ | exact le2 _ | exact le3 _ | exact le4 _ | exact le5 _ | exact le6 _) _ | refine Ext.trans ?_ (by assumption)))⟩
  obtain rfl : qm = true := by rw [← em]; simp [inB]; omega
  clear em
  by_cases b7 : axles.length = 0
  · obtain rfl : qa = false := by rw [← ea, decide_eq_false_iff_not]; omega
    have b8 := List.eq_nil_of_length_eq_zero b7
    subst b8
    clear ea
    go_enter Tryz.func64, Tryz.ntmps64
    go_wp2_with (first | (go_at_call 86; refine (S1.out _ _ (four_ints _ _ _ _ _ _ (by go_simp) (by go_simp) (by go_simp) (by go_simp))).mono ?_; rintro e w1 ⟨rfl, hb1⟩; obtain ⟨hc, hf⟩ := bcell hb1) | (go_at_call 88; (with_reducible refine (B1.out _).mono ?_); rintro e w2 ⟨rfl, rfl⟩) | (go_at_call 88; (with_reducible refine (B2.out _).mono ?_); rintro e w2 ⟨rfl, rfl⟩) | (go_at_call 88; (with_reducible refine (B3.out _).mono ?_); rintro e w2 ⟨rfl, rfl⟩) | (go_at_call 88; (with_reducible refine (B4.out _).mono ?_); rintro e w2 ⟨rfl, rfl⟩))
    go_ret
    exact ⟨ret_bool (by simp), by (repeat' (first | exact Ext.refl _ | assumption | refine Ext.alloc ?_ _ | refine Ext.drew ?_ | refine Ext.drewN ?_ _ | refine Ext.set ?_ (by first | exact Nat.le_refl _ | exact le1 _ | exact le2 _ | exact le3 _ | exact le4 _ | exact le5 _ | exact le6 _) _ | refine Ext.trans ?_ (by assumption)))⟩
  obtain rfl : qa = true := by rw [← ea, decide_eq_true_iff]; omega
  clear ea
  have b8 : ((axles.length : Int) == 0) = false := by rw [beq_eq_false_iff_ne]; omega
  have b9 : ¬ axles = [] := fun h => b7 (by rw [h]; rfl)
  have n2 := IntWalk.i64_in (length + rear) (by omega)
  go_enter Tryz.func64, Tryz.ntmps64
  go_wp2_with (first | (go_at_call 86; refine (S1.out _ _ (four_ints _ _ _ _ _ _ (by go_simp) (by go_simp) (by go_simp) (by go_simp))).mono ?_; rintro e w1 ⟨rfl, hb1⟩; obtain ⟨hc, hf⟩ := bcell hb1) | (go_at_call 88; (with_reducible refine (B1.out _).mono ?_); rintro e w2 ⟨rfl, rfl⟩) | (go_at_call 88; (with_reducible refine (B2.out _).mono ?_); rintro e w2 ⟨rfl, rfl⟩) | (go_at_call 88; (with_reducible refine (B3.out _).mono ?_); rintro e w2 ⟨rfl, rfl⟩) | (go_at_call 88; (with_reducible refine (B4.out _).mono ?_); rintro e w2 ⟨rfl, rfl⟩))
  have E1 : Ext w w1 := by (repeat' (first | exact Ext.refl _ | assumption | refine Ext.alloc ?_ _ | refine Ext.drew ?_ | refine Ext.drewN ?_ _ | refine Ext.set ?_ (by first | exact Nat.le_refl _ | exact le1 _ | exact le2 _ | exact le3 _ | exact le4 _ | exact le5 _ | exact le6 _) _ | refine Ext.trans ?_ (by assumption)))
  have d1 := Ext.cell hb1 (p := ⟨w.heap.size, 1, none⟩) (v := .int .i64 length) (by go_simp)
  have d4 := Ext.cell hb1 (p := ⟨w.heap.size, 4, none⟩) (v := .int .i64 rear) (by go_simp)
  clear hb1 hc hf S1 B1 B2 B3 B4 n1 b1 b2 b5 b6 b7 b8 b9
  go_loopw [4, 74] (fun least i wr => ∃ (k : Nat) (m : Int), k ≤ axles.length ∧ i = .int .i64 k ∧ least = .int .i64 m ∧ axlesB (length + rear) m (axles.drop k) = x ∧ Ext w1 wr) (fun _ i _ => axles.length - (intOf i).toNat)
  case atStart => exact ⟨0, 0, by omega, rfl, rfl, HX.out, Ext.refl _⟩
  case round =>
    obtain ⟨k, m, hk, rfl, rfl, ha, hb⟩ := hrel
    have e1 := Ext.cell hb d1
    have e4 := Ext.cell hb d4
    by_cases hlt : k < axles.length
    · obtain ⟨y, hy⟩ := some_of_lt hlt
      obtain ⟨b, off, cs, rfl, _, hr, hc⟩ := HS.out.at hy
      obtain rfl : cs = [.int .i64 y.x, .int .i64 y.limit, .int .i64 y.wheels] := hr
      have Ewr := E1.trans hb
      have k0 := Ext.cell Ewr (hc 0 _ rfl)
      have k1 := Ext.cell Ewr (hc 1 _ rfl)
      have k2 := Ext.cell Ewr (hc 2 _ rfl)
      simp only [Nat.add_zero] at k0
      rw [axlesB_drop hy] at ha
      have j1 : (0 : Int) ≤ (k : Int) := by omega
      have j2 : (k : Int) < (axles.length : Int) := by omega
      have hl1 := lt_of_cell e1
      have C1 := fun w => cwithin_c y.x m (length + rear) w
      have C2 := fun w => cwithin_c y.limit 1 1048576 w
      obtain ⟨z1, hz1⟩ : ∃ z, inB y.x m (length + rear) = z := ⟨_, rfl⟩
      obtain ⟨z2, hz2⟩ : ∃ z, inB y.limit 1 1048576 = z := ⟨_, rfl⟩
      obtain ⟨z3, hz3⟩ : ∃ z, inB y.wheels 1 16 = z := ⟨_, rfl⟩
      rw [hz1] at C1 ha
      rw [hz2] at C2 ha
      rw [hz3] at ha
      replace C1 := Lib.hid C1
      replace C2 := Lib.hid C2
      clear hz1 hz2 hc hy
      cases z1
      · obtain rfl : x = false := by rw [← ha]; simp
        clear ha hz3
        go_wp2_with (first | (go_at_call 88; (with_reducible refine (C1.out _).mono ?_); rintro e w2 ⟨rfl, rfl⟩) | (go_at_call 88; (with_reducible refine (C2.out _).mono ?_); rintro e w2 ⟨rfl, rfl⟩))
        go_ret
        exact ⟨ret_bool (by simp), by (repeat' (first | exact Ext.refl _ | assumption | refine Ext.alloc ?_ _ | refine Ext.drew ?_ | refine Ext.drewN ?_ _ | refine Ext.set ?_ (by first | exact Nat.le_refl _ | exact le1 _ | exact le2 _ | exact le3 _ | exact le4 _ | exact le5 _ | exact le6 _) _ | refine Ext.trans ?_ (by assumption)))⟩
      cases z2
      · obtain rfl : x = false := by rw [← ha]; simp
        clear ha hz3
        go_wp2_with (first | (go_at_call 88; (with_reducible refine (C1.out _).mono ?_); rintro e w2 ⟨rfl, rfl⟩) | (go_at_call 88; (with_reducible refine (C2.out _).mono ?_); rintro e w2 ⟨rfl, rfl⟩))
        go_ret
        exact ⟨ret_bool (by simp), by (repeat' (first | exact Ext.refl _ | assumption | refine Ext.alloc ?_ _ | refine Ext.drew ?_ | refine Ext.drewN ?_ _ | refine Ext.set ?_ (by first | exact Nat.le_refl _ | exact le1 _ | exact le2 _ | exact le3 _ | exact le4 _ | exact le5 _ | exact le6 _) _ | refine Ext.trans ?_ (by assumption)))⟩
      by_cases c1 : y.wheels < 1
      · obtain rfl : z3 = false := by rw [← hz3]; simp [inB]; omega
        obtain rfl : x = false := by rw [← ha]; simp
        clear ha hz3
        go_wp2_with (first | (go_at_call 88; (with_reducible refine (C1.out _).mono ?_); rintro e w2 ⟨rfl, rfl⟩) | (go_at_call 88; (with_reducible refine (C2.out _).mono ?_); rintro e w2 ⟨rfl, rfl⟩))
        go_ret
        exact ⟨ret_bool (by simp), by (repeat' (first | exact Ext.refl _ | assumption | refine Ext.alloc ?_ _ | refine Ext.drew ?_ | refine Ext.drewN ?_ _ | refine Ext.set ?_ (by first | exact Nat.le_refl _ | exact le1 _ | exact le2 _ | exact le3 _ | exact le4 _ | exact le5 _ | exact le6 _) _ | refine Ext.trans ?_ (by assumption)))⟩
      by_cases c2 : (16 : Int) < y.wheels
      · obtain rfl : z3 = false := by rw [← hz3]; simp [inB]; omega
        obtain rfl : x = false := by rw [← ha]; simp
        clear ha hz3
        go_wp2_with (first | (go_at_call 88; (with_reducible refine (C1.out _).mono ?_); rintro e w2 ⟨rfl, rfl⟩) | (go_at_call 88; (with_reducible refine (C2.out _).mono ?_); rintro e w2 ⟨rfl, rfl⟩))
        go_ret
        exact ⟨ret_bool (by simp), by (repeat' (first | exact Ext.refl _ | assumption | refine Ext.alloc ?_ _ | refine Ext.drew ?_ | refine Ext.drewN ?_ _ | refine Ext.set ?_ (by first | exact Nat.le_refl _ | exact le1 _ | exact le2 _ | exact le3 _ | exact le4 _ | exact le5 _ | exact le6 _) _ | refine Ext.trans ?_ (by assumption)))⟩
      obtain rfl : z3 = true := by rw [← hz3]; simp [inB]; omega
      simp only [Bool.true_and] at ha
      have HA := Lib.hid ha
      clear ha hz3
      go_wp2_with (first | (go_at_call 88; (with_reducible refine (C1.out _).mono ?_); rintro e w2 ⟨rfl, rfl⟩) | (go_at_call 88; (with_reducible refine (C2.out _).mono ?_); rintro e w2 ⟨rfl, rfl⟩))
      go_roundw
      case rel => exact ⟨k + 1, y.x, by omega, by go_num, rfl, HA.out, by (repeat' (first | exact Ext.refl _ | assumption | refine Ext.alloc ?_ _ | refine Ext.drew ?_ | refine Ext.drewN ?_ _ | refine Ext.set ?_ (by first | exact Nat.le_refl _ | exact le1 _ | exact le2 _ | exact le3 _ | exact le4 _ | exact le5 _ | exact le6 _) _ | refine Ext.trans ?_ (by assumption)))⟩
      case measure => simp [intOf]; omega
    · rw [axlesB_end (by omega)] at ha
      subst ha
      go_wp2
      go_ret
      exact ⟨ret_bool (by simp), by (repeat' (first | exact Ext.refl _ | assumption | refine Ext.alloc ?_ _ | refine Ext.drew ?_ | refine Ext.drewN ?_ _ | refine Ext.set ?_ (by first | exact Nat.le_refl _ | exact le1 _ | exact le2 _ | exact le3 _ | exact le4 _ | exact le5 _ | exact le6 _) _ | refine Ext.trans ?_ (by assumption)))⟩
set_option maxRecDepth 100000 in
set_option maxHeartbeats 4000000 in
theorem RUnit_c (v : Value) (u : CUnit) (w : World) (hs : Sl 3 RAxle w v u.axles) :
    Calls Tryz.prog 59 #[.agg #[.int .i64 u.kind, .int .i64 u.length, .int .i64 u.behind, .int .i64 u.front, .int .i64 u.rear, .int .i64 u.width, .int .i64 u.height, .int .i64 u.mass, .int .i64 u.steer, .int .i64 u.most, v]] w fun e w' => e = .returned (.bool (unitB u)) ∧ Ext w w' := by
  obtain ⟨kind, length, behind, front, rear, width, height, mass, steer, most, axles⟩ := u
  unfold unitB sizesB barsB restB
  simp only at hs ⊢
  have hrl : inB rear 0 131072 = true → 0 ≤ rear ∧ rear ≤ 131072 := inB_iff.1
  obtain ⟨A, cap, rfl, hl, hl2⟩ := hs.shape
  have HS := Lib.hid hs
  clear hs
  have hq1 : inB length 100 131072 = true → 100 ≤ length ∧ length ≤ 131072 := inB_iff.1
  have B1 := fun w => in3_c length 100 131072 w
  have B2 := fun w => in3_c behind (-length) 131072 w
  have B3 := fun w => in3_c mass 1 1048576 w
  have B4 := fun w => in3_c steer 0 900 w
  have B5 := fun w => in3_c front 0 131072 w
  have B6 := fun w => in3_c rear 0 131072 w
  have B7 := fun w => in3_c width 0 131072 w
  have B8 := fun w => in3_c height 0 131072 w
  obtain ⟨q1, e1⟩ : ∃ q, inB length 100 131072 = q := ⟨_, rfl⟩
  obtain ⟨q2, e2⟩ : ∃ q, inB behind (-length) 131072 = q := ⟨_, rfl⟩
  obtain ⟨q3, e3⟩ : ∃ q, inB mass 1 1048576 = q := ⟨_, rfl⟩
  obtain ⟨q4, e4⟩ : ∃ q, inB steer 0 900 = q := ⟨_, rfl⟩
  obtain ⟨q5, e5⟩ : ∃ q, inB front 0 131072 = q := ⟨_, rfl⟩
  obtain ⟨q6, e6⟩ : ∃ q, inB rear 0 131072 = q := ⟨_, rfl⟩
  obtain ⟨q7, e7⟩ : ∃ q, inB width 0 131072 = q := ⟨_, rfl⟩
  obtain ⟨q8, e8⟩ : ∃ q, inB height 0 131072 = q := ⟨_, rfl⟩
  rw [e1] at B1 hq1 ⊢
  rw [e2] at B2 ⊢
  rw [e3] at B3 ⊢
  rw [e4] at B4 ⊢
  rw [e5] at B5 ⊢
  rw [e6] at B6 hrl ⊢
  rw [e7] at B7 ⊢
  rw [e8] at B8 ⊢
  clear e1 e2 e3 e4 e5 e6 e7 e8
  obtain ⟨qk, ek⟩ : ∃ q, inB kind 0 3 = q := ⟨_, rfl⟩
  obtain ⟨qm, em⟩ : ∃ q, inB most 0 40 = q := ⟨_, rfl⟩
  obtain ⟨qa, ea⟩ : ∃ q, decide (1 ≤ axles.length) = q := ⟨_, rfl⟩
  rw [ek, em, ea]
  obtain ⟨x, ex⟩ : ∃ x, axlesB (length + rear) 0 axles = x := ⟨_, rfl⟩
  rw [ex]
  have HX := Lib.hid ex
  clear ex
  replace B1 := Lib.hid B1
  replace B2 := Lib.hid B2
  replace B3 := Lib.hid B3
  replace B4 := Lib.hid B4
  replace B5 := Lib.hid B5
  replace B6 := Lib.hid B6
  replace B7 := Lib.hid B7
  replace B8 := Lib.hid B8
  by_cases b1 : kind < 0
  · obtain rfl : qk = false := by rw [← ek]; simp [inB]; omega
    clear hq1 hrl ek em ea
    go_enter Tryz.func59, Tryz.ntmps59
    go_wp2_with (first | (go_at_call 82; (with_reducible refine (B1.out _).mono ?_); rintro e w2 ⟨rfl, rfl⟩) | (go_at_call 82; (with_reducible refine (B2.out _).mono ?_); rintro e w2 ⟨rfl, rfl⟩) | (go_at_call 82; (with_reducible refine (B3.out _).mono ?_); rintro e w2 ⟨rfl, rfl⟩) | (go_at_call 82; (with_reducible refine (B4.out _).mono ?_); rintro e w2 ⟨rfl, rfl⟩) | (go_at_call 82; (with_reducible refine (B5.out _).mono ?_); rintro e w2 ⟨rfl, rfl⟩) | (go_at_call 82; (with_reducible refine (B6.out _).mono ?_); rintro e w2 ⟨rfl, rfl⟩) | (go_at_call 82; (with_reducible refine (B7.out _).mono ?_); rintro e w2 ⟨rfl, rfl⟩) | (go_at_call 82; (with_reducible refine (B8.out _).mono ?_); rintro e w2 ⟨rfl, rfl⟩))
    go_ret
    exact ⟨ret_bool (by simp), by (repeat' (first | exact Ext.refl _ | assumption | refine Ext.alloc ?_ _ | refine Ext.drew ?_ | refine Ext.drewN ?_ _ | refine Ext.set ?_ (by first | exact Nat.le_refl _ | exact le1 _ | exact le2 _ | exact le3 _ | exact le4 _ | exact le5 _ | exact le6 _) _ | refine Ext.trans ?_ (by assumption)))⟩
  by_cases b2 : (3 : Int) < kind
  · obtain rfl : qk = false := by rw [← ek]; simp [inB]; omega
    clear hq1 hrl ek em ea
    go_enter Tryz.func59, Tryz.ntmps59
    go_wp2_with (first | (go_at_call 82; (with_reducible refine (B1.out _).mono ?_); rintro e w2 ⟨rfl, rfl⟩) | (go_at_call 82; (with_reducible refine (B2.out _).mono ?_); rintro e w2 ⟨rfl, rfl⟩) | (go_at_call 82; (with_reducible refine (B3.out _).mono ?_); rintro e w2 ⟨rfl, rfl⟩) | (go_at_call 82; (with_reducible refine (B4.out _).mono ?_); rintro e w2 ⟨rfl, rfl⟩) | (go_at_call 82; (with_reducible refine (B5.out _).mono ?_); rintro e w2 ⟨rfl, rfl⟩) | (go_at_call 82; (with_reducible refine (B6.out _).mono ?_); rintro e w2 ⟨rfl, rfl⟩) | (go_at_call 82; (with_reducible refine (B7.out _).mono ?_); rintro e w2 ⟨rfl, rfl⟩) | (go_at_call 82; (with_reducible refine (B8.out _).mono ?_); rintro e w2 ⟨rfl, rfl⟩))
    go_ret
    exact ⟨ret_bool (by simp), by (repeat' (first | exact Ext.refl _ | assumption | refine Ext.alloc ?_ _ | refine Ext.drew ?_ | refine Ext.drewN ?_ _ | refine Ext.set ?_ (by first | exact Nat.le_refl _ | exact le1 _ | exact le2 _ | exact le3 _ | exact le4 _ | exact le5 _ | exact le6 _) _ | refine Ext.trans ?_ (by assumption)))⟩
  obtain rfl : qk = true := by rw [← ek]; simp [inB]; omega
  clear ek
  cases q1
  · clear hq1 hrl em ea
    go_enter Tryz.func59, Tryz.ntmps59
    go_wp2_with (first | (go_at_call 82; (with_reducible refine (B1.out _).mono ?_); rintro e w2 ⟨rfl, rfl⟩) | (go_at_call 82; (with_reducible refine (B2.out _).mono ?_); rintro e w2 ⟨rfl, rfl⟩) | (go_at_call 82; (with_reducible refine (B3.out _).mono ?_); rintro e w2 ⟨rfl, rfl⟩) | (go_at_call 82; (with_reducible refine (B4.out _).mono ?_); rintro e w2 ⟨rfl, rfl⟩) | (go_at_call 82; (with_reducible refine (B5.out _).mono ?_); rintro e w2 ⟨rfl, rfl⟩) | (go_at_call 82; (with_reducible refine (B6.out _).mono ?_); rintro e w2 ⟨rfl, rfl⟩) | (go_at_call 82; (with_reducible refine (B7.out _).mono ?_); rintro e w2 ⟨rfl, rfl⟩) | (go_at_call 82; (with_reducible refine (B8.out _).mono ?_); rintro e w2 ⟨rfl, rfl⟩))
    go_ret
    exact ⟨ret_bool (by simp), by (repeat' (first | exact Ext.refl _ | assumption | refine Ext.alloc ?_ _ | refine Ext.drew ?_ | refine Ext.drewN ?_ _ | refine Ext.set ?_ (by first | exact Nat.le_refl _ | exact le1 _ | exact le2 _ | exact le3 _ | exact le4 _ | exact le5 _ | exact le6 _) _ | refine Ext.trans ?_ (by assumption)))⟩
  have hq := hq1 rfl
  have n1 := IntWalk.i64_in (-length) (by omega)
  clear hq1
  cases q2
  · clear hrl em ea
    go_enter Tryz.func59, Tryz.ntmps59
    go_wp2_with (first | (go_at_call 82; (with_reducible refine (B1.out _).mono ?_); rintro e w2 ⟨rfl, rfl⟩) | (go_at_call 82; (with_reducible refine (B2.out _).mono ?_); rintro e w2 ⟨rfl, rfl⟩) | (go_at_call 82; (with_reducible refine (B3.out _).mono ?_); rintro e w2 ⟨rfl, rfl⟩) | (go_at_call 82; (with_reducible refine (B4.out _).mono ?_); rintro e w2 ⟨rfl, rfl⟩) | (go_at_call 82; (with_reducible refine (B5.out _).mono ?_); rintro e w2 ⟨rfl, rfl⟩) | (go_at_call 82; (with_reducible refine (B6.out _).mono ?_); rintro e w2 ⟨rfl, rfl⟩) | (go_at_call 82; (with_reducible refine (B7.out _).mono ?_); rintro e w2 ⟨rfl, rfl⟩) | (go_at_call 82; (with_reducible refine (B8.out _).mono ?_); rintro e w2 ⟨rfl, rfl⟩))
    go_ret
    exact ⟨ret_bool (by simp), by (repeat' (first | exact Ext.refl _ | assumption | refine Ext.alloc ?_ _ | refine Ext.drew ?_ | refine Ext.drewN ?_ _ | refine Ext.set ?_ (by first | exact Nat.le_refl _ | exact le1 _ | exact le2 _ | exact le3 _ | exact le4 _ | exact le5 _ | exact le6 _) _ | refine Ext.trans ?_ (by assumption)))⟩
  cases q5
  · clear hrl em ea
    go_enter Tryz.func59, Tryz.ntmps59
    go_wp2_with (first | (go_at_call 82; (with_reducible refine (B1.out _).mono ?_); rintro e w2 ⟨rfl, rfl⟩) | (go_at_call 82; (with_reducible refine (B2.out _).mono ?_); rintro e w2 ⟨rfl, rfl⟩) | (go_at_call 82; (with_reducible refine (B3.out _).mono ?_); rintro e w2 ⟨rfl, rfl⟩) | (go_at_call 82; (with_reducible refine (B4.out _).mono ?_); rintro e w2 ⟨rfl, rfl⟩) | (go_at_call 82; (with_reducible refine (B5.out _).mono ?_); rintro e w2 ⟨rfl, rfl⟩) | (go_at_call 82; (with_reducible refine (B6.out _).mono ?_); rintro e w2 ⟨rfl, rfl⟩) | (go_at_call 82; (with_reducible refine (B7.out _).mono ?_); rintro e w2 ⟨rfl, rfl⟩) | (go_at_call 82; (with_reducible refine (B8.out _).mono ?_); rintro e w2 ⟨rfl, rfl⟩))
    go_ret
    exact ⟨ret_bool (by simp), by (repeat' (first | exact Ext.refl _ | assumption | refine Ext.alloc ?_ _ | refine Ext.drew ?_ | refine Ext.drewN ?_ _ | refine Ext.set ?_ (by first | exact Nat.le_refl _ | exact le1 _ | exact le2 _ | exact le3 _ | exact le4 _ | exact le5 _ | exact le6 _) _ | refine Ext.trans ?_ (by assumption)))⟩
  cases q6
  · clear hrl em ea
    go_enter Tryz.func59, Tryz.ntmps59
    go_wp2_with (first | (go_at_call 82; (with_reducible refine (B1.out _).mono ?_); rintro e w2 ⟨rfl, rfl⟩) | (go_at_call 82; (with_reducible refine (B2.out _).mono ?_); rintro e w2 ⟨rfl, rfl⟩) | (go_at_call 82; (with_reducible refine (B3.out _).mono ?_); rintro e w2 ⟨rfl, rfl⟩) | (go_at_call 82; (with_reducible refine (B4.out _).mono ?_); rintro e w2 ⟨rfl, rfl⟩) | (go_at_call 82; (with_reducible refine (B5.out _).mono ?_); rintro e w2 ⟨rfl, rfl⟩) | (go_at_call 82; (with_reducible refine (B6.out _).mono ?_); rintro e w2 ⟨rfl, rfl⟩) | (go_at_call 82; (with_reducible refine (B7.out _).mono ?_); rintro e w2 ⟨rfl, rfl⟩) | (go_at_call 82; (with_reducible refine (B8.out _).mono ?_); rintro e w2 ⟨rfl, rfl⟩))
    go_ret
    exact ⟨ret_bool (by simp), by (repeat' (first | exact Ext.refl _ | assumption | refine Ext.alloc ?_ _ | refine Ext.drew ?_ | refine Ext.drewN ?_ _ | refine Ext.set ?_ (by first | exact Nat.le_refl _ | exact le1 _ | exact le2 _ | exact le3 _ | exact le4 _ | exact le5 _ | exact le6 _) _ | refine Ext.trans ?_ (by assumption)))⟩
  replace hrl := hrl rfl
  cases q7
  · clear em ea
    go_enter Tryz.func59, Tryz.ntmps59
    go_wp2_with (first | (go_at_call 82; (with_reducible refine (B1.out _).mono ?_); rintro e w2 ⟨rfl, rfl⟩) | (go_at_call 82; (with_reducible refine (B2.out _).mono ?_); rintro e w2 ⟨rfl, rfl⟩) | (go_at_call 82; (with_reducible refine (B3.out _).mono ?_); rintro e w2 ⟨rfl, rfl⟩) | (go_at_call 82; (with_reducible refine (B4.out _).mono ?_); rintro e w2 ⟨rfl, rfl⟩) | (go_at_call 82; (with_reducible refine (B5.out _).mono ?_); rintro e w2 ⟨rfl, rfl⟩) | (go_at_call 82; (with_reducible refine (B6.out _).mono ?_); rintro e w2 ⟨rfl, rfl⟩) | (go_at_call 82; (with_reducible refine (B7.out _).mono ?_); rintro e w2 ⟨rfl, rfl⟩) | (go_at_call 82; (with_reducible refine (B8.out _).mono ?_); rintro e w2 ⟨rfl, rfl⟩))
    go_ret
    exact ⟨ret_bool (by simp), by (repeat' (first | exact Ext.refl _ | assumption | refine Ext.alloc ?_ _ | refine Ext.drew ?_ | refine Ext.drewN ?_ _ | refine Ext.set ?_ (by first | exact Nat.le_refl _ | exact le1 _ | exact le2 _ | exact le3 _ | exact le4 _ | exact le5 _ | exact le6 _) _ | refine Ext.trans ?_ (by assumption)))⟩
  cases q8
  · clear em ea
    go_enter Tryz.func59, Tryz.ntmps59
    go_wp2_with (first | (go_at_call 82; (with_reducible refine (B1.out _).mono ?_); rintro e w2 ⟨rfl, rfl⟩) | (go_at_call 82; (with_reducible refine (B2.out _).mono ?_); rintro e w2 ⟨rfl, rfl⟩) | (go_at_call 82; (with_reducible refine (B3.out _).mono ?_); rintro e w2 ⟨rfl, rfl⟩) | (go_at_call 82; (with_reducible refine (B4.out _).mono ?_); rintro e w2 ⟨rfl, rfl⟩) | (go_at_call 82; (with_reducible refine (B5.out _).mono ?_); rintro e w2 ⟨rfl, rfl⟩) | (go_at_call 82; (with_reducible refine (B6.out _).mono ?_); rintro e w2 ⟨rfl, rfl⟩) | (go_at_call 82; (with_reducible refine (B7.out _).mono ?_); rintro e w2 ⟨rfl, rfl⟩) | (go_at_call 82; (with_reducible refine (B8.out _).mono ?_); rintro e w2 ⟨rfl, rfl⟩))
    go_ret
    exact ⟨ret_bool (by simp), by (repeat' (first | exact Ext.refl _ | assumption | refine Ext.alloc ?_ _ | refine Ext.drew ?_ | refine Ext.drewN ?_ _ | refine Ext.set ?_ (by first | exact Nat.le_refl _ | exact le1 _ | exact le2 _ | exact le3 _ | exact le4 _ | exact le5 _ | exact le6 _) _ | refine Ext.trans ?_ (by assumption)))⟩
  cases q3
  · clear em ea
    go_enter Tryz.func59, Tryz.ntmps59
    go_wp2_with (first | (go_at_call 82; (with_reducible refine (B1.out _).mono ?_); rintro e w2 ⟨rfl, rfl⟩) | (go_at_call 82; (with_reducible refine (B2.out _).mono ?_); rintro e w2 ⟨rfl, rfl⟩) | (go_at_call 82; (with_reducible refine (B3.out _).mono ?_); rintro e w2 ⟨rfl, rfl⟩) | (go_at_call 82; (with_reducible refine (B4.out _).mono ?_); rintro e w2 ⟨rfl, rfl⟩) | (go_at_call 82; (with_reducible refine (B5.out _).mono ?_); rintro e w2 ⟨rfl, rfl⟩) | (go_at_call 82; (with_reducible refine (B6.out _).mono ?_); rintro e w2 ⟨rfl, rfl⟩) | (go_at_call 82; (with_reducible refine (B7.out _).mono ?_); rintro e w2 ⟨rfl, rfl⟩) | (go_at_call 82; (with_reducible refine (B8.out _).mono ?_); rintro e w2 ⟨rfl, rfl⟩))
    go_ret
    exact ⟨ret_bool (by simp), by (repeat' (first | exact Ext.refl _ | assumption | refine Ext.alloc ?_ _ | refine Ext.drew ?_ | refine Ext.drewN ?_ _ | refine Ext.set ?_ (by first | exact Nat.le_refl _ | exact le1 _ | exact le2 _ | exact le3 _ | exact le4 _ | exact le5 _ | exact le6 _) _ | refine Ext.trans ?_ (by assumption)))⟩
  cases q4
  · clear em ea
    go_enter Tryz.func59, Tryz.ntmps59
    go_wp2_with (first | (go_at_call 82; (with_reducible refine (B1.out _).mono ?_); rintro e w2 ⟨rfl, rfl⟩) | (go_at_call 82; (with_reducible refine (B2.out _).mono ?_); rintro e w2 ⟨rfl, rfl⟩) | (go_at_call 82; (with_reducible refine (B3.out _).mono ?_); rintro e w2 ⟨rfl, rfl⟩) | (go_at_call 82; (with_reducible refine (B4.out _).mono ?_); rintro e w2 ⟨rfl, rfl⟩) | (go_at_call 82; (with_reducible refine (B5.out _).mono ?_); rintro e w2 ⟨rfl, rfl⟩) | (go_at_call 82; (with_reducible refine (B6.out _).mono ?_); rintro e w2 ⟨rfl, rfl⟩) | (go_at_call 82; (with_reducible refine (B7.out _).mono ?_); rintro e w2 ⟨rfl, rfl⟩) | (go_at_call 82; (with_reducible refine (B8.out _).mono ?_); rintro e w2 ⟨rfl, rfl⟩))
    go_ret
    exact ⟨ret_bool (by simp), by (repeat' (first | exact Ext.refl _ | assumption | refine Ext.alloc ?_ _ | refine Ext.drew ?_ | refine Ext.drewN ?_ _ | refine Ext.set ?_ (by first | exact Nat.le_refl _ | exact le1 _ | exact le2 _ | exact le3 _ | exact le4 _ | exact le5 _ | exact le6 _) _ | refine Ext.trans ?_ (by assumption)))⟩
  by_cases b5 : most < 0
  · obtain rfl : qm = false := by rw [← em]; simp [inB]; omega
    clear em ea
    go_enter Tryz.func59, Tryz.ntmps59
    go_wp2_with (first | (go_at_call 82; (with_reducible refine (B1.out _).mono ?_); rintro e w2 ⟨rfl, rfl⟩) | (go_at_call 82; (with_reducible refine (B2.out _).mono ?_); rintro e w2 ⟨rfl, rfl⟩) | (go_at_call 82; (with_reducible refine (B3.out _).mono ?_); rintro e w2 ⟨rfl, rfl⟩) | (go_at_call 82; (with_reducible refine (B4.out _).mono ?_); rintro e w2 ⟨rfl, rfl⟩) | (go_at_call 82; (with_reducible refine (B5.out _).mono ?_); rintro e w2 ⟨rfl, rfl⟩) | (go_at_call 82; (with_reducible refine (B6.out _).mono ?_); rintro e w2 ⟨rfl, rfl⟩) | (go_at_call 82; (with_reducible refine (B7.out _).mono ?_); rintro e w2 ⟨rfl, rfl⟩) | (go_at_call 82; (with_reducible refine (B8.out _).mono ?_); rintro e w2 ⟨rfl, rfl⟩))
    go_ret
    exact ⟨ret_bool (by simp), by (repeat' (first | exact Ext.refl _ | assumption | refine Ext.alloc ?_ _ | refine Ext.drew ?_ | refine Ext.drewN ?_ _ | refine Ext.set ?_ (by first | exact Nat.le_refl _ | exact le1 _ | exact le2 _ | exact le3 _ | exact le4 _ | exact le5 _ | exact le6 _) _ | refine Ext.trans ?_ (by assumption)))⟩
  by_cases b6 : (40 : Int) < most
  · obtain rfl : qm = false := by rw [← em]; simp [inB]; omega
    clear em ea
    go_enter Tryz.func59, Tryz.ntmps59
    go_wp2_with (first | (go_at_call 82; (with_reducible refine (B1.out _).mono ?_); rintro e w2 ⟨rfl, rfl⟩) | (go_at_call 82; (with_reducible refine (B2.out _).mono ?_); rintro e w2 ⟨rfl, rfl⟩) | (go_at_call 82; (with_reducible refine (B3.out _).mono ?_); rintro e w2 ⟨rfl, rfl⟩) | (go_at_call 82; (with_reducible refine (B4.out _).mono ?_); rintro e w2 ⟨rfl, rfl⟩) | (go_at_call 82; (with_reducible refine (B5.out _).mono ?_); rintro e w2 ⟨rfl, rfl⟩) | (go_at_call 82; (with_reducible refine (B6.out _).mono ?_); rintro e w2 ⟨rfl, rfl⟩) | (go_at_call 82; (with_reducible refine (B7.out _).mono ?_); rintro e w2 ⟨rfl, rfl⟩) | (go_at_call 82; (with_reducible refine (B8.out _).mono ?_); rintro e w2 ⟨rfl, rfl⟩))
    go_ret
    exact ⟨ret_bool (by simp), by (repeat' (first | exact Ext.refl _ | assumption | refine Ext.alloc ?_ _ | refine Ext.drew ?_ | refine Ext.drewN ?_ _ | refine Ext.set ?_ (by first | exact Nat.le_refl _ | exact le1 _ | exact le2 _ | exact le3 _ | exact le4 _ | exact le5 _ | exact le6 _) _ | refine Ext.trans ?_ (by assumption)))⟩
  obtain rfl : qm = true := by rw [← em]; simp [inB]; omega
  clear em
  by_cases b7 : axles.length = 0
  · obtain rfl : qa = false := by rw [← ea, decide_eq_false_iff_not]; omega
    have b8 := List.eq_nil_of_length_eq_zero b7
    subst b8
    clear ea
    go_enter Tryz.func59, Tryz.ntmps59
    go_wp2_with (first | (go_at_call 82; (with_reducible refine (B1.out _).mono ?_); rintro e w2 ⟨rfl, rfl⟩) | (go_at_call 82; (with_reducible refine (B2.out _).mono ?_); rintro e w2 ⟨rfl, rfl⟩) | (go_at_call 82; (with_reducible refine (B3.out _).mono ?_); rintro e w2 ⟨rfl, rfl⟩) | (go_at_call 82; (with_reducible refine (B4.out _).mono ?_); rintro e w2 ⟨rfl, rfl⟩) | (go_at_call 82; (with_reducible refine (B5.out _).mono ?_); rintro e w2 ⟨rfl, rfl⟩) | (go_at_call 82; (with_reducible refine (B6.out _).mono ?_); rintro e w2 ⟨rfl, rfl⟩) | (go_at_call 82; (with_reducible refine (B7.out _).mono ?_); rintro e w2 ⟨rfl, rfl⟩) | (go_at_call 82; (with_reducible refine (B8.out _).mono ?_); rintro e w2 ⟨rfl, rfl⟩))
    go_ret
    exact ⟨ret_bool (by simp), by (repeat' (first | exact Ext.refl _ | assumption | refine Ext.alloc ?_ _ | refine Ext.drew ?_ | refine Ext.drewN ?_ _ | refine Ext.set ?_ (by first | exact Nat.le_refl _ | exact le1 _ | exact le2 _ | exact le3 _ | exact le4 _ | exact le5 _ | exact le6 _) _ | refine Ext.trans ?_ (by assumption)))⟩
  obtain rfl : qa = true := by rw [← ea, decide_eq_true_iff]; omega
  clear ea
  have b8 : ¬ (axles.length : Int) < 1 := by omega
  have b9 : ¬ axles = [] := fun h => b7 (by rw [h]; rfl)
  have n2 := IntWalk.i64_in (length + rear) (by omega)
  go_enter Tryz.func59, Tryz.ntmps59
  go_wp2_with (first | (go_at_call 82; (with_reducible refine (B1.out _).mono ?_); rintro e w2 ⟨rfl, rfl⟩) | (go_at_call 82; (with_reducible refine (B2.out _).mono ?_); rintro e w2 ⟨rfl, rfl⟩) | (go_at_call 82; (with_reducible refine (B3.out _).mono ?_); rintro e w2 ⟨rfl, rfl⟩) | (go_at_call 82; (with_reducible refine (B4.out _).mono ?_); rintro e w2 ⟨rfl, rfl⟩) | (go_at_call 82; (with_reducible refine (B5.out _).mono ?_); rintro e w2 ⟨rfl, rfl⟩) | (go_at_call 82; (with_reducible refine (B6.out _).mono ?_); rintro e w2 ⟨rfl, rfl⟩) | (go_at_call 82; (with_reducible refine (B7.out _).mono ?_); rintro e w2 ⟨rfl, rfl⟩) | (go_at_call 82; (with_reducible refine (B8.out _).mono ?_); rintro e w2 ⟨rfl, rfl⟩))
  have E1 : Ext w (w.alloc (.cells #[.int .i64 kind, .int .i64 length, .int .i64 behind, .int .i64 front, .int .i64 rear, .int .i64 width, .int .i64 height, .int .i64 mass, .int .i64 steer, .int .i64 most, .slice A axles.length cap] 45)) := by (repeat' (first | exact Ext.refl _ | assumption | refine Ext.alloc ?_ _ | refine Ext.drew ?_ | refine Ext.drewN ?_ _ | refine Ext.set ?_ (by first | exact Nat.le_refl _ | exact le1 _ | exact le2 _ | exact le3 _ | exact le4 _ | exact le5 _ | exact le6 _) _ | refine Ext.trans ?_ (by assumption)))
  have d1 : (w.alloc (.cells #[.int .i64 kind, .int .i64 length, .int .i64 behind, .int .i64 front, .int .i64 rear, .int .i64 width, .int .i64 height, .int .i64 mass, .int .i64 steer, .int .i64 most, .slice A axles.length cap] 45)).cell? ⟨w.heap.size, 1, none⟩ = some (.int .i64 length) := by go_simp
  have d4 : (w.alloc (.cells #[.int .i64 kind, .int .i64 length, .int .i64 behind, .int .i64 front, .int .i64 rear, .int .i64 width, .int .i64 height, .int .i64 mass, .int .i64 steer, .int .i64 most, .slice A axles.length cap] 45)).cell? ⟨w.heap.size, 4, none⟩ = some (.int .i64 rear) := by go_simp
  have dA : (w.alloc (.cells #[.int .i64 kind, .int .i64 length, .int .i64 behind, .int .i64 front, .int .i64 rear, .int .i64 width, .int .i64 height, .int .i64 mass, .int .i64 steer, .int .i64 most, .slice A axles.length cap] 45)).cell? ⟨w.heap.size, 10, none⟩ = some (.slice A axles.length cap) := by go_simp
  generalize (w.alloc (.cells #[.int .i64 kind, .int .i64 length, .int .i64 behind, .int .i64 front, .int .i64 rear, .int .i64 width, .int .i64 height, .int .i64 mass, .int .i64 steer, .int .i64 most, .slice A axles.length cap] 45)) = w1 at *
  clear B1 B2 B3 B4 B5 B6 B7 B8 n1 b1 b2 b5 b6 b7 b8 b9
  go_loopw [3, 4] (fun least i wr => ∃ (k : Nat) (m : Int), k ≤ axles.length ∧ i = .int .i64 k ∧ least = .int .i64 m ∧ axlesB (length + rear) m (axles.drop k) = x ∧ Ext w1 wr) (fun _ i _ => axles.length - (intOf i).toNat)
  case atStart => exact ⟨0, 0, by omega, rfl, rfl, HX.out, Ext.refl _⟩
  case round =>
    obtain ⟨k, m, hk, rfl, rfl, ha, hb⟩ := hrel
    have e1 := Ext.cell hb d1
    have e4 := Ext.cell hb d4
    have eA := Ext.cell hb dA
    by_cases hlt : k < axles.length
    · obtain ⟨y, hy⟩ := some_of_lt hlt
      obtain ⟨b, off, cs, rfl, _, hr, hc⟩ := HS.out.at hy
      obtain rfl : cs = [.int .i64 y.x, .int .i64 y.limit, .int .i64 y.wheels] := hr
      have Ewr := E1.trans hb
      have k0 := Ext.cell Ewr (hc 0 _ rfl)
      have k1 := Ext.cell Ewr (hc 1 _ rfl)
      have k2 := Ext.cell Ewr (hc 2 _ rfl)
      simp only [Nat.add_zero] at k0
      rw [axlesB_drop hy] at ha
      have j1 : (0 : Int) ≤ (k : Int) := by omega
      have j2 : (k : Int) < (axles.length : Int) := by omega
      have hl1 := lt_of_cell e1
      have C1 := fun w => in3_c y.x m (length + rear) w
      have C2 := fun w => in3_c y.limit 1 1048576 w
      obtain ⟨z1, hz1⟩ : ∃ z, inB y.x m (length + rear) = z := ⟨_, rfl⟩
      obtain ⟨z2, hz2⟩ : ∃ z, inB y.limit 1 1048576 = z := ⟨_, rfl⟩
      obtain ⟨z3, hz3⟩ : ∃ z, inB y.wheels 1 16 = z := ⟨_, rfl⟩
      rw [hz1] at C1 ha
      rw [hz2] at C2 ha
      rw [hz3] at ha
      replace C1 := Lib.hid C1
      replace C2 := Lib.hid C2
      clear hz1 hz2 hc hy
      cases z1
      · obtain rfl : x = false := by rw [← ha]; simp
        clear ha hz3
        go_wp2_with (first | (go_at_call 82; (with_reducible refine (C1.out _).mono ?_); rintro e w2 ⟨rfl, rfl⟩) | (go_at_call 82; (with_reducible refine (C2.out _).mono ?_); rintro e w2 ⟨rfl, rfl⟩))
        go_ret
        exact ⟨ret_bool (by simp), by (repeat' (first | exact Ext.refl _ | assumption | refine Ext.alloc ?_ _ | refine Ext.drew ?_ | refine Ext.drewN ?_ _ | refine Ext.set ?_ (by first | exact Nat.le_refl _ | exact le1 _ | exact le2 _ | exact le3 _ | exact le4 _ | exact le5 _ | exact le6 _) _ | refine Ext.trans ?_ (by assumption)))⟩
      cases z2
      · obtain rfl : x = false := by rw [← ha]; simp
        clear ha hz3
        go_wp2_with (first | (go_at_call 82; (with_reducible refine (C1.out _).mono ?_); rintro e w2 ⟨rfl, rfl⟩) | (go_at_call 82; (with_reducible refine (C2.out _).mono ?_); rintro e w2 ⟨rfl, rfl⟩))
        go_ret
        exact ⟨ret_bool (by simp), by (repeat' (first | exact Ext.refl _ | assumption | refine Ext.alloc ?_ _ | refine Ext.drew ?_ | refine Ext.drewN ?_ _ | refine Ext.set ?_ (by first | exact Nat.le_refl _ | exact le1 _ | exact le2 _ | exact le3 _ | exact le4 _ | exact le5 _ | exact le6 _) _ | refine Ext.trans ?_ (by assumption)))⟩
      by_cases c1 : y.wheels < 1
      · obtain rfl : z3 = false := by rw [← hz3]; simp [inB]; omega
        obtain rfl : x = false := by rw [← ha]; simp
        clear ha hz3
        go_wp2_with (first | (go_at_call 82; (with_reducible refine (C1.out _).mono ?_); rintro e w2 ⟨rfl, rfl⟩) | (go_at_call 82; (with_reducible refine (C2.out _).mono ?_); rintro e w2 ⟨rfl, rfl⟩))
        go_ret
        exact ⟨ret_bool (by simp), by (repeat' (first | exact Ext.refl _ | assumption | refine Ext.alloc ?_ _ | refine Ext.drew ?_ | refine Ext.drewN ?_ _ | refine Ext.set ?_ (by first | exact Nat.le_refl _ | exact le1 _ | exact le2 _ | exact le3 _ | exact le4 _ | exact le5 _ | exact le6 _) _ | refine Ext.trans ?_ (by assumption)))⟩
      by_cases c2 : (16 : Int) < y.wheels
      · obtain rfl : z3 = false := by rw [← hz3]; simp [inB]; omega
        obtain rfl : x = false := by rw [← ha]; simp
        clear ha hz3
        go_wp2_with (first | (go_at_call 82; (with_reducible refine (C1.out _).mono ?_); rintro e w2 ⟨rfl, rfl⟩) | (go_at_call 82; (with_reducible refine (C2.out _).mono ?_); rintro e w2 ⟨rfl, rfl⟩))
        go_ret
        exact ⟨ret_bool (by simp), by (repeat' (first | exact Ext.refl _ | assumption | refine Ext.alloc ?_ _ | refine Ext.drew ?_ | refine Ext.drewN ?_ _ | refine Ext.set ?_ (by first | exact Nat.le_refl _ | exact le1 _ | exact le2 _ | exact le3 _ | exact le4 _ | exact le5 _ | exact le6 _) _ | refine Ext.trans ?_ (by assumption)))⟩
      obtain rfl : z3 = true := by rw [← hz3]; simp [inB]; omega
      simp only [Bool.true_and] at ha
      have HA := Lib.hid ha
      clear ha hz3
      go_wp2_with (first | (go_at_call 82; (with_reducible refine (C1.out _).mono ?_); rintro e w2 ⟨rfl, rfl⟩) | (go_at_call 82; (with_reducible refine (C2.out _).mono ?_); rintro e w2 ⟨rfl, rfl⟩))
      go_roundw
      case rel => exact ⟨k + 1, y.x, by omega, by go_num, rfl, HA.out, by (repeat' (first | exact Ext.refl _ | assumption | refine Ext.alloc ?_ _ | refine Ext.drew ?_ | refine Ext.drewN ?_ _ | refine Ext.set ?_ (by first | exact Nat.le_refl _ | exact le1 _ | exact le2 _ | exact le3 _ | exact le4 _ | exact le5 _ | exact le6 _) _ | refine Ext.trans ?_ (by assumption)))⟩
      case measure => simp [intOf]; omega
    · rw [axlesB_end (by omega)] at ha
      subst ha
      go_wp2
      go_ret
      exact ⟨ret_bool (by simp), by (repeat' (first | exact Ext.refl _ | assumption | refine Ext.alloc ?_ _ | refine Ext.drew ?_ | refine Ext.drewN ?_ _ | refine Ext.set ?_ (by first | exact Nat.le_refl _ | exact le1 _ | exact le2 _ | exact le3 _ | exact le4 _ | exact le5 _ | exact le6 _) _ | refine Ext.trans ?_ (by assumption)))⟩
end Go.Proofs.YtcbjecpfijogcaaGreat

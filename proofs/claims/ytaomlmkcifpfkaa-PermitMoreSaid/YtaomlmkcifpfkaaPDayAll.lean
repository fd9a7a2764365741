/- PDayAll: several texts in one. -/
import Derived.Test.YtaomlmkcifpfkaaPSpec
import Derived.StillTailTactics
import Derived.Test.YtaomlmkcifpfkaaPCheck
import Derived.Test.YtaomlmkcifpfkaaPIdx
/- Contracts: which minutes and days a rule allows. -/
namespace Go.Proofs.Ytaomlmkcifpfkaa
open Go.RowKit

/-- a number lies between two numbers -/
def liesB (x a b : Int) : Bool := if a < b then decide (a ≤ x ∧ x < b) else decide (a ≤ x ∨ x < b)
set_option maxHeartbeats 800000 in
theorem lies_c (x a b : Int) (w : World) (h1 : -1000000 ≤ a ∧ a ≤ 1000000) (h2 : -1000000 ≤ b ∧ b ≤ 1000000) :
    Calls Try.prog 110 #[.int .i64 x, .agg #[.int .i64 a, .int .i64 b]] w fun e w' => e = .returned (.bool (liesB x a b)) ∧ Ext w w' := by
  obtain ⟨a1, a2⟩ := h1
  obtain ⟨b1, b2⟩ := h2
  by_cases h : a < b
  · rw [show liesB x a b = inB x a (b - 1) by unfold liesB inB; rw [if_pos h, Bool.eq_iff_iff]; simp; omega]
    have B := fun w => between_c x a (b - 1) w
    generalize inB x a (b - 1) = q at *
    replace B := Lib.hid B
    go_enter Try.func110, Try.ntmps110
    go_wp2_with (go_at_call 52; refine (B.out _).mono ?_; rintro e w1 ⟨rfl, rfl⟩)
    go_ret
    exact ⟨rfl, by (repeat' (first | exact Ext.refl _ | assumption | refine Ext.alloc ?_ _ | refine Ext.drew ?_ | refine Ext.drewN ?_ _ | refine Ext.set ?_ (by first | exact Nat.le_refl _ | exact le1 _ | exact le2 _ | exact le3 _ | exact le4 _ | exact le5 _ | exact le6 _) _ | refine Ext.trans ?_ (by assumption)))⟩
  · rw [show liesB x a b = decide (a ≤ x ∨ x < b) by unfold liesB; rw [if_neg h]]
    by_cases h3 : a ≤ x
    · rw [show decide (a ≤ x ∨ x < b) = true by simp [h3]]
      go_enter Try.func110, Try.ntmps110
      go_wp2
      go_ret
      exact ⟨rfl, by (repeat' (first | exact Ext.refl _ | assumption | refine Ext.alloc ?_ _ | refine Ext.drew ?_ | refine Ext.drewN ?_ _ | refine Ext.set ?_ (by first | exact Nat.le_refl _ | exact le1 _ | exact le2 _ | exact le3 _ | exact le4 _ | exact le5 _ | exact le6 _) _ | refine Ext.trans ?_ (by assumption)))⟩
    · have h4 : decide (a ≤ x ∨ x < b) = decide (x < b) := by simp [h3]
      rw [h4]
      clear h4
      go_enter Try.func110, Try.ntmps110
      go_wp2
      go_ret
      exact ⟨rfl, by (repeat' (first | exact Ext.refl _ | assumption | refine Ext.alloc ?_ _ | refine Ext.drew ?_ | refine Ext.drewN ?_ _ | refine Ext.set ?_ (by first | exact Nat.le_refl _ | exact le1 _ | exact le2 _ | exact le3 _ | exact le4 _ | exact le5 _ | exact le6 _) _ | refine Ext.trans ?_ (by assumption)))⟩
set_option maxHeartbeats 800000 in
theorem Between_c (x a b : Int) (w : World) :
    Calls Try.prog 68 #[.int .i64 x, .agg #[.int .i64 a, .int .i64 b]] w fun e w' => e = .returned (.bool (liesB x a b)) ∧ Ext w w' := by
  by_cases h : a < b
  · rw [show liesB x a b = decide (a ≤ x ∧ x < b) by unfold liesB; rw [if_pos h]]
    by_cases h3 : a ≤ x
    · rw [show decide (a ≤ x ∧ x < b) = decide (x < b) by simp [h3]]
      go_enter Try.func68, Try.ntmps68
      go_wp2
      go_ret
      exact ⟨rfl, by (repeat' (first | exact Ext.refl _ | assumption | refine Ext.alloc ?_ _ | refine Ext.drew ?_ | refine Ext.drewN ?_ _ | refine Ext.set ?_ (by first | exact Nat.le_refl _ | exact le1 _ | exact le2 _ | exact le3 _ | exact le4 _ | exact le5 _ | exact le6 _) _ | refine Ext.trans ?_ (by assumption)))⟩
    · rw [show decide (a ≤ x ∧ x < b) = false by simp [h3]]
      go_enter Try.func68, Try.ntmps68
      go_wp2
      go_ret
      exact ⟨rfl, by (repeat' (first | exact Ext.refl _ | assumption | refine Ext.alloc ?_ _ | refine Ext.drew ?_ | refine Ext.drewN ?_ _ | refine Ext.set ?_ (by first | exact Nat.le_refl _ | exact le1 _ | exact le2 _ | exact le3 _ | exact le4 _ | exact le5 _ | exact le6 _) _ | refine Ext.trans ?_ (by assumption)))⟩
  · rw [show liesB x a b = decide (a ≤ x ∨ x < b) by unfold liesB; rw [if_neg h]]
    by_cases h3 : a ≤ x
    · rw [show decide (a ≤ x ∨ x < b) = true by simp [h3]]
      go_enter Try.func68, Try.ntmps68
      go_wp2
      go_ret
      exact ⟨rfl, by (repeat' (first | exact Ext.refl _ | assumption | refine Ext.alloc ?_ _ | refine Ext.drew ?_ | refine Ext.drewN ?_ _ | refine Ext.set ?_ (by first | exact Nat.le_refl _ | exact le1 _ | exact le2 _ | exact le3 _ | exact le4 _ | exact le5 _ | exact le6 _) _ | refine Ext.trans ?_ (by assumption)))⟩
    · have h4 : decide (a ≤ x ∨ x < b) = decide (x < b) := by simp [h3]
      rw [h4]
      clear h4
      go_enter Try.func68, Try.ntmps68
      go_wp2
      go_ret
      exact ⟨rfl, by (repeat' (first | exact Ext.refl _ | assumption | refine Ext.alloc ?_ _ | refine Ext.drew ?_ | refine Ext.drewN ?_ _ | refine Ext.set ?_ (by first | exact Nat.le_refl _ | exact le1 _ | exact le2 _ | exact le3 _ | exact le4 _ | exact le5 _ | exact le6 _) _ | refine Ext.trans ?_ (by assumption)))⟩

/-- a day of the week is among the days -/
def bitB (n : Int) (k : Nat) : Bool := n.toNat.testBit k
def dayB (r : PRule) (d : Int) : Bool := !r.forbid && bitB r.days (d % 7).toNat && liesB (d % 365) r.s0 r.s1

set_option maxRecDepth 100000 in
theorem and_small : ∀ n, n < 128 → ∀ k, k < 7 → n &&& 2 ^ k = if n.testBit k = true then 2 ^ k else 0 := by decide +kernel
theorem pow_small {k : Nat} (hk : k < 7) : (1 : Int) ≤ 2 ^ k ∧ (2 : Int) ^ k ≤ 64 := by
  have h := Nat.pow_le_pow_right (show 2 > 0 by omega) (show k ≤ 6 by omega)
  have h1 := Nat.one_le_two_pow (n := k)
  have e : ((2 : Int) ^ k) = ((2 ^ k : Nat) : Int) := by simp
  rw [e]
  omega

theorem and_pow (x : Int) (k : Nat) (h : 0 ≤ x ∧ x ≤ 127) (hk : k < 7) : bits .and .i64 x (2 ^ k) = if bitB x k = true then 2 ^ k else 0 := by
  obtain ⟨h1, h2⟩ := h
  obtain ⟨n, rfl⟩ := Int.eq_ofNat_of_zero_le h1
  have hn : n < 128 := by omega
  have e : bits .and .i64 (n : Int) (2 ^ k) = IntKind.i64.wrap (((BitVec.ofInt 64 (n : Int)) &&& (BitVec.ofInt 64 (2 ^ k))).toNat : Nat) := rfl
  have hp : (2 : Nat) ^ k ≤ 2 ^ 6 := Nat.pow_le_pow_right (by omega) (by omega)
  have e2 : ((2 : Int) ^ k) = ((2 ^ k : Nat) : Int) := by simp
  rw [e, e2, BitVec.toNat_and, BitVec.ofInt_natCast, BitVec.ofInt_natCast, BitVec.toNat_ofNat, BitVec.toNat_ofNat, Nat.mod_eq_of_lt (by omega), Nat.mod_eq_of_lt (by omega), and_small n hn k hk]
  unfold bitB
  simp only [Int.toNat_natCast]
  by_cases t : n.testBit k = true
  · rw [if_pos t, if_pos t]
    have hz : 2 ^ k ≤ 64 := hp
    clear hp e e2
    generalize 2 ^ k = z at *
    exact IntWalk.i64_in _ (by omega)
  · rw [if_neg t, if_neg t]
    rfl

/-- wpStill behind a closed door: a goal that Lean does not try to reckon out -/
@[irreducible] def St (P : Program) (ops : Array Oper) (w : World) (Q : Act → Prop) (l : List Oper) (a : Act) : Prop := wpStill P ops w Q l a
theorem St_in {P : Program} {ops : Array Oper} {w : World} {Q : Act → Prop} {l : List Oper} {a : Act} (h : St P ops w Q l a) : wpStill P ops w Q l a := by
  unfold St at h
  exact h
theorem St_step {P : Program} {ops : Array Oper} {w : World} {Q : Act → Prop} {a : Act} {o : Oper} {rest : List Oper}
    (h : ∀ K : Act → Prop, (∀ a, St P ops w Q rest a → K a) → if Region.wanted o (yielded ops a.tmps) then o.still P a w K else K (a.put o.dst undef)) : St P ops w Q (o :: rest) a := by
  unfold St at *
  exact wpStill_step h
theorem St_nil {P : Program} {ops : Array Oper} {w : World} {Q : Act → Prop} {a : Act} (h : Q a) : St P ops w Q [] a := by
  unfold St
  exact h

set_option maxRecDepth 100000 in
set_option maxHeartbeats 1600000 in
theorem day_c (vr vw vc : Value) (r : PRule) (d : Int) (w : World) (hs : RSls w vr vw vc r) (hv : ruleB r = true) (hd : 0 ≤ d) :
    Calls Try.prog 90 #[.agg #[.string r.name, vr, vw, .int .i64 r.h0, .int .i64 r.h1, .int .i64 r.days, .int .i64 r.s0, .int .i64 r.s1, .bool r.forbid, vc, .int .i64 r.cost], .int .i64 d] w fun e w' => e = .returned (.bool (dayB r d)) ∧ Ext w w' := by
  have hrv := ruleB_parts hv
  have C1 := fun w' => lies_c (d % 365) r.s0 r.s1 w' (by omega) (by omega)
  obtain ⟨name, roads, whens, h0, h1, days, s0, s1, fb, counts, cost⟩ := r
  obtain ⟨hr, hw, hc⟩ := hs
  simp only at *
  obtain ⟨Ar, cr, rfl, lr, lr2⟩ := hr.shape
  obtain ⟨Aw, cw, rfl, lw, lw2⟩ := hw.shape
  obtain ⟨Ac, cc, rfl, lc, lc2⟩ := hc.shape
  unfold dayB
  simp only
  have d1 := Int.emod_nonneg d (show (7 : Int) ≠ 0 by omega)
  have d2 := Int.emod_lt_of_pos d (show (0 : Int) < 7 by omega)
  have d3 := Int.emod_nonneg d (show (365 : Int) ≠ 0 by omega)
  have d4 := Int.emod_lt_of_pos d (show (0 : Int) < 365 by omega)
  have y1 := hrv.1.1
  have y2 := hrv.1.2
  generalize liesB (d % 365) s0 s1 = q at *
  have t7 : d.tmod 7 = d % 7 := Int.tmod_eq_emod_of_nonneg hd
  have t365 : d.tmod 365 = d % 365 := Int.tmod_eq_emod_of_nonneg hd
  generalize d % 365 = u at *
  generalize d % 7 = m at *
  clear hr hw hc hv hrv
  replace C1 := Lib.hid C1
  obtain ⟨W0, hW0⟩ : ∃ W0, w.alloc (.cells #[.string name, .slice Ar roads.length cr, .slice Aw whens.length cw, .int .i64 h0, .int .i64 h1, .int .i64 days, .int .i64 s0, .int .i64 s1, .bool fb, .slice Ac counts.length cc, .int .i64 cost] 58) = W0 := ⟨_, rfl⟩
  have g5 : W0.cell? ⟨w.heap.size, 5, none⟩ = some (.int .i64 days) := by rw [← hW0]; exact World.cell?_alloc_new _ _ _ _
  have g6 : W0.cell? ⟨w.heap.size, 6, none⟩ = some (.int .i64 s0) := by rw [← hW0]; exact World.cell?_alloc_new _ _ _ _
  have g7 : W0.cell? ⟨w.heap.size, 7, none⟩ = some (.int .i64 s1) := by rw [← hW0]; exact World.cell?_alloc_new _ _ _ _
  have g8 : W0.cell? ⟨w.heap.size, 8, none⟩ = some (.bool fb) := by rw [← hW0]; exact World.cell?_alloc_new _ _ _ _
  have hE0 : Ext w W0 := by rw [← hW0]; (repeat' (first | exact Ext.refl _ | assumption | refine Ext.alloc ?_ _ | refine Ext.drew ?_ | refine Ext.drewN ?_ _ | refine Ext.set ?_ (by first | exact Nat.le_refl _ | exact le1 _ | exact le2 _ | exact le3 _ | exact le4 _ | exact le5 _ | exact le6 _) _ | refine Ext.trans ?_ (by assumption)))
  replace hW0 := Lib.hid hW0
  cases fb
  · have A := and_pow days m.toNat (by omega) (by omega)
    obtain ⟨hp, hp6⟩ := pow_small (k := m.toNat) (by omega)
    generalize hpp : (2 : Int) ^ m.toNat = p at *
    have WP := IntWalk.i64_in p (by omega)
    by_cases hb : bitB days m.toNat = true
    · rw [if_pos hb] at A
      rw [hb]
      have A0 : (p != 0) = true := by simp; omega
      clear hb
      go_enter Try.func90, Try.ntmps90
      go_wp2_with fail
      rw [hW0.out]
      go_still_tail 17, (by kernel_rfl)
      go_wp2_with (go_at_call 110; refine (C1.out _).mono ?_; rintro e w1 ⟨rfl, hb1⟩)
      go_ret
      exact ⟨rfl, by (repeat' (first | exact Ext.refl _ | assumption | refine Ext.alloc ?_ _ | refine Ext.drew ?_ | refine Ext.drewN ?_ _ | refine Ext.set ?_ (by first | exact Nat.le_refl _ | exact le1 _ | exact le2 _ | exact le3 _ | exact le4 _ | exact le5 _ | exact le6 _) _ | refine Ext.trans ?_ (by assumption)))⟩
    · rw [if_neg hb] at A
      rw [show bitB days m.toNat = false by simpa using hb]
      clear hb
      go_enter Try.func90, Try.ntmps90
      go_wp2_with fail
      rw [hW0.out]
      go_still_tail 17, (by kernel_rfl)
      go_wp2
      go_ret
      exact ⟨rfl, by (repeat' (first | exact Ext.refl _ | assumption | refine Ext.alloc ?_ _ | refine Ext.drew ?_ | refine Ext.drewN ?_ _ | refine Ext.set ?_ (by first | exact Nat.le_refl _ | exact le1 _ | exact le2 _ | exact le3 _ | exact le4 _ | exact le5 _ | exact le6 _) _ | refine Ext.trans ?_ (by assumption)))⟩
  · go_enter Try.func90, Try.ntmps90
    go_wp2_with fail
    rw [hW0.out]
    refine wp_region_still_tail 17 (by kernel_rfl) (by kernel_rfl) ?_
    simp only [List.take_succ_cons, List.take_zero, List.drop_succ_cons, List.drop_zero]
    refine St_in ?_
    repeat (refine St_step ?_; intro K hK; go_simp; refine hK _ ?_; clear hK K)
    refine St_nil ?_
    go_wp2
    go_ret
    exact ⟨rfl, by (repeat' (first | exact Ext.refl _ | assumption | refine Ext.alloc ?_ _ | refine Ext.drew ?_ | refine Ext.drewN ?_ _ | refine Ext.set ?_ (by first | exact Nat.le_refl _ | exact le1 _ | exact le2 _ | exact le3 _ | exact le4 _ | exact le5 _ | exact le6 _) _ | refine Ext.trans ?_ (by assumption)))⟩
end Go.Proofs.Ytaomlmkcifpfkaa
/- Contract: Day, the definition of which days a rule allows. -/
namespace Go.Proofs.Ytaomlmkcifpfkaa
open Go.RowKit

theorem bit_div (x : Int) (k : Nat) (h : 0 ≤ x) : (x / 2 ^ k).tmod 2 = if bitB x k = true then 1 else 0 := by
  obtain ⟨n, rfl⟩ := Int.eq_ofNat_of_zero_le h
  have e2 : ((2 : Int) ^ k) = ((2 ^ k : Nat) : Int) := by simp
  unfold bitB
  rw [e2, ← Int.natCast_ediv, Int.toNat_natCast, Nat.testBit_eq_decide_div_mod_eq]
  generalize n / 2 ^ k = z
  rw [Int.tmod_eq_emod_of_nonneg (by omega)]
  simp only [decide_eq_true_eq]
  split <;> omega

set_option maxRecDepth 100000 in
set_option maxHeartbeats 1600000 in
theorem Day_c (vr vw vc : Value) (r : PRule) (d : Int) (w : World) (hs : RSls w vr vw vc r) (hv : ruleB r = true) (hd : 0 ≤ d) :
    Calls Try.prog 91 #[.agg #[.string r.name, vr, vw, .int .i64 r.h0, .int .i64 r.h1, .int .i64 r.days, .int .i64 r.s0, .int .i64 r.s1, .bool r.forbid, vc, .int .i64 r.cost], .int .i64 d] w fun e w' => e = .returned (.bool (dayB r d)) ∧ Ext w w' := by
  have hrv := ruleB_parts hv
  have C1 := fun w' => Between_c (d % 365) r.s0 r.s1 w'
  obtain ⟨name, roads, whens, h0, h1, days, s0, s1, fb, counts, cost⟩ := r
  obtain ⟨hr, hw, hc⟩ := hs
  simp only at *
  obtain ⟨Ar, cr, rfl, lr, lr2⟩ := hr.shape
  obtain ⟨Aw, cw, rfl, lw, lw2⟩ := hw.shape
  obtain ⟨Ac, cc, rfl, lc, lc2⟩ := hc.shape
  unfold dayB
  simp only
  have d1 := Int.emod_nonneg d (show (7 : Int) ≠ 0 by omega)
  have d2 := Int.emod_lt_of_pos d (show (0 : Int) < 7 by omega)
  have d3 := Int.emod_nonneg d (show (365 : Int) ≠ 0 by omega)
  have d4 := Int.emod_lt_of_pos d (show (0 : Int) < 365 by omega)
  have y1 := hrv.1.1
  have y2 := hrv.1.2
  generalize liesB (d % 365) s0 s1 = q at *
  have t7 : d.tmod 7 = d % 7 := Int.tmod_eq_emod_of_nonneg hd
  have t365 : d.tmod 365 = d % 365 := Int.tmod_eq_emod_of_nonneg hd
  generalize d % 365 = u at *
  generalize d % 7 = m at *
  clear hr hw hc hv hrv
  replace C1 := Lib.hid C1
  obtain ⟨W0, hW0⟩ : ∃ W0, w.alloc (.cells #[.string name, .slice Ar roads.length cr, .slice Aw whens.length cw, .int .i64 h0, .int .i64 h1, .int .i64 days, .int .i64 s0, .int .i64 s1, .bool fb, .slice Ac counts.length cc, .int .i64 cost] 58) = W0 := ⟨_, rfl⟩
  have g5 : W0.cell? ⟨w.heap.size, 5, none⟩ = some (.int .i64 days) := by rw [← hW0]; exact World.cell?_alloc_new _ _ _ _
  have g6 : W0.cell? ⟨w.heap.size, 6, none⟩ = some (.int .i64 s0) := by rw [← hW0]; exact World.cell?_alloc_new _ _ _ _
  have g7 : W0.cell? ⟨w.heap.size, 7, none⟩ = some (.int .i64 s1) := by rw [← hW0]; exact World.cell?_alloc_new _ _ _ _
  have g8 : W0.cell? ⟨w.heap.size, 8, none⟩ = some (.bool fb) := by rw [← hW0]; exact World.cell?_alloc_new _ _ _ _
  have hE0 : Ext w W0 := by rw [← hW0]; (repeat' (first | exact Ext.refl _ | assumption | refine Ext.alloc ?_ _ | refine Ext.drew ?_ | refine Ext.drewN ?_ _ | refine Ext.set ?_ (by first | exact Nat.le_refl _ | exact le1 _ | exact le2 _ | exact le3 _ | exact le4 _ | exact le5 _ | exact le6 _) _ | refine Ext.trans ?_ (by assumption)))
  replace hW0 := Lib.hid hW0
  cases fb
  · have A := bit_div days m.toNat y1
    generalize hpp : (2 : Int) ^ m.toNat = p at *
    have U := Int.emod_eq_of_lt d1 (show m < 18446744073709551616 by omega)
    generalize hz : days / p = z at *
    generalize hb : bitB days m.toNat = b at *
    clear hb
    cases b
    · simp only [Bool.false_eq_true, if_false] at A
      go_enter Try.func91, Try.ntmps91
      go_wp2_with fail
      go_ret
      exact ⟨rfl, by (repeat' (first | exact Ext.refl _ | assumption | refine Ext.alloc ?_ _ | refine Ext.drew ?_ | refine Ext.drewN ?_ _ | refine Ext.set ?_ (by first | exact Nat.le_refl _ | exact le1 _ | exact le2 _ | exact le3 _ | exact le4 _ | exact le5 _ | exact le6 _) _ | refine Ext.trans ?_ (by assumption)))⟩
    · simp only [if_true] at A
      go_enter Try.func91, Try.ntmps91
      go_wp2_with (go_at_call 68; refine (C1.out _).mono ?_; rintro e w1 ⟨rfl, hb1⟩)
      go_ret
      exact ⟨rfl, by (repeat' (first | exact Ext.refl _ | assumption | refine Ext.alloc ?_ _ | refine Ext.drew ?_ | refine Ext.drewN ?_ _ | refine Ext.set ?_ (by first | exact Nat.le_refl _ | exact le1 _ | exact le2 _ | exact le3 _ | exact le4 _ | exact le5 _ | exact le6 _) _ | refine Ext.trans ?_ (by assumption)))⟩
  · go_enter Try.func91, Try.ntmps91
    go_wp2_with fail
    go_ret
    exact ⟨rfl, by (repeat' (first | exact Ext.refl _ | assumption | refine Ext.alloc ?_ _ | refine Ext.drew ?_ | refine Ext.drewN ?_ _ | refine Ext.set ?_ (by first | exact Nat.le_refl _ | exact le1 _ | exact le2 _ | exact le3 _ | exact le4 _ | exact le5 _ | exact le6 _) _ | refine Ext.trans ?_ (by assumption)))⟩
/-- a rule allows a minute -/
def allowsB (r : PRule) (m : Int) : Bool := dayB r (m / 1440) && liesB (m % 1440) r.h0 r.h1
set_option maxRecDepth 100000 in
set_option maxHeartbeats 1600000 in
theorem allows_c (vr vw vc : Value) (r : PRule) (m : Int) (w : World) (hs : RSls w vr vw vc r) (hv : ruleB r = true) (hd : 0 ≤ m) (hd2 : m ≤ 9223372036854775807) :
    Calls Try.prog 99 #[.agg #[.string r.name, vr, vw, .int .i64 r.h0, .int .i64 r.h1, .int .i64 r.days, .int .i64 r.s0, .int .i64 r.s1, .bool r.forbid, vc, .int .i64 r.cost], .int .i64 m] w fun e w' => e = .returned (.bool (allowsB r m)) ∧ Ext w w' := by
  have hrv := ruleB_parts hv
  have C1 := fun w' => lies_c (m % 1440) r.h0 r.h1 w' (by omega) (by omega)
  have C2 := fun w' (hE : Ext w w') => day_c vr vw vc r (m / 1440) w' (hs.ext hE) hv (Int.ediv_nonneg hd (by omega))
  obtain ⟨hr, hw, hc⟩ := hs
  obtain ⟨Ar, cr, rfl, lr, lr2⟩ := hr.shape
  obtain ⟨Aw, cw, rfl, lw, lw2⟩ := hw.shape
  obtain ⟨Ac, cc, rfl, lc, lc2⟩ := hc.shape
  unfold allowsB
  have t1 : m.tdiv 1440 = m / 1440 := Int.tdiv_eq_ediv_of_nonneg hd
  have t2 : m.tmod 1440 = m % 1440 := Int.tmod_eq_emod_of_nonneg hd
  have d1 := Int.ediv_nonneg hd (show (0 : Int) ≤ 1440 by omega)
  have d2 : m / 1440 ≤ 9223372036854775807 := by omega
  have d3 := Int.emod_nonneg m (show (1440 : Int) ≠ 0 by omega)
  have d4 := Int.emod_lt_of_pos m (show (0 : Int) < 1440 by omega)
  generalize dayB r (m / 1440) = q1 at *
  generalize liesB (m % 1440) r.h0 r.h1 = q2 at *
  generalize m % 1440 = u at *
  generalize m / 1440 = v at *
  clear hr hw hc hv hrv
  replace C1 := Lib.hid C1
  replace C2 := Lib.hid C2
  have D3 : (w.alloc (.cells #[.string r.name, .slice Ar r.roads.length cr, .slice Aw r.whens.length cw, .int .i64 r.h0, .int .i64 r.h1, .int .i64 r.days, .int .i64 r.s0, .int .i64 r.s1, .bool r.forbid, .slice Ac r.counts.length cc, .int .i64 r.cost] 58)).cell? ⟨w.heap.size, 3, none⟩ = some (.int .i64 r.h0) := World.cell?_alloc_new _ _ _ _
  have D4 : (w.alloc (.cells #[.string r.name, .slice Ar r.roads.length cr, .slice Aw r.whens.length cw, .int .i64 r.h0, .int .i64 r.h1, .int .i64 r.days, .int .i64 r.s0, .int .i64 r.s1, .bool r.forbid, .slice Ac r.counts.length cc, .int .i64 r.cost] 58)).cell? ⟨w.heap.size, 4, none⟩ = some (.int .i64 r.h1) := World.cell?_alloc_new _ _ _ _
  replace D3 := Lib.hid D3
  replace D4 := Lib.hid D4
  cases q1
  · go_enter Try.func99, Try.ntmps99
    go_wp2_with (go_at_call 90; refine (C2.out _ (by (repeat' (first | exact Ext.refl _ | assumption | refine Ext.alloc ?_ _ | refine Ext.drew ?_ | refine Ext.drewN ?_ _ | refine Ext.set ?_ (by first | exact Nat.le_refl _ | exact le1 _ | exact le2 _ | exact le3 _ | exact le4 _ | exact le5 _ | exact le6 _) _ | refine Ext.trans ?_ (by assumption))))).mono ?_; rintro e w1 ⟨rfl, hb1⟩)
    go_ret
    exact ⟨rfl, by (repeat' (first | exact Ext.refl _ | assumption | refine Ext.alloc ?_ _ | refine Ext.drew ?_ | refine Ext.drewN ?_ _ | refine Ext.set ?_ (by first | exact Nat.le_refl _ | exact le1 _ | exact le2 _ | exact le3 _ | exact le4 _ | exact le5 _ | exact le6 _) _ | refine Ext.trans ?_ (by assumption)))⟩
  · go_enter Try.func99, Try.ntmps99
    go_wp2_with (first | (go_at_call 90; refine (C2.out _ (by (repeat' (first | exact Ext.refl _ | assumption | refine Ext.alloc ?_ _ | refine Ext.drew ?_ | refine Ext.drewN ?_ _ | refine Ext.set ?_ (by first | exact Nat.le_refl _ | exact le1 _ | exact le2 _ | exact le3 _ | exact le4 _ | exact le5 _ | exact le6 _) _ | refine Ext.trans ?_ (by assumption))))).mono ?_; rintro e w1 ⟨rfl, hb1⟩; have g3 := Ext.cell hb1 D3.out; have g4 := Ext.cell hb1 D4.out) | (go_at_call 110; refine (C1.out _).mono ?_; rintro e w2 ⟨rfl, hb2⟩))
    go_ret
    exact ⟨rfl, by (repeat' (first | exact Ext.refl _ | assumption | refine Ext.alloc ?_ _ | refine Ext.drew ?_ | refine Ext.drewN ?_ _ | refine Ext.set ?_ (by first | exact Nat.le_refl _ | exact le1 _ | exact le2 _ | exact le3 _ | exact le4 _ | exact le5 _ | exact le6 _) _ | refine Ext.trans ?_ (by assumption)))⟩
set_option maxRecDepth 100000 in
set_option maxHeartbeats 1600000 in
theorem Allows_c (vr vw vc : Value) (r : PRule) (m : Int) (w : World) (hs : RSls w vr vw vc r) (hv : ruleB r = true) (hd : 0 ≤ m) (hd2 : m ≤ 9223372036854775807) :
    Calls Try.prog 59 #[.agg #[.string r.name, vr, vw, .int .i64 r.h0, .int .i64 r.h1, .int .i64 r.days, .int .i64 r.s0, .int .i64 r.s1, .bool r.forbid, vc, .int .i64 r.cost], .int .i64 m] w fun e w' => e = .returned (.bool (allowsB r m)) ∧ Ext w w' := by
  have C1 := fun w' => Between_c (m % 1440) r.h0 r.h1 w'
  have C2 := fun w' (hE : Ext w w') => Day_c vr vw vc r (m / 1440) w' (hs.ext hE) hv (Int.ediv_nonneg hd (by omega))
  obtain ⟨hr, hw, hc⟩ := hs
  obtain ⟨Ar, cr, rfl, lr, lr2⟩ := hr.shape
  obtain ⟨Aw, cw, rfl, lw, lw2⟩ := hw.shape
  obtain ⟨Ac, cc, rfl, lc, lc2⟩ := hc.shape
  unfold allowsB
  have t1 : m.tdiv 1440 = m / 1440 := Int.tdiv_eq_ediv_of_nonneg hd
  have t2 : m.tmod 1440 = m % 1440 := Int.tmod_eq_emod_of_nonneg hd
  have d1 := Int.ediv_nonneg hd (show (0 : Int) ≤ 1440 by omega)
  have d2 : m / 1440 ≤ 9223372036854775807 := by omega
  have d3 := Int.emod_nonneg m (show (1440 : Int) ≠ 0 by omega)
  have d4 := Int.emod_lt_of_pos m (show (0 : Int) < 1440 by omega)
  generalize dayB r (m / 1440) = q1 at *
  generalize liesB (m % 1440) r.h0 r.h1 = q2 at *
  generalize m % 1440 = u at *
  generalize m / 1440 = v at *
  clear hr hw hc hv
  replace C1 := Lib.hid C1
  replace C2 := Lib.hid C2
  have D3 : (w.alloc (.cells #[.string r.name, .slice Ar r.roads.length cr, .slice Aw r.whens.length cw, .int .i64 r.h0, .int .i64 r.h1, .int .i64 r.days, .int .i64 r.s0, .int .i64 r.s1, .bool r.forbid, .slice Ac r.counts.length cc, .int .i64 r.cost] 58)).cell? ⟨w.heap.size, 3, none⟩ = some (.int .i64 r.h0) := World.cell?_alloc_new _ _ _ _
  have D4 : (w.alloc (.cells #[.string r.name, .slice Ar r.roads.length cr, .slice Aw r.whens.length cw, .int .i64 r.h0, .int .i64 r.h1, .int .i64 r.days, .int .i64 r.s0, .int .i64 r.s1, .bool r.forbid, .slice Ac r.counts.length cc, .int .i64 r.cost] 58)).cell? ⟨w.heap.size, 4, none⟩ = some (.int .i64 r.h1) := World.cell?_alloc_new _ _ _ _
  replace D3 := Lib.hid D3
  replace D4 := Lib.hid D4
  cases q1
  · go_enter Try.func59, Try.ntmps59
    go_wp2_with (go_at_call 91; refine (C2.out _ (by (repeat' (first | exact Ext.refl _ | assumption | refine Ext.alloc ?_ _ | refine Ext.drew ?_ | refine Ext.drewN ?_ _ | refine Ext.set ?_ (by first | exact Nat.le_refl _ | exact le1 _ | exact le2 _ | exact le3 _ | exact le4 _ | exact le5 _ | exact le6 _) _ | refine Ext.trans ?_ (by assumption))))).mono ?_; rintro e w1 ⟨rfl, hb1⟩)
    go_ret
    exact ⟨rfl, by (repeat' (first | exact Ext.refl _ | assumption | refine Ext.alloc ?_ _ | refine Ext.drew ?_ | refine Ext.drewN ?_ _ | refine Ext.set ?_ (by first | exact Nat.le_refl _ | exact le1 _ | exact le2 _ | exact le3 _ | exact le4 _ | exact le5 _ | exact le6 _) _ | refine Ext.trans ?_ (by assumption)))⟩
  · go_enter Try.func59, Try.ntmps59
    go_wp2_with (first | (go_at_call 91; refine (C2.out _ (by (repeat' (first | exact Ext.refl _ | assumption | refine Ext.alloc ?_ _ | refine Ext.drew ?_ | refine Ext.drewN ?_ _ | refine Ext.set ?_ (by first | exact Nat.le_refl _ | exact le1 _ | exact le2 _ | exact le3 _ | exact le4 _ | exact le5 _ | exact le6 _) _ | refine Ext.trans ?_ (by assumption))))).mono ?_; rintro e w1 ⟨rfl, hb1⟩; have g3 := Ext.cell hb1 D3.out; have g4 := Ext.cell hb1 D4.out) | (go_at_call 68; refine (C1.out _).mono ?_; rintro e w2 ⟨rfl, hb2⟩))
    go_ret
    exact ⟨rfl, by (repeat' (first | exact Ext.refl _ | assumption | refine Ext.alloc ?_ _ | refine Ext.drew ?_ | refine Ext.drewN ?_ _ | refine Ext.set ?_ (by first | exact Nat.le_refl _ | exact le1 _ | exact le2 _ | exact le3 _ | exact le4 _ | exact le5 _ | exact le6 _) _ | refine Ext.trans ?_ (by assumption)))⟩
theorem validMinute_c (m : Int) (w : World) :
    Calls Try.prog 57 #[.int .i64 m] w fun e w' => e = .returned (.bool (inB m 0 1099511627776)) ∧ w' = w := by
  have B := fun w => between_c m 0 1099511627776 w
  generalize inB m 0 1099511627776 = q at *
  replace B := Lib.hid B
  go_enter Try.func57, Try.ntmps57
  go_wp2_with (go_at_call 52; refine (B.out _).mono ?_; rintro e w1 ⟨rfl, rfl⟩)
  go_ret
  exact ⟨rfl, rfl⟩
end Go.Proofs.Ytaomlmkcifpfkaa
/- Contract: allowed, the definition of which minutes a list of rules allows. -/
namespace Go.Proofs.Ytaomlmkcifpfkaa
open Go.RowKit

def allowedB (l : List PRule) (m : Int) : Bool := l.all fun r => allowsB r m

set_option maxRecDepth 100000 in
set_option maxHeartbeats 1600000 in
theorem RAllowed_c (v : Value) (l : List PRule) (m : Int) (w : World) (hs : Sl 11 RRule w v l) (hv : ∀ r ∈ l, ruleB r = true) (hd : 0 ≤ m) (hd2 : m ≤ 9223372036854775807) :
    Calls Try.prog 72 #[v, .int .i64 m] w fun e w' => e = .returned (.bool (allowedB l m)) ∧ Ext w w' := by
  obtain ⟨A, cap, rfl, hl, hl2⟩ := hs.shape
  obtain ⟨ra, hra⟩ : ∃ z, (l.all fun r => allowsB r m) = z := ⟨_, rfl⟩
  have hal : allowedB l m = ra := hra
  rw [hal]
  have HRA := Lib.hid hra
  have HS := Lib.hid hs
  have HV := Lib.hid hv
  clear hra hal hs hv
  go_enter Try.func72, Try.ntmps72
  go_wp2_with fail
  go_loopw [5] (fun i wr => ∃ k : Nat, k ≤ l.length ∧ i = .int .i64 k ∧ (l.take k).all (fun r => allowsB r m) = true ∧ Ext w wr) (fun i _ => l.length - (intOf i).toNat)
  case atStart => exact ⟨0, by omega, rfl, by simp, Ext.refl _⟩
  case round =>
    obtain ⟨k, hk, rfl, ha, hb⟩ := hrel
    have HA := Lib.hid ha
    clear ha
    by_cases hlt : k < l.length
    · obtain ⟨x, hx⟩ := some_of_lt hlt
      obtain ⟨b, off, cs, rfl, hn, ⟨vr, vw, vc, rfl, hr⟩, hc⟩ := (HS.out.ext RRule.stable hb).at hx
      have HR := fun w' (h : Ext wr w') => Allows_c vr vw vc x m w' (hr.ext h) (HV.out x (List.mem_of_getElem? hx)) hd hd2
      have k0 := hc 0 _ rfl
      have k1 := hc 1 _ rfl
      have k2 := hc 2 _ rfl
      have k3 := hc 3 _ rfl
      have k4 := hc 4 _ rfl
      have k5 := hc 5 _ rfl
      have k6 := hc 6 _ rfl
      have k7 := hc 7 _ rfl
      have k8 := hc 8 _ rfl
      have k9 := hc 9 _ rfl
      have k10 := hc 10 _ rfl
      simp only [Nat.add_zero] at k0
      have HX := Lib.hid hx
      obtain ⟨z, hz⟩ : ∃ z, allowsB x m = z := ⟨_, rfl⟩
      rw [hz] at HR
      have HZ := Lib.hid hz
      replace HR := Lib.hid HR
      clear hc hn hx hz hr
      cases z
      · obtain rfl : ra = false := (HRA.out).symm.trans (all_no HX.out HZ.out)
        go_wp2_with (go_at_call 59; refine (HR.out _ (by (repeat' (first | exact Ext.refl _ | assumption | refine Ext.alloc ?_ _ | refine Ext.drew ?_ | refine Ext.drewN ?_ _ | refine Ext.set ?_ (by first | exact Nat.le_refl _ | exact le1 _ | exact le2 _ | exact le3 _ | exact le4 _ | exact le5 _ | exact le6 _) _ | refine Ext.trans ?_ (by assumption))))).mono ?_; rintro e w2 ⟨rfl, hb2⟩)
        go_ret
        exact ⟨by simp, by (repeat' (first | exact Ext.refl _ | assumption | refine Ext.alloc ?_ _ | refine Ext.drew ?_ | refine Ext.drewN ?_ _ | refine Ext.set ?_ (by first | exact Nat.le_refl _ | exact le1 _ | exact le2 _ | exact le3 _ | exact le4 _ | exact le5 _ | exact le6 _) _ | refine Ext.trans ?_ (by assumption)))⟩
      · go_wp2_with (go_at_call 59; refine (HR.out _ (by (repeat' (first | exact Ext.refl _ | assumption | refine Ext.alloc ?_ _ | refine Ext.drew ?_ | refine Ext.drewN ?_ _ | refine Ext.set ?_ (by first | exact Nat.le_refl _ | exact le1 _ | exact le2 _ | exact le3 _ | exact le4 _ | exact le5 _ | exact le6 _) _ | refine Ext.trans ?_ (by assumption))))).mono ?_; rintro e w2 ⟨rfl, hb2⟩)
        go_roundw
        case rel => exact ⟨k + 1, by omega, by go_num, all_take HX.out HA.out HZ.out, by (repeat' (first | exact Ext.refl _ | assumption | refine Ext.alloc ?_ _ | refine Ext.drew ?_ | refine Ext.drewN ?_ _ | refine Ext.set ?_ (by first | exact Nat.le_refl _ | exact le1 _ | exact le2 _ | exact le3 _ | exact le4 _ | exact le5 _ | exact le6 _) _ | refine Ext.trans ?_ (by assumption)))⟩
        case measure => simp [intOf]; omega
    · have hra : ra = true := HRA.out.symm.trans (all_end HA.out (by omega))
      subst hra
      go_wp2
      go_ret
      exact ⟨by simp, hb⟩
end Go.Proofs.Ytaomlmkcifpfkaa
/- Contract: rules.allowed, by the library's search with a function value. -/
namespace Go.Proofs.Ytaomlmkcifpfkaa
open Go.RowKit

set_option maxRecDepth 100000 in
set_option maxHeartbeats 1600000 in
theorem allowed1_c (m : Int) (B : Nat) (vr vw vc : Value) (r : PRule) (w : World) (hs : RSls w vr vw vc r) (hv : ruleB r = true) (hd : 0 ≤ m) (hd2 : m ≤ 9223372036854775807) (hc : w.cell? ⟨B, 0, none⟩ = some (.int .i64 m)) :
    Calls Try.prog 98 #[.agg #[.string r.name, vr, vw, .int .i64 r.h0, .int .i64 r.h1, .int .i64 r.days, .int .i64 r.s0, .int .i64 r.s1, .bool r.forbid, vc, .int .i64 r.cost], .pointer (some ⟨B, 0, none⟩)] w fun e w' => e = .returned (.bool (!allowsB r m)) ∧ Ext w w' := by
  have C2 := fun w' (hE : Ext w w') => allows_c vr vw vc r m w' (hs.ext hE) hv hd hd2
  have hB := lt_of_cell hc
  obtain ⟨hr, hw, hcc⟩ := hs
  obtain ⟨Ar, cr, rfl, lr, lr2⟩ := hr.shape
  obtain ⟨Aw, cw, rfl, lw, lw2⟩ := hw.shape
  obtain ⟨Ac, cc, rfl, lc, lc2⟩ := hcc.shape
  generalize allowsB r m = q at *
  clear hr hw hcc hv
  replace C2 := Lib.hid C2
  go_enter Try.func98, Try.ntmps98
  go_wp2_with (go_at_call 99; refine (C2.out _ (by (repeat' (first | exact Ext.refl _ | assumption | refine Ext.alloc ?_ _ | refine Ext.drew ?_ | refine Ext.drewN ?_ _ | refine Ext.set ?_ (by first | exact Nat.le_refl _ | exact le1 _ | exact le2 _ | exact le3 _ | exact le4 _ | exact le5 _ | exact le6 _) _ | refine Ext.trans ?_ (by assumption))))).mono ?_; rintro e w1 ⟨rfl, hb1⟩)
  go_ret
  exact ⟨rfl, by (repeat' (first | exact Ext.refl _ | assumption | refine Ext.alloc ?_ _ | refine Ext.drew ?_ | refine Ext.drewN ?_ _ | refine Ext.set ?_ (by first | exact Nat.le_refl _ | exact le1 _ | exact le2 _ | exact le3 _ | exact le4 _ | exact le5 _ | exact le6 _) _ | refine Ext.trans ?_ (by assumption)))⟩

set_option maxHeartbeats 800000 in
theorem notAllowed_c (m : Int) (B : Nat) (v : Value) (l : List PRule) (w : World) (hs : Sl 11 RRule w v l) (hv : ∀ r ∈ l, ruleB r = true) (hd : 0 ≤ m) (hd2 : m ≤ 9223372036854775807) (hc : w.cell? ⟨B, 0, none⟩ = some (.int .i64 m)) :
    Calls Try.prog 82 #[v, .func (.func 98) #[] #[.pointer (some ⟨B, 0, none⟩)]] w fun e w' => e = .returned (.bool (l.any fun r => !allowsB r m)) ∧ Ext w w' := by
  refine ContainsFuncRule_c RRule.stable 98 _ (enters_of Try.func98 (by kernel_rfl) rfl) _ v l w hs ?_
  rintro W cs x he ⟨vr, vw, vc, rfl, hx⟩ hm
  exact allowed1_c m B vr vw vc x W hx (hv x hm) hd hd2 (he.cell hc)

theorem allowedB_any (l : List PRule) (m : Int) : (!(l.any fun r => !allowsB r m)) = allowedB l m := by
  unfold allowedB
  rw [List.not_any_eq_all_not]
  simp

set_option maxRecDepth 100000 in
set_option maxHeartbeats 1600000 in
theorem allowed_c (D : Nat) (v : Value) (l : List PRule) (m : Int) (w : World) (hs : Sl 11 RRule w v l) (hv : ∀ r ∈ l, ruleB r = true) (hd : 0 ≤ m) (hd2 : m ≤ 9223372036854775807) (hc : w.cell? ⟨D, 0, none⟩ = some v) :
    Calls Try.prog 69 #[.pointer (some ⟨D, 0, none⟩), .int .i64 m] w fun e w' => e = .returned (.bool (allowedB l m)) ∧ Ext w w' := by
  rw [← allowedB_any]
  have C2 := fun w' (hE : Ext w w') (hcc : w'.cell? ⟨w.heap.size, 0, none⟩ = some (.int .i64 m)) => notAllowed_c m w.heap.size v l w' (hs.ext RRule.stable hE) hv hd hd2 hcc
  have hB := lt_of_cell hc
  obtain ⟨A, cap, rfl, hl, hl2⟩ := hs.shape
  generalize (l.any fun r => !allowsB r m) = q at *
  clear hs hv
  replace C2 := Lib.hid C2
  go_enter Try.func69, Try.ntmps69
  go_wp2_with (go_at_call 82; refine (C2.out _ (by (repeat' (first | exact Ext.refl _ | assumption | refine Ext.alloc ?_ _ | refine Ext.drew ?_ | refine Ext.drewN ?_ _ | refine Ext.set ?_ (by first | exact Nat.le_refl _ | exact le1 _ | exact le2 _ | exact le3 _ | exact le4 _ | exact le5 _ | exact le6 _) _ | refine Ext.trans ?_ (by assumption)))) (by go_simp)).mono ?_; rintro e w1 ⟨rfl, hb1⟩)
  go_ret
  exact ⟨rfl, by (repeat' (first | exact Ext.refl _ | assumption | refine Ext.alloc ?_ _ | refine Ext.drew ?_ | refine Ext.drewN ?_ _ | refine Ext.set ?_ (by first | exact Nat.le_refl _ | exact le1 _ | exact le2 _ | exact le3 _ | exact le4 _ | exact le5 _ | exact le6 _) _ | refine Ext.trans ?_ (by assumption)))⟩
end Go.Proofs.Ytaomlmkcifpfkaa
/- Contracts: 'allowed' at a passage's rules that lie anywhere in a row. -/
namespace Go.Proofs.Ytaomlmkcifpfkaa
open Go.RowKit Go.Maps
attribute [local go_sem ↓] Go.wp_at_zero Go.wp_at_succ

set_option maxRecDepth 100000 in
set_option maxHeartbeats 1600000 in
theorem allowedAt_c (D o : Nat) (v : Value) (l : List PRule) (m : Int) (w : World) (hs : Sl 11 RRule w v l) (hv : ∀ r ∈ l, ruleB r = true) (hd : 0 ≤ m) (hd2 : m ≤ 9223372036854775807) (hc : w.cell? ⟨D, o, none⟩ = some v) :
    Calls Try.prog 69 #[.pointer (some ⟨D, o, none⟩), .int .i64 m] w fun e w' => e = .returned (.bool (allowedB l m)) ∧ Ext w w' := by
  rw [← allowedB_any]
  have C2 := fun w' (hE : Ext w w') (hcc : w'.cell? ⟨w.heap.size, 0, none⟩ = some (.int .i64 m)) => notAllowed_c m w.heap.size v l w' (hs.ext RRule.stable hE) hv hd hd2 hcc
  have hB := lt_of_cell hc
  obtain ⟨A, cap, rfl, hl, hl2⟩ := hs.shape
  generalize (l.any fun r => !allowsB r m) = q at *
  clear hs hv
  replace C2 := Lib.hid C2
  go_enter Try.func69, Try.ntmps69
  go_wp2_with (go_at_call 82; refine (C2.out _ (by (repeat' (first | exact Ext.refl _ | assumption | refine Ext.alloc ?_ _ | refine Ext.drew ?_ | refine Ext.drewN ?_ _ | refine Ext.set ?_ (by first | exact Nat.le_refl _ | exact le1 _ | exact le2 _ | exact le3 _ | exact le4 _ | exact le5 _ | exact le6 _) _ | refine Ext.trans ?_ (by assumption)))) (by go_simp)).mono ?_; rintro e w1 ⟨rfl, hb1⟩)
  go_ret
  exact ⟨rfl, by (repeat' (first | exact Ext.refl _ | assumption | refine Ext.alloc ?_ _ | refine Ext.drew ?_ | refine Ext.drewN ?_ _ | refine Ext.set ?_ (by first | exact Nat.le_refl _ | exact le1 _ | exact le2 _ | exact le3 _ | exact le4 _ | exact le5 _ | exact le6 _) _ | refine Ext.trans ?_ (by assumption)))⟩
end Go.Proofs.Ytaomlmkcifpfkaa

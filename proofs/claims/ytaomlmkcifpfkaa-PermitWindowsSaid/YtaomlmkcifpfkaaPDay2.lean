/- Contract: Day, the definition of which days a rule allows. -/
import Derived.Test.YtaomlmkcifpfkaaPDay
namespace Go.Proofs.Ytaomlmkcifpfkaa
open Go.RowKit

theorem bit_div (x : Int) (k : Nat) (h : 0 ≤ x) : (x / 2 ^ k).tmod 2 = if bitB x k = true then 1 else 0 := by
  obtain ⟨n, rfl⟩ := Int.eq_ofNat_of_zero_le h
  have e2 : ((2 : Int) ^ k) = ((2 ^ k : Nat) : Int) := by simp
  unfold bitB
  rw [e2, ← Int.natCast_ediv, Int.toNat_natCast, Nat.testBit_eq_decide_div_mod_eq]
  generalize n / 2 ^ k = z
  rw [Int.tmod_eq_emod_of_nonneg (by omega)]
  simp only [decide_eq_true_eq]
  split <;> omega

set_option maxRecDepth 100000 in
set_option maxHeartbeats 1600000 in
theorem Day_c (vr vw vc : Value) (r : PRule) (d : Int) (w : World) (hs : RSls w vr vw vc r) (hv : ruleB r = true) (hd : 0 ≤ d) :
    Calls Try.prog 91 #[.agg #[.string r.name, vr, vw, .int .i64 r.h0, .int .i64 r.h1, .int .i64 r.days, .int .i64 r.s0, .int .i64 r.s1, .bool r.forbid, vc, .int .i64 r.cost], .int .i64 d] w fun e w' => e = .returned (.bool (dayB r d)) ∧ Ext w w' := by
  have hrv := ruleB_parts hv
  have C1 := fun w' => Between_c (d % 365) r.s0 r.s1 w'
  obtain ⟨name, roads, whens, h0, h1, days, s0, s1, fb, counts, cost⟩ := r
  obtain ⟨hr, hw, hc⟩ := hs
  simp only at *
  obtain ⟨Ar, cr, rfl, lr, lr2⟩ := hr.shape
  obtain ⟨Aw, cw, rfl, lw, lw2⟩ := hw.shape
  obtain ⟨Ac, cc, rfl, lc, lc2⟩ := hc.shape
  unfold dayB
  simp only
  have d1 := Int.emod_nonneg d (show (7 : Int) ≠ 0 by omega)
  have d2 := Int.emod_lt_of_pos d (show (0 : Int) < 7 by omega)
  have d3 := Int.emod_nonneg d (show (365 : Int) ≠ 0 by omega)
  have d4 := Int.emod_lt_of_pos d (show (0 : Int) < 365 by omega)
  have y1 := hrv.1.1
  have y2 := hrv.1.2
  generalize liesB (d % 365) s0 s1 = q at *
  have t7 : d.tmod 7 = d % 7 := Int.tmod_eq_emod_of_nonneg hd
  have t365 : d.tmod 365 = d % 365 := Int.tmod_eq_emod_of_nonneg hd
  generalize d % 365 = u at *
  generalize d % 7 = m at *
  clear hr hw hc hv hrv
  replace C1 := Lib.hid C1
  obtain ⟨W0, hW0⟩ : ∃ W0, w.alloc (.cells #[.string name, .slice Ar roads.length cr, .slice Aw whens.length cw, .int .i64 h0, .int .i64 h1, .int .i64 days, .int .i64 s0, .int .i64 s1, .bool fb, .slice Ac counts.length cc, .int .i64 cost] 58) = W0 := ⟨_, rfl⟩
  have g5 : W0.cell? ⟨w.heap.size, 5, none⟩ = some (.int .i64 days) := by rw [← hW0]; exact World.cell?_alloc_new _ _ _ _
  have g6 : W0.cell? ⟨w.heap.size, 6, none⟩ = some (.int .i64 s0) := by rw [← hW0]; exact World.cell?_alloc_new _ _ _ _
  have g7 : W0.cell? ⟨w.heap.size, 7, none⟩ = some (.int .i64 s1) := by rw [← hW0]; exact World.cell?_alloc_new _ _ _ _
  have g8 : W0.cell? ⟨w.heap.size, 8, none⟩ = some (.bool fb) := by rw [← hW0]; exact World.cell?_alloc_new _ _ _ _
  have hE0 : Ext w W0 := by rw [← hW0]; (repeat' (first | exact Ext.refl _ | assumption | refine Ext.alloc ?_ _ | refine Ext.drew ?_ | refine Ext.drewN ?_ _ | refine Ext.set ?_ (by first | exact Nat.le_refl _ | exact le1 _ | exact le2 _ | exact le3 _ | exact le4 _ | exact le5 _ | exact le6 _) _ | refine Ext.trans ?_ (by assumption)))
  replace hW0 := Lib.hid hW0
  cases fb
  · have A := bit_div days m.toNat y1
    generalize hpp : (2 : Int) ^ m.toNat = p at *
    have U := Int.emod_eq_of_lt d1 (show m < 18446744073709551616 by omega)
    generalize hz : days / p = z at *
    generalize hb : bitB days m.toNat = b at *
    clear hb
    cases b
    · simp only [Bool.false_eq_true, if_false] at A
      go_enter Try.func91, Try.ntmps91
      go_wp2_with fail
      go_ret
      exact ⟨rfl, by (repeat' (first | exact Ext.refl _ | assumption | refine Ext.alloc ?_ _ | refine Ext.drew ?_ | refine Ext.drewN ?_ _ | refine Ext.set ?_ (by first | exact Nat.le_refl _ | exact le1 _ | exact le2 _ | exact le3 _ | exact le4 _ | exact le5 _ | exact le6 _) _ | refine Ext.trans ?_ (by assumption)))⟩
    · simp only [if_true] at A
      go_enter Try.func91, Try.ntmps91
      go_wp2_with (go_at_call 68; refine (C1.out _).mono ?_; rintro e w1 ⟨rfl, hb1⟩)
      go_ret
      exact ⟨rfl, by (repeat' (first | exact Ext.refl _ | assumption | refine Ext.alloc ?_ _ | refine Ext.drew ?_ | refine Ext.drewN ?_ _ | refine Ext.set ?_ (by first | exact Nat.le_refl _ | exact le1 _ | exact le2 _ | exact le3 _ | exact le4 _ | exact le5 _ | exact le6 _) _ | refine Ext.trans ?_ (by assumption)))⟩
  · go_enter Try.func91, Try.ntmps91
    go_wp2_with fail
    go_ret
    exact ⟨rfl, by (repeat' (first | exact Ext.refl _ | assumption | refine Ext.alloc ?_ _ | refine Ext.drew ?_ | refine Ext.drewN ?_ _ | refine Ext.set ?_ (by first | exact Nat.le_refl _ | exact le1 _ | exact le2 _ | exact le3 _ | exact le4 _ | exact le5 _ | exact le6 _) _ | refine Ext.trans ?_ (by assumption)))⟩
/-- a rule allows a minute -/
def allowsB (r : PRule) (m : Int) : Bool := dayB r (m / 1440) && liesB (m % 1440) r.h0 r.h1
set_option maxRecDepth 100000 in
set_option maxHeartbeats 1600000 in
theorem allows_c (vr vw vc : Value) (r : PRule) (m : Int) (w : World) (hs : RSls w vr vw vc r) (hv : ruleB r = true) (hd : 0 ≤ m) (hd2 : m ≤ 9223372036854775807) :
    Calls Try.prog 99 #[.agg #[.string r.name, vr, vw, .int .i64 r.h0, .int .i64 r.h1, .int .i64 r.days, .int .i64 r.s0, .int .i64 r.s1, .bool r.forbid, vc, .int .i64 r.cost], .int .i64 m] w fun e w' => e = .returned (.bool (allowsB r m)) ∧ Ext w w' := by
  have hrv := ruleB_parts hv
  have C1 := fun w' => lies_c (m % 1440) r.h0 r.h1 w' (by omega) (by omega)
  have C2 := fun w' (hE : Ext w w') => day_c vr vw vc r (m / 1440) w' (hs.ext hE) hv (Int.ediv_nonneg hd (by omega))
  obtain ⟨hr, hw, hc⟩ := hs
  obtain ⟨Ar, cr, rfl, lr, lr2⟩ := hr.shape
  obtain ⟨Aw, cw, rfl, lw, lw2⟩ := hw.shape
  obtain ⟨Ac, cc, rfl, lc, lc2⟩ := hc.shape
  unfold allowsB
  have t1 : m.tdiv 1440 = m / 1440 := Int.tdiv_eq_ediv_of_nonneg hd
  have t2 : m.tmod 1440 = m % 1440 := Int.tmod_eq_emod_of_nonneg hd
  have d1 := Int.ediv_nonneg hd (show (0 : Int) ≤ 1440 by omega)
  have d2 : m / 1440 ≤ 9223372036854775807 := by omega
  have d3 := Int.emod_nonneg m (show (1440 : Int) ≠ 0 by omega)
  have d4 := Int.emod_lt_of_pos m (show (0 : Int) < 1440 by omega)
  generalize dayB r (m / 1440) = q1 at *
  generalize liesB (m % 1440) r.h0 r.h1 = q2 at *
  generalize m % 1440 = u at *
  generalize m / 1440 = v at *
  clear hr hw hc hv hrv
  replace C1 := Lib.hid C1
  replace C2 := Lib.hid C2
  have D3 : (w.alloc (.cells #[.string r.name, .slice Ar r.roads.length cr, .slice Aw r.whens.length cw, .int .i64 r.h0, .int .i64 r.h1, .int .i64 r.days, .int .i64 r.s0, .int .i64 r.s1, .bool r.forbid, .slice Ac r.counts.length cc, .int .i64 r.cost] 58)).cell? ⟨w.heap.size, 3, none⟩ = some (.int .i64 r.h0) := World.cell?_alloc_new _ _ _ _
  have D4 : (w.alloc (.cells #[.string r.name, .slice Ar r.roads.length cr, .slice Aw r.whens.length cw, .int .i64 r.h0, .int .i64 r.h1, .int .i64 r.days, .int .i64 r.s0, .int .i64 r.s1, .bool r.forbid, .slice Ac r.counts.length cc, .int .i64 r.cost] 58)).cell? ⟨w.heap.size, 4, none⟩ = some (.int .i64 r.h1) := World.cell?_alloc_new _ _ _ _
  replace D3 := Lib.hid D3
  replace D4 := Lib.hid D4
  cases q1
  · go_enter Try.func99, Try.ntmps99
    go_wp2_with (go_at_call 90; refine (C2.out _ (by (repeat' (first | exact Ext.refl _ | assumption | refine Ext.alloc ?_ _ | refine Ext.drew ?_ | refine Ext.drewN ?_ _ | refine Ext.set ?_ (by first | exact Nat.le_refl _ | exact le1 _ | exact le2 _ | exact le3 _ | exact le4 _ | exact le5 _ | exact le6 _) _ | refine Ext.trans ?_ (by assumption))))).mono ?_; rintro e w1 ⟨rfl, hb1⟩)
    go_ret
    exact ⟨rfl, by (repeat' (first | exact Ext.refl _ | assumption | refine Ext.alloc ?_ _ | refine Ext.drew ?_ | refine Ext.drewN ?_ _ | refine Ext.set ?_ (by first | exact Nat.le_refl _ | exact le1 _ | exact le2 _ | exact le3 _ | exact le4 _ | exact le5 _ | exact le6 _) _ | refine Ext.trans ?_ (by assumption)))⟩
  · go_enter Try.func99, Try.ntmps99
    go_wp2_with (first | (go_at_call 90; refine (C2.out _ (by (repeat' (first | exact Ext.refl _ | assumption | refine Ext.alloc ?_ _ | refine Ext.drew ?_ | refine Ext.drewN ?_ _ | refine Ext.set ?_ (by first | exact Nat.le_refl _ | exact le1 _ | exact le2 _ | exact le3 _ | exact le4 _ | exact le5 _ | exact le6 _) _ | refine Ext.trans ?_ (by assumption))))).mono ?_; rintro e w1 ⟨rfl, hb1⟩; have g3 := Ext.cell hb1 D3.out; have g4 := Ext.cell hb1 D4.out) | (go_at_call 110; refine (C1.out _).mono ?_; rintro e w2 ⟨rfl, hb2⟩))
    go_ret
    exact ⟨rfl, by (repeat' (first | exact Ext.refl _ | assumption | refine Ext.alloc ?_ _ | refine Ext.drew ?_ | refine Ext.drewN ?_ _ | refine Ext.set ?_ (by first | exact Nat.le_refl _ | exact le1 _ | exact le2 _ | exact le3 _ | exact le4 _ | exact le5 _ | exact le6 _) _ | refine Ext.trans ?_ (by assumption)))⟩
set_option maxRecDepth 100000 in
set_option maxHeartbeats 1600000 in
theorem Allows_c (vr vw vc : Value) (r : PRule) (m : Int) (w : World) (hs : RSls w vr vw vc r) (hv : ruleB r = true) (hd : 0 ≤ m) (hd2 : m ≤ 9223372036854775807) :
    Calls Try.prog 59 #[.agg #[.string r.name, vr, vw, .int .i64 r.h0, .int .i64 r.h1, .int .i64 r.days, .int .i64 r.s0, .int .i64 r.s1, .bool r.forbid, vc, .int .i64 r.cost], .int .i64 m] w fun e w' => e = .returned (.bool (allowsB r m)) ∧ Ext w w' := by
  have C1 := fun w' => Between_c (m % 1440) r.h0 r.h1 w'
  have C2 := fun w' (hE : Ext w w') => Day_c vr vw vc r (m / 1440) w' (hs.ext hE) hv (Int.ediv_nonneg hd (by omega))
  obtain ⟨hr, hw, hc⟩ := hs
  obtain ⟨Ar, cr, rfl, lr, lr2⟩ := hr.shape
  obtain ⟨Aw, cw, rfl, lw, lw2⟩ := hw.shape
  obtain ⟨Ac, cc, rfl, lc, lc2⟩ := hc.shape
  unfold allowsB
  have t1 : m.tdiv 1440 = m / 1440 := Int.tdiv_eq_ediv_of_nonneg hd
  have t2 : m.tmod 1440 = m % 1440 := Int.tmod_eq_emod_of_nonneg hd
  have d1 := Int.ediv_nonneg hd (show (0 : Int) ≤ 1440 by omega)
  have d2 : m / 1440 ≤ 9223372036854775807 := by omega
  have d3 := Int.emod_nonneg m (show (1440 : Int) ≠ 0 by omega)
  have d4 := Int.emod_lt_of_pos m (show (0 : Int) < 1440 by omega)
  generalize dayB r (m / 1440) = q1 at *
  generalize liesB (m % 1440) r.h0 r.h1 = q2 at *
  generalize m % 1440 = u at *
  generalize m / 1440 = v at *
  clear hr hw hc hv
  replace C1 := Lib.hid C1
  replace C2 := Lib.hid C2
  have D3 : (w.alloc (.cells #[.string r.name, .slice Ar r.roads.length cr, .slice Aw r.whens.length cw, .int .i64 r.h0, .int .i64 r.h1, .int .i64 r.days, .int .i64 r.s0, .int .i64 r.s1, .bool r.forbid, .slice Ac r.counts.length cc, .int .i64 r.cost] 58)).cell? ⟨w.heap.size, 3, none⟩ = some (.int .i64 r.h0) := World.cell?_alloc_new _ _ _ _
  have D4 : (w.alloc (.cells #[.string r.name, .slice Ar r.roads.length cr, .slice Aw r.whens.length cw, .int .i64 r.h0, .int .i64 r.h1, .int .i64 r.days, .int .i64 r.s0, .int .i64 r.s1, .bool r.forbid, .slice Ac r.counts.length cc, .int .i64 r.cost] 58)).cell? ⟨w.heap.size, 4, none⟩ = some (.int .i64 r.h1) := World.cell?_alloc_new _ _ _ _
  replace D3 := Lib.hid D3
  replace D4 := Lib.hid D4
  cases q1
  · go_enter Try.func59, Try.ntmps59
    go_wp2_with (go_at_call 91; refine (C2.out _ (by (repeat' (first | exact Ext.refl _ | assumption | refine Ext.alloc ?_ _ | refine Ext.drew ?_ | refine Ext.drewN ?_ _ | refine Ext.set ?_ (by first | exact Nat.le_refl _ | exact le1 _ | exact le2 _ | exact le3 _ | exact le4 _ | exact le5 _ | exact le6 _) _ | refine Ext.trans ?_ (by assumption))))).mono ?_; rintro e w1 ⟨rfl, hb1⟩)
    go_ret
    exact ⟨rfl, by (repeat' (first | exact Ext.refl _ | assumption | refine Ext.alloc ?_ _ | refine Ext.drew ?_ | refine Ext.drewN ?_ _ | refine Ext.set ?_ (by first | exact Nat.le_refl _ | exact le1 _ | exact le2 _ | exact le3 _ | exact le4 _ | exact le5 _ | exact le6 _) _ | refine Ext.trans ?_ (by assumption)))⟩
  · go_enter Try.func59, Try.ntmps59
    go_wp2_with (first | (go_at_call 91; refine (C2.out _ (by (repeat' (first | exact Ext.refl _ | assumption | refine Ext.alloc ?_ _ | refine Ext.drew ?_ | refine Ext.drewN ?_ _ | refine Ext.set ?_ (by first | exact Nat.le_refl _ | exact le1 _ | exact le2 _ | exact le3 _ | exact le4 _ | exact le5 _ | exact le6 _) _ | refine Ext.trans ?_ (by assumption))))).mono ?_; rintro e w1 ⟨rfl, hb1⟩; have g3 := Ext.cell hb1 D3.out; have g4 := Ext.cell hb1 D4.out) | (go_at_call 68; refine (C1.out _).mono ?_; rintro e w2 ⟨rfl, hb2⟩))
    go_ret
    exact ⟨rfl, by (repeat' (first | exact Ext.refl _ | assumption | refine Ext.alloc ?_ _ | refine Ext.drew ?_ | refine Ext.drewN ?_ _ | refine Ext.set ?_ (by first | exact Nat.le_refl _ | exact le1 _ | exact le2 _ | exact le3 _ | exact le4 _ | exact le5 _ | exact le6 _) _ | refine Ext.trans ?_ (by assumption)))⟩
theorem validMinute_c (m : Int) (w : World) :
    Calls Try.prog 57 #[.int .i64 m] w fun e w' => e = .returned (.bool (inB m 0 1099511627776)) ∧ w' = w := by
  have B := fun w => between_c m 0 1099511627776 w
  generalize inB m 0 1099511627776 = q at *
  replace B := Lib.hid B
  go_enter Try.func57, Try.ntmps57
  go_wp2_with (go_at_call 52; refine (B.out _).mono ?_; rintro e w1 ⟨rfl, rfl⟩)
  go_ret
  exact ⟨rfl, rfl⟩
end Go.Proofs.Ytaomlmkcifpfkaa

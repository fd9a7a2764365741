/- The data of permits, how they lie in memory, and when they are valid. -/
import Derived.Test.YtaomlmkcifpfkaaPNames
import Derived.Test.YtaomlmkcifpfkaaPIdx
namespace Go.Proofs.Ytaomlmkcifpfkaa
open Go.RowKit

structure PCount where
  thing : ByteArray
  least : Int
  most : Int
structure PWhen where
  size : Int
  least : Int
structure PRule where
  name : ByteArray
  roads : List ByteArray
  whens : List PWhen
  h0 : Int
  h1 : Int
  days : Int
  s0 : Int
  s1 : Int
  forbid : Bool
  counts : List PCount
  cost : Int
structure PAuth where
  name : ByteArray
  fee : Int
  notice : Int
  rules : List PRule
structure PPass where
  auth : ByteArray
  road : ByteArray
  minutes : Int

def RCount (_ : World) (cs : List Value) (c : PCount) : Prop := cs = [.string c.thing, .int .i64 c.least, .int .i64 c.most]
def RWhen (_ : World) (cs : List Value) (c : PWhen) : Prop := cs = [.int .i64 c.size, .int .i64 c.least]
/-- the slices of a rule -/
def RSls (w : World) (vr vw vc : Value) (r : PRule) : Prop := Sl 1 RStr w vr r.roads ∧ Sl 2 RWhen w vw r.whens ∧ Sl 3 RCount w vc r.counts
def ruleCs (vr vw vc : Value) (r : PRule) : List Value := [.string r.name, vr, vw, .int .i64 r.h0, .int .i64 r.h1, .int .i64 r.days, .int .i64 r.s0, .int .i64 r.s1, .bool r.forbid, vc, .int .i64 r.cost]
def RRule (w : World) (cs : List Value) (r : PRule) : Prop := ∃ vr vw vc, cs = ruleCs vr vw vc r ∧ RSls w vr vw vc r
def RAuth (w : World) (cs : List Value) (a : PAuth) : Prop := ∃ v, cs = [.string a.name, .int .i64 a.fee, .int .i64 a.notice, v] ∧ Sl 11 RRule w v a.rules
def RPass (_ : World) (cs : List Value) (p : PPass) : Prop := cs = [.string p.auth, .string p.road, .int .i64 p.minutes]
theorem RCount.stable : Stable RCount := fun _ _ _ _ _ h => h
theorem RWhen.stable : Stable RWhen := fun _ _ _ _ _ h => h
theorem RPass.stable : Stable RPass := fun _ _ _ _ _ h => h
theorem RSls.ext {w w' : World} {vr vw vc : Value} {r : PRule} (h : RSls w vr vw vc r) (he : Ext w w') : RSls w' vr vw vc r :=
  ⟨h.1.ext RStr.stable he, h.2.1.ext RWhen.stable he, h.2.2.ext RCount.stable he⟩
theorem RRule.stable : Stable RRule := fun _ _ _ _ he ⟨vr, vw, vc, hcs, h⟩ => ⟨vr, vw, vc, hcs, h.ext he⟩
theorem RAuth.stable : Stable RAuth := fun _ _ _ _ he ⟨v, hcs, h⟩ => ⟨v, hcs, h.ext RRule.stable he⟩

def countB (c : PCount) : Bool := nameB c.thing && decide (0 ≤ c.least ∧ c.least ≤ c.most ∧ c.most ≤ 1000)
def whenB (c : PWhen) : Bool := decide (0 ≤ c.size ∧ c.size ≤ 5) && inB c.least 0 1073741824
def headB (r : PRule) : Bool := nameB r.name && decide (r.roads.length ≤ 16 ∧ r.whens.length ≤ 6 ∧ r.counts.length ≤ 6 ∧ 0 ≤ r.days ∧ r.days ≤ 127) && inB r.cost 0 1073741824
def hoursB (r : PRule) : Bool := inB r.h0 0 1440 && inB r.s0 0 365 && inB r.h1 0 1440 && inB r.s1 0 365
def ruleB (r : PRule) : Bool := headB r && hoursB r && r.roads.all nameB && r.whens.all whenB && r.counts.all countB

set_option maxHeartbeats 400000 in
theorem between_c (x lo hi : Int) (w : World) :
    Calls Try.prog 52 #[.int .i64 x, .int .i64 lo, .int .i64 hi] w fun e w' => e = .returned (.bool (inB x lo hi)) ∧ w = w' := by
  by_cases h1 : lo ≤ x <;> by_cases h2 : x ≤ hi
  all_goals
    go_enter Try.func52, Try.ntmps52
    go_wp2
    go_ret
    exact ⟨ret_bool (by simp [inB]; omega), rfl⟩
set_option maxHeartbeats 400000 in
theorem within_c (x lo hi : Int) (w : World) :
    Calls Try.prog 54 #[.int .i64 x, .int .i64 lo, .int .i64 hi] w fun e w' => e = .returned (.bool (inB x lo hi)) ∧ w = w' := by
  by_cases h1 : lo ≤ x <;> by_cases h2 : x ≤ hi
  all_goals
    go_enter Try.func54, Try.ntmps54
    go_wp2
    go_ret
    exact ⟨ret_bool (by simp [inB]; omega), rfl⟩

set_option maxHeartbeats 800000 in
theorem validCount_c (c : PCount) (w : World) :
    Calls Try.prog 108 #[.agg #[.string c.thing, .int .i64 c.least, .int .i64 c.most]] w fun e w' => e = .returned (.bool (countB c)) ∧ Ext w w' := by
  obtain ⟨s, a, b⟩ := c
  unfold countB
  have HN := fun w => validName_c s w
  simp only
  generalize nameB s = n at *
  replace HN := Lib.hid HN
  cases n
  · go_enter Try.func108, Try.ntmps108
    go_wp2_with (go_at_call 53; refine (HN.out _).mono ?_; rintro e w1 ⟨rfl, hb1⟩; obtain ⟨hc, hf⟩ := bcell hb1)
    go_ret
    exact ⟨by simp, by (repeat' (first | exact Ext.refl _ | assumption | refine Ext.alloc ?_ _ | refine Ext.drew ?_ | refine Ext.drewN ?_ _ | refine Ext.set ?_ (by first | exact Nat.le_refl _ | exact le1 _ | exact le2 _ | exact le3 _ | exact le4 _ | exact le5 _ | exact le6 _) _ | refine Ext.trans ?_ (by assumption)))⟩
  by_cases h1 : a < 0; rotate_left; by_cases h2 : b < a; rotate_left; by_cases h3 : 1000 < b; rotate_left
  all_goals
    go_enter Try.func108, Try.ntmps108
    go_wp2_with (go_at_call 53; refine (HN.out _).mono ?_; rintro e w1 ⟨rfl, hb1⟩; obtain ⟨hc, hf⟩ := bcell hb1)
    go_ret
    exact ⟨ret_bool (by (first | rfl | (simp; done) | (simp; omega) | (rw [Bool.eq_iff_iff]; simp; done) | (rw [Bool.eq_iff_iff]; simp; omega))), by (repeat' (first | exact Ext.refl _ | assumption | refine Ext.alloc ?_ _ | refine Ext.drew ?_ | refine Ext.drewN ?_ _ | refine Ext.set ?_ (by first | exact Nat.le_refl _ | exact le1 _ | exact le2 _ | exact le3 _ | exact le4 _ | exact le5 _ | exact le6 _) _ | refine Ext.trans ?_ (by assumption)))⟩
end Go.Proofs.Ytaomlmkcifpfkaa

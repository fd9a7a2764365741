/- Contracts: what a set of rules does (forbid). -/
import Derived.Test.YtaomlmkcifpfkaaPDay4
namespace Go.Proofs.Ytaomlmkcifpfkaa
open Go.RowKit

set_option maxHeartbeats 800000 in
theorem forbid1_c (vr vw vc : Value) (r : PRule) (w : World) (hs : RSls w vr vw vc r) :
    Calls Try.prog 113 #[.agg #[.string r.name, vr, vw, .int .i64 r.h0, .int .i64 r.h1, .int .i64 r.days, .int .i64 r.s0, .int .i64 r.s1, .bool r.forbid, vc, .int .i64 r.cost]] w fun e w' => e = .returned (.bool r.forbid) ∧ Ext w w' := by
  obtain ⟨hr, hw, hcc⟩ := hs
  obtain ⟨Ar, cr, rfl, lr, lr2⟩ := hr.shape
  obtain ⟨Aw, cw, rfl, lw, lw2⟩ := hw.shape
  obtain ⟨Ac, cc, rfl, lc, lc2⟩ := hcc.shape
  generalize r.forbid = q at *
  clear hr hw hcc
  go_enter Try.func113, Try.ntmps113
  go_wp2_with fail
  go_ret
  exact ⟨rfl, by (repeat' (first | exact Ext.refl _ | assumption | refine Ext.alloc ?_ _ | refine Ext.drew ?_ | refine Ext.drewN ?_ _ | refine Ext.set ?_ (by first | exact Nat.le_refl _ | exact le1 _ | exact le2 _ | exact le3 _ | exact le4 _ | exact le5 _ | exact le6 _) _ | refine Ext.trans ?_ (by assumption)))⟩

set_option maxHeartbeats 800000 in
theorem forbids_c (v : Value) (l : List PRule) (w : World) (hs : Sl 11 RRule w v l) :
    Calls Try.prog 112 #[v, .func (.func 113) #[] #[]] w fun e w' => e = .returned (.bool (l.any fun r => r.forbid)) ∧ Ext w w' := by
  refine ContainsFuncSet_c RRule.stable 113 _ (enters_of Try.func113 (by kernel_rfl) rfl) _ v l w hs ?_
  rintro W cs x he ⟨vr, vw, vc, rfl, hx⟩ hm
  exact forbid1_c vr vw vc x W hx

set_option maxHeartbeats 800000 in
theorem forbid_c (v : Value) (l : List PRule) (w : World) (hs : Sl 11 RRule w v l) :
    Calls Try.prog 93 #[v] w fun e w' => e = .returned (.bool (l.any fun r => r.forbid)) ∧ Ext w w' := by
  have C2 := forbids_c v l w hs
  obtain ⟨A, cap, rfl, hl, hl2⟩ := hs.shape
  generalize (l.any fun r => r.forbid) = q at *
  clear hs
  replace C2 := Lib.hid C2
  go_enter Try.func93, Try.ntmps93
  go_wp2_with (go_at_call 112; refine C2.out.mono ?_; rintro e w1 ⟨rfl, hb1⟩)
  go_ret
  exact ⟨rfl, by (repeat' (first | exact Ext.refl _ | assumption | refine Ext.alloc ?_ _ | refine Ext.drew ?_ | refine Ext.drewN ?_ _ | refine Ext.set ?_ (by first | exact Nat.le_refl _ | exact le1 _ | exact le2 _ | exact le3 _ | exact le4 _ | exact le5 _ | exact le6 _) _ | refine Ext.trans ?_ (by assumption)))⟩
set_option maxHeartbeats 800000 in
theorem hours1_c (vr vw vc : Value) (r : PRule) (w : World) (hs : RSls w vr vw vc r) :
    Calls Try.prog 115 #[.agg #[.string r.name, vr, vw, .int .i64 r.h0, .int .i64 r.h1, .int .i64 r.days, .int .i64 r.s0, .int .i64 r.s1, .bool r.forbid, vc, .int .i64 r.cost]] w fun e w' => e = .returned (.agg #[.int .i64 r.h0, .int .i64 r.h1]) ∧ Ext w w' := by
  obtain ⟨hr, hw, hcc⟩ := hs
  obtain ⟨Ar, cr, rfl, lr, lr2⟩ := hr.shape
  obtain ⟨Aw, cw, rfl, lw, lw2⟩ := hw.shape
  obtain ⟨Ac, cc, rfl, lc, lc2⟩ := hcc.shape
  clear hr hw hcc
  go_enter Try.func115, Try.ntmps115
  go_wp2_with fail
  exact bodyPost_ret (v := .agg #[.int .i64 r.h0, .int .i64 r.h1]) (by simp [results, Try.results115, go_sem]) rfl ⟨rfl, by (repeat' (first | exact Ext.refl _ | assumption | refine Ext.alloc ?_ _ | refine Ext.drew ?_ | refine Ext.drewN ?_ _ | refine Ext.set ?_ (by first | exact Nat.le_refl _ | exact le1 _ | exact le2 _ | exact le3 _ | exact le4 _ | exact le5 _ | exact le6 _) _ | refine Ext.trans ?_ (by assumption)))⟩

set_option maxHeartbeats 800000 in
theorem season1_c (vr vw vc : Value) (r : PRule) (w : World) (hs : RSls w vr vw vc r) :
    Calls Try.prog 116 #[.agg #[.string r.name, vr, vw, .int .i64 r.h0, .int .i64 r.h1, .int .i64 r.days, .int .i64 r.s0, .int .i64 r.s1, .bool r.forbid, vc, .int .i64 r.cost]] w fun e w' => e = .returned (.agg #[.int .i64 r.s0, .int .i64 r.s1]) ∧ Ext w w' := by
  obtain ⟨hr, hw, hcc⟩ := hs
  obtain ⟨Ar, cr, rfl, lr, lr2⟩ := hr.shape
  obtain ⟨Aw, cw, rfl, lw, lw2⟩ := hw.shape
  obtain ⟨Ac, cc, rfl, lc, lc2⟩ := hcc.shape
  clear hr hw hcc
  go_enter Try.func116, Try.ntmps116
  go_wp2_with fail
  exact bodyPost_ret (v := .agg #[.int .i64 r.s0, .int .i64 r.s1]) (by simp [results, Try.results116, go_sem]) rfl ⟨rfl, by (repeat' (first | exact Ext.refl _ | assumption | refine Ext.alloc ?_ _ | refine Ext.drew ?_ | refine Ext.drewN ?_ _ | refine Ext.set ?_ (by first | exact Nat.le_refl _ | exact le1 _ | exact le2 _ | exact le3 _ | exact le4 _ | exact le5 _ | exact le6 _) _ | refine Ext.trans ?_ (by assumption)))⟩

end Go.Proofs.Ytaomlmkcifpfkaa

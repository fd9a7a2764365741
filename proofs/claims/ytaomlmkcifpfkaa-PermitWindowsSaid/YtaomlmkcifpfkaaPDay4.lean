/- Contract: rules.allowed, by the library's search with a function value. -/
import Derived.Test.YtaomlmkcifpfkaaPDay3
import Derived.Test.YtaomlmkcifpfkaaPIdx
namespace Go.Proofs.Ytaomlmkcifpfkaa
open Go.RowKit

set_option maxRecDepth 100000 in
set_option maxHeartbeats 1600000 in
theorem allowed1_c (m : Int) (B : Nat) (vr vw vc : Value) (r : PRule) (w : World) (hs : RSls w vr vw vc r) (hv : ruleB r = true) (hd : 0 ≤ m) (hd2 : m ≤ 9223372036854775807) (hc : w.cell? ⟨B, 0, none⟩ = some (.int .i64 m)) :
    Calls Try.prog 98 #[.agg #[.string r.name, vr, vw, .int .i64 r.h0, .int .i64 r.h1, .int .i64 r.days, .int .i64 r.s0, .int .i64 r.s1, .bool r.forbid, vc, .int .i64 r.cost], .pointer (some ⟨B, 0, none⟩)] w fun e w' => e = .returned (.bool (!allowsB r m)) ∧ Ext w w' := by
  have C2 := fun w' (hE : Ext w w') => allows_c vr vw vc r m w' (hs.ext hE) hv hd hd2
  have hB := lt_of_cell hc
  obtain ⟨hr, hw, hcc⟩ := hs
  obtain ⟨Ar, cr, rfl, lr, lr2⟩ := hr.shape
  obtain ⟨Aw, cw, rfl, lw, lw2⟩ := hw.shape
  obtain ⟨Ac, cc, rfl, lc, lc2⟩ := hcc.shape
  generalize allowsB r m = q at *
  clear hr hw hcc hv
  replace C2 := Lib.hid C2
  go_enter Try.func98, Try.ntmps98
  go_wp2_with (go_at_call 99; refine (C2.out _ (by (repeat' (first | exact Ext.refl _ | assumption | refine Ext.alloc ?_ _ | refine Ext.drew ?_ | refine Ext.drewN ?_ _ | refine Ext.set ?_ (by first | exact Nat.le_refl _ | exact le1 _ | exact le2 _ | exact le3 _ | exact le4 _ | exact le5 _ | exact le6 _) _ | refine Ext.trans ?_ (by assumption))))).mono ?_; rintro e w1 ⟨rfl, hb1⟩)
  go_ret
  exact ⟨rfl, by (repeat' (first | exact Ext.refl _ | assumption | refine Ext.alloc ?_ _ | refine Ext.drew ?_ | refine Ext.drewN ?_ _ | refine Ext.set ?_ (by first | exact Nat.le_refl _ | exact le1 _ | exact le2 _ | exact le3 _ | exact le4 _ | exact le5 _ | exact le6 _) _ | refine Ext.trans ?_ (by assumption)))⟩

set_option maxHeartbeats 800000 in
theorem notAllowed_c (m : Int) (B : Nat) (v : Value) (l : List PRule) (w : World) (hs : Sl 11 RRule w v l) (hv : ∀ r ∈ l, ruleB r = true) (hd : 0 ≤ m) (hd2 : m ≤ 9223372036854775807) (hc : w.cell? ⟨B, 0, none⟩ = some (.int .i64 m)) :
    Calls Try.prog 82 #[v, .func (.func 98) #[] #[.pointer (some ⟨B, 0, none⟩)]] w fun e w' => e = .returned (.bool (l.any fun r => !allowsB r m)) ∧ Ext w w' := by
  refine ContainsFuncRule_c RRule.stable 98 _ (enters_of Try.func98 (by kernel_rfl) rfl) _ v l w hs ?_
  rintro W cs x he ⟨vr, vw, vc, rfl, hx⟩ hm
  exact allowed1_c m B vr vw vc x W hx (hv x hm) hd hd2 (he.cell hc)

theorem allowedB_any (l : List PRule) (m : Int) : (!(l.any fun r => !allowsB r m)) = allowedB l m := by
  unfold allowedB
  rw [List.not_any_eq_all_not]
  simp

set_option maxRecDepth 100000 in
set_option maxHeartbeats 1600000 in
theorem allowed_c (D : Nat) (v : Value) (l : List PRule) (m : Int) (w : World) (hs : Sl 11 RRule w v l) (hv : ∀ r ∈ l, ruleB r = true) (hd : 0 ≤ m) (hd2 : m ≤ 9223372036854775807) (hc : w.cell? ⟨D, 0, none⟩ = some v) :
    Calls Try.prog 69 #[.pointer (some ⟨D, 0, none⟩), .int .i64 m] w fun e w' => e = .returned (.bool (allowedB l m)) ∧ Ext w w' := by
  rw [← allowedB_any]
  have C2 := fun w' (hE : Ext w w') (hcc : w'.cell? ⟨w.heap.size, 0, none⟩ = some (.int .i64 m)) => notAllowed_c m w.heap.size v l w' (hs.ext RRule.stable hE) hv hd hd2 hcc
  have hB := lt_of_cell hc
  obtain ⟨A, cap, rfl, hl, hl2⟩ := hs.shape
  generalize (l.any fun r => !allowsB r m) = q at *
  clear hs hv
  replace C2 := Lib.hid C2
  go_enter Try.func69, Try.ntmps69
  go_wp2_with (go_at_call 82; refine (C2.out _ (by (repeat' (first | exact Ext.refl _ | assumption | refine Ext.alloc ?_ _ | refine Ext.drew ?_ | refine Ext.drewN ?_ _ | refine Ext.set ?_ (by first | exact Nat.le_refl _ | exact le1 _ | exact le2 _ | exact le3 _ | exact le4 _ | exact le5 _ | exact le6 _) _ | refine Ext.trans ?_ (by assumption)))) (by go_simp)).mono ?_; rintro e w1 ⟨rfl, hb1⟩)
  go_ret
  exact ⟨rfl, by (repeat' (first | exact Ext.refl _ | assumption | refine Ext.alloc ?_ _ | refine Ext.drew ?_ | refine Ext.drewN ?_ _ | refine Ext.set ?_ (by first | exact Nat.le_refl _ | exact le1 _ | exact le2 _ | exact le3 _ | exact le4 _ | exact le5 _ | exact le6 _) _ | refine Ext.trans ?_ (by assumption)))⟩
end Go.Proofs.Ytaomlmkcifpfkaa

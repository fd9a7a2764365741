/- Contracts: 'allowed' at a passage's rules that lie anywhere in a row. -/
import Derived.Test.YtaomlmkcifpfkaaPDay4
namespace Go.Proofs.Ytaomlmkcifpfkaa
open Go.RowKit Go.Maps
attribute [local go_sem ↓] Go.wp_at_zero Go.wp_at_succ

set_option maxRecDepth 100000 in
set_option maxHeartbeats 1600000 in
theorem allowedAt_c (D o : Nat) (v : Value) (l : List PRule) (m : Int) (w : World) (hs : Sl 11 RRule w v l) (hv : ∀ r ∈ l, ruleB r = true) (hd : 0 ≤ m) (hd2 : m ≤ 9223372036854775807) (hc : w.cell? ⟨D, o, none⟩ = some v) :
    Calls Try.prog 69 #[.pointer (some ⟨D, o, none⟩), .int .i64 m] w fun e w' => e = .returned (.bool (allowedB l m)) ∧ Ext w w' := by
  rw [← allowedB_any]
  have C2 := fun w' (hE : Ext w w') (hcc : w'.cell? ⟨w.heap.size, 0, none⟩ = some (.int .i64 m)) => notAllowed_c m w.heap.size v l w' (hs.ext RRule.stable hE) hv hd hd2 hcc
  have hB := lt_of_cell hc
  obtain ⟨A, cap, rfl, hl, hl2⟩ := hs.shape
  generalize (l.any fun r => !allowsB r m) = q at *
  clear hs hv
  replace C2 := Lib.hid C2
  go_enter Try.func69, Try.ntmps69
  go_wp2_with (go_at_call 82; refine (C2.out _ (by (repeat' (first | exact Ext.refl _ | assumption | refine Ext.alloc ?_ _ | refine Ext.drew ?_ | refine Ext.drewN ?_ _ | refine Ext.set ?_ (by first | exact Nat.le_refl _ | exact le1 _ | exact le2 _ | exact le3 _ | exact le4 _ | exact le5 _ | exact le6 _) _ | refine Ext.trans ?_ (by assumption)))) (by go_simp)).mono ?_; rintro e w1 ⟨rfl, hb1⟩)
  go_ret
  exact ⟨rfl, by (repeat' (first | exact Ext.refl _ | assumption | refine Ext.alloc ?_ _ | refine Ext.drew ?_ | refine Ext.drewN ?_ _ | refine Ext.set ?_ (by first | exact Nat.le_refl _ | exact le1 _ | exact le2 _ | exact le3 _ | exact le4 _ | exact le5 _ | exact le6 _) _ | refine Ext.trans ?_ (by assumption)))⟩
end Go.Proofs.Ytaomlmkcifpfkaa

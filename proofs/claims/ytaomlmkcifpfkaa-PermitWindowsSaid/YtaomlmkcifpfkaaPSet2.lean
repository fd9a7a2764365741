/- Contracts: is there no number that all rules of a set allow. -/
import Derived.Test.YtaomlmkcifpfkaaPSet
namespace Go.Proofs.Ytaomlmkcifpfkaa
open Go.RowKit

/-- a function value picks two numbers of a rule -/
def PickR (g : Nat) (sel : PRule → Int × Int) : Prop :=
  (∀ args w, (callFunc g args).run Try.prog w = .ok (.enter g args) w) ∧
  ∀ W vr vw vc r, RSls W vr vw vc r → Calls Try.prog g #[.agg #[.string r.name, vr, vw, .int .i64 r.h0, .int .i64 r.h1, .int .i64 r.days, .int .i64 r.s0, .int .i64 r.s1, .bool r.forbid, vc, .int .i64 r.cost]] W fun e w' => e = .returned (.agg #[.int .i64 (sel r).1, .int .i64 (sel r).2]) ∧ Ext W w'

set_option maxRecDepth 100000 in
set_option maxHeartbeats 1600000 in
theorem empty1_c (g : Nat) (sel : PRule → Int × Int) (hg : PickR g sel) (m : Int) (B C : Nat) (vr vw vc : Value) (r : PRule) (w : World) (hs : RSls w vr vw vc r)
    (h1 : -1000000 ≤ (sel r).1 ∧ (sel r).1 ≤ 1000000) (h2 : -1000000 ≤ (sel r).2 ∧ (sel r).2 ≤ 1000000)
    (hm : w.cell? ⟨B, 0, none⟩ = some (.int .i64 m)) (hf : w.cell? ⟨C, 0, none⟩ = some (.func (.func g) #[] #[])) :
    Calls Try.prog 124 #[.agg #[.string r.name, vr, vw, .int .i64 r.h0, .int .i64 r.h1, .int .i64 r.days, .int .i64 r.s0, .int .i64 r.s1, .bool r.forbid, vc, .int .i64 r.cost], .pointer (some ⟨B, 0, none⟩), .pointer (some ⟨C, 0, none⟩)] w fun e w' => e = .returned (.bool (!liesB m (sel r).1 (sel r).2)) ∧ Ext w w' := by
  have C1 := fun w' => lies_c m (sel r).1 (sel r).2 w' h1 h2
  have C2 := fun w' (hE : Ext w w') => hg.2 w' vr vw vc r (hs.ext hE)
  have eg := hg.1
  have hB := lt_of_cell hm
  have hC := lt_of_cell hf
  obtain ⟨hr, hw, hcc⟩ := hs
  obtain ⟨Ar, cr, rfl, lr, lr2⟩ := hr.shape
  obtain ⟨Aw, cw, rfl, lw, lw2⟩ := hw.shape
  obtain ⟨Ac, cc, rfl, lc, lc2⟩ := hcc.shape
  generalize liesB m (sel r).1 (sel r).2 = q at *
  generalize (sel r).1 = s0 at *
  generalize (sel r).2 = s1 at *
  clear hr hw hcc hg
  replace C1 := Lib.hid C1
  replace C2 := Lib.hid C2
  obtain ⟨W0, hW0⟩ : ∃ W0, w.alloc (.cells #[.string r.name, .slice Ar r.roads.length cr, .slice Aw r.whens.length cw, .int .i64 r.h0, .int .i64 r.h1, .int .i64 r.days, .int .i64 r.s0, .int .i64 r.s1, .bool r.forbid, .slice Ac r.counts.length cc, .int .i64 r.cost] 58) = W0 := ⟨_, rfl⟩
  have hE0 : Ext w W0 := by rw [← hW0]; (repeat' (first | exact Ext.refl _ | assumption | refine Ext.alloc ?_ _ | refine Ext.drew ?_ | refine Ext.drewN ?_ _ | refine Ext.set ?_ (by first | exact Nat.le_refl _ | exact le1 _ | exact le2 _ | exact le3 _ | exact le4 _ | exact le5 _ | exact le6 _) _ | refine Ext.trans ?_ (by assumption)))
  have g0 : W0.cell? ⟨w.heap.size, 0, none⟩ = some (.string r.name) := by rw [← hW0]; exact World.cell?_alloc_new _ _ _ _
  have g1 : W0.cell? ⟨w.heap.size, 1, none⟩ = some (.slice Ar r.roads.length cr) := by rw [← hW0]; exact World.cell?_alloc_new _ _ _ _
  have g2 : W0.cell? ⟨w.heap.size, 2, none⟩ = some (.slice Aw r.whens.length cw) := by rw [← hW0]; exact World.cell?_alloc_new _ _ _ _
  have g3 : W0.cell? ⟨w.heap.size, 3, none⟩ = some (.int .i64 r.h0) := by rw [← hW0]; exact World.cell?_alloc_new _ _ _ _
  have g4 : W0.cell? ⟨w.heap.size, 4, none⟩ = some (.int .i64 r.h1) := by rw [← hW0]; exact World.cell?_alloc_new _ _ _ _
  have g5 : W0.cell? ⟨w.heap.size, 5, none⟩ = some (.int .i64 r.days) := by rw [← hW0]; exact World.cell?_alloc_new _ _ _ _
  have g6 : W0.cell? ⟨w.heap.size, 6, none⟩ = some (.int .i64 r.s0) := by rw [← hW0]; exact World.cell?_alloc_new _ _ _ _
  have g7 : W0.cell? ⟨w.heap.size, 7, none⟩ = some (.int .i64 r.s1) := by rw [← hW0]; exact World.cell?_alloc_new _ _ _ _
  have g8 : W0.cell? ⟨w.heap.size, 8, none⟩ = some (.bool r.forbid) := by rw [← hW0]; exact World.cell?_alloc_new _ _ _ _
  have g9 : W0.cell? ⟨w.heap.size, 9, none⟩ = some (.slice Ac r.counts.length cc) := by rw [← hW0]; exact World.cell?_alloc_new _ _ _ _
  have g10 : W0.cell? ⟨w.heap.size, 10, none⟩ = some (.int .i64 r.cost) := by rw [← hW0]; exact World.cell?_alloc_new _ _ _ _
  have hm0 := hE0.cell hm
  have hf0 := hE0.cell hf
  replace hW0 := Lib.hid hW0
  go_enter Try.func124, Try.ntmps124
  go_wp2_with fail
  rw [hW0.out]
  go_region_with (first | (go_at_fn g; refine (C2.out _ (by (repeat' (first | exact Ext.refl _ | assumption | refine Ext.alloc ?_ _ | refine Ext.drew ?_ | refine Ext.drewN ?_ _ | refine Ext.set ?_ (by first | exact Nat.le_refl _ | exact le1 _ | exact le2 _ | exact le3 _ | exact le4 _ | exact le5 _ | exact le6 _) _ | refine Ext.trans ?_ (by assumption))))).mono ?_; rintro e w1 ⟨rfl, hb1⟩; have hm1 := Ext.cell hb1 hm0) | (go_at_call 110; refine (C1.out _).mono ?_; rintro e w2 ⟨rfl, hb2⟩))
  all_goals
    go_wp2_with fail
    go_ret
    exact ⟨rfl, by (repeat' (first | exact Ext.refl _ | assumption | refine Ext.alloc ?_ _ | refine Ext.drew ?_ | refine Ext.drewN ?_ _ | refine Ext.set ?_ (by first | exact Nat.le_refl _ | exact le1 _ | exact le2 _ | exact le3 _ | exact le4 _ | exact le5 _ | exact le6 _) _ | refine Ext.trans ?_ (by assumption)))⟩
end Go.Proofs.Ytaomlmkcifpfkaa

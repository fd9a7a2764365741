
/- Contract: the law's great. -/
import Derived.Test.YtkkeblgahbpmmaaLEye
namespace Go.Proofs.Ytkkeblgahbpmmaa
open Go.RowKit

set_option maxRecDepth 100000 in
set_option maxHeartbeats 1600000 in
theorem great_c (l : LLoad) (vp ve : Value) (w : World) (h : IsLoad w l vp ve) :
    Calls Try.prog 6 #[loadV l vp ve] w fun e w' => e = .returned (.bool (greatB l)) ∧ Ext w w' := by
  obtain ⟨A, cap, rfl, _, _⟩ := h.pieces.shape
  obtain ⟨B, cbp, rfl, _, _⟩ := h.eyes.shape
  unfold loadV greatB
  clear h
  generalize l.pieces.length = n at *
  generalize l.eyes.length = m at *
  obtain ⟨s, hs⟩ : ∃ s, l.name = s := ⟨_, rfl⟩
  rw [hs]
  clear hs
  rcases (show 40 < n ∨ (¬ 40 < n ∧ 40 < m) ∨ (¬ 40 < n ∧ ¬ 40 < m ∧ 100 < s.size) ∨ (¬ 40 < n ∧ ¬ 40 < m ∧ ¬ 100 < s.size) by omega) with g1 | ⟨g1, g2⟩ | ⟨g1, g2, g3⟩ | ⟨g1, g2, g3⟩
  all_goals
    go_enter Try.func6, Try.ntmps6
    go_wp2
    go_ret
    exact ⟨ret_bool (by first | (simp [*]; done) | (simp; omega) | (rw [Bool.eq_iff_iff]; simp; omega)), by (repeat' (first | exact Ext.refl _ | assumption | refine Ext.alloc ?_ _ | refine Ext.drew ?_ | refine Ext.drewN ?_ _ | refine Ext.set ?_ (by first | exact Nat.le_refl _ | exact le1 _ | exact le2 _ | exact le3 _ | exact le4 _ | exact le5 _ | exact le6 _) _ | refine Ext.trans ?_ (by assumption)))⟩
end Go.Proofs.Ytkkeblgahbpmmaa

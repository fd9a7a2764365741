/- What Step answers, plainly; and what it refuses at once. -/
import Derived.Test.YtgikfliibimkdaaCSteer2
import Derived.Test.YtgikfliibimkdaaCRStr2
namespace Go.Proofs.Ytgikfliibimkdaa
open Go.RowKit Go.Shelf

/-- the points that are pulled, one behind the other, and the error that stopped it -/
def stepN : Pt → List CUnit → List Pt → List Int → List Pt × Int
  | jt, u :: us, a :: ps, s :: ss =>
    if (pullTS jt a (pulledN u) s).2 = 0 then
      (if us = [] then ([(pullTS jt a (pulledN u) s).1], 0)
      else if (placeS (pullTS jt a (pulledN u) s).1 jt (rearN u) 0).2 = 0 then
        ((pullTS jt a (pulledN u) s).1 :: (stepN (placeS (pullTS jt a (pulledN u) s).1 jt (rearN u) 0).1 us ps ss).1, (stepN (placeS (pullTS jt a (pulledN u) s).1 jt (rearN u) 0).1 us ps ss).2)
      else ([(pullTS jt a (pulledN u) s).1], (placeS (pullTS jt a (pulledN u) s).1 jt (rearN u) 0).2))
    else ([], (pullTS jt a (pulledN u) s).2)
  | _, _, _, _ => ([], 0)
theorem stepN_step {jt a : Pt} {u : CUnit} {s : Int} {us : List CUnit} {ps : List Pt} {ss : List Int} {p j : Pt × Int} (hp : pullTS jt a (pulledN u) s = p) (hj : placeS p.1 jt (rearN u) 0 = j) :
    stepN jt (u :: us) (a :: ps) (s :: ss) = if p.2 = 0 then (if us = [] then ([p.1], 0) else if j.2 = 0 then (p.1 :: (stepN j.1 us ps ss).1, (stepN j.1 us ps ss).2) else ([p.1], j.2)) else ([], p.2) := by
  simp only [stepN, hp, hj]
theorem stepN_nil (jt : Pt) (ps : List Pt) (ss : List Int) : stepN jt [] ps ss = ([], 0) := by cases ps <;> cases ss <;> rfl
/-- the pose behind a step: its lead, its points, and the error -/
def stepS (v : CVeh) (old : Pt) (ps : List Pt) (lead : Pt) (st : List Int) : Pt × List Pt × Int :=
  if poseE v old ps = 0 then
    (if okPt lead = true then
      (if steerE v st = 0 then
        (if (stepN lead v.units ps st).2 = 0 then
          (if poseE v lead (stepN lead v.units ps st).1 = 0 then (lead, (stepN lead v.units ps st).1, 0) else ((0, 0), [], 9))
        else ((0, 0), [], (stepN lead v.units ps st).2))
      else ((0, 0), [], steerE v st))
    else ((0, 0), [], 2))
  else ((0, 0), [], poseE v old ps)
section
variable {v : CVeh} {old lead : Pt} {ps : List Pt} {st : List Int}
theorem stepS_pose (h : ¬ poseE v old ps = 0) : stepS v old ps lead st = ((0, 0), [], poseE v old ps) := by unfold stepS; rw [if_neg h]
theorem stepS_lead (h : poseE v old ps = 0) (h2 : okPt lead = false) : stepS v old ps lead st = ((0, 0), [], 2) := by unfold stepS; rw [if_pos h, if_neg (by rw [h2]; decide)]
theorem stepS_steer (h : poseE v old ps = 0) (h2 : okPt lead = true) (h3 : ¬ steerE v st = 0) : stepS v old ps lead st = ((0, 0), [], steerE v st) := by unfold stepS; rw [if_pos h, if_pos h2, if_neg h3]
theorem stepS_go {r : List Pt × Int} (h : poseE v old ps = 0) (h2 : okPt lead = true) (h3 : steerE v st = 0) (hr : stepN lead v.units ps st = r) : stepS v old ps lead st = if r.2 = 0 then (if poseE v lead r.1 = 0 then (lead, r.1, 0) else ((0, 0), [], 9)) else ((0, 0), [], r.2) := by
  unfold stepS; rw [if_pos h, if_pos h2, if_pos h3, hr]
theorem steer_len (h : steerE v st = 0) : st.length = v.units.length ∧ steerB v.units st = true := by
  unfold steerE at h
  split at h
  · rename_i h1
    refine ⟨h1, ?_⟩
    cases hb : steerB v.units st
    · rw [hb] at h; cases h
    · rfl
  · cases h
end
/-- what comes out of Step -/
def StepR (v : CVeh) (old : Pt) (ps : List Pt) (lead : Pt) (st : List Int) (w : World) (e : Ending) (w' : World) : Prop :=
  ∃ vp, e = .returned (poseEV (stepS v old ps lead st).1 vp (stepS v old ps lead st).2.2) ∧ Pts w' vp (stepS v old ps lead st).2.1 ∧ (∀ g, vp.ownBlock = some g → w.heap.size ≤ g) ∧ Ext w w'
end Go.Proofs.Ytgikfliibimkdaa

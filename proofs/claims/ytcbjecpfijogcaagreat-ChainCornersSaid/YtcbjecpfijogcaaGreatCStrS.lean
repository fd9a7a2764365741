
/- What Straight answers, plainly. -/
import Derived.Test.YtcbjecpfijogcaaGreatCPose
namespace Go.Proofs.YtcbjecpfijogcaaGreat
open Go.RowKit Go.Shelf

/-- the points that are pulled, from the second unit on, and the error that stopped it -/
def tailN : Pt → Pt → CUnit → List CUnit → List Pt × Int
  | _, _, _, [] => ([], 0)
  | ax, front, prev, u :: us =>
    if (placeS ax front (rearN prev) 0).2 = 0 then
      (if (placeS ax front (rearN prev - pulledN u) 0).2 = 0 then
        ((placeS ax front (rearN prev - pulledN u) 0).1 :: (tailN (placeS ax front (rearN prev - pulledN u) 0).1 (placeS ax front (rearN prev) 0).1 u us).1, (tailN (placeS ax front (rearN prev - pulledN u) 0).1 (placeS ax front (rearN prev) 0).1 u us).2)
      else ([], (placeS ax front (rearN prev - pulledN u) 0).2))
    else ([], (placeS ax front (rearN prev) 0).2)
/-- a straight pose: its lead, its points, and the error -/
def straightS (v : CVeh) (lead behind : Pt) : Pt × List Pt × Int :=
  if vehE v = 0 then
    (if (okPt lead && okPt behind) = true then
      (match v.units with
       | [] => ((0, 0), [], 2)
       | u :: us =>
         if (pullS lead behind (pulledN u)).2 = 0 then
           (if (tailN (pullS lead behind (pulledN u)).1 lead u us).2 = 0 then
             (if poseE v lead ((pullS lead behind (pulledN u)).1 :: (tailN (pullS lead behind (pulledN u)).1 lead u us).1) = 0 then
               (lead, (pullS lead behind (pulledN u)).1 :: (tailN (pullS lead behind (pulledN u)).1 lead u us).1, 0)
             else ((0, 0), [], 9))
           else ((0, 0), [], (tailN (pullS lead behind (pulledN u)).1 lead u us).2))
         else ((0, 0), [], (pullS lead behind (pulledN u)).2))
    else ((0, 0), [], 2))
  else ((0, 0), [], vehE v)
theorem straightS_veh {v : CVeh} {lead behind : Pt} (h : ¬ vehE v = 0) : straightS v lead behind = ((0, 0), [], vehE v) := by unfold straightS; rw [if_neg h]
theorem straightS_pts {v : CVeh} {lead behind : Pt} (h : vehE v = 0) (h2 : (okPt lead && okPt behind) = false) : straightS v lead behind = ((0, 0), [], 2) := by unfold straightS; rw [if_pos h, if_neg (by rw [h2]; decide)]
theorem straightS_go {v : CVeh} {lead behind : Pt} {u : CUnit} {us : List CUnit} {q : Pt × Int} {r : List Pt × Int} (h : vehE v = 0) (h2 : okPt lead = true) (h3 : okPt behind = true) (hv : v.units = u :: us) (hq : pullS lead behind (pulledN u) = q) (hr : tailN q.1 lead u us = r) :
    straightS v lead behind = if q.2 = 0 then (if r.2 = 0 then (if poseE v lead (q.1 :: r.1) = 0 then (lead, q.1 :: r.1, 0) else ((0, 0), [], 9)) else ((0, 0), [], r.2)) else ((0, 0), [], q.2) := by
  unfold straightS
  rw [if_pos h, if_pos (by rw [h2, h3]; rfl), hv]
  simp only [hq, hr]
theorem pullS_same {a : Pt} {l : Int} (h : okPt a = true) (h2 : inB l 1 16777216 = true) : pullS a a l = ((0, 0), 9) := pullS_9 h h2
theorem tailN_step {ax front : Pt} {prev u : CUnit} {us : List CUnit} {j q : Pt × Int} (hj : placeS ax front (rearN prev) 0 = j) (hq : placeS ax front (rearN prev - pulledN u) 0 = q) :
    tailN ax front prev (u :: us) = if j.2 = 0 then (if q.2 = 0 then (q.1 :: (tailN q.1 j.1 u us).1, (tailN q.1 j.1 u us).2) else ([], q.2)) else ([], j.2) := by
  simp only [tailN, hj, hq]
/-- what comes out of Straight -/
def StrR (v : CVeh) (lead behind : Pt) (w : World) (e : Ending) (w' : World) : Prop :=
  ∃ vp, e = .returned (poseEV (straightS v lead behind).1 vp (straightS v lead behind).2.2) ∧ Pts w' vp (straightS v lead behind).2.1 ∧ Ext w w'
end Go.Proofs.YtcbjecpfijogcaaGreat

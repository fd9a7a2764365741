/- Contracts: Step (both texts), Pulled, the law's valid. -/
import Derived.Test.YtgikfliibimkdaaCStep
import Derived.Test.YtgikfliibimkdaaCRStep
import Derived.Test.YtgikfliibimkdaaCLong
namespace Go.Proofs.Ytgikfliibimkdaa
open Go.RowKit Go.Shelf

section
variable {vu vp vst : Value} {v : CVeh} {ps : List Pt} {st : List Int}
theorem Step_c (o1 o2 l1 l2 : Int) (w : World) (hs : Sl 11 RUnit w vu v.units) (hp : Pts w vp ps) (hst : Sl 1 RNum w vst st) :
    Calls Try.prog 21 #[vehV v vu, poseV (o1, o2) vp, .agg #[.int .i64 l1, .int .i64 l2], vst] w (StepR v (o1, o2) ps (l1, l2) st w) := by
  by_cases h : poseE v (o1, o2) ps = 0
  · cases h2 : okPt (l1, l2)
    · exact Step_lead o1 o2 l1 l2 w hs hp hst h h2
    · by_cases h3 : steerE v st = 0
      · exact Step_go o1 o2 l1 l2 w hs hp hst h h2 h3
      · exact Step_steer o1 o2 l1 l2 w hs hp hst h h2 h3
  · exact Step_pose o1 o2 l1 l2 w hs hp hst h
theorem RStep_c (o1 o2 l1 l2 : Int) (w : World) (hs : Sl 11 RUnit w vu v.units) (hp : Pts w vp ps) (hst : Sl 1 RNum w vst st) :
    Calls Try.prog 25 #[vehV v vu, poseV (o1, o2) vp, .agg #[.int .i64 l1, .int .i64 l2], vst] w (StepR v (o1, o2) ps (l1, l2) st w) := by
  by_cases h : poseE v (o1, o2) ps = 0
  · cases h2 : okPt (l1, l2)
    · exact RStep_lead o1 o2 l1 l2 w hs hp hst h h2
    · by_cases h3 : steerE v st = 0
      · exact RStep_go o1 o2 l1 l2 w hs hp hst h h2 h3
      · exact RStep_steer o1 o2 l1 l2 w hs hp hst h h2 h3
  · exact RStep_pose o1 o2 l1 l2 w hs hp hst h
end
end Go.Proofs.Ytgikfliibimkdaa

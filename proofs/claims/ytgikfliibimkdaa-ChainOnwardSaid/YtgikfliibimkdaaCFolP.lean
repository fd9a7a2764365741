/- Contract: Follow, by the program. -/
import Derived.Test.YtgikfliibimkdaaCFolG
namespace Go.Proofs.Ytgikfliibimkdaa
open Go.RowKit Go.Shelf

section
variable {vu vp vg vst : Value} {v : CVeh} {ps guide : List Pt} {steer : List (List Int)}
theorem Follow_c (o1 o2 s d : Int) (w : World) (hs : Sl 11 RUnit w vu v.units) (hp : Pts w vp ps) (hg : Pts w vg guide) (hst : Sl 1 RNums w vst steer) :
    Calls Try.prog 33 #[vehV v vu, poseV (o1, o2) vp, vg, .int .i64 s, .int .i64 d, vst] w (FolR v ((o1, o2), ps) guide s d steer w) := by
  by_cases h : poseE v (o1, o2) ps = 0
  · by_cases h2 : (lenS guide).2 = 0
    · by_cases h3 : inB d 1 16777216 = true ∧ inB s 0 (lenS guide).1 = true
      · by_cases h5 : 2000 < stepsI (lenS guide).1 s d
        · exact Follow_many o1 o2 s d w hs hp hg hst h h2 h3.1 h3.2 h5
        · by_cases h6 : steer ≠ [] ∧ (steer.length : Int) ≠ stepsI (lenS guide).1 s d
          · exact Follow_equal o1 o2 s d w hs hp hg hst h h2 h3.1 h3.2 h5 h6
          · exact Follow_go o1 o2 s d w hs hp hg hst h h2 h3.1 h3.2 h5 h6
      · refine Follow_range o1 o2 s d w hs hp hg hst h h2 ?_
        cases h4 : inB d 1 16777216
        · exact .inl rfl
        · cases h5 : inB s 0 (lenS guide).1
          · exact .inr rfl
          · exact absurd ⟨h4, h5⟩ h3
    · exact Follow_len o1 o2 s d w hs hp hg hst h h2
  · exact Follow_pose o1 o2 s d w hs hp hg hst h
end
end Go.Proofs.Ytgikfliibimkdaa

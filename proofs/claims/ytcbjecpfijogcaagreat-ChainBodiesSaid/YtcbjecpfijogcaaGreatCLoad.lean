
/- Contract: LoadLine, by the program, where all is well. -/
import Derived.Test.YtcbjecpfijogcaaGreatCLoadA
import Derived.Test.YtcbjecpfijogcaaGreatCLoadB
namespace Go.Proofs.YtcbjecpfijogcaaGreat
open Go.RowKit Go.Shelf

section
variable {vu vp : Value} {v : CVeh} {lead : Pt} {ps : List Pt}
theorem Line_go (w : World) (hs : Sl 11 RUnit w vu v.units) (hp : Pts w vp ps) (h1 : poseE v lead ps = 0) :
    Calls Tryz.prog 10 #[vehV v vu, poseV lead vp] w fun e w' => e = .returned (lineV (lineS v lead ps)) ∧ Ext w w' := by
  by_cases h : v.first = v.last
  · exact Line_one w hs hp h1 h
  · exact Line_two w hs hp h1 h
end
end Go.Proofs.YtcbjecpfijogcaaGreat

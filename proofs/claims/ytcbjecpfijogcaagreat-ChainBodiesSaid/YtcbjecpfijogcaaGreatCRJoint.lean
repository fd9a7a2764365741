
/- Contract: Joint, by the reference. -/
import Derived.Test.YtcbjecpfijogcaaGreatCRPose2
namespace Go.Proofs.YtcbjecpfijogcaaGreat
open Go.RowKit Go.Shelf

section
variable {vu vp : Value} {v : CVeh} {lead : Pt} {ps : List Pt}
end
end Go.Proofs.YtcbjecpfijogcaaGreat

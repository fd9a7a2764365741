
/- Contracts: Place and Joint, by the reference. -/
import Derived.Test.YtcbjecpfijogcaaGreatCRPose
import Derived.Test.YtcbjecpfijogcaaGreatCSame
import Derived.Test.YtcbjecpfijogcaaGreatCStr2
namespace Go.Proofs.YtcbjecpfijogcaaGreat
open Go.RowKit Go.Shelf

section
variable {vu vp : Value} {v : CVeh} {lead : Pt} {ps : List Pt}
theorem putsN_joint {j : Nat} {u : CPut} {l : List CPut} (h : l[j]? = some u) : (l.map (·.joint))[j]? = some u.joint := by rw [List.getElem?_map, h]; rfl
end
end Go.Proofs.YtcbjecpfijogcaaGreat


/- Contract: Straight, by the reference: what it refuses at once. -/
import Derived.Test.YtcbjecpfijogcaaGreatCStr
import Derived.Test.YtcbjecpfijogcaaGreatCRPose
namespace Go.Proofs.YtcbjecpfijogcaaGreat
open Go.RowKit Go.Shelf

section
variable {vu : Value} {v : CVeh}
end
end Go.Proofs.YtcbjecpfijogcaaGreat

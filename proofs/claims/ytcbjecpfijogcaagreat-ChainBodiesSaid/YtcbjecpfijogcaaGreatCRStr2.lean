
/- Contract: Straight, by the reference: what it goes on with. -/
import Derived.Test.YtcbjecpfijogcaaGreatCStr2
import Derived.Test.YtcbjecpfijogcaaGreatCRStr
namespace Go.Proofs.YtcbjecpfijogcaaGreat
open Go.RowKit Go.Shelf

section
variable {vu : Value} {v : CVeh}
end
end Go.Proofs.YtcbjecpfijogcaaGreat

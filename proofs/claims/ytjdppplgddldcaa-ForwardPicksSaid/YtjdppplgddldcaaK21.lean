/- LedgerApart: whatever the input, the law returns true, and its arguments read as they did. No condition. -/
import Derived.Test.YtjdppplgddldcaaK20
set_option maxHeartbeats 8000000
set_option linter.unusedVariables false
set_option linter.unusedSimpArgs false
set_option maxRecDepth 20000
namespace Go.AX.Lg
open Go.Proofs Go.RowKit Go.IntWalk Go.AX.Br
def ne (c : Int) (x : Int) : Bool := !(x == c)
end Go.AX.Lg

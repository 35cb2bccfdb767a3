/- Forward: plans are played: the reference's side. -/
import Derived.Test.YtjdppplgddldcaaK12
set_option maxHeartbeats 8000000
set_option linter.unusedVariables false
set_option linter.unusedSimpArgs false
set_option maxRecDepth 20000
namespace Go.AX.Fw
open Go.Proofs Go.RowKit Go.IntWalk Go.AX.Br Go.AX.Lg
end Go.AX.Fw

/- delta.Make: of a row of one's own. -/
import Derived.Test.YtmffhidhmbncbaaK13
set_option maxHeartbeats 8000000
set_option linter.unusedVariables false
set_option linter.unusedSimpArgs false
set_option maxRecDepth 20000
namespace Go.AX.De
open Go.Proofs Go.RowKit Go.IntWalk Go.AX.Co
end Go.AX.De

/- Forward: no plan that closes the gaps has fewer steps. -/
import Derived.Test.YtjdppplgddldcaaK16
set_option maxHeartbeats 8000000
set_option linter.unusedVariables false
set_option linter.unusedSimpArgs false
set_option maxRecDepth 20000
namespace Go.AX.Fw
open Go.Proofs Go.RowKit Go.IntWalk Go.AX.Br Go.AX.Lg
def isP (c : Int) (x : ByteArray) (s : St) : Bool := (s.cl == c) && decide (s.to = x)
def cntP (c : Int) (x : ByteArray) (l : List St) : Nat := (l.filter (isP c x)).length
end Go.AX.Fw
namespace Go.Proofs.Ytjdppplgddldcaa
open Go.AX Go.AX.Fw Go.RowKit
end Go.Proofs.Ytjdppplgddldcaa

/- Forward: Works and Closes. -/
import Derived.Test.YtjdppplgddldcaaK13
set_option maxHeartbeats 8000000
set_option linter.unusedVariables false
set_option linter.unusedSimpArgs false
set_option maxRecDepth 20000
namespace Go.AX.Fw
open Go.Proofs Go.RowKit Go.IntWalk Go.AX.Br Go.AX.Lg
def wrkR (l : Lg) (o : List ByteArray) (plan : List St) : Int × Int :=
  if fcheck l o ≠ 0 then (0, fcheck l o) else if 300 < plan.length then (0, 4) else ((playR o (gridG l o) plan).1, 0)
def clsR (l : Lg) (o : List ByteArray) (plan : List St) : Bool × Int :=
  if fcheck l o ≠ 0 then (false, fcheck l o) else if 300 < plan.length then (false, 4)
  else (decide ((playR o (gridG l o) plan).1 = plan.length) && decide ((gapsL (playR o (gridG l o) plan).2 o.length).length = 0), 0)
section
variable (l : Lg) (o : List ByteArray) (plan : List St) (hk : l.kn.length ≤ 1000) (hb : l.br.length ≤ 1000) (he : l.ev.length ≤ 1000) (ho : o.length ≤ 1000) (hpl : plan.length ≤ 1000)
include hk hb he ho hpl
end
end Go.AX.Fw
namespace Go.Proofs.Ytjdppplgddldcaa
open Go.AX Go.AX.Fw Go.RowKit
end Go.Proofs.Ytjdppplgddldcaa

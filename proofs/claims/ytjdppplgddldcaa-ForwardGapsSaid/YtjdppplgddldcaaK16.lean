/- Forward: the plan closes all gaps: the plain law. -/
import Derived.Test.YtjdppplgddldcaaK15
set_option maxHeartbeats 8000000
set_option linter.unusedVariables false
set_option linter.unusedSimpArgs false
set_option maxRecDepth 20000
namespace Go.AX.Fw
open Go.Proofs Go.RowKit Go.IntWalk Go.AX.Br Go.AX.Lg
section
variable {G : Gr} {n : Nat}
theorem gap_mem {c b : Nat} (hc : c < 30) (hb : b < n) (h : gapP G c b = true) : (c, b) ∈ gapsL G n := by
  have := pf_get (G := G) (n := n) (k := n - 1 - b) hc (by omega) (by rw [show n - 1 - (n - 1 - b) = b by omega]; exact h)
  rw [show n - 1 - (n - 1 - b) = b by omega] at this
  exact List.mem_of_getElem? this
end
end Go.AX.Fw
namespace Go.Proofs.Ytjdppplgddldcaa
open Go.AX Go.AX.Fw Go.RowKit
end Go.Proofs.Ytjdppplgddldcaa

/- Forward: plans are played: the program's side. -/
import Derived.Test.YtjdppplgddldcaaK11
set_option maxHeartbeats 8000000
set_option linter.unusedVariables false
set_option linter.unusedSimpArgs false
set_option maxRecDepth 20000
namespace Go.AX.Fw
open Go.Proofs Go.RowKit Go.IntWalk Go.AX.Br Go.AX.Lg
def toI (o : List ByteArray) (s : St) : Nat := (idx (isS s.to) o).toNat
def stepOk (G : Gr) (o : List ByteArray) (s : St) : Bool :=
  decide (0 ≤ idx (isS s.fr) o) && decide (0 ≤ idx (isS s.to) o) && decide (0 ≤ s.cl) && decide (s.cl < 30) && G s.cl.toNat (idx (isS s.fr) o).toNat && !G s.cl.toNat (toI o s) && alw G o.length s.cl.toNat (toI o s)
def playR (o : List ByteArray) : Gr → List St → Nat × Gr
  | G, [] => (0, G)
  | G, s :: r => if stepOk G o s then ((playR o (upd G s.cl.toNat (toI o s)) r).1 + 1, (playR o (upd G s.cl.toNat (toI o s)) r).2) else (0, G)
def plInv (o : List ByteArray) (G : Gr) (plan : List St) (k : Nat) (F : Gr) : Prop := k ≤ plan.length ∧ playR o G plan = (k + (playR o F (plan.drop k)).1, (playR o F (plan.drop k)).2)
section
variable {o : List ByteArray} {G F : Gr} {plan : List St} {k : Nat} {s : St}
end
end Go.AX.Fw

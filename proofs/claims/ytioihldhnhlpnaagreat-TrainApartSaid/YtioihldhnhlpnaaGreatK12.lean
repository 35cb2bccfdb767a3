/- Trains: a run settles all heads, in their order. -/
import Derived.Test.YtioihldhnhlpnaaGreatK11
set_option maxHeartbeats 8000000
set_option linter.unusedVariables false
set_option linter.unusedSimpArgs false
set_option maxRecDepth 20000
namespace Go.AX.Tr
open Go.Proofs Go.RowKit Go.IntWalk Go.AX.Br Go.AX.Lg Go.AX.Qu Go.AX.Wn
def cntH (b : ByteArray) (q : List Rq) : Nat := (q.filter (isHead b)).length
def setl (b : ByteArray) : List Rq → List Int → List Rq
  | [], _ => []
  | x :: q, [] => x :: q
  | x :: q, s :: ss => if isHead b x then setSt x s :: setl b q ss else x :: setl b q (s :: ss)
/-- open at the tick, and room for all heads -/
structure Room (b : ByteArray) (tk : Int) (t : Tr) : Prop where
  o : TOk t
  hb : 0 ≤ idx (has b) t.lg.br
  h1 : 0 ≤ tk
  h2 : tk ≤ 1000000
  fr : held t.hs b tk = false
  rm : (t.lg.ev.getD (idx (has b) t.lg.br).toNat []).length + cntH b t.q ≤ 40
end Go.AX.Tr

/- Codes of numbers, written by the program. -/
import Derived.Test.YtheliodgamcdjaaK5
import Derived.KernelRfl
set_option maxHeartbeats 8000000
set_option linter.unusedVariables false
set_option linter.unusedSimpArgs false
set_option maxRecDepth 20000
namespace Go.AX.Co
open Go.Proofs Go.RowKit Go.IntWalk
/-- the code of a number -/
def codeF : Nat → Nat → List Int
  | 0, n => [((n % 256 : Nat) : Int)]
  | f + 1, n => if 127 < n then ((n % 128 + 128 : Nat) : Int) :: codeF f (n / 128) else [((n % 256 : Nat) : Int)]
end Go.AX.Co
/- Values, written by the program. -/
set_option maxHeartbeats 8000000
set_option linter.unusedVariables false
set_option linter.unusedSimpArgs false
set_option maxRecDepth 20000
namespace Go.AX.Co
open Go.Proofs Go.RowKit Go.IntWalk
/-- the fold of a number -/
def foldN (n : Int) : Nat := if 0 ≤ n then (2 * n).toNat else (-2 * n - 1).toNat
mutual
/-- the bytes of a value, behind others; they stop when there are too many -/
def wrP : Vl → List Int → List Int
  | .mk k n b l, p =>
    if k = 1 then p ++ [k] ++ codeF 10 (foldN n) else if k = 2 then p ++ [k] ++ codeF 10 b.length ++ b else wrL l (p ++ [k] ++ codeF 10 l.length)
def wrL : List Vl → List Int → List Int
  | [], p => p
  | x :: r, p => if 3000 < p.length then p else wrL r (wrP x p)
end
/-- a value that can be written -/
inductive FitW : Vl → Prop where
  | mk (k n : Int) (b : List Int) (l : List Vl) (hn : -9223372036854775808 ≤ n ∧ n ≤ 9223372036854775807) (hb : b.length ≤ 900000) (hl : l.length ≤ 900000) (h : ∀ x, x ∈ l → FitW x) : FitW (.mk k n b l)
end Go.AX.Co
/- Values, written by the program: write. -/
set_option maxHeartbeats 8000000
set_option linter.unusedVariables false
set_option linter.unusedSimpArgs false
set_option maxRecDepth 20000
namespace Go.AX
end Go.AX
namespace Go.AX.Co
open Go.Proofs Go.RowKit Go.IntWalk
end Go.AX.Co
/- Values: whether they have the kinds that there are, by the program; Encode. -/
set_option maxHeartbeats 8000000
set_option linter.unusedVariables false
set_option linter.unusedSimpArgs false
set_option maxRecDepth 20000
namespace Go.AX.Co
open Go.Proofs Go.RowKit Go.IntWalk
end Go.AX.Co
/- Values: right, by the program. -/
set_option maxHeartbeats 8000000
set_option linter.unusedVariables false
set_option linter.unusedSimpArgs false
set_option maxRecDepth 20000
namespace Go.AX.Co
open Go.Proofs Go.RowKit Go.IntWalk
/-- the kinds that there are, and what belongs to them -/
def rightP : Nat → Vl → Bool
  | 0, _ => false
  | d + 1, .mk k n b l =>
    if k = 1 then decide (b.length + l.length = 0) else if k = 2 then (n == 0) && decide (l.length = 0)
    else if k = 3 then (n == 0) && decide (b.length = 0) && !(l.any fun x => !rightP d x) else false
end Go.AX.Co
/- Values: Encode, Size, Check, by the program. -/
set_option maxHeartbeats 8000000
set_option linter.unusedVariables false
set_option linter.unusedSimpArgs false
set_option maxRecDepth 20000
namespace Go.AX
end Go.AX
namespace Go.AX.Co
open Go.Proofs Go.RowKit Go.IntWalk
def encP (v : Vl) : List Int × Int := if rightP 6 v = false then ([], 8) else if 3000 < (wrP v []).length then ([], 4) else (wrP v [], 0)
end Go.AX.Co

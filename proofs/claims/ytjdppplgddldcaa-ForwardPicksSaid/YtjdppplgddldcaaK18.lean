/- LedgerDiffers: whatever the input, the law returns true, and its arguments read as they did. No condition. -/
import Derived.Test.YtjdppplgddldcaaK17
set_option maxHeartbeats 8000000
set_option linter.unusedVariables false
set_option linter.unusedSimpArgs false
set_option maxRecDepth 20000
namespace Go.AX.Lg
open Go.Proofs Go.RowKit Go.IntWalk Go.AX.Br
def hasI (l : List Int) (n : Int) : Bool := l.any fun x => x == n
/-! ### lists of classes -/
theorem LOk.view {l : Lg} (lo : LOk l) {i : Nat} {x : Br} {s : List Ev} {v : List Mk} (a : At l i x s v) : lview l x.name = (v, 0) := by
  unfold lview
  rw [if_neg (by have := lo.chk; omega)]
  exact vname lo.tab a
theorem LOk.eff {l : Lg} (lo : LOk l) {i : Nat} {x : Br} {s : List Ev} {v : List Mk} (a : At l i x s v) : effR l x.name = (effL l (preE l i ++ s), 0) := by
  rw [effR, lo.view a]; simp only [ne_eq, not_true_eq_false, if_false, a.seen]
end Go.AX.Lg

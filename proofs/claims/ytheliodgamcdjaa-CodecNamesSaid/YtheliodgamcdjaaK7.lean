/- Readers of a row of one's own: take, Clone. -/
import Derived.Test.YtheliodgamcdjaaK6
import Derived.KernelRfl
set_option maxHeartbeats 8000000
set_option linter.unusedVariables false
set_option linter.unusedSimpArgs false
set_option maxRecDepth 20000
namespace Go.AX
theorem AR_cut {c : Cf} {σ : List AObj} {l sz : Nat} {es : List (List D)} {v : Value} (H : Holds c σ) (hl : ob σ l = .row sz es) (h : AR c (.own l) v) : AR c (.osl l sz 0 es.length) v := by
  simp only [AR] at h ⊢
  obtain ⟨h1, rfl, _⟩ := h
  refine ⟨h1, ?_⟩
  rcases H.obj l _ (ob_some hl (by simp)) with ⟨rfl, A, e⟩ | ⟨cap, vs, ty, g0, g1, g2, _⟩
  · exact ⟨A, 0, e, Nat.le_refl _, fun h => absurd h (Nat.lt_irrefl 0)⟩
  · exact ⟨_, cap, g1, g2, fun _ => by rw [Nat.zero_mul]⟩
/-- an own row is a part of itself -/
theorem Wk.cut {n0 : Nat} {xs : List AV} {σ : List AObj} (l : Nat) {sz : Nat} {es : List (List D)} (hl : ob σ l = .row sz es) : Wk n0 (.own l :: xs) σ (.osl l sz 0 es.length :: xs) σ := Wk.ofNxt fun c vs H r => by
  obtain ⟨v, q, rfl, h1, h2⟩ := ARs_cons_left r
  exact ⟨c, rfl, Nxt.refl H, ARs_cons.2 ⟨AR_cut H hl h1, h2⟩⟩
end Go.AX
namespace Go.AX.Co
open Go.Proofs Go.RowKit Go.IntWalk
/-- a reader of what is left of a row of so many -/
def rO (N : Nat) (r : List Int) (b : Bool) : AObj := .cells [.osl 1 1 (N - r.length) r.length, .d (.bool b)]
def rW (bs : List Int) : AObj := .row 1 (bs.map bY)
attribute [go_sem] rO rW
theorem Left.drop {bs q : List Int} (h : Left bs q) (n : Nat) : Left bs (q.drop n) := h.trans ⟨q.take n, (List.take_append_drop n q).symm⟩
end Go.AX.Co
/- Readers of a row of one's own: values. -/
set_option maxHeartbeats 8000000
set_option linter.unusedVariables false
set_option linter.unusedSimpArgs false
set_option maxRecDepth 20000
namespace Go.AX.Co
open Go.Proofs Go.RowKit Go.IntWalk
end Go.AX.Co
/- Readers of a row of one's own: Next, Decode. -/
set_option maxHeartbeats 8000000
set_option linter.unusedVariables false
set_option linter.unusedSimpArgs false
set_option maxRecDepth 20000
namespace Go.AX
end Go.AX
namespace Go.AX.Co
open Go.Proofs Go.RowKit Go.IntWalk
end Go.AX.Co
/- The reference's reader: codes of numbers. -/
set_option maxHeartbeats 8000000
set_option linter.unusedVariables false
set_option linter.unusedSimpArgs false
set_option maxRecDepth 20000
namespace Go.AX.Co
open Go.Proofs Go.RowKit Go.IntWalk
/-- the code of a number, read by the reference -/
def codR (r : List Int) : Nat × Nat := if (numP 10 0 0 r).2.2 = true then (0, 0) else ((numP 10 0 0 r).1, r.length - (numP 10 0 0 r).2.1.length)
end Go.AX.Co
/- The reference's reader: values. -/
set_option maxHeartbeats 8000000
set_option linter.unusedVariables false
set_option linter.unusedSimpArgs false
set_option maxRecDepth 20000
namespace Go.AX.Co
open Go.Proofs Go.RowKit Go.IntWalk
def readP (d : Nat) (b : List Int) : Vl × Nat := if (valP d b).2.2 = true then (v0, 0) else ((valP d b).1, b.length - (valP d b).2.1.length)
end Go.AX.Co
/- The reference's reader: Next, Decode. -/
set_option maxHeartbeats 8000000
set_option linter.unusedVariables false
set_option linter.unusedSimpArgs false
set_option maxRecDepth 20000
namespace Go.AX.Co
open Go.Proofs Go.RowKit Go.IntWalk
end Go.AX.Co
/- Values that are read are not too large; a law's arguments. -/
set_option maxHeartbeats 8000000
set_option linter.unusedVariables false
set_option linter.unusedSimpArgs false
set_option maxRecDepth 20000
namespace Go.AX.Co
open Go.Proofs Go.RowKit Go.IntWalk
theorem FitW.fitV {v : Vl} (h : FitW v) : FitV v := by
  induction h with
  | mk k n b l hn hb hl hx ih => exact .mk k n b l (by omega) (by omega) ih
theorem v0_fit : FitW v0 := .mk 0 0 [] [] (by omega) (by simp) (by simp) (by simp)
end Go.AX.Co

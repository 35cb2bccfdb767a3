/- Branches: the check of a table, plain. -/
import Derived.Test.YtnmgmlmiijljmaaBb
set_option maxHeartbeats 8000000
set_option linter.unusedVariables false
set_option linter.unusedSimpArgs false
set_option maxRecDepth 20000
namespace Go.AX.Br
open Go.Proofs Go.RowKit Go.IntWalk
def twice (l : List Br) : Bool := anyI (fun i b => decide (idx (has b.name) l < i)) l
def root (b : Br) : Bool := decide (b.frm = ⟨#[]⟩) && (b.at' == 0)
def badN (b : Br) : Bool := !isNm b.name || decide (b.at' < 0) || decide (320 < b.at')
def badAt (l : List Br) (i : Nat) (b : Br) : Bool := badN b || (decide (i = 0) && !root b) || (decide (0 < i) && decide (idx (has b.frm) (l.take i) < 0))
def check (l : List Br) : Int := if 8 < l.length then 4 else if twice l then 14 else if l.isEmpty || anyI (badAt l) l then 8 else 0
theorem idx_le {α : Type} {p : α → Bool} {l : List α} {i : Nat} {x : α} (hx : l[i]? = some x) (hp : p x = true) : 0 ≤ idx p l ∧ idx p l ≤ i := by
  unfold idx
  cases h : l.findIdx? p with
  | none =>
    have := List.findIdx?_eq_none_iff.1 h x (List.mem_of_getElem? hx)
    rw [hp] at this; cases this
  | some k =>
    obtain ⟨hk, _, hmin⟩ := List.findIdx?_eq_some_iff_getElem.1 h
    refine ⟨by simp, ?_⟩
    simp only [Int.ofNat_le]
    rcases Nat.lt_or_ge i k with q | q
    · have := hmin i q
      have hlt := some_lt hx
      rw [List.getElem?_eq_getElem hlt] at hx
      simp at hx
      rw [hx, hp] at this; simp at this
    · exact q
end Go.AX.Br

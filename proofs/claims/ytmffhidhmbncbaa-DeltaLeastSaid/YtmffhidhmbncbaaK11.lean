/- What is known of blocks: a row in a cell, as data; operations, none left. -/
import Derived.Test.YtmffhidhmbncbaaK10
set_option maxHeartbeats 8000000
set_option linter.unusedVariables false
set_option linter.unusedSimpArgs false
set_option maxRecDepth 20000
namespace Go.AX
open Go.Proofs Go.RowKit
theorem EvS.none {Γ : Ctx} {all : Array Oper} {k : List It} {env : List AV} {σ : List AObj} (h : EvS Γ k env σ) : EvS Γ (.ops [] all :: k) env σ := fun c0 σ0 Q0 hn hQ hY c a G => by
  have := h c0 σ0 Q0 hn hQ hY c a G
  simp only [SemK]
  simpa only [wpListIn] using this
end Go.AX
/- Deltas as values: Encode. -/
set_option maxHeartbeats 8000000
set_option linter.unusedVariables false
set_option linter.unusedSimpArgs false
set_option maxRecDepth 20000
namespace Go.AX.De
open Go.Proofs Go.RowKit Go.IntWalk
open Go.AX.Co (Vl vD vDs vDs_eq vA bY FitW encP encode_own encode_ref vD_len number_spec text_spec list_spec decP decode_own decode_ref)
def num (n : Int) : Vl := .mk 1 n [] []
/-- a part as a value -/
def pV (p : Part) : Vl := if 0 < p.n then .mk 3 0 [] [num p.at', num p.n] else .mk 2 0 p.data []
def pVs (l : List Part) : Vl := .mk 3 0 [] (l.map pV)
def encD (l : List Part) : List Int × Int := if valid l ≠ 0 then ([], valid l) else encP (pVs l)
end Go.AX.De
/- Deltas as values: Decode; what is inverse (plain law). -/
set_option maxHeartbeats 8000000
set_option linter.unusedVariables false
set_option linter.unusedSimpArgs false
set_option maxRecDepth 20000
namespace Go.AX.De
open Go.Proofs Go.RowKit Go.IntWalk
open Go.AX.Co (Vl vD vDs vDs_eq vA bY FitW encP encode_own encode_ref vD_len number_spec text_spec list_spec decP decode_own decode_ref rightP v0)
def cpP : List Vl → Option Part
  | [.mk k1 n1 _ _, .mk k2 n2 _ _] => if k1 = 1 ∧ k2 = 1 ∧ copies ⟨n1, n2, []⟩ = true then some ⟨n1, n2, []⟩ else none
  | _ => none
/-- the part of a value -/
def partP : Vl → Option Part
  | .mk k n b l => if k = 2 then (if inserts ⟨0, 0, b⟩ then some ⟨0, 0, b⟩ else none)
    else if k = 3 then cpP l else none
def partsP : List Vl → Option (List Part)
  | [] => some []
  | x :: r => match partP x, partsP r with
    | some p, some l => some (p :: l)
    | _, _ => none
def kdV : Vl → Int
  | .mk k _ _ _ => k
def liV : Vl → List Vl
  | .mk _ _ _ l => l
def decL (k : Int) (l : List Vl) : List Part × Int := if k ≠ 3 ∨ 200 < l.length then ([], 12) else match partsP l with
    | some m => (m, 0)
    | none => ([], 12)
def decD (b : List Int) : List Part × Int := if (decP b).2 ≠ 0 then ([], 12) else decL (kdV (decP b).1) (liV (decP b).1)
end Go.AX.De
/- Deltas as values: Decode of the program. -/
set_option maxHeartbeats 8000000
set_option linter.unusedVariables false
set_option linter.unusedSimpArgs false
set_option maxRecDepth 20000
namespace Go.AX.De
open Go.Proofs Go.RowKit Go.IntWalk
open Go.AX.Co (Vl vD vDs vDs_eq vA bY FitW FitB encP encode_own encode_ref vD_len number_spec text_spec list_spec decP decode_own decode_ref rightP v0)
end Go.AX.De
/- Deltas as values: Decode of the reference. -/
set_option maxHeartbeats 8000000
set_option linter.unusedVariables false
set_option linter.unusedSimpArgs false
set_option maxRecDepth 20000
namespace Go.AX.De
open Go.Proofs Go.RowKit Go.IntWalk
open Go.AX.Co (Vl vD vDs vDs_eq vA bY FitW FitB encP encode_own encode_ref vD_len number_spec text_spec list_spec decP decode_own decode_ref rightP v0)
end Go.AX.De

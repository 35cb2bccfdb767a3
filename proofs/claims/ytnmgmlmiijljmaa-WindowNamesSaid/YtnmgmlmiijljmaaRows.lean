/-
  No cell of these rows narrows 'for every input' (looked for: loops, veiled, ifaces, maps, wideKeys, modest, calm, conditions, laid).
  DERIVED. THE GIVEN ROWS OF THIS SEAT. 7 by the template 'for every input the law returns true; each argument reads behind the call as it read before'; 0 by the template 'total and deterministic' (their statements: YtnmgmlmiijljmaaTotals.lean).
  GIVEN WITH THE SEED: the statements are not yours to turn. If you find one false, say at which input.
  Laid BY PROGRAM, IN A SANDBOX (cutbox-rows.mjs): the forced cells as the released guide's own fill.sh prints them over the translation eb55733fdf6dc9a8… (all of the seat's roots in one cut). By AI agents, Wed Nov 11 2026. No macro, syntax, notation, axiom, sorry.
-/
import Derived.Test.YtnmgmlmiijljmaaChecked
import GoSem.Claim
import GoSem.ClaimJoined
import GoSem.ClaimMapViews
import Derived.JoinedTies
import Derived.KernelRfl
namespace Go.Proofs.Ytnmgmlmiijljmaa
/- THE CELL 'sum', in the pinned program and in every row, IS THE sha256 OF THE DUMP (.gsa) THAT YtnmgmlmiijljmaaProg.lean LOADS. Nothing in Lean hashes anything: it is a label: what it is worth is what the hold of that sum in a sandbox is worth. -/
noncomputable def Try.pinned : Pinned := { name := "ytnmgmlmiijljmaa", sum := "eb55733fdf6dc9a859999a5ad249d487ea9f4b33e413f2d02d59c2ff4ff2e4fb", checked := Try.checked }
namespace Rows
def none {H : Type} : Left H := { results := [], args := [] }

/-- 'sidinglaw31.WindowTicks': WHATEVER THE INPUT: true; the input reads as it did. -/
def windowTicksSpec : ChangeSpec := { name := "windowTicks", fn := fun _ => fun
  | [d1, d2, d3] => { results := [.lit (.bool true)], args := [d1, d2, d3] }
  | _ => none }
def windowTicksRow : OpenClaim := { program := "ytnmgmlmiijljmaa", sum := "eb55733fdf6dc9a859999a5ad249d487ea9f4b33e413f2d02d59c2ff4ff2e4fb", func := "siding/sidinglaw31.WindowTicks", spec := "windowTicks", unfollowed := true, recurses := true, apart := false }
def WindowTicksSaid : Prop := windowTicksRow.holds Try.pinned (OpenSpec.ofChange windowTicksSpec)

/-- ITS FALSE NEIGHBOUR: 'it returns false'. Refute it at one input. -/
def windowTicksWrong : ChangeSpec := { name := "windowTicks", fn := fun _ => fun
  | [d1, d2, d3] => { results := [.lit (.bool false)], args := [d1, d2, d3] }
  | _ => none }
def WindowTicksWrongFalsely : Prop := windowTicksRow.holds Try.pinned (OpenSpec.ofChange windowTicksWrong)

/-- 'sidinglaw31.WindowRanges': WHATEVER THE INPUT: true; the input reads as it did. -/
def windowRangesSpec : ChangeSpec := { name := "windowRanges", fn := fun _ => fun
  | [d1, d2, d3, d4, d5] => { results := [.lit (.bool true)], args := [d1, d2, d3, d4, d5] }
  | _ => none }
def windowRangesRow : OpenClaim := { program := "ytnmgmlmiijljmaa", sum := "eb55733fdf6dc9a859999a5ad249d487ea9f4b33e413f2d02d59c2ff4ff2e4fb", func := "siding/sidinglaw31.WindowRanges", spec := "windowRanges", unfollowed := true, recurses := true, apart := false }
def WindowRangesSaid : Prop := windowRangesRow.holds Try.pinned (OpenSpec.ofChange windowRangesSpec)

/-- ITS FALSE NEIGHBOUR: 'it returns false'. Refute it at one input. -/
def windowRangesWrong : ChangeSpec := { name := "windowRanges", fn := fun _ => fun
  | [d1, d2, d3, d4, d5] => { results := [.lit (.bool false)], args := [d1, d2, d3, d4, d5] }
  | _ => none }
def WindowRangesWrongFalsely : Prop := windowRangesRow.holds Try.pinned (OpenSpec.ofChange windowRangesWrong)

/-- 'sidinglaw31.WindowNext': WHATEVER THE INPUT: true; the input reads as it did. -/
def windowNextSpec : ChangeSpec := { name := "windowNext", fn := fun _ => fun
  | [d1, d2, d3, d4] => { results := [.lit (.bool true)], args := [d1, d2, d3, d4] }
  | _ => none }
def windowNextRow : OpenClaim := { program := "ytnmgmlmiijljmaa", sum := "eb55733fdf6dc9a859999a5ad249d487ea9f4b33e413f2d02d59c2ff4ff2e4fb", func := "siding/sidinglaw31.WindowNext", spec := "windowNext", unfollowed := true, recurses := true, apart := false }
def WindowNextSaid : Prop := windowNextRow.holds Try.pinned (OpenSpec.ofChange windowNextSpec)

/-- ITS FALSE NEIGHBOUR: 'it returns false'. Refute it at one input. -/
def windowNextWrong : ChangeSpec := { name := "windowNext", fn := fun _ => fun
  | [d1, d2, d3, d4] => { results := [.lit (.bool false)], args := [d1, d2, d3, d4] }
  | _ => none }
def WindowNextWrongFalsely : Prop := windowNextRow.holds Try.pinned (OpenSpec.ofChange windowNextWrong)

/-- 'sidinglaw31.WindowOrder': WHATEVER THE INPUT: true; the input reads as it did. -/
def windowOrderSpec : ChangeSpec := { name := "windowOrder", fn := fun _ => fun
  | [d1, d2] => { results := [.lit (.bool true)], args := [d1, d2] }
  | _ => none }
def windowOrderRow : OpenClaim := { program := "ytnmgmlmiijljmaa", sum := "eb55733fdf6dc9a859999a5ad249d487ea9f4b33e413f2d02d59c2ff4ff2e4fb", func := "siding/sidinglaw31.WindowOrder", spec := "windowOrder", unfollowed := true, recurses := true, apart := false }
def WindowOrderSaid : Prop := windowOrderRow.holds Try.pinned (OpenSpec.ofChange windowOrderSpec)

/-- ITS FALSE NEIGHBOUR: 'it returns false'. Refute it at one input. -/
def windowOrderWrong : ChangeSpec := { name := "windowOrder", fn := fun _ => fun
  | [d1, d2] => { results := [.lit (.bool false)], args := [d1, d2] }
  | _ => none }
def WindowOrderWrongFalsely : Prop := windowOrderRow.holds Try.pinned (OpenSpec.ofChange windowOrderWrong)

/-- 'sidinglaw31.WindowNames': WHATEVER THE INPUT: true; the input reads as it did. -/
def windowNamesSpec : ChangeSpec := { name := "windowNames", fn := fun _ => fun
  | [] => { results := [.lit (.bool true)], args := [] }
  | _ => none }
def windowNamesRow : OpenClaim := { program := "ytnmgmlmiijljmaa", sum := "eb55733fdf6dc9a859999a5ad249d487ea9f4b33e413f2d02d59c2ff4ff2e4fb", func := "siding/sidinglaw31.WindowNames", spec := "windowNames", unfollowed := true, recurses := true, apart := false }
def WindowNamesSaid : Prop := windowNamesRow.holds Try.pinned (OpenSpec.ofChange windowNamesSpec)

/-- ITS FALSE NEIGHBOUR: 'it returns false'. Refute it at one input. -/
def windowNamesWrong : ChangeSpec := { name := "windowNames", fn := fun _ => fun
  | [] => { results := [.lit (.bool false)], args := [] }
  | _ => none }
def WindowNamesWrongFalsely : Prop := windowNamesRow.holds Try.pinned (OpenSpec.ofChange windowNamesWrong)

/-- 'sidinglaw31.WindowExact': WHATEVER THE INPUT: true; the input reads as it did. -/
def windowExactSpec : ChangeSpec := { name := "windowExact", fn := fun _ => fun
  | [d1, d2, d3] => { results := [.lit (.bool true)], args := [d1, d2, d3] }
  | _ => none }
def windowExactRow : OpenClaim := { program := "ytnmgmlmiijljmaa", sum := "eb55733fdf6dc9a859999a5ad249d487ea9f4b33e413f2d02d59c2ff4ff2e4fb", func := "siding/sidinglaw31.WindowExact", spec := "windowExact", unfollowed := true, recurses := true, apart := false }
def WindowExactSaid : Prop := windowExactRow.holds Try.pinned (OpenSpec.ofChange windowExactSpec)

/-- ITS FALSE NEIGHBOUR: 'it returns false'. Refute it at one input. -/
def windowExactWrong : ChangeSpec := { name := "windowExact", fn := fun _ => fun
  | [d1, d2, d3] => { results := [.lit (.bool false)], args := [d1, d2, d3] }
  | _ => none }
def WindowExactWrongFalsely : Prop := windowExactRow.holds Try.pinned (OpenSpec.ofChange windowExactWrong)

/-- 'sidinglaw31.WindowSlack': WHATEVER THE INPUT: true; the input reads as it did. -/
def windowSlackSpec : ChangeSpec := { name := "windowSlack", fn := fun _ => fun
  | [d1, d2, d3, d4, d5, d6] => { results := [.lit (.bool true)], args := [d1, d2, d3, d4, d5, d6] }
  | _ => none }
def windowSlackRow : OpenClaim := { program := "ytnmgmlmiijljmaa", sum := "eb55733fdf6dc9a859999a5ad249d487ea9f4b33e413f2d02d59c2ff4ff2e4fb", func := "siding/sidinglaw31.WindowSlack", spec := "windowSlack", unfollowed := true, recurses := true, apart := false }
def WindowSlackSaid : Prop := windowSlackRow.holds Try.pinned (OpenSpec.ofChange windowSlackSpec)

/-- ITS FALSE NEIGHBOUR: 'it returns false'. Refute it at one input. -/
def windowSlackWrong : ChangeSpec := { name := "windowSlack", fn := fun _ => fun
  | [d1, d2, d3, d4, d5, d6] => { results := [.lit (.bool false)], args := [d1, d2, d3, d4, d5, d6] }
  | _ => none }
def WindowSlackWrongFalsely : Prop := windowSlackRow.holds Try.pinned (OpenSpec.ofChange windowSlackWrong)

/- THE SECOND FORM. 'bulk': how many values and letters a reading holds, each counted each time it is reached (what is shared counts as often as it is met; a slice's spare places count too). A statement '..UptoSaid' is the law's where the arguments, and the package variables that the reading takes, are together of bulk at most 1048576: NARROWER than '..Said'. Prove '..Said' where nothing that the law and all that it calls make is longer than what came in: it says more and counts as full. Else prove '..UptoSaid'. A law counts once. -/
mutual
def uptoBulk {H : Type} : DataW H → Nat
  | .lit (.string bytes) => bytes.length + 1
  | .lit _ => 1
  | .nil => 1
  | .ptr d => uptoBulk d + 1
  | .slice elems spare => uptoBulkAll elems + uptoBulkAll spare + 1
  | .agg parts => uptoBulkAll parts + 1
  | .iface _ d => uptoBulk d + 1
  | .map entries => uptoBulkEntries entries + 1
  | .held _ => 1
def uptoBulkAll {H : Type} : List (DataW H) → Nat
  | [] => 0
  | d :: r => uptoBulk d + uptoBulkAll r
def uptoBulkEntries {H : Type} : List (Lit × DataW H) → Nat
  | [] => 0
  | x :: r => uptoBulkEntry x + uptoBulkEntries r
def uptoBulkEntry {H : Type} : Lit × DataW H → Nat
  | (.string bytes, d) => bytes.length + uptoBulk d + 1
  | (_, d) => uptoBulk d + 1
 end
def uptoSmall : (H : Type) → List (DataW H) → Bool := fun _ ds => decide (uptoBulkAll ds ≤ 1048576)
def OpenSpec.upto (s : _root_.Go.ChangeSpec) : _root_.Go.OpenSpec := { _root_.Go.OpenSpec.ofChange s with cond := some uptoSmall }

/-- 'sidinglaw31.WindowTicks', WHERE WHAT IT READS IS OF BULK AT MOST 1048576: true; the input reads as it did. -/
def windowTicksUptoRow : OpenClaim := { program := "ytnmgmlmiijljmaa", sum := "eb55733fdf6dc9a859999a5ad249d487ea9f4b33e413f2d02d59c2ff4ff2e4fb", func := "siding/sidinglaw31.WindowTicks", spec := "windowTicks", unfollowed := true, recurses := true, apart := false, narrowed := true }
def WindowTicksUptoSaid : Prop := windowTicksUptoRow.holds Try.pinned (OpenSpec.upto windowTicksSpec)

/-- 'sidinglaw31.WindowRanges', WHERE WHAT IT READS IS OF BULK AT MOST 1048576: true; the input reads as it did. -/
def windowRangesUptoRow : OpenClaim := { program := "ytnmgmlmiijljmaa", sum := "eb55733fdf6dc9a859999a5ad249d487ea9f4b33e413f2d02d59c2ff4ff2e4fb", func := "siding/sidinglaw31.WindowRanges", spec := "windowRanges", unfollowed := true, recurses := true, apart := false, narrowed := true }
def WindowRangesUptoSaid : Prop := windowRangesUptoRow.holds Try.pinned (OpenSpec.upto windowRangesSpec)

/-- 'sidinglaw31.WindowNext', WHERE WHAT IT READS IS OF BULK AT MOST 1048576: true; the input reads as it did. -/
def windowNextUptoRow : OpenClaim := { program := "ytnmgmlmiijljmaa", sum := "eb55733fdf6dc9a859999a5ad249d487ea9f4b33e413f2d02d59c2ff4ff2e4fb", func := "siding/sidinglaw31.WindowNext", spec := "windowNext", unfollowed := true, recurses := true, apart := false, narrowed := true }
def WindowNextUptoSaid : Prop := windowNextUptoRow.holds Try.pinned (OpenSpec.upto windowNextSpec)

/-- 'sidinglaw31.WindowOrder', WHERE WHAT IT READS IS OF BULK AT MOST 1048576: true; the input reads as it did. -/
def windowOrderUptoRow : OpenClaim := { program := "ytnmgmlmiijljmaa", sum := "eb55733fdf6dc9a859999a5ad249d487ea9f4b33e413f2d02d59c2ff4ff2e4fb", func := "siding/sidinglaw31.WindowOrder", spec := "windowOrder", unfollowed := true, recurses := true, apart := false, narrowed := true }
def WindowOrderUptoSaid : Prop := windowOrderUptoRow.holds Try.pinned (OpenSpec.upto windowOrderSpec)

/-- 'sidinglaw31.WindowNames', WHERE WHAT IT READS IS OF BULK AT MOST 1048576: true; the input reads as it did. -/
def windowNamesUptoRow : OpenClaim := { program := "ytnmgmlmiijljmaa", sum := "eb55733fdf6dc9a859999a5ad249d487ea9f4b33e413f2d02d59c2ff4ff2e4fb", func := "siding/sidinglaw31.WindowNames", spec := "windowNames", unfollowed := true, recurses := true, apart := false, narrowed := true }
def WindowNamesUptoSaid : Prop := windowNamesUptoRow.holds Try.pinned (OpenSpec.upto windowNamesSpec)

/-- 'sidinglaw31.WindowExact', WHERE WHAT IT READS IS OF BULK AT MOST 1048576: true; the input reads as it did. -/
def windowExactUptoRow : OpenClaim := { program := "ytnmgmlmiijljmaa", sum := "eb55733fdf6dc9a859999a5ad249d487ea9f4b33e413f2d02d59c2ff4ff2e4fb", func := "siding/sidinglaw31.WindowExact", spec := "windowExact", unfollowed := true, recurses := true, apart := false, narrowed := true }
def WindowExactUptoSaid : Prop := windowExactUptoRow.holds Try.pinned (OpenSpec.upto windowExactSpec)

/-- 'sidinglaw31.WindowSlack', WHERE WHAT IT READS IS OF BULK AT MOST 1048576: true; the input reads as it did. -/
def windowSlackUptoRow : OpenClaim := { program := "ytnmgmlmiijljmaa", sum := "eb55733fdf6dc9a859999a5ad249d487ea9f4b33e413f2d02d59c2ff4ff2e4fb", func := "siding/sidinglaw31.WindowSlack", spec := "windowSlack", unfollowed := true, recurses := true, apart := false, narrowed := true }
def WindowSlackUptoSaid : Prop := windowSlackUptoRow.holds Try.pinned (OpenSpec.upto windowSlackSpec)

end Rows
end Go.Proofs.Ytnmgmlmiijljmaa

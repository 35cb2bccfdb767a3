/-
  No cell of these rows narrows 'for every input' (looked for: loops, veiled, ifaces, maps, wideKeys, modest, calm, conditions, laid).
  DERIVED. THE GIVEN ROWS OF THIS SEAT. 7 by the template 'for every input the law returns true; each argument reads behind the call as it read before'; 0 by the template 'total and deterministic' (their statements: YtcpkcjjhokbmkaaTotals.lean).
  GIVEN WITH THE SEED: the statements are not yours to turn. If you find one false, say at which input.
  Laid BY PROGRAM, IN A SANDBOX (cutbox-rows.mjs): the forced cells as the released guide's own fill.sh prints them over the translation 40b0bcacb7cea085… (all of the seat's roots in one cut). By AI agents, Wed Nov 11 2026. No macro, syntax, notation, axiom, sorry.
-/
import Derived.Test.YtcpkcjjhokbmkaaChecked
import GoSem.Claim
import GoSem.ClaimJoined
import GoSem.ClaimMapViews
import Derived.JoinedTies
import Derived.KernelRfl
namespace Go.Proofs.Ytcpkcjjhokbmkaa
/- THE CELL 'sum', in the pinned program and in every row, IS THE sha256 OF THE DUMP (.gsa) THAT YtcpkcjjhokbmkaaProg.lean LOADS. Nothing in Lean hashes anything: it is a label: what it is worth is what the hold of that sum in a sandbox is worth. -/
noncomputable def Try.pinned : Pinned := { name := "ytcpkcjjhokbmkaa", sum := "40b0bcacb7cea085027dd88cacdac200254b279e1affb4e7c008a70b2b61415a", checked := Try.checked }
namespace Rows
def none {H : Type} : Left H := { results := [], args := [] }

/-- 'sidinglaw29.LedgerApart': WHATEVER THE INPUT: true; the input reads as it did. -/
def ledgerApartSpec : ChangeSpec := { name := "ledgerApart", fn := fun _ => fun
  | [d1, d2, d3] => { results := [.lit (.bool true)], args := [d1, d2, d3] }
  | _ => none }
def ledgerApartRow : OpenClaim := { program := "ytcpkcjjhokbmkaa", sum := "40b0bcacb7cea085027dd88cacdac200254b279e1affb4e7c008a70b2b61415a", func := "siding/sidinglaw29.LedgerApart", spec := "ledgerApart", unfollowed := true, recurses := true, apart := false }
def LedgerApartSaid : Prop := ledgerApartRow.holds Try.pinned (OpenSpec.ofChange ledgerApartSpec)

/-- ITS FALSE NEIGHBOUR: 'it returns false'. Refute it at one input. -/
def ledgerApartWrong : ChangeSpec := { name := "ledgerApart", fn := fun _ => fun
  | [d1, d2, d3] => { results := [.lit (.bool false)], args := [d1, d2, d3] }
  | _ => none }
def LedgerApartWrongFalsely : Prop := ledgerApartRow.holds Try.pinned (OpenSpec.ofChange ledgerApartWrong)

/-- 'sidinglaw29.LedgerGrows': WHATEVER THE INPUT: true; the input reads as it did. -/
def ledgerGrowsSpec : ChangeSpec := { name := "ledgerGrows", fn := fun _ => fun
  | [d1, d2, d3, d4, d5] => { results := [.lit (.bool true)], args := [d1, d2, d3, d4, d5] }
  | _ => none }
def ledgerGrowsRow : OpenClaim := { program := "ytcpkcjjhokbmkaa", sum := "40b0bcacb7cea085027dd88cacdac200254b279e1affb4e7c008a70b2b61415a", func := "siding/sidinglaw29.LedgerGrows", spec := "ledgerGrows", unfollowed := true, recurses := true, apart := false }
def LedgerGrowsSaid : Prop := ledgerGrowsRow.holds Try.pinned (OpenSpec.ofChange ledgerGrowsSpec)

/-- ITS FALSE NEIGHBOUR: 'it returns false'. Refute it at one input. -/
def ledgerGrowsWrong : ChangeSpec := { name := "ledgerGrows", fn := fun _ => fun
  | [d1, d2, d3, d4, d5] => { results := [.lit (.bool false)], args := [d1, d2, d3, d4, d5] }
  | _ => none }
def LedgerGrowsWrongFalsely : Prop := ledgerGrowsRow.holds Try.pinned (OpenSpec.ofChange ledgerGrowsWrong)

/-- 'sidinglaw29.LedgerFinds': WHATEVER THE INPUT: true; the input reads as it did. -/
def ledgerFindsSpec : ChangeSpec := { name := "ledgerFinds", fn := fun _ => fun
  | [d1, d2, d3, d4, d5] => { results := [.lit (.bool true)], args := [d1, d2, d3, d4, d5] }
  | _ => none }
def ledgerFindsRow : OpenClaim := { program := "ytcpkcjjhokbmkaa", sum := "40b0bcacb7cea085027dd88cacdac200254b279e1affb4e7c008a70b2b61415a", func := "siding/sidinglaw29.LedgerFinds", spec := "ledgerFinds", unfollowed := true, recurses := true, apart := false }
def LedgerFindsSaid : Prop := ledgerFindsRow.holds Try.pinned (OpenSpec.ofChange ledgerFindsSpec)

/-- ITS FALSE NEIGHBOUR: 'it returns false'. Refute it at one input. -/
def ledgerFindsWrong : ChangeSpec := { name := "ledgerFinds", fn := fun _ => fun
  | [d1, d2, d3, d4, d5] => { results := [.lit (.bool false)], args := [d1, d2, d3, d4, d5] }
  | _ => none }
def LedgerFindsWrongFalsely : Prop := ledgerFindsRow.holds Try.pinned (OpenSpec.ofChange ledgerFindsWrong)

/-- 'sidinglaw29.LedgerDiffers': WHATEVER THE INPUT: true; the input reads as it did. -/
def ledgerDiffersSpec : ChangeSpec := { name := "ledgerDiffers", fn := fun _ => fun
  | [d1, d2, d3] => { results := [.lit (.bool true)], args := [d1, d2, d3] }
  | _ => none }
def ledgerDiffersRow : OpenClaim := { program := "ytcpkcjjhokbmkaa", sum := "40b0bcacb7cea085027dd88cacdac200254b279e1affb4e7c008a70b2b61415a", func := "siding/sidinglaw29.LedgerDiffers", spec := "ledgerDiffers", unfollowed := true, recurses := true, apart := false }
def LedgerDiffersSaid : Prop := ledgerDiffersRow.holds Try.pinned (OpenSpec.ofChange ledgerDiffersSpec)

/-- ITS FALSE NEIGHBOUR: 'it returns false'. Refute it at one input. -/
def ledgerDiffersWrong : ChangeSpec := { name := "ledgerDiffers", fn := fun _ => fun
  | [d1, d2, d3] => { results := [.lit (.bool false)], args := [d1, d2, d3] }
  | _ => none }
def LedgerDiffersWrongFalsely : Prop := ledgerDiffersRow.holds Try.pinned (OpenSpec.ofChange ledgerDiffersWrong)

/-- 'sidinglaw29.LedgerFolds': WHATEVER THE INPUT: true; the input reads as it did. -/
def ledgerFoldsSpec : ChangeSpec := { name := "ledgerFolds", fn := fun _ => fun
  | [d1, d2] => { results := [.lit (.bool true)], args := [d1, d2] }
  | _ => none }
def ledgerFoldsRow : OpenClaim := { program := "ytcpkcjjhokbmkaa", sum := "40b0bcacb7cea085027dd88cacdac200254b279e1affb4e7c008a70b2b61415a", func := "siding/sidinglaw29.LedgerFolds", spec := "ledgerFolds", unfollowed := true, recurses := true, apart := false }
def LedgerFoldsSaid : Prop := ledgerFoldsRow.holds Try.pinned (OpenSpec.ofChange ledgerFoldsSpec)

/-- ITS FALSE NEIGHBOUR: 'it returns false'. Refute it at one input. -/
def ledgerFoldsWrong : ChangeSpec := { name := "ledgerFolds", fn := fun _ => fun
  | [d1, d2] => { results := [.lit (.bool false)], args := [d1, d2] }
  | _ => none }
def LedgerFoldsWrongFalsely : Prop := ledgerFoldsRow.holds Try.pinned (OpenSpec.ofChange ledgerFoldsWrong)

/-- 'sidinglaw29.LedgerCuts': WHATEVER THE INPUT: true; the input reads as it did. -/
def ledgerCutsSpec : ChangeSpec := { name := "ledgerCuts", fn := fun _ => fun
  | [d1, d2, d3] => { results := [.lit (.bool true)], args := [d1, d2, d3] }
  | _ => none }
def ledgerCutsRow : OpenClaim := { program := "ytcpkcjjhokbmkaa", sum := "40b0bcacb7cea085027dd88cacdac200254b279e1affb4e7c008a70b2b61415a", func := "siding/sidinglaw29.LedgerCuts", spec := "ledgerCuts", unfollowed := true, recurses := true, apart := false }
def LedgerCutsSaid : Prop := ledgerCutsRow.holds Try.pinned (OpenSpec.ofChange ledgerCutsSpec)

/-- ITS FALSE NEIGHBOUR: 'it returns false'. Refute it at one input. -/
def ledgerCutsWrong : ChangeSpec := { name := "ledgerCuts", fn := fun _ => fun
  | [d1, d2, d3] => { results := [.lit (.bool false)], args := [d1, d2, d3] }
  | _ => none }
def LedgerCutsWrongFalsely : Prop := ledgerCutsRow.holds Try.pinned (OpenSpec.ofChange ledgerCutsWrong)

/-- 'sidinglaw29.LedgerNames': WHATEVER THE INPUT: true; the input reads as it did. -/
def ledgerNamesSpec : ChangeSpec := { name := "ledgerNames", fn := fun _ => fun
  | [] => { results := [.lit (.bool true)], args := [] }
  | _ => none }
def ledgerNamesRow : OpenClaim := { program := "ytcpkcjjhokbmkaa", sum := "40b0bcacb7cea085027dd88cacdac200254b279e1affb4e7c008a70b2b61415a", func := "siding/sidinglaw29.LedgerNames", spec := "ledgerNames", unfollowed := true, recurses := true, apart := false }
def LedgerNamesSaid : Prop := ledgerNamesRow.holds Try.pinned (OpenSpec.ofChange ledgerNamesSpec)

/-- ITS FALSE NEIGHBOUR: 'it returns false'. Refute it at one input. -/
def ledgerNamesWrong : ChangeSpec := { name := "ledgerNames", fn := fun _ => fun
  | [] => { results := [.lit (.bool false)], args := [] }
  | _ => none }
def LedgerNamesWrongFalsely : Prop := ledgerNamesRow.holds Try.pinned (OpenSpec.ofChange ledgerNamesWrong)

/- THE SECOND FORM. 'bulk': how many values and letters a reading holds, each counted each time it is reached (what is shared counts as often as it is met; a slice's spare places count too). A statement '..UptoSaid' is the law's where the arguments, and the package variables that the reading takes, are together of bulk at most 1048576: NARROWER than '..Said'. Prove '..Said' where nothing that the law and all that it calls make is longer than what came in: it says more and counts as full. Else prove '..UptoSaid'. A law counts once. -/
mutual
def uptoBulk {H : Type} : DataW H → Nat
  | .lit (.string bytes) => bytes.length + 1
  | .lit _ => 1
  | .nil => 1
  | .ptr d => uptoBulk d + 1
  | .slice elems spare => uptoBulkAll elems + uptoBulkAll spare + 1
  | .agg parts => uptoBulkAll parts + 1
  | .iface _ d => uptoBulk d + 1
  | .map entries => uptoBulkEntries entries + 1
  | .held _ => 1
def uptoBulkAll {H : Type} : List (DataW H) → Nat
  | [] => 0
  | d :: r => uptoBulk d + uptoBulkAll r
def uptoBulkEntries {H : Type} : List (Lit × DataW H) → Nat
  | [] => 0
  | x :: r => uptoBulkEntry x + uptoBulkEntries r
def uptoBulkEntry {H : Type} : Lit × DataW H → Nat
  | (.string bytes, d) => bytes.length + uptoBulk d + 1
  | (_, d) => uptoBulk d + 1
 end
def uptoSmall : (H : Type) → List (DataW H) → Bool := fun _ ds => decide (uptoBulkAll ds ≤ 1048576)
def OpenSpec.upto (s : _root_.Go.ChangeSpec) : _root_.Go.OpenSpec := { _root_.Go.OpenSpec.ofChange s with cond := some uptoSmall }

/-- 'sidinglaw29.LedgerApart', WHERE WHAT IT READS IS OF BULK AT MOST 1048576: true; the input reads as it did. -/
def ledgerApartUptoRow : OpenClaim := { program := "ytcpkcjjhokbmkaa", sum := "40b0bcacb7cea085027dd88cacdac200254b279e1affb4e7c008a70b2b61415a", func := "siding/sidinglaw29.LedgerApart", spec := "ledgerApart", unfollowed := true, recurses := true, apart := false, narrowed := true }
def LedgerApartUptoSaid : Prop := ledgerApartUptoRow.holds Try.pinned (OpenSpec.upto ledgerApartSpec)

/-- 'sidinglaw29.LedgerGrows', WHERE WHAT IT READS IS OF BULK AT MOST 1048576: true; the input reads as it did. -/
def ledgerGrowsUptoRow : OpenClaim := { program := "ytcpkcjjhokbmkaa", sum := "40b0bcacb7cea085027dd88cacdac200254b279e1affb4e7c008a70b2b61415a", func := "siding/sidinglaw29.LedgerGrows", spec := "ledgerGrows", unfollowed := true, recurses := true, apart := false, narrowed := true }
def LedgerGrowsUptoSaid : Prop := ledgerGrowsUptoRow.holds Try.pinned (OpenSpec.upto ledgerGrowsSpec)

/-- 'sidinglaw29.LedgerFinds', WHERE WHAT IT READS IS OF BULK AT MOST 1048576: true; the input reads as it did. -/
def ledgerFindsUptoRow : OpenClaim := { program := "ytcpkcjjhokbmkaa", sum := "40b0bcacb7cea085027dd88cacdac200254b279e1affb4e7c008a70b2b61415a", func := "siding/sidinglaw29.LedgerFinds", spec := "ledgerFinds", unfollowed := true, recurses := true, apart := false, narrowed := true }
def LedgerFindsUptoSaid : Prop := ledgerFindsUptoRow.holds Try.pinned (OpenSpec.upto ledgerFindsSpec)

/-- 'sidinglaw29.LedgerDiffers', WHERE WHAT IT READS IS OF BULK AT MOST 1048576: true; the input reads as it did. -/
def ledgerDiffersUptoRow : OpenClaim := { program := "ytcpkcjjhokbmkaa", sum := "40b0bcacb7cea085027dd88cacdac200254b279e1affb4e7c008a70b2b61415a", func := "siding/sidinglaw29.LedgerDiffers", spec := "ledgerDiffers", unfollowed := true, recurses := true, apart := false, narrowed := true }
def LedgerDiffersUptoSaid : Prop := ledgerDiffersUptoRow.holds Try.pinned (OpenSpec.upto ledgerDiffersSpec)

/-- 'sidinglaw29.LedgerFolds', WHERE WHAT IT READS IS OF BULK AT MOST 1048576: true; the input reads as it did. -/
def ledgerFoldsUptoRow : OpenClaim := { program := "ytcpkcjjhokbmkaa", sum := "40b0bcacb7cea085027dd88cacdac200254b279e1affb4e7c008a70b2b61415a", func := "siding/sidinglaw29.LedgerFolds", spec := "ledgerFolds", unfollowed := true, recurses := true, apart := false, narrowed := true }
def LedgerFoldsUptoSaid : Prop := ledgerFoldsUptoRow.holds Try.pinned (OpenSpec.upto ledgerFoldsSpec)

/-- 'sidinglaw29.LedgerCuts', WHERE WHAT IT READS IS OF BULK AT MOST 1048576: true; the input reads as it did. -/
def ledgerCutsUptoRow : OpenClaim := { program := "ytcpkcjjhokbmkaa", sum := "40b0bcacb7cea085027dd88cacdac200254b279e1affb4e7c008a70b2b61415a", func := "siding/sidinglaw29.LedgerCuts", spec := "ledgerCuts", unfollowed := true, recurses := true, apart := false, narrowed := true }
def LedgerCutsUptoSaid : Prop := ledgerCutsUptoRow.holds Try.pinned (OpenSpec.upto ledgerCutsSpec)

/-- 'sidinglaw29.LedgerNames', WHERE WHAT IT READS IS OF BULK AT MOST 1048576: true; the input reads as it did. -/
def ledgerNamesUptoRow : OpenClaim := { program := "ytcpkcjjhokbmkaa", sum := "40b0bcacb7cea085027dd88cacdac200254b279e1affb4e7c008a70b2b61415a", func := "siding/sidinglaw29.LedgerNames", spec := "ledgerNames", unfollowed := true, recurses := true, apart := false, narrowed := true }
def LedgerNamesUptoSaid : Prop := ledgerNamesUptoRow.holds Try.pinned (OpenSpec.upto ledgerNamesSpec)

end Rows
end Go.Proofs.Ytcpkcjjhokbmkaa

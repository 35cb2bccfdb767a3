/-
  No cell of these rows narrows 'for every input' (looked for: loops, veiled, ifaces, maps, wideKeys, modest, calm, conditions, laid).
  DERIVED. THE GIVEN ROWS OF THIS SEAT. 7 by the template 'for every input the law returns true; each argument reads behind the call as it read before'; 0 by the template 'total and deterministic' (their statements: YtebkafjebnjcoaaTotals.lean).
  GIVEN WITH THE SEED: the statements are not yours to turn. If you find one false, say at which input.
  Laid BY PROGRAM, IN A SANDBOX (cutbox-rows.mjs): the forced cells as the released guide's own fill.sh prints them over the translation 33f14cc1a663dea5… (all of the seat's roots in one cut). By AI agents, Wed Nov 11 2026. No macro, syntax, notation, axiom, sorry.
-/
import Derived.Test.YtebkafjebnjcoaaChecked
import GoSem.Claim
import GoSem.ClaimJoined
import GoSem.ClaimMapViews
import Derived.JoinedTies
import Derived.KernelRfl
namespace Go.Proofs.Ytebkafjebnjcoaa
/- THE CELL 'sum', in the pinned program and in every row, IS THE sha256 OF THE DUMP (.gsa) THAT YtebkafjebnjcoaaProg.lean LOADS. Nothing in Lean hashes anything: it is a label: what it is worth is what the hold of that sum in a sandbox is worth. -/
noncomputable def Try.pinned : Pinned := { name := "ytebkafjebnjcoaa", sum := "33f14cc1a663dea5e289fdfaf998b0b951dfe86afe027f01216ea4d6660b9578", checked := Try.checked }
namespace Rows
def none {H : Type} : Left H := { results := [], args := [] }

/-- 'sidinglaw26.BranchViews': WHATEVER THE INPUT: true; the input reads as it did. -/
def branchViewsSpec : ChangeSpec := { name := "branchViews", fn := fun _ => fun
  | [d1, d2, d3, d4] => { results := [.lit (.bool true)], args := [d1, d2, d3, d4] }
  | _ => none }
def branchViewsRow : OpenClaim := { program := "ytebkafjebnjcoaa", sum := "33f14cc1a663dea5e289fdfaf998b0b951dfe86afe027f01216ea4d6660b9578", func := "siding/sidinglaw26.BranchViews", spec := "branchViews", unfollowed := true, recurses := true, plainKeys := false, apart := false }
def BranchViewsSaid : Prop := branchViewsRow.holds Try.pinned (OpenSpec.ofChange branchViewsSpec)

/-- ITS FALSE NEIGHBOUR: 'it returns false'. Refute it at one input. -/
def branchViewsWrong : ChangeSpec := { name := "branchViews", fn := fun _ => fun
  | [d1, d2, d3, d4] => { results := [.lit (.bool false)], args := [d1, d2, d3, d4] }
  | _ => none }
def BranchViewsWrongFalsely : Prop := branchViewsRow.holds Try.pinned (OpenSpec.ofChange branchViewsWrong)

/-- 'sidinglaw26.BranchStems': WHATEVER THE INPUT: true; the input reads as it did. -/
def branchStemsSpec : ChangeSpec := { name := "branchStems", fn := fun _ => fun
  | [d1, d2, d3, d4] => { results := [.lit (.bool true)], args := [d1, d2, d3, d4] }
  | _ => none }
def branchStemsRow : OpenClaim := { program := "ytebkafjebnjcoaa", sum := "33f14cc1a663dea5e289fdfaf998b0b951dfe86afe027f01216ea4d6660b9578", func := "siding/sidinglaw26.BranchStems", spec := "branchStems", unfollowed := true, recurses := true, plainKeys := false, apart := false }
def BranchStemsSaid : Prop := branchStemsRow.holds Try.pinned (OpenSpec.ofChange branchStemsSpec)

/-- ITS FALSE NEIGHBOUR: 'it returns false'. Refute it at one input. -/
def branchStemsWrong : ChangeSpec := { name := "branchStems", fn := fun _ => fun
  | [d1, d2, d3, d4] => { results := [.lit (.bool false)], args := [d1, d2, d3, d4] }
  | _ => none }
def BranchStemsWrongFalsely : Prop := branchStemsRow.holds Try.pinned (OpenSpec.ofChange branchStemsWrong)

/-- 'sidinglaw26.BranchLines': WHATEVER THE INPUT: true; the input reads as it did. -/
def branchLinesSpec : ChangeSpec := { name := "branchLines", fn := fun _ => fun
  | [d1, d2, d3] => { results := [.lit (.bool true)], args := [d1, d2, d3] }
  | _ => none }
def branchLinesRow : OpenClaim := { program := "ytebkafjebnjcoaa", sum := "33f14cc1a663dea5e289fdfaf998b0b951dfe86afe027f01216ea4d6660b9578", func := "siding/sidinglaw26.BranchLines", spec := "branchLines", unfollowed := true, recurses := true, plainKeys := false, apart := false }
def BranchLinesSaid : Prop := branchLinesRow.holds Try.pinned (OpenSpec.ofChange branchLinesSpec)

/-- ITS FALSE NEIGHBOUR: 'it returns false'. Refute it at one input. -/
def branchLinesWrong : ChangeSpec := { name := "branchLines", fn := fun _ => fun
  | [d1, d2, d3] => { results := [.lit (.bool false)], args := [d1, d2, d3] }
  | _ => none }
def BranchLinesWrongFalsely : Prop := branchLinesRow.holds Try.pinned (OpenSpec.ofChange branchLinesWrong)

/-- 'sidinglaw26.BranchGrows': WHATEVER THE INPUT: true; the input reads as it did. -/
def branchGrowsSpec : ChangeSpec := { name := "branchGrows", fn := fun _ => fun
  | [d1, d2, d3, d4] => { results := [.lit (.bool true)], args := [d1, d2, d3, d4] }
  | _ => none }
def branchGrowsRow : OpenClaim := { program := "ytebkafjebnjcoaa", sum := "33f14cc1a663dea5e289fdfaf998b0b951dfe86afe027f01216ea4d6660b9578", func := "siding/sidinglaw26.BranchGrows", spec := "branchGrows", unfollowed := true, recurses := true, plainKeys := false, apart := false }
def BranchGrowsSaid : Prop := branchGrowsRow.holds Try.pinned (OpenSpec.ofChange branchGrowsSpec)

/-- ITS FALSE NEIGHBOUR: 'it returns false'. Refute it at one input. -/
def branchGrowsWrong : ChangeSpec := { name := "branchGrows", fn := fun _ => fun
  | [d1, d2, d3, d4] => { results := [.lit (.bool false)], args := [d1, d2, d3, d4] }
  | _ => none }
def BranchGrowsWrongFalsely : Prop := branchGrowsRow.holds Try.pinned (OpenSpec.ofChange branchGrowsWrong)

/-- 'sidinglaw26.BranchOwns': WHATEVER THE INPUT: true; the input reads as it did. -/
def branchOwnsSpec : ChangeSpec := { name := "branchOwns", fn := fun _ => fun
  | [d1, d2, d3] => { results := [.lit (.bool true)], args := [d1, d2, d3] }
  | _ => none }
def branchOwnsRow : OpenClaim := { program := "ytebkafjebnjcoaa", sum := "33f14cc1a663dea5e289fdfaf998b0b951dfe86afe027f01216ea4d6660b9578", func := "siding/sidinglaw26.BranchOwns", spec := "branchOwns", unfollowed := true, recurses := true, plainKeys := false, apart := false }
def BranchOwnsSaid : Prop := branchOwnsRow.holds Try.pinned (OpenSpec.ofChange branchOwnsSpec)

/-- ITS FALSE NEIGHBOUR: 'it returns false'. Refute it at one input. -/
def branchOwnsWrong : ChangeSpec := { name := "branchOwns", fn := fun _ => fun
  | [d1, d2, d3] => { results := [.lit (.bool false)], args := [d1, d2, d3] }
  | _ => none }
def BranchOwnsWrongFalsely : Prop := branchOwnsRow.holds Try.pinned (OpenSpec.ofChange branchOwnsWrong)

/-- 'sidinglaw26.BranchCuts': WHATEVER THE INPUT: true; the input reads as it did. -/
def branchCutsSpec : ChangeSpec := { name := "branchCuts", fn := fun _ => fun
  | [d1, d2, d3, d4, d5, d6] => { results := [.lit (.bool true)], args := [d1, d2, d3, d4, d5, d6] }
  | _ => none }
def branchCutsRow : OpenClaim := { program := "ytebkafjebnjcoaa", sum := "33f14cc1a663dea5e289fdfaf998b0b951dfe86afe027f01216ea4d6660b9578", func := "siding/sidinglaw26.BranchCuts", spec := "branchCuts", unfollowed := true, recurses := true, plainKeys := false, apart := false }
def BranchCutsSaid : Prop := branchCutsRow.holds Try.pinned (OpenSpec.ofChange branchCutsSpec)

/-- ITS FALSE NEIGHBOUR: 'it returns false'. Refute it at one input. -/
def branchCutsWrong : ChangeSpec := { name := "branchCuts", fn := fun _ => fun
  | [d1, d2, d3, d4, d5, d6] => { results := [.lit (.bool false)], args := [d1, d2, d3, d4, d5, d6] }
  | _ => none }
def BranchCutsWrongFalsely : Prop := branchCutsRow.holds Try.pinned (OpenSpec.ofChange branchCutsWrong)

/-- 'sidinglaw26.BranchNames': WHATEVER THE INPUT: true; the input reads as it did. -/
def branchNamesSpec : ChangeSpec := { name := "branchNames", fn := fun _ => fun
  | [] => { results := [.lit (.bool true)], args := [] }
  | _ => none }
def branchNamesRow : OpenClaim := { program := "ytebkafjebnjcoaa", sum := "33f14cc1a663dea5e289fdfaf998b0b951dfe86afe027f01216ea4d6660b9578", func := "siding/sidinglaw26.BranchNames", spec := "branchNames", unfollowed := true, recurses := true, plainKeys := false, apart := false }
def BranchNamesSaid : Prop := branchNamesRow.holds Try.pinned (OpenSpec.ofChange branchNamesSpec)

/-- ITS FALSE NEIGHBOUR: 'it returns false'. Refute it at one input. -/
def branchNamesWrong : ChangeSpec := { name := "branchNames", fn := fun _ => fun
  | [] => { results := [.lit (.bool false)], args := [] }
  | _ => none }
def BranchNamesWrongFalsely : Prop := branchNamesRow.holds Try.pinned (OpenSpec.ofChange branchNamesWrong)

/- THE SECOND FORM. 'bulk': how many values and letters a reading holds, each counted each time it is reached (what is shared counts as often as it is met; a slice's spare places count too). A statement '..UptoSaid' is the law's where the arguments, and the package variables that the reading takes, are together of bulk at most 1048576: NARROWER than '..Said'. Prove '..Said' where nothing that the law and all that it calls make is longer than what came in: it says more and counts as full. Else prove '..UptoSaid'. A law counts once. -/
mutual
def uptoBulk {H : Type} : DataW H → Nat
  | .lit (.string bytes) => bytes.length + 1
  | .lit _ => 1
  | .nil => 1
  | .ptr d => uptoBulk d + 1
  | .slice elems spare => uptoBulkAll elems + uptoBulkAll spare + 1
  | .agg parts => uptoBulkAll parts + 1
  | .iface _ d => uptoBulk d + 1
  | .map entries => uptoBulkEntries entries + 1
  | .held _ => 1
def uptoBulkAll {H : Type} : List (DataW H) → Nat
  | [] => 0
  | d :: r => uptoBulk d + uptoBulkAll r
def uptoBulkEntries {H : Type} : List (Lit × DataW H) → Nat
  | [] => 0
  | x :: r => uptoBulkEntry x + uptoBulkEntries r
def uptoBulkEntry {H : Type} : Lit × DataW H → Nat
  | (.string bytes, d) => bytes.length + uptoBulk d + 1
  | (_, d) => uptoBulk d + 1
 end
def uptoSmall : (H : Type) → List (DataW H) → Bool := fun _ ds => decide (uptoBulkAll ds ≤ 1048576)
def OpenSpec.upto (s : _root_.Go.ChangeSpec) : _root_.Go.OpenSpec := { _root_.Go.OpenSpec.ofChange s with cond := some uptoSmall }

/-- 'sidinglaw26.BranchViews', WHERE WHAT IT READS IS OF BULK AT MOST 1048576: true; the input reads as it did. -/
def branchViewsUptoRow : OpenClaim := { program := "ytebkafjebnjcoaa", sum := "33f14cc1a663dea5e289fdfaf998b0b951dfe86afe027f01216ea4d6660b9578", func := "siding/sidinglaw26.BranchViews", spec := "branchViews", unfollowed := true, recurses := true, plainKeys := false, apart := false, narrowed := true }
def BranchViewsUptoSaid : Prop := branchViewsUptoRow.holds Try.pinned (OpenSpec.upto branchViewsSpec)

/-- 'sidinglaw26.BranchStems', WHERE WHAT IT READS IS OF BULK AT MOST 1048576: true; the input reads as it did. -/
def branchStemsUptoRow : OpenClaim := { program := "ytebkafjebnjcoaa", sum := "33f14cc1a663dea5e289fdfaf998b0b951dfe86afe027f01216ea4d6660b9578", func := "siding/sidinglaw26.BranchStems", spec := "branchStems", unfollowed := true, recurses := true, plainKeys := false, apart := false, narrowed := true }
def BranchStemsUptoSaid : Prop := branchStemsUptoRow.holds Try.pinned (OpenSpec.upto branchStemsSpec)

/-- 'sidinglaw26.BranchLines', WHERE WHAT IT READS IS OF BULK AT MOST 1048576: true; the input reads as it did. -/
def branchLinesUptoRow : OpenClaim := { program := "ytebkafjebnjcoaa", sum := "33f14cc1a663dea5e289fdfaf998b0b951dfe86afe027f01216ea4d6660b9578", func := "siding/sidinglaw26.BranchLines", spec := "branchLines", unfollowed := true, recurses := true, plainKeys := false, apart := false, narrowed := true }
def BranchLinesUptoSaid : Prop := branchLinesUptoRow.holds Try.pinned (OpenSpec.upto branchLinesSpec)

/-- 'sidinglaw26.BranchGrows', WHERE WHAT IT READS IS OF BULK AT MOST 1048576: true; the input reads as it did. -/
def branchGrowsUptoRow : OpenClaim := { program := "ytebkafjebnjcoaa", sum := "33f14cc1a663dea5e289fdfaf998b0b951dfe86afe027f01216ea4d6660b9578", func := "siding/sidinglaw26.BranchGrows", spec := "branchGrows", unfollowed := true, recurses := true, plainKeys := false, apart := false, narrowed := true }
def BranchGrowsUptoSaid : Prop := branchGrowsUptoRow.holds Try.pinned (OpenSpec.upto branchGrowsSpec)

/-- 'sidinglaw26.BranchOwns', WHERE WHAT IT READS IS OF BULK AT MOST 1048576: true; the input reads as it did. -/
def branchOwnsUptoRow : OpenClaim := { program := "ytebkafjebnjcoaa", sum := "33f14cc1a663dea5e289fdfaf998b0b951dfe86afe027f01216ea4d6660b9578", func := "siding/sidinglaw26.BranchOwns", spec := "branchOwns", unfollowed := true, recurses := true, plainKeys := false, apart := false, narrowed := true }
def BranchOwnsUptoSaid : Prop := branchOwnsUptoRow.holds Try.pinned (OpenSpec.upto branchOwnsSpec)

/-- 'sidinglaw26.BranchCuts', WHERE WHAT IT READS IS OF BULK AT MOST 1048576: true; the input reads as it did. -/
def branchCutsUptoRow : OpenClaim := { program := "ytebkafjebnjcoaa", sum := "33f14cc1a663dea5e289fdfaf998b0b951dfe86afe027f01216ea4d6660b9578", func := "siding/sidinglaw26.BranchCuts", spec := "branchCuts", unfollowed := true, recurses := true, plainKeys := false, apart := false, narrowed := true }
def BranchCutsUptoSaid : Prop := branchCutsUptoRow.holds Try.pinned (OpenSpec.upto branchCutsSpec)

/-- 'sidinglaw26.BranchNames', WHERE WHAT IT READS IS OF BULK AT MOST 1048576: true; the input reads as it did. -/
def branchNamesUptoRow : OpenClaim := { program := "ytebkafjebnjcoaa", sum := "33f14cc1a663dea5e289fdfaf998b0b951dfe86afe027f01216ea4d6660b9578", func := "siding/sidinglaw26.BranchNames", spec := "branchNames", unfollowed := true, recurses := true, plainKeys := false, apart := false, narrowed := true }
def BranchNamesUptoSaid : Prop := branchNamesUptoRow.holds Try.pinned (OpenSpec.upto branchNamesSpec)

end Rows
end Go.Proofs.Ytebkafjebnjcoaa

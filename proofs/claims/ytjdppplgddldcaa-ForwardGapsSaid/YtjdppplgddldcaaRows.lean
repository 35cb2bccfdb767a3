/-
  No cell of these rows narrows 'for every input' (looked for: loops, veiled, ifaces, maps, wideKeys, modest, calm, conditions, laid).
  DERIVED. THE GIVEN ROWS OF THIS SEAT. 7 by the template 'for every input the law returns true; each argument reads behind the call as it read before'; 0 by the template 'total and deterministic' (their statements: YtjdppplgddldcaaTotals.lean).
  GIVEN WITH THE SEED: the statements are not yours to turn. If you find one false, say at which input.
  Laid BY PROGRAM, IN A SANDBOX (cutbox-rows.mjs): the forced cells as the released guide's own fill.sh prints them over the translation b860404a6242a563… (all of the seat's roots in one cut). By AI agents, Wed Nov 11 2026. No macro, syntax, notation, axiom, sorry.
-/
import Derived.Test.YtjdppplgddldcaaChecked
import GoSem.Claim
import GoSem.ClaimJoined
import GoSem.ClaimMapViews
import Derived.JoinedTies
import Derived.KernelRfl
namespace Go.Proofs.Ytjdppplgddldcaa
/- THE CELL 'sum', in the pinned program and in every row, IS THE sha256 OF THE DUMP (.gsa) THAT YtjdppplgddldcaaProg.lean LOADS. Nothing in Lean hashes anything: it is a label: what it is worth is what the hold of that sum in a sandbox is worth. -/
noncomputable def Try.pinned : Pinned := { name := "ytjdppplgddldcaa", sum := "b860404a6242a5632d5c539021852e0c57d1fba931103af587143d769ba9491c", checked := Try.checked }
namespace Rows
def none {H : Type} : Left H := { results := [], args := [] }

/-- 'sidinglaw30.ForwardPlays': WHATEVER THE INPUT: true; the input reads as it did. -/
def forwardPlaysSpec : ChangeSpec := { name := "forwardPlays", fn := fun _ => fun
  | [d1, d2, d3] => { results := [.lit (.bool true)], args := [d1, d2, d3] }
  | _ => none }
def forwardPlaysRow : OpenClaim := { program := "ytjdppplgddldcaa", sum := "b860404a6242a5632d5c539021852e0c57d1fba931103af587143d769ba9491c", func := "siding/sidinglaw30.ForwardPlays", spec := "forwardPlays", unfollowed := true, recurses := true, apart := false }
def ForwardPlaysSaid : Prop := forwardPlaysRow.holds Try.pinned (OpenSpec.ofChange forwardPlaysSpec)

/-- ITS FALSE NEIGHBOUR: 'it returns false'. Refute it at one input. -/
def forwardPlaysWrong : ChangeSpec := { name := "forwardPlays", fn := fun _ => fun
  | [d1, d2, d3] => { results := [.lit (.bool false)], args := [d1, d2, d3] }
  | _ => none }
def ForwardPlaysWrongFalsely : Prop := forwardPlaysRow.holds Try.pinned (OpenSpec.ofChange forwardPlaysWrong)

/-- 'sidinglaw30.ForwardFinds': WHATEVER THE INPUT: true; the input reads as it did. -/
def forwardFindsSpec : ChangeSpec := { name := "forwardFinds", fn := fun _ => fun
  | [d1, d2, d3, d4] => { results := [.lit (.bool true)], args := [d1, d2, d3, d4] }
  | _ => none }
def forwardFindsRow : OpenClaim := { program := "ytjdppplgddldcaa", sum := "b860404a6242a5632d5c539021852e0c57d1fba931103af587143d769ba9491c", func := "siding/sidinglaw30.ForwardFinds", spec := "forwardFinds", unfollowed := true, recurses := true, apart := false }
def ForwardFindsSaid : Prop := forwardFindsRow.holds Try.pinned (OpenSpec.ofChange forwardFindsSpec)

/-- ITS FALSE NEIGHBOUR: 'it returns false'. Refute it at one input. -/
def forwardFindsWrong : ChangeSpec := { name := "forwardFinds", fn := fun _ => fun
  | [d1, d2, d3, d4] => { results := [.lit (.bool false)], args := [d1, d2, d3, d4] }
  | _ => none }
def ForwardFindsWrongFalsely : Prop := forwardFindsRow.holds Try.pinned (OpenSpec.ofChange forwardFindsWrong)

/-- 'sidinglaw30.ForwardGaps': WHATEVER THE INPUT: true; the input reads as it did. -/
def forwardGapsSpec : ChangeSpec := { name := "forwardGaps", fn := fun _ => fun
  | [d1, d2, d3, d4] => { results := [.lit (.bool true)], args := [d1, d2, d3, d4] }
  | _ => none }
def forwardGapsRow : OpenClaim := { program := "ytjdppplgddldcaa", sum := "b860404a6242a5632d5c539021852e0c57d1fba931103af587143d769ba9491c", func := "siding/sidinglaw30.ForwardGaps", spec := "forwardGaps", unfollowed := true, recurses := true, apart := false }
def ForwardGapsSaid : Prop := forwardGapsRow.holds Try.pinned (OpenSpec.ofChange forwardGapsSpec)

/-- ITS FALSE NEIGHBOUR: 'it returns false'. Refute it at one input. -/
def forwardGapsWrong : ChangeSpec := { name := "forwardGaps", fn := fun _ => fun
  | [d1, d2, d3, d4] => { results := [.lit (.bool false)], args := [d1, d2, d3, d4] }
  | _ => none }
def ForwardGapsWrongFalsely : Prop := forwardGapsRow.holds Try.pinned (OpenSpec.ofChange forwardGapsWrong)

/-- 'sidinglaw30.ForwardLeast': WHATEVER THE INPUT: true; the input reads as it did. -/
def forwardLeastSpec : ChangeSpec := { name := "forwardLeast", fn := fun _ => fun
  | [d1, d2, d3] => { results := [.lit (.bool true)], args := [d1, d2, d3] }
  | _ => none }
def forwardLeastRow : OpenClaim := { program := "ytjdppplgddldcaa", sum := "b860404a6242a5632d5c539021852e0c57d1fba931103af587143d769ba9491c", func := "siding/sidinglaw30.ForwardLeast", spec := "forwardLeast", unfollowed := true, recurses := true, apart := false }
def ForwardLeastSaid : Prop := forwardLeastRow.holds Try.pinned (OpenSpec.ofChange forwardLeastSpec)

/-- ITS FALSE NEIGHBOUR: 'it returns false'. Refute it at one input. -/
def forwardLeastWrong : ChangeSpec := { name := "forwardLeast", fn := fun _ => fun
  | [d1, d2, d3] => { results := [.lit (.bool false)], args := [d1, d2, d3] }
  | _ => none }
def ForwardLeastWrongFalsely : Prop := forwardLeastRow.holds Try.pinned (OpenSpec.ofChange forwardLeastWrong)

/-- 'sidinglaw30.ForwardPicks': WHATEVER THE INPUT: true; the input reads as it did. -/
def forwardPicksSpec : ChangeSpec := { name := "forwardPicks", fn := fun _ => fun
  | [d1, d2] => { results := [.lit (.bool true)], args := [d1, d2] }
  | _ => none }
def forwardPicksRow : OpenClaim := { program := "ytjdppplgddldcaa", sum := "b860404a6242a5632d5c539021852e0c57d1fba931103af587143d769ba9491c", func := "siding/sidinglaw30.ForwardPicks", spec := "forwardPicks", unfollowed := true, recurses := true, apart := false }
def ForwardPicksSaid : Prop := forwardPicksRow.holds Try.pinned (OpenSpec.ofChange forwardPicksSpec)

/-- ITS FALSE NEIGHBOUR: 'it returns false'. Refute it at one input. -/
def forwardPicksWrong : ChangeSpec := { name := "forwardPicks", fn := fun _ => fun
  | [d1, d2] => { results := [.lit (.bool false)], args := [d1, d2] }
  | _ => none }
def ForwardPicksWrongFalsely : Prop := forwardPicksRow.holds Try.pinned (OpenSpec.ofChange forwardPicksWrong)

/-- 'sidinglaw30.ForwardNames': WHATEVER THE INPUT: true; the input reads as it did. -/
def forwardNamesSpec : ChangeSpec := { name := "forwardNames", fn := fun _ => fun
  | [] => { results := [.lit (.bool true)], args := [] }
  | _ => none }
def forwardNamesRow : OpenClaim := { program := "ytjdppplgddldcaa", sum := "b860404a6242a5632d5c539021852e0c57d1fba931103af587143d769ba9491c", func := "siding/sidinglaw30.ForwardNames", spec := "forwardNames", unfollowed := true, recurses := true, apart := false }
def ForwardNamesSaid : Prop := forwardNamesRow.holds Try.pinned (OpenSpec.ofChange forwardNamesSpec)

/-- ITS FALSE NEIGHBOUR: 'it returns false'. Refute it at one input. -/
def forwardNamesWrong : ChangeSpec := { name := "forwardNames", fn := fun _ => fun
  | [] => { results := [.lit (.bool false)], args := [] }
  | _ => none }
def ForwardNamesWrongFalsely : Prop := forwardNamesRow.holds Try.pinned (OpenSpec.ofChange forwardNamesWrong)

/-- 'sidinglaw30.ForwardCloses': WHATEVER THE INPUT: true; the input reads as it did. -/
def forwardClosesSpec : ChangeSpec := { name := "forwardCloses", fn := fun _ => fun
  | [d1, d2] => { results := [.lit (.bool true)], args := [d1, d2] }
  | _ => none }
def forwardClosesRow : OpenClaim := { program := "ytjdppplgddldcaa", sum := "b860404a6242a5632d5c539021852e0c57d1fba931103af587143d769ba9491c", func := "siding/sidinglaw30.ForwardCloses", spec := "forwardCloses", unfollowed := true, recurses := true, apart := false }
def ForwardClosesSaid : Prop := forwardClosesRow.holds Try.pinned (OpenSpec.ofChange forwardClosesSpec)

/-- ITS FALSE NEIGHBOUR: 'it returns false'. Refute it at one input. -/
def forwardClosesWrong : ChangeSpec := { name := "forwardCloses", fn := fun _ => fun
  | [d1, d2] => { results := [.lit (.bool false)], args := [d1, d2] }
  | _ => none }
def ForwardClosesWrongFalsely : Prop := forwardClosesRow.holds Try.pinned (OpenSpec.ofChange forwardClosesWrong)

/- THE SECOND FORM. 'bulk': how many values and letters a reading holds, each counted each time it is reached (what is shared counts as often as it is met; a slice's spare places count too). A statement '..UptoSaid' is the law's where the arguments, and the package variables that the reading takes, are together of bulk at most 1048576: NARROWER than '..Said'. Prove '..Said' where nothing that the law and all that it calls make is longer than what came in: it says more and counts as full. Else prove '..UptoSaid'. A law counts once. -/
mutual
def uptoBulk {H : Type} : DataW H → Nat
  | .lit (.string bytes) => bytes.length + 1
  | .lit _ => 1
  | .nil => 1
  | .ptr d => uptoBulk d + 1
  | .slice elems spare => uptoBulkAll elems + uptoBulkAll spare + 1
  | .agg parts => uptoBulkAll parts + 1
  | .iface _ d => uptoBulk d + 1
  | .map entries => uptoBulkEntries entries + 1
  | .held _ => 1
def uptoBulkAll {H : Type} : List (DataW H) → Nat
  | [] => 0
  | d :: r => uptoBulk d + uptoBulkAll r
def uptoBulkEntries {H : Type} : List (Lit × DataW H) → Nat
  | [] => 0
  | x :: r => uptoBulkEntry x + uptoBulkEntries r
def uptoBulkEntry {H : Type} : Lit × DataW H → Nat
  | (.string bytes, d) => bytes.length + uptoBulk d + 1
  | (_, d) => uptoBulk d + 1
 end
def uptoSmall : (H : Type) → List (DataW H) → Bool := fun _ ds => decide (uptoBulkAll ds ≤ 1048576)
def OpenSpec.upto (s : _root_.Go.ChangeSpec) : _root_.Go.OpenSpec := { _root_.Go.OpenSpec.ofChange s with cond := some uptoSmall }

/-- 'sidinglaw30.ForwardPlays', WHERE WHAT IT READS IS OF BULK AT MOST 1048576: true; the input reads as it did. -/
def forwardPlaysUptoRow : OpenClaim := { program := "ytjdppplgddldcaa", sum := "b860404a6242a5632d5c539021852e0c57d1fba931103af587143d769ba9491c", func := "siding/sidinglaw30.ForwardPlays", spec := "forwardPlays", unfollowed := true, recurses := true, apart := false, narrowed := true }
def ForwardPlaysUptoSaid : Prop := forwardPlaysUptoRow.holds Try.pinned (OpenSpec.upto forwardPlaysSpec)

/-- 'sidinglaw30.ForwardFinds', WHERE WHAT IT READS IS OF BULK AT MOST 1048576: true; the input reads as it did. -/
def forwardFindsUptoRow : OpenClaim := { program := "ytjdppplgddldcaa", sum := "b860404a6242a5632d5c539021852e0c57d1fba931103af587143d769ba9491c", func := "siding/sidinglaw30.ForwardFinds", spec := "forwardFinds", unfollowed := true, recurses := true, apart := false, narrowed := true }
def ForwardFindsUptoSaid : Prop := forwardFindsUptoRow.holds Try.pinned (OpenSpec.upto forwardFindsSpec)

/-- 'sidinglaw30.ForwardGaps', WHERE WHAT IT READS IS OF BULK AT MOST 1048576: true; the input reads as it did. -/
def forwardGapsUptoRow : OpenClaim := { program := "ytjdppplgddldcaa", sum := "b860404a6242a5632d5c539021852e0c57d1fba931103af587143d769ba9491c", func := "siding/sidinglaw30.ForwardGaps", spec := "forwardGaps", unfollowed := true, recurses := true, apart := false, narrowed := true }
def ForwardGapsUptoSaid : Prop := forwardGapsUptoRow.holds Try.pinned (OpenSpec.upto forwardGapsSpec)

/-- 'sidinglaw30.ForwardLeast', WHERE WHAT IT READS IS OF BULK AT MOST 1048576: true; the input reads as it did. -/
def forwardLeastUptoRow : OpenClaim := { program := "ytjdppplgddldcaa", sum := "b860404a6242a5632d5c539021852e0c57d1fba931103af587143d769ba9491c", func := "siding/sidinglaw30.ForwardLeast", spec := "forwardLeast", unfollowed := true, recurses := true, apart := false, narrowed := true }
def ForwardLeastUptoSaid : Prop := forwardLeastUptoRow.holds Try.pinned (OpenSpec.upto forwardLeastSpec)

/-- 'sidinglaw30.ForwardPicks', WHERE WHAT IT READS IS OF BULK AT MOST 1048576: true; the input reads as it did. -/
def forwardPicksUptoRow : OpenClaim := { program := "ytjdppplgddldcaa", sum := "b860404a6242a5632d5c539021852e0c57d1fba931103af587143d769ba9491c", func := "siding/sidinglaw30.ForwardPicks", spec := "forwardPicks", unfollowed := true, recurses := true, apart := false, narrowed := true }
def ForwardPicksUptoSaid : Prop := forwardPicksUptoRow.holds Try.pinned (OpenSpec.upto forwardPicksSpec)

/-- 'sidinglaw30.ForwardNames', WHERE WHAT IT READS IS OF BULK AT MOST 1048576: true; the input reads as it did. -/
def forwardNamesUptoRow : OpenClaim := { program := "ytjdppplgddldcaa", sum := "b860404a6242a5632d5c539021852e0c57d1fba931103af587143d769ba9491c", func := "siding/sidinglaw30.ForwardNames", spec := "forwardNames", unfollowed := true, recurses := true, apart := false, narrowed := true }
def ForwardNamesUptoSaid : Prop := forwardNamesUptoRow.holds Try.pinned (OpenSpec.upto forwardNamesSpec)

/-- 'sidinglaw30.ForwardCloses', WHERE WHAT IT READS IS OF BULK AT MOST 1048576: true; the input reads as it did. -/
def forwardClosesUptoRow : OpenClaim := { program := "ytjdppplgddldcaa", sum := "b860404a6242a5632d5c539021852e0c57d1fba931103af587143d769ba9491c", func := "siding/sidinglaw30.ForwardCloses", spec := "forwardCloses", unfollowed := true, recurses := true, apart := false, narrowed := true }
def ForwardClosesUptoSaid : Prop := forwardClosesUptoRow.holds Try.pinned (OpenSpec.upto forwardClosesSpec)

end Rows
end Go.Proofs.Ytjdppplgddldcaa

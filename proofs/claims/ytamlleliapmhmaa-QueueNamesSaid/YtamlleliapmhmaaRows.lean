/-
  No cell of these rows narrows 'for every input' (looked for: loops, veiled, ifaces, maps, wideKeys, modest, calm, conditions, laid).
  DERIVED. THE GIVEN ROWS OF THIS SEAT. 7 by the template 'for every input the law returns true; each argument reads behind the call as it read before'; 0 by the template 'total and deterministic' (their statements: YtamlleliapmhmaaTotals.lean).
  GIVEN WITH THE SEED: the statements are not yours to turn. If you find one false, say at which input.
  Laid BY PROGRAM, IN A SANDBOX (cutbox-rows.mjs): the forced cells as the released guide's own fill.sh prints them over the translation aa29cb3915e6ce9f… (all of the seat's roots in one cut). By AI agents, Wed Nov 11 2026. No macro, syntax, notation, axiom, sorry.
-/
import Derived.Test.YtamlleliapmhmaaChecked
import GoSem.Claim
import GoSem.ClaimJoined
import GoSem.ClaimMapViews
import Derived.JoinedTies
import Derived.KernelRfl
namespace Go.Proofs.Ytamlleliapmhmaa
/- THE CELL 'sum', in the pinned program and in every row, IS THE sha256 OF THE DUMP (.gsa) THAT YtamlleliapmhmaaProg.lean LOADS. Nothing in Lean hashes anything: it is a label: what it is worth is what the hold of that sum in a sandbox is worth. -/
noncomputable def Try.pinned : Pinned := { name := "ytamlleliapmhmaa", sum := "aa29cb3915e6ce9f5c1bb84e54431b0bb2555ea173e86aa229c74584c3fbe39f", checked := Try.checked }
namespace Rows
def none {H : Type} : Left H := { results := [], args := [] }

/-- 'sidinglaw32.QueueAsks': WHATEVER THE INPUT: true; the input reads as it did. -/
def queueAsksSpec : ChangeSpec := { name := "queueAsks", fn := fun _ => fun
  | [d1, d2, d3, d4, d5] => { results := [.lit (.bool true)], args := [d1, d2, d3, d4, d5] }
  | _ => none }
def queueAsksRow : OpenClaim := { program := "ytamlleliapmhmaa", sum := "aa29cb3915e6ce9f5c1bb84e54431b0bb2555ea173e86aa229c74584c3fbe39f", func := "siding/sidinglaw32.QueueAsks", spec := "queueAsks", unfollowed := true, recurses := true, plainKeys := false, apart := false }
def QueueAsksSaid : Prop := queueAsksRow.holds Try.pinned (OpenSpec.ofChange queueAsksSpec)

/-- ITS FALSE NEIGHBOUR: 'it returns false'. Refute it at one input. -/
def queueAsksWrong : ChangeSpec := { name := "queueAsks", fn := fun _ => fun
  | [d1, d2, d3, d4, d5] => { results := [.lit (.bool false)], args := [d1, d2, d3, d4, d5] }
  | _ => none }
def QueueAsksWrongFalsely : Prop := queueAsksRow.holds Try.pinned (OpenSpec.ofChange queueAsksWrong)

/-- 'sidinglaw32.QueueMoves': WHATEVER THE INPUT: true; the input reads as it did. -/
def queueMovesSpec : ChangeSpec := { name := "queueMoves", fn := fun _ => fun
  | [d1, d2] => { results := [.lit (.bool true)], args := [d1, d2] }
  | _ => none }
def queueMovesRow : OpenClaim := { program := "ytamlleliapmhmaa", sum := "aa29cb3915e6ce9f5c1bb84e54431b0bb2555ea173e86aa229c74584c3fbe39f", func := "siding/sidinglaw32.QueueMoves", spec := "queueMoves", unfollowed := true, recurses := true, plainKeys := false, apart := false }
def QueueMovesSaid : Prop := queueMovesRow.holds Try.pinned (OpenSpec.ofChange queueMovesSpec)

/-- ITS FALSE NEIGHBOUR: 'it returns false'. Refute it at one input. -/
def queueMovesWrong : ChangeSpec := { name := "queueMoves", fn := fun _ => fun
  | [d1, d2] => { results := [.lit (.bool false)], args := [d1, d2] }
  | _ => none }
def QueueMovesWrongFalsely : Prop := queueMovesRow.holds Try.pinned (OpenSpec.ofChange queueMovesWrong)

/-- 'sidinglaw32.QueueServed': WHATEVER THE INPUT: true; the input reads as it did. -/
def queueServedSpec : ChangeSpec := { name := "queueServed", fn := fun _ => fun
  | [d1, d2, d3] => { results := [.lit (.bool true)], args := [d1, d2, d3] }
  | _ => none }
def queueServedRow : OpenClaim := { program := "ytamlleliapmhmaa", sum := "aa29cb3915e6ce9f5c1bb84e54431b0bb2555ea173e86aa229c74584c3fbe39f", func := "siding/sidinglaw32.QueueServed", spec := "queueServed", unfollowed := true, recurses := true, plainKeys := false, apart := false }
def QueueServedSaid : Prop := queueServedRow.holds Try.pinned (OpenSpec.ofChange queueServedSpec)

/-- ITS FALSE NEIGHBOUR: 'it returns false'. Refute it at one input. -/
def queueServedWrong : ChangeSpec := { name := "queueServed", fn := fun _ => fun
  | [d1, d2, d3] => { results := [.lit (.bool false)], args := [d1, d2, d3] }
  | _ => none }
def QueueServedWrongFalsely : Prop := queueServedRow.holds Try.pinned (OpenSpec.ofChange queueServedWrong)

/-- 'sidinglaw32.QueueRetries': WHATEVER THE INPUT: true; the input reads as it did. -/
def queueRetriesSpec : ChangeSpec := { name := "queueRetries", fn := fun _ => fun
  | [d1, d2] => { results := [.lit (.bool true)], args := [d1, d2] }
  | _ => none }
def queueRetriesRow : OpenClaim := { program := "ytamlleliapmhmaa", sum := "aa29cb3915e6ce9f5c1bb84e54431b0bb2555ea173e86aa229c74584c3fbe39f", func := "siding/sidinglaw32.QueueRetries", spec := "queueRetries", unfollowed := true, recurses := true, plainKeys := false, apart := false }
def QueueRetriesSaid : Prop := queueRetriesRow.holds Try.pinned (OpenSpec.ofChange queueRetriesSpec)

/-- ITS FALSE NEIGHBOUR: 'it returns false'. Refute it at one input. -/
def queueRetriesWrong : ChangeSpec := { name := "queueRetries", fn := fun _ => fun
  | [d1, d2] => { results := [.lit (.bool false)], args := [d1, d2] }
  | _ => none }
def QueueRetriesWrongFalsely : Prop := queueRetriesRow.holds Try.pinned (OpenSpec.ofChange queueRetriesWrong)

/-- 'sidinglaw32.QueueKeeps': WHATEVER THE INPUT: true; the input reads as it did. -/
def queueKeepsSpec : ChangeSpec := { name := "queueKeeps", fn := fun _ => fun
  | [d1, d2, d3] => { results := [.lit (.bool true)], args := [d1, d2, d3] }
  | _ => none }
def queueKeepsRow : OpenClaim := { program := "ytamlleliapmhmaa", sum := "aa29cb3915e6ce9f5c1bb84e54431b0bb2555ea173e86aa229c74584c3fbe39f", func := "siding/sidinglaw32.QueueKeeps", spec := "queueKeeps", unfollowed := true, recurses := true, plainKeys := false, apart := false }
def QueueKeepsSaid : Prop := queueKeepsRow.holds Try.pinned (OpenSpec.ofChange queueKeepsSpec)

/-- ITS FALSE NEIGHBOUR: 'it returns false'. Refute it at one input. -/
def queueKeepsWrong : ChangeSpec := { name := "queueKeeps", fn := fun _ => fun
  | [d1, d2, d3] => { results := [.lit (.bool false)], args := [d1, d2, d3] }
  | _ => none }
def QueueKeepsWrongFalsely : Prop := queueKeepsRow.holds Try.pinned (OpenSpec.ofChange queueKeepsWrong)

/-- 'sidinglaw32.QueueLines': WHATEVER THE INPUT: true; the input reads as it did. -/
def queueLinesSpec : ChangeSpec := { name := "queueLines", fn := fun _ => fun
  | [d1, d2, d3] => { results := [.lit (.bool true)], args := [d1, d2, d3] }
  | _ => none }
def queueLinesRow : OpenClaim := { program := "ytamlleliapmhmaa", sum := "aa29cb3915e6ce9f5c1bb84e54431b0bb2555ea173e86aa229c74584c3fbe39f", func := "siding/sidinglaw32.QueueLines", spec := "queueLines", unfollowed := true, recurses := true, plainKeys := false, apart := false }
def QueueLinesSaid : Prop := queueLinesRow.holds Try.pinned (OpenSpec.ofChange queueLinesSpec)

/-- ITS FALSE NEIGHBOUR: 'it returns false'. Refute it at one input. -/
def queueLinesWrong : ChangeSpec := { name := "queueLines", fn := fun _ => fun
  | [d1, d2, d3] => { results := [.lit (.bool false)], args := [d1, d2, d3] }
  | _ => none }
def QueueLinesWrongFalsely : Prop := queueLinesRow.holds Try.pinned (OpenSpec.ofChange queueLinesWrong)

/-- 'sidinglaw32.QueueNames': WHATEVER THE INPUT: true; the input reads as it did. -/
def queueNamesSpec : ChangeSpec := { name := "queueNames", fn := fun _ => fun
  | [] => { results := [.lit (.bool true)], args := [] }
  | _ => none }
def queueNamesRow : OpenClaim := { program := "ytamlleliapmhmaa", sum := "aa29cb3915e6ce9f5c1bb84e54431b0bb2555ea173e86aa229c74584c3fbe39f", func := "siding/sidinglaw32.QueueNames", spec := "queueNames", unfollowed := true, recurses := true, plainKeys := false, apart := false }
def QueueNamesSaid : Prop := queueNamesRow.holds Try.pinned (OpenSpec.ofChange queueNamesSpec)

/-- ITS FALSE NEIGHBOUR: 'it returns false'. Refute it at one input. -/
def queueNamesWrong : ChangeSpec := { name := "queueNames", fn := fun _ => fun
  | [] => { results := [.lit (.bool false)], args := [] }
  | _ => none }
def QueueNamesWrongFalsely : Prop := queueNamesRow.holds Try.pinned (OpenSpec.ofChange queueNamesWrong)

/- THE SECOND FORM. 'bulk': how many values and letters a reading holds, each counted each time it is reached (what is shared counts as often as it is met; a slice's spare places count too). A statement '..UptoSaid' is the law's where the arguments, and the package variables that the reading takes, are together of bulk at most 1048576: NARROWER than '..Said'. Prove '..Said' where nothing that the law and all that it calls make is longer than what came in: it says more and counts as full. Else prove '..UptoSaid'. A law counts once. -/
mutual
def uptoBulk {H : Type} : DataW H → Nat
  | .lit (.string bytes) => bytes.length + 1
  | .lit _ => 1
  | .nil => 1
  | .ptr d => uptoBulk d + 1
  | .slice elems spare => uptoBulkAll elems + uptoBulkAll spare + 1
  | .agg parts => uptoBulkAll parts + 1
  | .iface _ d => uptoBulk d + 1
  | .map entries => uptoBulkEntries entries + 1
  | .held _ => 1
def uptoBulkAll {H : Type} : List (DataW H) → Nat
  | [] => 0
  | d :: r => uptoBulk d + uptoBulkAll r
def uptoBulkEntries {H : Type} : List (Lit × DataW H) → Nat
  | [] => 0
  | x :: r => uptoBulkEntry x + uptoBulkEntries r
def uptoBulkEntry {H : Type} : Lit × DataW H → Nat
  | (.string bytes, d) => bytes.length + uptoBulk d + 1
  | (_, d) => uptoBulk d + 1
 end
def uptoSmall : (H : Type) → List (DataW H) → Bool := fun _ ds => decide (uptoBulkAll ds ≤ 1048576)
def OpenSpec.upto (s : _root_.Go.ChangeSpec) : _root_.Go.OpenSpec := { _root_.Go.OpenSpec.ofChange s with cond := some uptoSmall }

/-- 'sidinglaw32.QueueAsks', WHERE WHAT IT READS IS OF BULK AT MOST 1048576: true; the input reads as it did. -/
def queueAsksUptoRow : OpenClaim := { program := "ytamlleliapmhmaa", sum := "aa29cb3915e6ce9f5c1bb84e54431b0bb2555ea173e86aa229c74584c3fbe39f", func := "siding/sidinglaw32.QueueAsks", spec := "queueAsks", unfollowed := true, recurses := true, plainKeys := false, apart := false, narrowed := true }
def QueueAsksUptoSaid : Prop := queueAsksUptoRow.holds Try.pinned (OpenSpec.upto queueAsksSpec)

/-- 'sidinglaw32.QueueMoves', WHERE WHAT IT READS IS OF BULK AT MOST 1048576: true; the input reads as it did. -/
def queueMovesUptoRow : OpenClaim := { program := "ytamlleliapmhmaa", sum := "aa29cb3915e6ce9f5c1bb84e54431b0bb2555ea173e86aa229c74584c3fbe39f", func := "siding/sidinglaw32.QueueMoves", spec := "queueMoves", unfollowed := true, recurses := true, plainKeys := false, apart := false, narrowed := true }
def QueueMovesUptoSaid : Prop := queueMovesUptoRow.holds Try.pinned (OpenSpec.upto queueMovesSpec)

/-- 'sidinglaw32.QueueServed', WHERE WHAT IT READS IS OF BULK AT MOST 1048576: true; the input reads as it did. -/
def queueServedUptoRow : OpenClaim := { program := "ytamlleliapmhmaa", sum := "aa29cb3915e6ce9f5c1bb84e54431b0bb2555ea173e86aa229c74584c3fbe39f", func := "siding/sidinglaw32.QueueServed", spec := "queueServed", unfollowed := true, recurses := true, plainKeys := false, apart := false, narrowed := true }
def QueueServedUptoSaid : Prop := queueServedUptoRow.holds Try.pinned (OpenSpec.upto queueServedSpec)

/-- 'sidinglaw32.QueueRetries', WHERE WHAT IT READS IS OF BULK AT MOST 1048576: true; the input reads as it did. -/
def queueRetriesUptoRow : OpenClaim := { program := "ytamlleliapmhmaa", sum := "aa29cb3915e6ce9f5c1bb84e54431b0bb2555ea173e86aa229c74584c3fbe39f", func := "siding/sidinglaw32.QueueRetries", spec := "queueRetries", unfollowed := true, recurses := true, plainKeys := false, apart := false, narrowed := true }
def QueueRetriesUptoSaid : Prop := queueRetriesUptoRow.holds Try.pinned (OpenSpec.upto queueRetriesSpec)

/-- 'sidinglaw32.QueueKeeps', WHERE WHAT IT READS IS OF BULK AT MOST 1048576: true; the input reads as it did. -/
def queueKeepsUptoRow : OpenClaim := { program := "ytamlleliapmhmaa", sum := "aa29cb3915e6ce9f5c1bb84e54431b0bb2555ea173e86aa229c74584c3fbe39f", func := "siding/sidinglaw32.QueueKeeps", spec := "queueKeeps", unfollowed := true, recurses := true, plainKeys := false, apart := false, narrowed := true }
def QueueKeepsUptoSaid : Prop := queueKeepsUptoRow.holds Try.pinned (OpenSpec.upto queueKeepsSpec)

/-- 'sidinglaw32.QueueLines', WHERE WHAT IT READS IS OF BULK AT MOST 1048576: true; the input reads as it did. -/
def queueLinesUptoRow : OpenClaim := { program := "ytamlleliapmhmaa", sum := "aa29cb3915e6ce9f5c1bb84e54431b0bb2555ea173e86aa229c74584c3fbe39f", func := "siding/sidinglaw32.QueueLines", spec := "queueLines", unfollowed := true, recurses := true, plainKeys := false, apart := false, narrowed := true }
def QueueLinesUptoSaid : Prop := queueLinesUptoRow.holds Try.pinned (OpenSpec.upto queueLinesSpec)

/-- 'sidinglaw32.QueueNames', WHERE WHAT IT READS IS OF BULK AT MOST 1048576: true; the input reads as it did. -/
def queueNamesUptoRow : OpenClaim := { program := "ytamlleliapmhmaa", sum := "aa29cb3915e6ce9f5c1bb84e54431b0bb2555ea173e86aa229c74584c3fbe39f", func := "siding/sidinglaw32.QueueNames", spec := "queueNames", unfollowed := true, recurses := true, plainKeys := false, apart := false, narrowed := true }
def QueueNamesUptoSaid : Prop := queueNamesUptoRow.holds Try.pinned (OpenSpec.upto queueNamesSpec)

end Rows
end Go.Proofs.Ytamlleliapmhmaa

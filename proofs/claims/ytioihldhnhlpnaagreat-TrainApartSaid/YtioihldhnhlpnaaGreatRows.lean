/-
  No cell of these rows narrows 'for every input' (looked for: loops, veiled, ifaces, maps, wideKeys, modest, calm, conditions, laid).
  DERIVED. THE GIVEN ROWS OF THIS SEAT. 6 by the template 'for every input the law returns true; each argument reads behind the call as it read before'; 0 by the template 'total and deterministic' (their statements: YtioihldhnhlpnaaGreatTotals.lean).
  GIVEN WITH THE SEED: the statements are not yours to turn. If you find one false, say at which input.
  Laid BY PROGRAM, IN A SANDBOX (cutbox-rows.mjs): the forced cells as the released guide's own fill.sh prints them over the translation c484953bfb45bed1… (all of the seat's roots in one cut). By AI agents, Wed Nov 11 2026. No macro, syntax, notation, axiom, sorry.
-/
import Derived.Test.YtioihldhnhlpnaaGreatChecked
import GoSem.Claim
import GoSem.ClaimJoined
import GoSem.ClaimMapViews
import Derived.JoinedTies
import Derived.KernelRfl
namespace Go.Proofs.YtioihldhnhlpnaaGreat
/- THE CELL 'sum', in the pinned program and in every row, IS THE sha256 OF THE DUMP (.gsa) THAT YtioihldhnhlpnaaGreatProg.lean LOADS. Nothing in Lean hashes anything: it is a label: what it is worth is what the hold of that sum in a sandbox is worth. -/
noncomputable def Tryz.pinned : Pinned := { name := "ytioihldhnhlpnaagreat", sum := "c484953bfb45bed15a25e2a9d4a79819160fd687504c4e0cdb5eea35ddf21213", checked := Tryz.checked }
namespace Rows
def none {H : Type} : Left H := { results := [], args := [] }

/-- 'sidinglaw33.TrainRuns': WHATEVER THE INPUT: true; the input reads as it did. -/
def trainRunsSpec : ChangeSpec := { name := "trainRuns", fn := fun _ => fun
  | [d1, d2, d3, d4] => { results := [.lit (.bool true)], args := [d1, d2, d3, d4] }
  | _ => none }
def trainRunsRow : OpenClaim := { program := "ytioihldhnhlpnaagreat", sum := "c484953bfb45bed15a25e2a9d4a79819160fd687504c4e0cdb5eea35ddf21213", func := "siding/sidinglaw33.TrainRuns", spec := "trainRuns", unfollowed := true, recurses := true, plainKeys := false, apart := false }
def TrainRunsSaid : Prop := trainRunsRow.holds Tryz.pinned (OpenSpec.ofChange trainRunsSpec)

/-- ITS FALSE NEIGHBOUR: 'it returns false'. Refute it at one input. -/
def trainRunsWrong : ChangeSpec := { name := "trainRuns", fn := fun _ => fun
  | [d1, d2, d3, d4] => { results := [.lit (.bool false)], args := [d1, d2, d3, d4] }
  | _ => none }
def TrainRunsWrongFalsely : Prop := trainRunsRow.holds Tryz.pinned (OpenSpec.ofChange trainRunsWrong)

/-- 'sidinglaw33.TrainSteps': WHATEVER THE INPUT: true; the input reads as it did. -/
def trainStepsSpec : ChangeSpec := { name := "trainSteps", fn := fun _ => fun
  | [d1, d2, d3, d4] => { results := [.lit (.bool true)], args := [d1, d2, d3, d4] }
  | _ => none }
def trainStepsRow : OpenClaim := { program := "ytioihldhnhlpnaagreat", sum := "c484953bfb45bed15a25e2a9d4a79819160fd687504c4e0cdb5eea35ddf21213", func := "siding/sidinglaw33.TrainSteps", spec := "trainSteps", unfollowed := true, recurses := true, plainKeys := false, apart := false }
def TrainStepsSaid : Prop := trainStepsRow.holds Tryz.pinned (OpenSpec.ofChange trainStepsSpec)

/-- ITS FALSE NEIGHBOUR: 'it returns false'. Refute it at one input. -/
def trainStepsWrong : ChangeSpec := { name := "trainSteps", fn := fun _ => fun
  | [d1, d2, d3, d4] => { results := [.lit (.bool false)], args := [d1, d2, d3, d4] }
  | _ => none }
def TrainStepsWrongFalsely : Prop := trainStepsRow.holds Tryz.pinned (OpenSpec.ofChange trainStepsWrong)

/-- 'sidinglaw33.TrainSettles': WHATEVER THE INPUT: true; the input reads as it did. -/
def trainSettlesSpec : ChangeSpec := { name := "trainSettles", fn := fun _ => fun
  | [d1, d2, d3] => { results := [.lit (.bool true)], args := [d1, d2, d3] }
  | _ => none }
def trainSettlesRow : OpenClaim := { program := "ytioihldhnhlpnaagreat", sum := "c484953bfb45bed15a25e2a9d4a79819160fd687504c4e0cdb5eea35ddf21213", func := "siding/sidinglaw33.TrainSettles", spec := "trainSettles", unfollowed := true, recurses := true, plainKeys := false, apart := false }
def TrainSettlesSaid : Prop := trainSettlesRow.holds Tryz.pinned (OpenSpec.ofChange trainSettlesSpec)

/-- ITS FALSE NEIGHBOUR: 'it returns false'. Refute it at one input. -/
def trainSettlesWrong : ChangeSpec := { name := "trainSettles", fn := fun _ => fun
  | [d1, d2, d3] => { results := [.lit (.bool false)], args := [d1, d2, d3] }
  | _ => none }
def TrainSettlesWrongFalsely : Prop := trainSettlesRow.holds Tryz.pinned (OpenSpec.ofChange trainSettlesWrong)

/-- 'sidinglaw33.TrainFrozen': WHATEVER THE INPUT: true; the input reads as it did. -/
def trainFrozenSpec : ChangeSpec := { name := "trainFrozen", fn := fun _ => fun
  | [d1, d2, d3] => { results := [.lit (.bool true)], args := [d1, d2, d3] }
  | _ => none }
def trainFrozenRow : OpenClaim := { program := "ytioihldhnhlpnaagreat", sum := "c484953bfb45bed15a25e2a9d4a79819160fd687504c4e0cdb5eea35ddf21213", func := "siding/sidinglaw33.TrainFrozen", spec := "trainFrozen", unfollowed := true, recurses := true, plainKeys := false, apart := false }
def TrainFrozenSaid : Prop := trainFrozenRow.holds Tryz.pinned (OpenSpec.ofChange trainFrozenSpec)

/-- ITS FALSE NEIGHBOUR: 'it returns false'. Refute it at one input. -/
def trainFrozenWrong : ChangeSpec := { name := "trainFrozen", fn := fun _ => fun
  | [d1, d2, d3] => { results := [.lit (.bool false)], args := [d1, d2, d3] }
  | _ => none }
def TrainFrozenWrongFalsely : Prop := trainFrozenRow.holds Tryz.pinned (OpenSpec.ofChange trainFrozenWrong)

/-- 'sidinglaw33.TrainApart': WHATEVER THE INPUT: true; the input reads as it did. -/
def trainApartSpec : ChangeSpec := { name := "trainApart", fn := fun _ => fun
  | [d1, d2, d3] => { results := [.lit (.bool true)], args := [d1, d2, d3] }
  | _ => none }
def trainApartRow : OpenClaim := { program := "ytioihldhnhlpnaagreat", sum := "c484953bfb45bed15a25e2a9d4a79819160fd687504c4e0cdb5eea35ddf21213", func := "siding/sidinglaw33.TrainApart", spec := "trainApart", unfollowed := true, recurses := true, plainKeys := false, apart := false }
def TrainApartSaid : Prop := trainApartRow.holds Tryz.pinned (OpenSpec.ofChange trainApartSpec)

/-- ITS FALSE NEIGHBOUR: 'it returns false'. Refute it at one input. -/
def trainApartWrong : ChangeSpec := { name := "trainApart", fn := fun _ => fun
  | [d1, d2, d3] => { results := [.lit (.bool false)], args := [d1, d2, d3] }
  | _ => none }
def TrainApartWrongFalsely : Prop := trainApartRow.holds Tryz.pinned (OpenSpec.ofChange trainApartWrong)

/-- 'sidinglaw33.TrainParts': WHATEVER THE INPUT: true; the input reads as it did. -/
def trainPartsSpec : ChangeSpec := { name := "trainParts", fn := fun _ => fun
  | [d1, d2, d3, d4, d5] => { results := [.lit (.bool true)], args := [d1, d2, d3, d4, d5] }
  | _ => none }
def trainPartsRow : OpenClaim := { program := "ytioihldhnhlpnaagreat", sum := "c484953bfb45bed15a25e2a9d4a79819160fd687504c4e0cdb5eea35ddf21213", func := "siding/sidinglaw33.TrainParts", spec := "trainParts", unfollowed := true, recurses := true, plainKeys := false, apart := false }
def TrainPartsSaid : Prop := trainPartsRow.holds Tryz.pinned (OpenSpec.ofChange trainPartsSpec)

/-- ITS FALSE NEIGHBOUR: 'it returns false'. Refute it at one input. -/
def trainPartsWrong : ChangeSpec := { name := "trainParts", fn := fun _ => fun
  | [d1, d2, d3, d4, d5] => { results := [.lit (.bool false)], args := [d1, d2, d3, d4, d5] }
  | _ => none }
def TrainPartsWrongFalsely : Prop := trainPartsRow.holds Tryz.pinned (OpenSpec.ofChange trainPartsWrong)

/- THE SECOND FORM. 'bulk': how many values and letters a reading holds, each counted each time it is reached (what is shared counts as often as it is met; a slice's spare places count too). A statement '..UptoSaid' is the law's where the arguments, and the package variables that the reading takes, are together of bulk at most 1048576: NARROWER than '..Said'. Prove '..Said' where nothing that the law and all that it calls make is longer than what came in: it says more and counts as full. Else prove '..UptoSaid'. A law counts once. -/
mutual
def uptoBulk {H : Type} : DataW H → Nat
  | .lit (.string bytes) => bytes.length + 1
  | .lit _ => 1
  | .nil => 1
  | .ptr d => uptoBulk d + 1
  | .slice elems spare => uptoBulkAll elems + uptoBulkAll spare + 1
  | .agg parts => uptoBulkAll parts + 1
  | .iface _ d => uptoBulk d + 1
  | .map entries => uptoBulkEntries entries + 1
  | .held _ => 1
def uptoBulkAll {H : Type} : List (DataW H) → Nat
  | [] => 0
  | d :: r => uptoBulk d + uptoBulkAll r
def uptoBulkEntries {H : Type} : List (Lit × DataW H) → Nat
  | [] => 0
  | x :: r => uptoBulkEntry x + uptoBulkEntries r
def uptoBulkEntry {H : Type} : Lit × DataW H → Nat
  | (.string bytes, d) => bytes.length + uptoBulk d + 1
  | (_, d) => uptoBulk d + 1
 end
def uptoSmall : (H : Type) → List (DataW H) → Bool := fun _ ds => decide (uptoBulkAll ds ≤ 1048576)
def OpenSpec.upto (s : _root_.Go.ChangeSpec) : _root_.Go.OpenSpec := { _root_.Go.OpenSpec.ofChange s with cond := some uptoSmall }

/-- 'sidinglaw33.TrainRuns', WHERE WHAT IT READS IS OF BULK AT MOST 1048576: true; the input reads as it did. -/
def trainRunsUptoRow : OpenClaim := { program := "ytioihldhnhlpnaagreat", sum := "c484953bfb45bed15a25e2a9d4a79819160fd687504c4e0cdb5eea35ddf21213", func := "siding/sidinglaw33.TrainRuns", spec := "trainRuns", unfollowed := true, recurses := true, plainKeys := false, apart := false, narrowed := true }
def TrainRunsUptoSaid : Prop := trainRunsUptoRow.holds Tryz.pinned (OpenSpec.upto trainRunsSpec)

/-- 'sidinglaw33.TrainSteps', WHERE WHAT IT READS IS OF BULK AT MOST 1048576: true; the input reads as it did. -/
def trainStepsUptoRow : OpenClaim := { program := "ytioihldhnhlpnaagreat", sum := "c484953bfb45bed15a25e2a9d4a79819160fd687504c4e0cdb5eea35ddf21213", func := "siding/sidinglaw33.TrainSteps", spec := "trainSteps", unfollowed := true, recurses := true, plainKeys := false, apart := false, narrowed := true }
def TrainStepsUptoSaid : Prop := trainStepsUptoRow.holds Tryz.pinned (OpenSpec.upto trainStepsSpec)

/-- 'sidinglaw33.TrainSettles', WHERE WHAT IT READS IS OF BULK AT MOST 1048576: true; the input reads as it did. -/
def trainSettlesUptoRow : OpenClaim := { program := "ytioihldhnhlpnaagreat", sum := "c484953bfb45bed15a25e2a9d4a79819160fd687504c4e0cdb5eea35ddf21213", func := "siding/sidinglaw33.TrainSettles", spec := "trainSettles", unfollowed := true, recurses := true, plainKeys := false, apart := false, narrowed := true }
def TrainSettlesUptoSaid : Prop := trainSettlesUptoRow.holds Tryz.pinned (OpenSpec.upto trainSettlesSpec)

/-- 'sidinglaw33.TrainFrozen', WHERE WHAT IT READS IS OF BULK AT MOST 1048576: true; the input reads as it did. -/
def trainFrozenUptoRow : OpenClaim := { program := "ytioihldhnhlpnaagreat", sum := "c484953bfb45bed15a25e2a9d4a79819160fd687504c4e0cdb5eea35ddf21213", func := "siding/sidinglaw33.TrainFrozen", spec := "trainFrozen", unfollowed := true, recurses := true, plainKeys := false, apart := false, narrowed := true }
def TrainFrozenUptoSaid : Prop := trainFrozenUptoRow.holds Tryz.pinned (OpenSpec.upto trainFrozenSpec)

/-- 'sidinglaw33.TrainApart', WHERE WHAT IT READS IS OF BULK AT MOST 1048576: true; the input reads as it did. -/
def trainApartUptoRow : OpenClaim := { program := "ytioihldhnhlpnaagreat", sum := "c484953bfb45bed15a25e2a9d4a79819160fd687504c4e0cdb5eea35ddf21213", func := "siding/sidinglaw33.TrainApart", spec := "trainApart", unfollowed := true, recurses := true, plainKeys := false, apart := false, narrowed := true }
def TrainApartUptoSaid : Prop := trainApartUptoRow.holds Tryz.pinned (OpenSpec.upto trainApartSpec)

/-- 'sidinglaw33.TrainParts', WHERE WHAT IT READS IS OF BULK AT MOST 1048576: true; the input reads as it did. -/
def trainPartsUptoRow : OpenClaim := { program := "ytioihldhnhlpnaagreat", sum := "c484953bfb45bed15a25e2a9d4a79819160fd687504c4e0cdb5eea35ddf21213", func := "siding/sidinglaw33.TrainParts", spec := "trainParts", unfollowed := true, recurses := true, plainKeys := false, apart := false, narrowed := true }
def TrainPartsUptoSaid : Prop := trainPartsUptoRow.holds Tryz.pinned (OpenSpec.upto trainPartsSpec)

end Rows
end Go.Proofs.YtioihldhnhlpnaaGreat

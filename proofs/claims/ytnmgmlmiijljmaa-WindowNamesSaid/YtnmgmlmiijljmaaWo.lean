/- WindowNames: the law returns true. It has no arguments and no condition. -/
import Derived.Test.YtnmgmlmiijljmaaWk
set_option maxHeartbeats 8000000
set_option linter.unusedVariables false
set_option linter.unusedSimpArgs false
set_option maxRecDepth 20000
namespace Go.AX.Wn
open Go.Proofs Go.RowKit Go.IntWalk Go.AX.Br
def nE : ByteArray := ⟨#[]⟩
def nA : ByteArray := ⟨#[97]⟩
def nB : ByteArray := ⟨#[98]⟩
def nR : ByteArray := ⟨#[114]⟩
def nCA : ByteArray := ⟨#[65]⟩
def zeroH : Hd := ⟨nE, 0, 0, nE⟩
def badL : List Hd := [⟨nE, 0, 0, nE⟩, ⟨nCA, 0, 1, nR⟩, ⟨nA, 0, 1, nE⟩, ⟨nA, -1, 1, nR⟩, ⟨nA, 1, 1, nR⟩, ⟨nA, 0, 1000001, nR⟩]
def allL : List Hd := [⟨nA, 0, 1000000, nR⟩]
theorem nm1 : wcheck (List.replicate 17 zeroH) = 4 := by kernel_rfl
theorem nm2 : frozenR [] nA (-1) = (false, 2) := by kernel_rfl
theorem nm3 : whyR [] nA 1000001 = ([], 2) := by kernel_rfl
theorem nm4 : fitRR [] nA (-1) 1 = (0, 2) := by kernel_rfl
theorem nm5 : slackR [] nA 2 1 = (0, 2) := by kernel_rfl
theorem nm6 : slackR [] nA 0 1000001 = (0, 2) := by kernel_rfl
theorem nm7 : fitRR [] nA 0 0 = (0, 2) := by kernel_rfl
theorem nm8 : fitRR allL nA 0 1 = (1000000, 0) := by kernel_rfl
theorem nm9 : fitRR allL nA 5 1 = (1000000, 0) := by kernel_rfl
theorem nm10 : fitRR allL nA 5 2 = (0, 6) := by kernel_rfl
theorem nm11 : fitRR [] nA 0 1000002 = (0, 6) := by kernel_rfl
theorem nm12 : fitRR [] nA 0 1000001 = (0, 0) := by kernel_rfl
theorem nm13 : frozenR allL nA 1000000 = (false, 0) := by kernel_rfl
theorem nm14 : slackR allL nA 0 1000000 = (0, 0) := by kernel_rfl
theorem nm15 : windowsR allL nB = ([], 0) := by kernel_rfl
theorem nm16 : slackR [] nE 7 7 = (0, 0) := by kernel_rfl
theorem nm17 : fitRR [] nA 1000000 9223372036854775807 = (0, 6) := by kernel_rfl
theorem bad_all : badL.all (fun x => wcheck [x] == 8) = true := by kernel_rfl
theorem bad_at {i : Nat} {x : Hd} (h : badL[i]? = some x) : wcheck [x] = 8 ∧ windowsR [x] nA = ([], 8) := by
  have := List.all_eq_true.1 bad_all x (List.mem_of_getElem? h)
  have h8 : wcheck [x] = 8 := by simpa using this
  refine ⟨h8, ?_⟩
  unfold windowsR
  rw [h8, if_pos (by decide)]
theorem cut1 {i : Nat} {x : Hd} (h : badL[i]? = some x) : (badL.take (i + 1)).drop i = [x] := by
  have hlt := some_lt h
  rw [List.take_add_one, h]
  simp only [Option.toList_some]
  exact List.drop_left' (by simp; omega)

theorem names_spec : Spec Try.prog 7 [] [] (.d (.bool true)) [] := by
  have sl : ∀ l : List Hd, l.length ≤ 100 → Sm l.length := fun l h => by unfold Sm; omega
  refine spec_of_ev (fn := Try.f7) DX_ok 3000 Try.func7 rfl rfl (Nat.le_of_ble_eq_true rfl) ?_
  simp (maxSteps := 4000000) -implicitDefEqProofs only [Try.f7, go_sem]
  simp (maxSteps := 4000000) -implicitDefEqProofs only [go_sem, Nat.reduceAdd, Nat.reduceSub, Nat.reduceLT, Nat.reduceLeDiff, Nat.reduceEqDiff, ↓reduceIte]
  refine ⟨by decide, ?_⟩
  refine eloop (S := Nat) (fun i => mkE 248 [(1, .d (.sl (badL.map hD))), (2, .d (.int .i64 i))]) (fun i => []) (fun i => i ≤ badL.length) (fun i => badL.length - i) 0 (Nat.zero_le _) (Wk.trans (Wk.frz 0 rfl) (Wk.forget (by (simp -implicitDefEqProofs only [go_sem]) <;> trivial) (by simp -implicitDefEqProofs only [go_sem]))) ?_
  intro i hi
  rcases Nat.lt_or_ge i badL.length with h2 | h2
  · have f1 : decide ((i : Int) < badL.length) = true := by simp; omega
    obtain ⟨x, hx⟩ : ∃ x, badL[i]? = some x := ⟨badL[i]'h2, List.getElem?_eq_getElem _⟩
    have h7 : badL.length = 6 := rfl
    have w1 : IntKind.i64.wrap ((i : Int) + 1) = ((i + 1 : Nat) : Int) := by rw [i64_in _ (by omega)]; simp
    have n1 : (0 ≤ (i : Int) ∧ (i : Int) ≤ ((i + 1 : Nat) : Int) ∧ ((i + 1 : Nat) : Int) ≤ badL.length) = True := eq_true (by omega)
    have cu := cut1 hx
    have a1 := wcheck_own [x] (sl _ (by simp))
    have a2 := windowsR_own [x] nA (sl _ (by simp))
    rw [(bad_at hx).1] at a1
    rw [(bad_at hx).2] at a2
    have c8 : ((8 : Int) != 8) = false := rfl
    simp (maxSteps := 4000000) -implicitDefEqProofs only [go_sem, f1, w1, n1, cu, Option.some.injEq, forall_eq', and_true, true_and, Bool.not_true, Bool.not_false, decide_true, Nat.reduceAdd, Nat.reduceSub, Nat.reduceLT, Nat.reduceLeDiff, Nat.reduceEqDiff, ↓reduceIte]
    refine ecall0 _ a2 (by simp -implicitDefEqProofs only [go_sem]) (by simp -implicitDefEqProofs only [go_sem]) ?_
    simp (maxSteps := 4000000) -implicitDefEqProofs only [go_sem, w1, n1, cu, Option.some.injEq, forall_eq', and_true, true_and, Bool.not_true, Bool.not_false, decide_true, Nat.reduceAdd, Nat.reduceSub, Nat.reduceLT, Nat.reduceLeDiff, Nat.reduceEqDiff, ↓reduceIte]
    refine ecall0 _ a1 (by simp -implicitDefEqProofs only [go_sem]) (by simp -implicitDefEqProofs only [go_sem]) ?_
    simp (maxSteps := 4000000) -implicitDefEqProofs only [go_sem, c8, w1, Option.some.injEq, forall_eq', and_true, true_and, Bool.not_true, Bool.not_false, decide_true, Nat.reduceAdd, Nat.reduceSub, Nat.reduceLT, Nat.reduceLeDiff, Nat.reduceEqDiff, ↓reduceIte]
    refine .mk (i + 1) (by omega) (by omega) ?_
    exact (Wk.forget (by (simp -implicitDefEqProofs only [go_sem]) <;> trivial) (by simp -implicitDefEqProofs only [go_sem]))
  have f1 : decide ((i : Int) < badL.length) = false := by simp; omega
  have s1 := wcheck_own (List.replicate 17 zeroH) (sl _ (by decide))
  rw [nm1] at s1
  have s2 := frozen_own [] nA (-1) (sl _ (by decide))
  rw [nm2] at s2
  have s3 := why_own [] nA 1000001 (sl _ (by decide))
  rw [nm3] at s3
  have s4 := next_own [] nA (-1) (sl _ (by decide))
  rw [nm4] at s4
  have s5 := slack_own [] nA 2 1 (sl _ (by decide))
  rw [nm5] at s5
  have s6 := slack_own [] nA 0 1000001 (sl _ (by decide))
  rw [nm6] at s6
  have s7 := fit_own [] nA 0 0 (sl _ (by decide))
  rw [nm7] at s7
  have s8 := next_own allL nA 0 (sl _ (by decide))
  rw [nm8] at s8
  have s9 := fit_own allL nA 5 1 (sl _ (by decide))
  rw [nm9] at s9
  have s10 := fit_own allL nA 5 2 (sl _ (by decide))
  rw [nm10] at s10
  have s11 := fit_own [] nA 0 1000002 (sl _ (by decide))
  rw [nm11] at s11
  have s12 := fit_own [] nA 0 1000001 (sl _ (by decide))
  rw [nm12] at s12
  have s13 := frozen_own allL nA 1000000 (sl _ (by decide))
  rw [nm13] at s13
  have s14 := slack_own allL nA 0 1000000 (sl _ (by decide))
  rw [nm14] at s14
  have s15 := windowsR_own allL nB (sl _ (by decide))
  rw [nm15] at s15
  have s16 := slack_own [] nE 7 7 (sl _ (by decide))
  rw [nm16] at s16
  have s17 := fit_own [] nA 1000000 9223372036854775807 (sl _ (by decide))
  rw [nm17] at s17
  simp (maxSteps := 4000000) -implicitDefEqProofs only [go_sem, f1, Option.some.injEq, forall_eq', and_true, true_and, Bool.not_true, Bool.not_false, decide_true, Nat.reduceAdd, Nat.reduceSub, Nat.reduceLT, Nat.reduceLeDiff, Nat.reduceEqDiff, ↓reduceIte]
  try refine ⟨by omega, ?_⟩
  refine ECall.dat (by simp -implicitDefEqProofs only [go_sem]; rfl) (by rfl) ?_
  refine ecall0 _ s1 (by simp -implicitDefEqProofs only [go_sem]) (by simp -implicitDefEqProofs only [go_sem]) ?_
  simp (maxSteps := 4000000) -implicitDefEqProofs only [go_sem, Nat.reduceAdd, Nat.reduceSub, Nat.reduceLT, Nat.reduceLeDiff, Nat.reduceEqDiff, ↓reduceIte]
  try refine ⟨by omega, ?_⟩
  refine ECall.dat (by simp -implicitDefEqProofs only [go_sem]; rfl) (by rfl) ?_
  refine ecall0 _ s2 (by simp -implicitDefEqProofs only [go_sem]) (by simp -implicitDefEqProofs only [go_sem]) ?_
  simp (maxSteps := 4000000) -implicitDefEqProofs only [go_sem, Nat.reduceAdd, Nat.reduceSub, Nat.reduceLT, Nat.reduceLeDiff, Nat.reduceEqDiff, ↓reduceIte]
  try refine ⟨by omega, ?_⟩
  refine ECall.dat (by simp -implicitDefEqProofs only [go_sem]; rfl) (by rfl) ?_
  refine ecall0 _ s3 (by simp -implicitDefEqProofs only [go_sem]) (by simp -implicitDefEqProofs only [go_sem]) ?_
  simp (maxSteps := 4000000) -implicitDefEqProofs only [go_sem, Nat.reduceAdd, Nat.reduceSub, Nat.reduceLT, Nat.reduceLeDiff, Nat.reduceEqDiff, ↓reduceIte]
  try refine ⟨by omega, ?_⟩
  refine ECall.dat (by simp -implicitDefEqProofs only [go_sem]; rfl) (by rfl) ?_
  refine ecall0 _ s4 (by simp -implicitDefEqProofs only [go_sem]) (by simp -implicitDefEqProofs only [go_sem]) ?_
  simp (maxSteps := 4000000) -implicitDefEqProofs only [go_sem, Nat.reduceAdd, Nat.reduceSub, Nat.reduceLT, Nat.reduceLeDiff, Nat.reduceEqDiff, ↓reduceIte]
  try refine ⟨by omega, ?_⟩
  refine ECall.dat (by simp -implicitDefEqProofs only [go_sem]; rfl) (by rfl) ?_
  refine ecall0 _ s5 (by simp -implicitDefEqProofs only [go_sem]) (by simp -implicitDefEqProofs only [go_sem]) ?_
  simp (maxSteps := 4000000) -implicitDefEqProofs only [go_sem, Nat.reduceAdd, Nat.reduceSub, Nat.reduceLT, Nat.reduceLeDiff, Nat.reduceEqDiff, ↓reduceIte]
  try refine ⟨by omega, ?_⟩
  refine ECall.dat (by simp -implicitDefEqProofs only [go_sem]; rfl) (by rfl) ?_
  refine ecall0 _ s6 (by simp -implicitDefEqProofs only [go_sem]) (by simp -implicitDefEqProofs only [go_sem]) ?_
  simp (maxSteps := 4000000) -implicitDefEqProofs only [go_sem, Nat.reduceAdd, Nat.reduceSub, Nat.reduceLT, Nat.reduceLeDiff, Nat.reduceEqDiff, ↓reduceIte]
  try refine ⟨by omega, ?_⟩
  refine ECall.dat (by simp -implicitDefEqProofs only [go_sem]; rfl) (by rfl) ?_
  refine ecall0 _ s7 (by simp -implicitDefEqProofs only [go_sem]) (by simp -implicitDefEqProofs only [go_sem]) ?_
  simp (maxSteps := 4000000) -implicitDefEqProofs only [go_sem, Nat.reduceAdd, Nat.reduceSub, Nat.reduceLT, Nat.reduceLeDiff, Nat.reduceEqDiff, ↓reduceIte]
  try refine ⟨by omega, ?_⟩
  refine ECall.frz 1 rfl ?_
  simp -implicitDefEqProofs only [go_sem, ↓reduceIte]
  refine ECall.dat (by simp -implicitDefEqProofs only [go_sem]; rfl) (by rfl) ?_
  refine ecall0 _ s8 (by simp -implicitDefEqProofs only [go_sem]) (by simp -implicitDefEqProofs only [go_sem]) ?_
  simp (maxSteps := 4000000) -implicitDefEqProofs only [go_sem, Nat.reduceAdd, Nat.reduceSub, Nat.reduceLT, Nat.reduceLeDiff, Nat.reduceEqDiff, ↓reduceIte]
  try refine ⟨by omega, ?_⟩
  refine ECall.dat (by simp -implicitDefEqProofs only [go_sem]; rfl) (by rfl) ?_
  refine ecall0 _ s9 (by simp -implicitDefEqProofs only [go_sem]) (by simp -implicitDefEqProofs only [go_sem]) ?_
  simp (maxSteps := 4000000) -implicitDefEqProofs only [go_sem, Nat.reduceAdd, Nat.reduceSub, Nat.reduceLT, Nat.reduceLeDiff, Nat.reduceEqDiff, ↓reduceIte]
  try refine ⟨by omega, ?_⟩
  refine ECall.dat (by simp -implicitDefEqProofs only [go_sem]; rfl) (by rfl) ?_
  refine ecall0 _ s10 (by simp -implicitDefEqProofs only [go_sem]) (by simp -implicitDefEqProofs only [go_sem]) ?_
  simp (maxSteps := 4000000) -implicitDefEqProofs only [go_sem, Nat.reduceAdd, Nat.reduceSub, Nat.reduceLT, Nat.reduceLeDiff, Nat.reduceEqDiff, ↓reduceIte]
  try refine ⟨by omega, ?_⟩
  refine ECall.dat (by simp -implicitDefEqProofs only [go_sem]; rfl) (by rfl) ?_
  refine ecall0 _ s11 (by simp -implicitDefEqProofs only [go_sem]) (by simp -implicitDefEqProofs only [go_sem]) ?_
  simp (maxSteps := 4000000) -implicitDefEqProofs only [go_sem, Nat.reduceAdd, Nat.reduceSub, Nat.reduceLT, Nat.reduceLeDiff, Nat.reduceEqDiff, ↓reduceIte]
  try refine ⟨by omega, ?_⟩
  refine ECall.dat (by simp -implicitDefEqProofs only [go_sem]; rfl) (by rfl) ?_
  refine ecall0 _ s12 (by simp -implicitDefEqProofs only [go_sem]) (by simp -implicitDefEqProofs only [go_sem]) ?_
  simp (maxSteps := 4000000) -implicitDefEqProofs only [go_sem, Nat.reduceAdd, Nat.reduceSub, Nat.reduceLT, Nat.reduceLeDiff, Nat.reduceEqDiff, ↓reduceIte]
  try refine ⟨by omega, ?_⟩
  refine ECall.dat (by simp -implicitDefEqProofs only [go_sem]; rfl) (by rfl) ?_
  refine ecall0 _ s13 (by simp -implicitDefEqProofs only [go_sem]) (by simp -implicitDefEqProofs only [go_sem]) ?_
  simp (maxSteps := 4000000) -implicitDefEqProofs only [go_sem, Nat.reduceAdd, Nat.reduceSub, Nat.reduceLT, Nat.reduceLeDiff, Nat.reduceEqDiff, ↓reduceIte]
  try refine ⟨by omega, ?_⟩
  refine ECall.dat (by simp -implicitDefEqProofs only [go_sem]; rfl) (by rfl) ?_
  refine ecall0 _ s14 (by simp -implicitDefEqProofs only [go_sem]) (by simp -implicitDefEqProofs only [go_sem]) ?_
  simp (maxSteps := 4000000) -implicitDefEqProofs only [go_sem, Nat.reduceAdd, Nat.reduceSub, Nat.reduceLT, Nat.reduceLeDiff, Nat.reduceEqDiff, ↓reduceIte]
  try refine ⟨by omega, ?_⟩
  refine ECall.dat (by simp -implicitDefEqProofs only [go_sem]; rfl) (by rfl) ?_
  refine ecall0 _ s15 (by simp -implicitDefEqProofs only [go_sem]) (by simp -implicitDefEqProofs only [go_sem]) ?_
  simp (maxSteps := 4000000) -implicitDefEqProofs only [go_sem, Nat.reduceAdd, Nat.reduceSub, Nat.reduceLT, Nat.reduceLeDiff, Nat.reduceEqDiff, ↓reduceIte]
  try refine ⟨by omega, ?_⟩
  refine ECall.dat (by simp -implicitDefEqProofs only [go_sem]; rfl) (by rfl) ?_
  refine ecall0 _ s16 (by simp -implicitDefEqProofs only [go_sem]) (by simp -implicitDefEqProofs only [go_sem]) ?_
  simp (maxSteps := 4000000) -implicitDefEqProofs only [go_sem, Nat.reduceAdd, Nat.reduceSub, Nat.reduceLT, Nat.reduceLeDiff, Nat.reduceEqDiff, ↓reduceIte]
  try refine ⟨by omega, ?_⟩
  refine ECall.dat (by simp -implicitDefEqProofs only [go_sem]; rfl) (by rfl) ?_
  refine ecall0 _ s17 (by simp -implicitDefEqProofs only [go_sem]) (by simp -implicitDefEqProofs only [go_sem]) ?_
  simp (maxSteps := 4000000) -implicitDefEqProofs only [go_sem, Nat.reduceAdd, Nat.reduceSub, Nat.reduceLT, Nat.reduceLeDiff, Nat.reduceEqDiff, ↓reduceIte]
  have e0 : ((0 : Int) == 0) = true := rfl
  have e1 : ((1 : Int) == 1) = true := rfl
  have e2 : ((2 : Int) == 2) = true := rfl
  have e4 : ((4 : Int) == 4) = true := rfl
  have e6 : ((6 : Int) == 6) = true := rfl
  have e8 : ((8 : Int) == 8) = true := rfl
  have e1000000 : ((1000000 : Int) == 1000000) = true := rfl
  have q5 : (((0 : Nat) : Int) == 0) = true := rfl
  refine ecall0 _ alive_spec (by simp -implicitDefEqProofs only [go_sem]) (by simp -implicitDefEqProofs only [go_sem]) ?_
  simp (maxSteps := 4000000) -implicitDefEqProofs only [go_sem, q5, e0, e1, e2, e4, e6, e8, e1000000, Option.some.injEq, forall_eq', and_true, true_and, Bool.not_true, Bool.not_false, decide_true, Nat.reduceAdd, Nat.reduceSub, Nat.reduceLT, Nat.reduceLeDiff, Nat.reduceEqDiff, ↓reduceIte]
  exact wk_bool rfl

end Go.AX.Wn
namespace Go.Proofs.Ytnmgmlmiijljmaa
open Go.AX Go.AX.Wn Go.RowKit
set_option maxRecDepth 100000 in
theorem windowNames_lifted (os : Os) (started : os.Started) (H : Type) (enc : TypeId × Value → H) :
    ReturnsInHanded {} Try.checked os 7 .any (Rows.windowNamesSpec.pre6 enc Try.prog Try.f7 Rows.windowNamesRow.domain false) (Rows.windowNamesSpec.post enc Try.prog Try.f7 false true false false) := by
  refine Go.AX.lifted (C := Try.checked) (f := 7) (fn := Try.f7) (s := Rows.windowNamesSpec) (rt := 4) (n := 8) (by kernel_rfl) (by kernel_rfl) Try.func7 rfl ?_ rfl (by kernel_rfl) (by kernel_rfl) (by kernel_rfl) (by kernel_rfl) os started H enc
    (ChangeSpec.witness6 (enc := enc) (C := Try.checked) false ⟨#[], #[], []⟩ 8 (by kernel_rfl) (by kernel_rfl) (by kernel_rfl) (by kernel_rfl)) ?_
  · intro H ds h
    match ds, h with
    | [], _ => rfl
  · intro xs hx
    have hp : Try.f7.params.toList = [] := rfl
    rw [hp] at hx ⊢
    match xs, hx with
    | [], _ => exact names_spec
theorem windowNames_over : Rows.windowNamesRow.holds Try.pinned (OpenSpec.ofChange Rows.windowNamesSpec) :=
  OpenClaim.holds_of_wide 7 Try.f7 rfl rfl rfl rfl rfl rfl rfl ⟨rfl, rfl, rfl, rfl, rfl⟩ rfl rfl rfl rfl rfl (by kernel_rfl) Try.func7 (by kernel_rfl)
    (of_decide_eq_true (by kernel_rfl)) (by unfold Func.isWrapper; first | (rw [if_pos (by decide +kernel)]; kernel_rfl) | (rw [if_neg (by decide +kernel)]; exact ⟨rfl, rfl⟩))
    (fun os started H enc _ => windowNames_lifted os started H enc)
/-- The row, under a short name, for the claim. -/
theorem windowNames_holds : Rows.WindowNamesSaid := windowNames_over
#print axioms windowNames_holds
end Go.Proofs.Ytnmgmlmiijljmaa

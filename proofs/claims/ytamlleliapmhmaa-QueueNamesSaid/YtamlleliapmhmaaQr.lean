/- QueueNames: the law returns true. It has no arguments and no condition. -/
import Derived.Test.YtamlleliapmhmaaQl
set_option maxHeartbeats 8000000
set_option linter.unusedVariables false
set_option linter.unusedSimpArgs false
set_option maxRecDepth 20000
namespace Go.AX.Qu
open Go.Proofs Go.RowKit Go.IntWalk Go.AX.Br
def nE : ByteArray := ⟨#[]⟩
def nA : ByteArray := ⟨#[97]⟩
def nB : ByteArray := ⟨#[98]⟩
def nCA : ByteArray := ⟨#[65]⟩
def nCB : ByteArray := ⟨#[66]⟩
def nX : ByteArray := ⟨#[120]⟩
def nY : ByteArray := ⟨#[121]⟩
def oneR : Rq := ⟨nA, nB, 1, false, 0⟩
def doneR : Rq := ⟨nA, nB, 5, false, 0⟩
def clashR : Rq := ⟨nA, nB, 7, false, 0⟩
def lastR : Rq := ⟨nA, nB, 7, false, 5⟩
def zeroR : Rq := ⟨nE, nE, 0, false, 0⟩
def badL : List Rq := [⟨nE, nE, 0, false, 0⟩, ⟨nCA, nB, 1, false, 0⟩, ⟨nA, nE, 1, false, 0⟩, ⟨nA, nB, 0, false, 0⟩, ⟨nA, nB, 8, false, 0⟩, ⟨nA, nB, 1, false, 6⟩, ⟨nA, nB, 1, false, -1⟩]
def oneA : List AV := [.d (.str nA), .d (.str nB), .d (.int .u8 1), .d (.bool false), .d (.int .i64 0)]
attribute [go_sem] oneA
def newR : Rq := ⟨nA, nB, 1, true, 0⟩
theorem nm1 : qcheck (List.replicate 31 zeroR) = 4 := by kernel_rfl
theorem nm2 : qcheck [oneR, oneR] = 14 := by kernel_rfl
theorem nm3 : qcheck [oneR, doneR, clashR, doneR] = 0 := by kernel_rfl
theorem nm5 : askR [oneR] nA nB true = ([], 14) := by kernel_rfl
theorem nm6 : askR [] nA nCB true = ([], 8) := by kernel_rfl
theorem nm7 : movR stayR [doneR] 0 sAp = ([], 36) := by kernel_rfl
theorem nm8 : movR stayR [oneR] 1 sAp = ([], 2) := by kernel_rfl
theorem nm9 : movR stayR [clashR] 0 sRe = ([], 36) := by kernel_rfl
theorem nm10 : movR stayR [doneR] 0 sCa = ([], 36) := by kernel_rfl
theorem nm11 : movR againR [oneR] 0 sTr = ([], 36) := by kernel_rfl
theorem nm12 : movR againR [lastR] 0 sTr = ([], 4) := by kernel_rfl
theorem nm13 : movR againR [clashR, oneR] 0 sTr = ([], 14) := by kernel_rfl
theorem nm14 : movR againR [] 0 sTr = ([], 2) := by kernel_rfl
theorem nm15 : headR [oneR] nA = (0, 6) := by kernel_rfl
theorem nm16 : settleR [oneR] nA 2 = ([], 2) := by kernel_rfl
theorem nm17 : settleR [oneR] nA 5 = ([], 6) := by kernel_rfl
theorem nm18 : askR [] nA nB true = ([newR], 0) := by kernel_rfl
theorem nm19 : qlineR [] nE = ([], 0) := by kernel_rfl
theorem bad_all : badL.all (fun x => qcheck [x] == 8) = true := by kernel_rfl
theorem bad_at {i : Nat} {x : Rq} (h : badL[i]? = some x) : qcheck [x] = 8 ∧ qlineR [x] nA = ([], 8) := by
  have := List.all_eq_true.1 bad_all x (List.mem_of_getElem? h)
  have h8 : qcheck [x] = 8 := by simpa using this
  refine ⟨h8, ?_⟩
  unfold qlineR
  rw [h8, if_pos (by decide)]
theorem cut1 {i : Nat} {x : Rq} (h : badL[i]? = some x) : (badL.take (i + 1)).drop i = [x] := by
  have hlt := some_lt h
  rw [List.take_add_one, h]
  simp only [Option.toList_some]
  exact List.drop_left' (by simp; omega)
def fullAt (i : Nat) : List Rq := List.replicate i doneR ++ List.replicate (30 - i) zeroR
theorem nm4 : askR (fullAt 30) nX nY true = ([], 4) := by kernel_rfl
theorem full_len {i : Nat} (h : i ≤ 30) : (fullAt i).length = 30 := by simp [fullAt]; omega
theorem full_set {i : Nat} (h : i < 30) : ((fullAt i).map rD).set i (rD doneR) = (fullAt (i + 1)).map rD := by
  rw [← List.map_set]
  congr 1
  unfold fullAt
  obtain ⟨k, hk⟩ : ∃ k, 30 - i = k + 1 := ⟨29 - i, by omega⟩
  have hk2 : 30 - (i + 1) = k := by omega
  rw [hk, hk2, List.replicate_succ (n := k), List.replicate_succ' (n := i), List.set_append_right _ _ (by simp)]
  simp

theorem names_spec : Spec Try.prog 9 [] [] (.d (.bool true)) [] := by
  have sl : ∀ l : List Rq, l.length ≤ 100 → Sm l.length := fun l h => by unfold Sm; omega
  refine spec_of_ev (fn := Try.f9) DX_ok 3000 Try.func9 rfl rfl (Nat.le_of_ble_eq_true rfl) ?_
  simp (maxSteps := 4000000) -implicitDefEqProofs only [Try.f9, go_sem]
  simp (maxSteps := 4000000) -implicitDefEqProofs only [go_sem, Nat.reduceAdd, Nat.reduceSub, Nat.reduceLT, Nat.reduceLeDiff, Nat.reduceEqDiff, ↓reduceIte]
  refine ⟨by decide, ?_⟩
  refine eloop (S := Nat) (fun i => mkE 303 [(1, .ptr 0 0), (2, .d (.sl (badL.map rD))), (3, .d (.int .i64 i))]) (fun i => [.cells [.d (.str nA), .d (.str nB), .d (.int .u8 1), .d (.bool false), .d (.int .i64 0)]]) (fun i => i ≤ badL.length) (fun i => badL.length - i) 0 (Nat.zero_le _) (Wk.trans (Wk.frz 1 rfl) (Wk.via1 0 (by (simp -implicitDefEqProofs only [go_sem, ↓reduceIte]) <;> trivial) (by simp (maxSteps := 4000000) -implicitDefEqProofs only [go_sem, Nat.reduceAdd, Nat.reduceSub, Nat.reduceLT, Nat.reduceLeDiff, Nat.reduceEqDiff, ↓reduceIte]) (by simp) (by (simp -implicitDefEqProofs only [go_sem]) <;> trivial) (by trivial))) ?_
  intro i hi
  rcases Nat.lt_or_ge i badL.length with h2 | h2
  · have f1 : decide ((i : Int) < badL.length) = true := by simp; omega
    obtain ⟨x, hx⟩ : ∃ x, badL[i]? = some x := ⟨badL[i]'h2, List.getElem?_eq_getElem _⟩
    have h7 : badL.length = 7 := rfl
    have w1 : IntKind.i64.wrap ((i : Int) + 1) = ((i + 1 : Nat) : Int) := by rw [i64_in _ (by omega)]; simp
    have n1 : (0 ≤ (i : Int) ∧ (i : Int) ≤ ((i + 1 : Nat) : Int) ∧ ((i + 1 : Nat) : Int) ≤ badL.length) = True := eq_true (by omega)
    have cu := cut1 hx
    have a1 := qcheck_own [x] (sl _ (by simp))
    have a2 := qline_own [x] nA (sl _ (by simp))
    rw [(bad_at hx).1] at a1
    rw [(bad_at hx).2] at a2
    have c8 : ((8 : Int) != 8) = false := rfl
    simp (maxSteps := 4000000) -implicitDefEqProofs only [go_sem, f1, w1, n1, cu, Option.some.injEq, forall_eq', and_true, true_and, Bool.not_true, Bool.not_false, decide_true, Nat.reduceAdd, Nat.reduceSub, Nat.reduceLT, Nat.reduceLeDiff, Nat.reduceEqDiff, ↓reduceIte]
    refine ecall0 _ a2 (by simp -implicitDefEqProofs only [go_sem]) (by simp -implicitDefEqProofs only [go_sem]) ?_
    simp (maxSteps := 4000000) -implicitDefEqProofs only [go_sem, w1, n1, cu, Option.some.injEq, forall_eq', and_true, true_and, Bool.not_true, Bool.not_false, decide_true, Nat.reduceAdd, Nat.reduceSub, Nat.reduceLT, Nat.reduceLeDiff, Nat.reduceEqDiff, ↓reduceIte]
    refine ecall0 _ a1 (by simp -implicitDefEqProofs only [go_sem]) (by simp -implicitDefEqProofs only [go_sem]) ?_
    simp (maxSteps := 4000000) -implicitDefEqProofs only [go_sem, c8, w1, Option.some.injEq, forall_eq', and_true, true_and, Bool.not_true, Bool.not_false, decide_true, Nat.reduceAdd, Nat.reduceSub, Nat.reduceLT, Nat.reduceLeDiff, Nat.reduceEqDiff, ↓reduceIte]
    refine .mk (i + 1) (by omega) (by omega) ?_
    exact (Wk.sub (by (simp -implicitDefEqProofs only [go_sem]) <;> trivial))
  have f1 : decide ((i : Int) < badL.length) = false := by simp; omega
  simp (maxSteps := 4000000) -implicitDefEqProofs only [go_sem, f1, Option.some.injEq, forall_eq', and_true, true_and, Bool.not_true, Bool.not_false, decide_true, Nat.reduceAdd, Nat.reduceSub, Nat.reduceLT, Nat.reduceLeDiff, Nat.reduceEqDiff, ↓reduceIte]
  refine DX.join (mkE 303 [(1, .ptr 0 0), (6, .ptr 1 0), (7, .ptr 2 0), (8, .ptr 3 0)]) [.cells oneA, .cells oneA, .cells oneA, .cells oneA] (.take 0 true (.take 1 true (.take 2 true (.run [3, 4, 5] (fun _ => [true, true, true]) fun i => .run (if i = 3 then [4, 5] else if i = 4 then [3, 5] else [3, 4]) (fun _ => [true, true, true]) fun j => .run [12 - i - j] (fun _ => [true, true, true]) fun _ => .run [6] (fun _ => [true, true, false]) fun _ => .run [7] (fun _ => [true, false]) fun _ => .run [8] (fun _ => [false]) fun _ => .done)))) (by kernel_rfl) (by kernel_rfl) Ty.mixed ?_ ?_
  · simp (maxSteps := 4000000) -implicitDefEqProofs only [go_sem, Nat.reduceAdd, Nat.reduceSub, Nat.reduceLT, Nat.reduceLeDiff, Nat.reduceEqDiff, ↓reduceIte]
    refine ⟨⟨?_, ?_⟩, ⟨?_, ?_⟩, ?_, ?_⟩
    · exact (Wk.via [0, 1, 2, 3] (by (simp -implicitDefEqProofs only [go_sem, ↓reduceIte]) <;> trivial) (by simp (maxSteps := 4000000) -implicitDefEqProofs only [go_sem, Nat.reduceAdd, Nat.reduceSub, Nat.reduceLT, Nat.reduceLeDiff, Nat.reduceEqDiff, ↓reduceIte]) (by simp) (by simp) (by (simp (maxSteps := 4000000) -implicitDefEqProofs only [go_sem, Nat.reduceAdd, Nat.reduceSub, Nat.reduceLT, Nat.reduceLeDiff, Nat.reduceEqDiff, ↓reduceIte]) <;> trivial) (by simp -implicitDefEqProofs only [go_sem]) (Nat.zero_le _) (fun i h => absurd h (Nat.not_lt_zero i)))
    · exact (Wk.via [0, 1, 3, 2] (by (simp -implicitDefEqProofs only [go_sem, ↓reduceIte]) <;> trivial) (by simp (maxSteps := 4000000) -implicitDefEqProofs only [go_sem, Nat.reduceAdd, Nat.reduceSub, Nat.reduceLT, Nat.reduceLeDiff, Nat.reduceEqDiff, ↓reduceIte]) (by simp) (by simp) (by (simp (maxSteps := 4000000) -implicitDefEqProofs only [go_sem, Nat.reduceAdd, Nat.reduceSub, Nat.reduceLT, Nat.reduceLeDiff, Nat.reduceEqDiff, ↓reduceIte]) <;> trivial) (by simp -implicitDefEqProofs only [go_sem]) (Nat.zero_le _) (fun i h => absurd h (Nat.not_lt_zero i)))
    · exact (Wk.via [0, 2, 1, 3] (by (simp -implicitDefEqProofs only [go_sem, ↓reduceIte]) <;> trivial) (by simp (maxSteps := 4000000) -implicitDefEqProofs only [go_sem, Nat.reduceAdd, Nat.reduceSub, Nat.reduceLT, Nat.reduceLeDiff, Nat.reduceEqDiff, ↓reduceIte]) (by simp) (by simp) (by (simp (maxSteps := 4000000) -implicitDefEqProofs only [go_sem, Nat.reduceAdd, Nat.reduceSub, Nat.reduceLT, Nat.reduceLeDiff, Nat.reduceEqDiff, ↓reduceIte]) <;> trivial) (by simp -implicitDefEqProofs only [go_sem]) (Nat.zero_le _) (fun i h => absurd h (Nat.not_lt_zero i)))
    · exact (Wk.via [0, 3, 1, 2] (by (simp -implicitDefEqProofs only [go_sem, ↓reduceIte]) <;> trivial) (by simp (maxSteps := 4000000) -implicitDefEqProofs only [go_sem, Nat.reduceAdd, Nat.reduceSub, Nat.reduceLT, Nat.reduceLeDiff, Nat.reduceEqDiff, ↓reduceIte]) (by simp) (by simp) (by (simp (maxSteps := 4000000) -implicitDefEqProofs only [go_sem, Nat.reduceAdd, Nat.reduceSub, Nat.reduceLT, Nat.reduceLeDiff, Nat.reduceEqDiff, ↓reduceIte]) <;> trivial) (by simp -implicitDefEqProofs only [go_sem]) (Nat.zero_le _) (fun i h => absurd h (Nat.not_lt_zero i)))
    · exact (Wk.via [0, 2, 3, 1] (by (simp -implicitDefEqProofs only [go_sem, ↓reduceIte]) <;> trivial) (by simp (maxSteps := 4000000) -implicitDefEqProofs only [go_sem, Nat.reduceAdd, Nat.reduceSub, Nat.reduceLT, Nat.reduceLeDiff, Nat.reduceEqDiff, ↓reduceIte]) (by simp) (by simp) (by (simp (maxSteps := 4000000) -implicitDefEqProofs only [go_sem, Nat.reduceAdd, Nat.reduceSub, Nat.reduceLT, Nat.reduceLeDiff, Nat.reduceEqDiff, ↓reduceIte]) <;> trivial) (by simp -implicitDefEqProofs only [go_sem]) (Nat.zero_le _) (fun i h => absurd h (Nat.not_lt_zero i)))
    · exact (Wk.via [0, 3, 2, 1] (by (simp -implicitDefEqProofs only [go_sem, ↓reduceIte]) <;> trivial) (by simp (maxSteps := 4000000) -implicitDefEqProofs only [go_sem, Nat.reduceAdd, Nat.reduceSub, Nat.reduceLT, Nat.reduceLeDiff, Nat.reduceEqDiff, ↓reduceIte]) (by simp) (by simp) (by (simp (maxSteps := 4000000) -implicitDefEqProofs only [go_sem, Nat.reduceAdd, Nat.reduceSub, Nat.reduceLT, Nat.reduceLeDiff, Nat.reduceEqDiff, ↓reduceIte]) <;> trivial) (by simp -implicitDefEqProofs only [go_sem]) (Nat.zero_le _) (fun i h => absurd h (Nat.not_lt_zero i)))
  simp (maxSteps := 4000000) -implicitDefEqProofs only [go_sem, oneA, Option.some.injEq, forall_eq', and_true, true_and, Bool.not_true, Bool.not_false, decide_true, Nat.reduceAdd, Nat.reduceSub, Nat.reduceLT, Nat.reduceLeDiff, Nat.reduceEqDiff, ↓reduceIte]
  refine ⟨by decide, ?_⟩
  refine eloop (S := Nat) (fun i => mkE 303 [(1, .ptr 0 0), (6, .ptr 1 0), (7, .ptr 2 0), (8, .ptr 3 0), (9, .own 4), (10, .d (.int .i64 i))])
    (fun i => [.cells [.d (.str nA), .d (.str nB), .d (.int .u8 1), .d (.bool false), .d (.int .i64 0)], .cells [.d (.str nA), .d (.str nB), .d (.int .u8 5), .d (.bool false), .d (.int .i64 0)], .cells [.d (.str nA), .d (.str nB), .d (.int .u8 7), .d (.bool false), .d (.int .i64 0)], .cells [.d (.str nA), .d (.str nB), .d (.int .u8 7), .d (.bool false), .d (.int .i64 5)], .row 5 ((fullAt i).map rD)]) (fun i => i ≤ 30) (fun i => 30 - i) 0 (Nat.zero_le _) (Wk.via [0, 1, 2, 3, 4] (by (simp -implicitDefEqProofs only [go_sem, ↓reduceIte]) <;> trivial) (by simp (maxSteps := 4000000) -implicitDefEqProofs only [go_sem, Nat.reduceAdd, Nat.reduceSub, Nat.reduceLT, Nat.reduceLeDiff, Nat.reduceEqDiff, ↓reduceIte]) (by simp) (by simp) (by (simp (maxSteps := 4000000) -implicitDefEqProofs only [go_sem, Nat.reduceAdd, Nat.reduceSub, Nat.reduceLT, Nat.reduceLeDiff, Nat.reduceEqDiff, ↓reduceIte]) <;> trivial) (by simp -implicitDefEqProofs only [go_sem]) (Nat.zero_le _) (fun i h => absurd h (Nat.not_lt_zero i))) ?_
  clear hi h2 f1 i
  intro i hi
  have fl := full_len hi
  rcases Nat.lt_or_ge i 30 with h2 | h2
  · have f1 : decide ((i : Int) < (fullAt i).length) = true := by rw [fl]; simp; omega
    have n1 : (0 ≤ (i : Int) ∧ (i : Int) < (fullAt i).length) = True := eq_true (by omega)
    have n2 : (i < (fullAt i).length) = True := eq_true (by omega)
    have w1 : IntKind.i64.wrap ((i : Int) + 1) = ((i + 1 : Nat) : Int) := by rw [i64_in _ (by omega)]; simp
    obtain ⟨x, hx⟩ : ∃ x, (fullAt i)[i]? = some x := ⟨(fullAt i)[i]'(by omega), List.getElem?_eq_getElem _⟩
    have fs := full_set h2
    simp -implicitDefEqProofs only [rD, doneR] at fs
    simp (maxSteps := 4000000) -implicitDefEqProofs only [go_sem, f1, n1, n2, hx, w1, Option.some.injEq, forall_eq', and_true, true_and, Bool.not_true, Bool.not_false, decide_true, Nat.reduceAdd, Nat.reduceSub, Nat.reduceLT, Nat.reduceLeDiff, Nat.reduceEqDiff, ↓reduceIte]
    rw [fs]
    exact .mk (i + 1) (by omega) (by omega) (Wk.sub (by (simp -implicitDefEqProofs only [go_sem]) <;> trivial))
  have h30 : i = 30 := by omega
  subst h30
  have f1 : decide (((30 : Nat) : Int) < (fullAt 30).length) = false := by rw [fl]; rfl
  simp (maxSteps := 4000000) -implicitDefEqProofs only [go_sem, f1, Option.some.injEq, forall_eq', and_true, true_and, Bool.not_true, Bool.not_false, decide_true, Nat.reduceAdd, Nat.reduceSub, Nat.reduceLT, Nat.reduceLeDiff, Nat.reduceEqDiff, ↓reduceIte]
  have s1 := qcheck_own (List.replicate 31 zeroR) (sl _ (by decide))
  rw [nm1] at s1
  have s2 := qcheck_own [oneR, oneR] (sl _ (by decide))
  rw [nm2] at s2
  have s3 := qcheck_own [oneR, doneR, clashR, doneR] (sl _ (by decide))
  rw [nm3] at s3
  have s4 := ask_own (fullAt 30) nX nY true (sl _ (by decide))
  rw [nm4] at s4
  have s5 := ask_own [oneR] nA nB true (sl _ (by decide))
  rw [nm5] at s5
  have s6 := ask_own [] nA nCB true (sl _ (by decide))
  rw [nm6] at s6
  have s7 := approve_own [doneR] 0 (sl _ (by decide))
  rw [nm7] at s7
  have s8 := approve_own [oneR] 1 (sl _ (by decide))
  rw [nm8] at s8
  have s9 := reject_own [clashR] 0 (sl _ (by decide))
  rw [nm9] at s9
  have s10 := cancel_own [doneR] 0 (sl _ (by decide))
  rw [nm10] at s10
  have s11 := retry_own [oneR] 0 (sl _ (by decide))
  rw [nm11] at s11
  have s12 := retry_own [lastR] 0 (sl _ (by decide))
  rw [nm12] at s12
  have s13 := retry_own [clashR, oneR] 0 (sl _ (by decide))
  rw [nm13] at s13
  have s14 := retry_own [] 0 (sl _ (by decide))
  rw [nm14] at s14
  have s15 := headR_own [oneR] nA (sl _ (by decide))
  rw [nm15] at s15
  have s16 := settle_own [oneR] nA 2 (sl _ (by decide))
  rw [nm16] at s16
  have s17 := settle_own [oneR] nA 5 (sl _ (by decide))
  rw [nm17] at s17
  have s18 := ask_own [] nA nB true (sl _ (by decide))
  rw [nm18] at s18
  have s19 := qline_own [] nE (sl _ (by decide))
  rw [nm19] at s19
  try refine ⟨by omega, ?_⟩
  refine ECall.dat (by simp -implicitDefEqProofs only [go_sem]; rfl) (by rfl) ?_
  refine ecall0 _ s1 (by simp -implicitDefEqProofs only [go_sem]) (by simp -implicitDefEqProofs only [go_sem]) ?_
  simp (maxSteps := 4000000) -implicitDefEqProofs only [go_sem, Nat.reduceAdd, Nat.reduceSub, Nat.reduceLT, Nat.reduceLeDiff, Nat.reduceEqDiff, ↓reduceIte]
  try refine ⟨by omega, ?_⟩
  refine ECall.dat (by simp -implicitDefEqProofs only [go_sem]; rfl) (by rfl) ?_
  refine ecall0 _ s2 (by simp -implicitDefEqProofs only [go_sem]) (by simp -implicitDefEqProofs only [go_sem]) ?_
  simp (maxSteps := 4000000) -implicitDefEqProofs only [go_sem, Nat.reduceAdd, Nat.reduceSub, Nat.reduceLT, Nat.reduceLeDiff, Nat.reduceEqDiff, ↓reduceIte]
  try refine ⟨by omega, ?_⟩
  refine ECall.dat (by simp -implicitDefEqProofs only [go_sem]; rfl) (by rfl) ?_
  refine ecall0 _ s3 (by simp -implicitDefEqProofs only [go_sem]) (by simp -implicitDefEqProofs only [go_sem]) ?_
  simp (maxSteps := 4000000) -implicitDefEqProofs only [go_sem, Nat.reduceAdd, Nat.reduceSub, Nat.reduceLT, Nat.reduceLeDiff, Nat.reduceEqDiff, ↓reduceIte]
  try refine ⟨by omega, ?_⟩
  refine ECall.dat (by simp -implicitDefEqProofs only [go_sem]; rfl) (by rfl) ?_
  refine ecall0 _ s4 (by simp -implicitDefEqProofs only [go_sem]) (by simp -implicitDefEqProofs only [go_sem]) ?_
  simp (maxSteps := 4000000) -implicitDefEqProofs only [go_sem, Nat.reduceAdd, Nat.reduceSub, Nat.reduceLT, Nat.reduceLeDiff, Nat.reduceEqDiff, ↓reduceIte]
  try refine ⟨by omega, ?_⟩
  refine ECall.dat (by simp -implicitDefEqProofs only [go_sem]; rfl) (by rfl) ?_
  refine ecall0 _ s5 (by simp -implicitDefEqProofs only [go_sem]) (by simp -implicitDefEqProofs only [go_sem]) ?_
  simp (maxSteps := 4000000) -implicitDefEqProofs only [go_sem, Nat.reduceAdd, Nat.reduceSub, Nat.reduceLT, Nat.reduceLeDiff, Nat.reduceEqDiff, ↓reduceIte]
  try refine ⟨by omega, ?_⟩
  refine ECall.dat (by simp -implicitDefEqProofs only [go_sem]; rfl) (by rfl) ?_
  refine ecall0 _ s6 (by simp -implicitDefEqProofs only [go_sem]) (by simp -implicitDefEqProofs only [go_sem]) ?_
  simp (maxSteps := 4000000) -implicitDefEqProofs only [go_sem, Nat.reduceAdd, Nat.reduceSub, Nat.reduceLT, Nat.reduceLeDiff, Nat.reduceEqDiff, ↓reduceIte]
  try refine ⟨by omega, ?_⟩
  refine ECall.dat (by simp -implicitDefEqProofs only [go_sem]; rfl) (by rfl) ?_
  refine ecall0 _ s7 (by simp -implicitDefEqProofs only [go_sem]) (by simp -implicitDefEqProofs only [go_sem]) ?_
  simp (maxSteps := 4000000) -implicitDefEqProofs only [go_sem, Nat.reduceAdd, Nat.reduceSub, Nat.reduceLT, Nat.reduceLeDiff, Nat.reduceEqDiff, ↓reduceIte]
  try refine ⟨by omega, ?_⟩
  refine ECall.dat (by simp -implicitDefEqProofs only [go_sem]; rfl) (by rfl) ?_
  refine ecall0 _ s8 (by simp -implicitDefEqProofs only [go_sem]) (by simp -implicitDefEqProofs only [go_sem]) ?_
  simp (maxSteps := 4000000) -implicitDefEqProofs only [go_sem, Nat.reduceAdd, Nat.reduceSub, Nat.reduceLT, Nat.reduceLeDiff, Nat.reduceEqDiff, ↓reduceIte]
  try refine ⟨by omega, ?_⟩
  refine ECall.dat (by simp -implicitDefEqProofs only [go_sem]; rfl) (by rfl) ?_
  refine ecall0 _ s9 (by simp -implicitDefEqProofs only [go_sem]) (by simp -implicitDefEqProofs only [go_sem]) ?_
  simp (maxSteps := 4000000) -implicitDefEqProofs only [go_sem, Nat.reduceAdd, Nat.reduceSub, Nat.reduceLT, Nat.reduceLeDiff, Nat.reduceEqDiff, ↓reduceIte]
  try refine ⟨by omega, ?_⟩
  refine ECall.dat (by simp -implicitDefEqProofs only [go_sem]; rfl) (by rfl) ?_
  refine ecall0 _ s10 (by simp -implicitDefEqProofs only [go_sem]) (by simp -implicitDefEqProofs only [go_sem]) ?_
  simp (maxSteps := 4000000) -implicitDefEqProofs only [go_sem, Nat.reduceAdd, Nat.reduceSub, Nat.reduceLT, Nat.reduceLeDiff, Nat.reduceEqDiff, ↓reduceIte]
  try refine ⟨by omega, ?_⟩
  refine ECall.dat (by simp -implicitDefEqProofs only [go_sem]; rfl) (by rfl) ?_
  refine ecall0 _ s11 (by simp -implicitDefEqProofs only [go_sem]) (by simp -implicitDefEqProofs only [go_sem]) ?_
  simp (maxSteps := 4000000) -implicitDefEqProofs only [go_sem, Nat.reduceAdd, Nat.reduceSub, Nat.reduceLT, Nat.reduceLeDiff, Nat.reduceEqDiff, ↓reduceIte]
  try refine ⟨by omega, ?_⟩
  refine ECall.dat (by simp -implicitDefEqProofs only [go_sem]; rfl) (by rfl) ?_
  refine ecall0 _ s12 (by simp -implicitDefEqProofs only [go_sem]) (by simp -implicitDefEqProofs only [go_sem]) ?_
  simp (maxSteps := 4000000) -implicitDefEqProofs only [go_sem, Nat.reduceAdd, Nat.reduceSub, Nat.reduceLT, Nat.reduceLeDiff, Nat.reduceEqDiff, ↓reduceIte]
  try refine ⟨by omega, ?_⟩
  refine ECall.dat (by simp -implicitDefEqProofs only [go_sem]; rfl) (by rfl) ?_
  refine ecall0 _ s13 (by simp -implicitDefEqProofs only [go_sem]) (by simp -implicitDefEqProofs only [go_sem]) ?_
  simp (maxSteps := 4000000) -implicitDefEqProofs only [go_sem, Nat.reduceAdd, Nat.reduceSub, Nat.reduceLT, Nat.reduceLeDiff, Nat.reduceEqDiff, ↓reduceIte]
  try refine ⟨by omega, ?_⟩
  refine ECall.dat (by simp -implicitDefEqProofs only [go_sem]; rfl) (by rfl) ?_
  refine ecall0 _ s14 (by simp -implicitDefEqProofs only [go_sem]) (by simp -implicitDefEqProofs only [go_sem]) ?_
  simp (maxSteps := 4000000) -implicitDefEqProofs only [go_sem, Nat.reduceAdd, Nat.reduceSub, Nat.reduceLT, Nat.reduceLeDiff, Nat.reduceEqDiff, ↓reduceIte]
  try refine ⟨by omega, ?_⟩
  refine ECall.dat (by simp -implicitDefEqProofs only [go_sem]; rfl) (by rfl) ?_
  refine ecall0 _ s15 (by simp -implicitDefEqProofs only [go_sem]) (by simp -implicitDefEqProofs only [go_sem]) ?_
  simp (maxSteps := 4000000) -implicitDefEqProofs only [go_sem, Nat.reduceAdd, Nat.reduceSub, Nat.reduceLT, Nat.reduceLeDiff, Nat.reduceEqDiff, ↓reduceIte]
  try refine ⟨by omega, ?_⟩
  refine ECall.dat (by simp -implicitDefEqProofs only [go_sem]; rfl) (by rfl) ?_
  refine ecall0 _ s16 (by simp -implicitDefEqProofs only [go_sem]) (by simp -implicitDefEqProofs only [go_sem]) ?_
  simp (maxSteps := 4000000) -implicitDefEqProofs only [go_sem, Nat.reduceAdd, Nat.reduceSub, Nat.reduceLT, Nat.reduceLeDiff, Nat.reduceEqDiff, ↓reduceIte]
  try refine ⟨by omega, ?_⟩
  refine ECall.dat (by simp -implicitDefEqProofs only [go_sem]; rfl) (by rfl) ?_
  refine ecall0 _ s17 (by simp -implicitDefEqProofs only [go_sem]) (by simp -implicitDefEqProofs only [go_sem]) ?_
  simp (maxSteps := 4000000) -implicitDefEqProofs only [go_sem, Nat.reduceAdd, Nat.reduceSub, Nat.reduceLT, Nat.reduceLeDiff, Nat.reduceEqDiff, ↓reduceIte]
  try refine ⟨by omega, ?_⟩
  refine ECall.dat (by simp -implicitDefEqProofs only [go_sem]; rfl) (by rfl) ?_
  refine ecall0 _ s18 (by simp -implicitDefEqProofs only [go_sem]) (by simp -implicitDefEqProofs only [go_sem]) ?_
  simp (maxSteps := 4000000) -implicitDefEqProofs only [go_sem, Nat.reduceAdd, Nat.reduceSub, Nat.reduceLT, Nat.reduceLeDiff, Nat.reduceEqDiff, ↓reduceIte]
  try refine ⟨by omega, ?_⟩
  refine ECall.dat (by simp -implicitDefEqProofs only [go_sem]; rfl) (by rfl) ?_
  refine ecall0 _ s19 (by simp -implicitDefEqProofs only [go_sem]) (by simp -implicitDefEqProofs only [go_sem]) ?_
  simp (maxSteps := 4000000) -implicitDefEqProofs only [go_sem, Nat.reduceAdd, Nat.reduceSub, Nat.reduceLT, Nat.reduceLeDiff, Nat.reduceEqDiff, ↓reduceIte]
  have e0 : ((0 : Int) == 0) = true := rfl
  have e1 : ((1 : Int) == 1) = true := rfl
  have e2 : ((2 : Int) == 2) = true := rfl
  have e4 : ((4 : Int) == 4) = true := rfl
  have e6 : ((6 : Int) == 6) = true := rfl
  have e8 : ((8 : Int) == 8) = true := rfl
  have e14 : ((14 : Int) == 14) = true := rfl
  have e36 : ((36 : Int) == 36) = true := rfl
  have q1 : newR.ov = true := rfl
  have q2 : (newR.st == 1) = true := rfl
  have q3 : (((0 + 1 : Nat) : Int) == 1) = true := rfl
  have q4 : (((1 : Nat) : Int) == 1) = true := rfl
  have q5 : (((0 : Nat) : Int) == 0) = true := rfl
  refine ecall0 _ alive_spec (by simp -implicitDefEqProofs only [go_sem]) (by simp -implicitDefEqProofs only [go_sem]) ?_
  simp (maxSteps := 4000000) -implicitDefEqProofs only [go_sem, q1, q2, q3, q4, q5, e0, e1, e2, e4, e6, e8, e14, e36, Option.some.injEq, forall_eq', and_true, true_and, Bool.not_true, Bool.not_false, decide_true, Nat.reduceAdd, Nat.reduceSub, Nat.reduceLT, Nat.reduceLeDiff, Nat.reduceEqDiff, ↓reduceIte]
  refine ⟨by omega, by omega, ?_⟩
  with_reducible exact wk_bool rfl

end Go.AX.Qu
namespace Go.Proofs.Ytamlleliapmhmaa
open Go.AX Go.AX.Qu Go.RowKit
set_option maxRecDepth 100000 in
theorem queueNames_lifted (os : Os) (started : os.Started) (H : Type) (enc : TypeId × Value → H) :
    ReturnsInHanded {} Try.checked os 9 .any (Rows.queueNamesSpec.pre6 enc Try.prog Try.f9 Rows.queueNamesRow.domain false) (Rows.queueNamesSpec.post enc Try.prog Try.f9 false true false false) := by
  refine Go.AX.lifted (C := Try.checked) (f := 9) (fn := Try.f9) (s := Rows.queueNamesSpec) (rt := 4) (n := 8) (by kernel_rfl) (by kernel_rfl) Try.func9 rfl ?_ rfl (by kernel_rfl) (by kernel_rfl) (by kernel_rfl) (by kernel_rfl) os started H enc
    (ChangeSpec.witness6 (enc := enc) (C := Try.checked) false ⟨#[], #[], []⟩ 8 (by kernel_rfl) (by kernel_rfl) (by kernel_rfl) (by kernel_rfl)) ?_
  · intro H ds h
    match ds, h with
    | [], _ => rfl
  · intro xs hx
    have hp : Try.f9.params.toList = [] := rfl
    rw [hp] at hx ⊢
    match xs, hx with
    | [], _ => exact names_spec
theorem queueNames_over : Rows.queueNamesRow.holds Try.pinned (OpenSpec.ofChange Rows.queueNamesSpec) :=
  OpenClaim.holds_of_wide 9 Try.f9 rfl rfl rfl rfl rfl rfl rfl ⟨rfl, rfl, rfl, rfl, rfl⟩ rfl rfl rfl rfl rfl (by kernel_rfl) Try.func9 (by kernel_rfl)
    (of_decide_eq_true (by kernel_rfl)) (by unfold Func.isWrapper; first | (rw [if_pos (by decide +kernel)]; kernel_rfl) | (rw [if_neg (by decide +kernel)]; exact ⟨rfl, rfl⟩))
    (fun os started H enc _ => queueNames_lifted os started H enc)
/-- The row, under a short name, for the claim. -/
theorem queueNames_holds : Rows.QueueNamesSaid := queueNames_over
#print axioms queueNames_holds
end Go.Proofs.Ytamlleliapmhmaa

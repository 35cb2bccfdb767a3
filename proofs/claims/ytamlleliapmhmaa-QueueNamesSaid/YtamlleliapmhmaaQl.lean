/- Queues: the chapter's examples hold. -/
import Derived.Test.YtamlleliapmhmaaQj
set_option maxHeartbeats 8000000
set_option linter.unusedVariables false
set_option linter.unusedSimpArgs false
set_option maxRecDepth 20000
namespace Go.AX.Qu
open Go.Proofs Go.RowKit Go.IntWalk Go.AX.Br
def tR1 : ByteArray := ⟨#[114, 49]⟩
def tFix : ByteArray := ⟨#[102, 105, 120]⟩
def tOth : ByteArray := ⟨#[111, 116, 104, 101, 114]⟩
def eq1 : List Rq := [⟨tR1, tFix, 1, false, 0⟩]
def eq2 : List Rq := [⟨tR1, tFix, 1, false, 0⟩, ⟨tR1, tOth, 1, false, 0⟩]
def eq3 : List Rq := [⟨tR1, tFix, 2, false, 0⟩, ⟨tR1, tOth, 1, false, 0⟩]
def eq4 : List Rq := [⟨tR1, tFix, 2, false, 0⟩, ⟨tR1, tOth, 2, false, 0⟩]
def eq5 : List Rq := [⟨tR1, tFix, 7, false, 0⟩, ⟨tR1, tOth, 2, false, 0⟩]
def eq6 : List Rq := [⟨tR1, tOth, 2, false, 0⟩, ⟨tR1, tFix, 2, false, 1⟩]
theorem al1 : askR [] tR1 tFix false = (eq1, 0) := by kernel_rfl
theorem al2 : askR eq1 tR1 tOth false = (eq2, 0) := by kernel_rfl
theorem al3 : movR stayR eq2 0 sAp = (eq3, 0) := by kernel_rfl
theorem al4 : movR stayR eq3 1 sAp = (eq4, 0) := by kernel_rfl
theorem al5 : headR eq4 tR1 = (0, 0) := by kernel_rfl
theorem al6 : settleR eq4 tR1 7 = (eq5, 0) := by kernel_rfl
theorem al7 : headR eq5 tR1 = (1, 0) := by kernel_rfl
theorem al8 : movR againR eq5 0 sTr = (eq6, 0) := by kernel_rfl

theorem alive_spec : Spec Try.prog 32 [] [] (.d (.bool true)) [] := by
  have sl : ∀ l : List Rq, l.length ≤ 100 → Sm l.length := fun l h => by unfold Sm; omega
  have s1 := ask_own [] tR1 tFix false (sl _ (by decide))
  rw [al1] at s1
  have s2 := ask_own eq1 tR1 tOth false (sl _ (by decide))
  rw [al2] at s2
  have s3 := approve_own eq2 0 (sl _ (by decide))
  rw [al3] at s3
  have s4 := approve_own eq3 1 (sl _ (by decide))
  rw [al4] at s4
  have s5 := headR_own eq4 tR1 (sl _ (by decide))
  rw [al5] at s5
  have s6 := settle_own eq4 tR1 7 (sl _ (by decide))
  rw [al6] at s6
  have s7 := headR_own eq5 tR1 (sl _ (by decide))
  rw [al7] at s7
  have s8 := retry_own eq5 0 (sl _ (by decide))
  rw [al8] at s8
  have s9 := same_ref eq6 eq6 (sl _ (by decide))
  rw [show decide (eq6 = eq6) = true from decide_eq_true rfl] at s9
  refine spec_of_ev (fn := Try.f32) DX_ok 3000 Try.func32 rfl rfl (Nat.le_of_ble_eq_true rfl) ?_
  simp (maxSteps := 4000000) -implicitDefEqProofs only [Try.f32, go_sem]
  refine ECall.dat (by simp -implicitDefEqProofs only [go_sem]; rfl) (by rfl) ?_
  refine ecall0 _ s1 (by simp -implicitDefEqProofs only [go_sem]) (by simp -implicitDefEqProofs only [go_sem]) ?_
  simp (maxSteps := 4000000) -implicitDefEqProofs only [go_sem, Nat.reduceAdd, Nat.reduceSub, Nat.reduceLT, Nat.reduceLeDiff, Nat.reduceEqDiff, ↓reduceIte]
  refine ecall0 _ s2 (by simp -implicitDefEqProofs only [go_sem]) (by simp -implicitDefEqProofs only [go_sem]) ?_
  simp (maxSteps := 4000000) -implicitDefEqProofs only [go_sem, Nat.reduceAdd, Nat.reduceSub, Nat.reduceLT, Nat.reduceLeDiff, Nat.reduceEqDiff, ↓reduceIte]
  refine ecall0 _ s3 (by simp -implicitDefEqProofs only [go_sem]) (by simp -implicitDefEqProofs only [go_sem]) ?_
  simp (maxSteps := 4000000) -implicitDefEqProofs only [go_sem, Nat.reduceAdd, Nat.reduceSub, Nat.reduceLT, Nat.reduceLeDiff, Nat.reduceEqDiff, ↓reduceIte]
  refine ecall0 _ s4 (by simp -implicitDefEqProofs only [go_sem]) (by simp -implicitDefEqProofs only [go_sem]) ?_
  simp (maxSteps := 4000000) -implicitDefEqProofs only [go_sem, Nat.reduceAdd, Nat.reduceSub, Nat.reduceLT, Nat.reduceLeDiff, Nat.reduceEqDiff, ↓reduceIte]
  refine ecall0 _ s5 (by simp -implicitDefEqProofs only [go_sem]) (by simp -implicitDefEqProofs only [go_sem]) ?_
  simp (maxSteps := 4000000) -implicitDefEqProofs only [go_sem, Nat.reduceAdd, Nat.reduceSub, Nat.reduceLT, Nat.reduceLeDiff, Nat.reduceEqDiff, ↓reduceIte]
  refine ecall0 _ s6 (by simp -implicitDefEqProofs only [go_sem]) (by simp -implicitDefEqProofs only [go_sem]) ?_
  simp (maxSteps := 4000000) -implicitDefEqProofs only [go_sem, Nat.reduceAdd, Nat.reduceSub, Nat.reduceLT, Nat.reduceLeDiff, Nat.reduceEqDiff, ↓reduceIte]
  refine ecall0 _ s7 (by simp -implicitDefEqProofs only [go_sem]) (by simp -implicitDefEqProofs only [go_sem]) ?_
  simp (maxSteps := 4000000) -implicitDefEqProofs only [go_sem, Nat.reduceAdd, Nat.reduceSub, Nat.reduceLT, Nat.reduceLeDiff, Nat.reduceEqDiff, ↓reduceIte]
  refine ecall0 _ s8 (by simp -implicitDefEqProofs only [go_sem]) (by simp -implicitDefEqProofs only [go_sem]) ?_
  simp (maxSteps := 4000000) -implicitDefEqProofs only [go_sem, Nat.reduceAdd, Nat.reduceSub, Nat.reduceLT, Nat.reduceLeDiff, Nat.reduceEqDiff, ↓reduceIte]
  try refine ⟨by omega, ?_⟩
  refine ECall.dat (by simp -implicitDefEqProofs only [go_sem]; rfl) (by rfl) ?_
  refine ecall0 _ s9 (by simp -implicitDefEqProofs only [go_sem]) (by simp -implicitDefEqProofs only [go_sem]) ?_
  simp (maxSteps := 4000000) -implicitDefEqProofs only [go_sem, Nat.reduceAdd, Nat.reduceSub, Nat.reduceLT, Nat.reduceLeDiff, Nat.reduceEqDiff, ↓reduceIte]
  exact wk_bool rfl

theorem open_spec (r : Rq) : Spec Try.prog 33 [rA r] [] (.d (.bool (opn r))) [] := open_ref r
end Go.AX.Qu

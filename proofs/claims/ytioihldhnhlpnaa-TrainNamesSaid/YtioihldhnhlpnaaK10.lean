/- Trains: the chapter's example. -/
import Derived.Test.YtioihldhnhlpnaaK9
import Derived.KernelRfl
set_option maxHeartbeats 8000000
set_option linter.unusedVariables false
set_option linter.unusedSimpArgs false
set_option maxRecDepth 20000
namespace Go.AX.Tr
open Go.Proofs Go.RowKit Go.IntWalk Go.AX.Br Go.AX.Lg Go.AX.Qu Go.AX.Wn
def sRel : ByteArray := ⟨#[114, 101, 108, 101, 97, 115, 101]⟩
def exT : Tr := ⟨⟨[⟨sFix, 1⟩, ⟨sOther, 2⟩], [⟨sMain, ⟨#[]⟩, 0⟩, ⟨sR1, sMain, 0⟩], [[⟨1, sFix⟩], []]⟩, [⟨sR1, sFix, 2, false, 0⟩, ⟨sR1, sOther, 2, false, 0⟩], [⟨sR1, 5, 9, sRel⟩], [⟨sR1, sOther⟩]⟩
theorem exT_fit : TFit exT := ⟨by decide, by decide, by decide, by decide, by decide, by decide, by decide⟩
theorem exr1 : (runR exT sR1 4 2).2 = ([5, 7], 0) := by kernel_rfl
theorem exr2 : (stepR exT sR1 5).2.2 = 28 := by kernel_rfl
theorem exr3 : waitR exT sR1 5 = (9, 0) := by kernel_rfl
theorem exr4 : outcR (runR exT sR1 4 2).1 0 = (6, 0) := by kernel_rfl
theorem runF_fit' {t : Tr} {b : ByteArray} {tk : Int} : ∀ n k, TFit (itR t b tk k).1 → TFit (runF t b tk n k).1
  | 0, k, f => f
  | n + 1, k, f => by
    rw [runF]
    split
    · exact f
    split
    · exact f
    next q => exact runF_fit' n (k + 1) (step_fit f (by omega))
theorem run_fit1 {t : Tr} (b : ByteArray) (tk n : Int) (f : TFit t) : TFit (runR t b tk n).1 := by
  unfold runR
  split
  · exact t0_fit
  split
  · exact t0_fit
  split
  · exact t0_fit
  · exact runF_fit' _ 0 f

theorem example_tspec : Spec Try.prog 4 [] [] (tA exT) [] := by
  simp -implicitDefEqProofs only [tA, tC]
  refine spec_of_ev (fn := Try.f4) DX_ok 3000 Try.func4 rfl rfl (Nat.le_of_ble_eq_true rfl) ?_
  simp (maxSteps := 4000000) -implicitDefEqProofs only [Try.f4, go_sem]
  simp (maxSteps := 4000000) -implicitDefEqProofs only [go_sem, Nat.reduceAdd, Nat.reduceSub, Nat.reduceLT, Nat.reduceLeDiff, Nat.reduceEqDiff, ↓reduceIte]
  repeat' (first | (refine And.intro (by omega) ?_))
  exact wk_datE (by kernel_rfl) (by simp -implicitDefEqProofs only [go_sem])
theorem alive_tspec : Spec Try.prog 5 [] [] (.d (.bool true)) [] := by
  have s0 := example_tspec
  have s1 := Run_own exT sR1 4 2 exT_fit
  have s2 := Step_own exT sR1 5 exT_fit
  have s3 := Wait_own exT sR1 5 exT_fit
  have s4 := Outcome_own (runR exT sR1 4 2).1 0 (run_fit1 sR1 4 2 exT_fit)
  rw [exr1] at s1
  rw [exr2] at s2
  rw [exr3] at s3
  rw [exr4] at s4
  obtain ⟨A, hA⟩ : ∃ A, A = (runR exT sR1 4 2).1 := ⟨_, rfl⟩
  obtain ⟨B, hB⟩ : ∃ A, A = stepR exT sR1 5 := ⟨_, rfl⟩
  rw [← hA] at s1 s4
  rw [← hB] at s2
  obtain ⟨G, hG⟩ : ∃ A, A = exT := ⟨_, rfl⟩
  rw [← hG] at s0 s1 s2 s3
  simp -implicitDefEqProofs only [tA, tC, sR1] at s0 s1 s2 s3 s4
  have e0 : ((0 : Int) == 0) = true := rfl
  have e1 : ((28 : Int) == 28) = true := rfl
  have e2 : ((9 : Int) == 9) = true := rfl
  have e3 : ((6 : Int) == 6) = true := rfl
  clear hA hB hG
  refine spec_of_ev (fn := Try.f5) DX_ok 3000 Try.func5 rfl rfl (Nat.le_of_ble_eq_true rfl) ?_
  simp (maxSteps := 4000000) -implicitDefEqProofs only [Try.f5, go_sem]
  refine ecall0 _ s0 (by simp -implicitDefEqProofs only [go_sem]) (by simp -implicitDefEqProofs only [go_sem]) ?_
  simp (maxSteps := 4000000) -implicitDefEqProofs only [go_sem, Nat.reduceAdd, Nat.reduceSub, Nat.reduceLT, Nat.reduceLeDiff, Nat.reduceEqDiff, ↓reduceIte]
  refine ecall0 _ s1 (by simp -implicitDefEqProofs only [go_sem]) (by simp -implicitDefEqProofs only [go_sem]) ?_
  simp (maxSteps := 4000000) -implicitDefEqProofs only [go_sem, Nat.reduceAdd, Nat.reduceSub, Nat.reduceLT, Nat.reduceLeDiff, Nat.reduceEqDiff, ↓reduceIte]
  refine ecall0 _ s0 (by simp -implicitDefEqProofs only [go_sem]) (by simp -implicitDefEqProofs only [go_sem]) ?_
  simp (maxSteps := 4000000) -implicitDefEqProofs only [go_sem, Nat.reduceAdd, Nat.reduceSub, Nat.reduceLT, Nat.reduceLeDiff, Nat.reduceEqDiff, ↓reduceIte]
  refine ecall0 _ s2 (by simp -implicitDefEqProofs only [go_sem]) (by simp -implicitDefEqProofs only [go_sem]) ?_
  simp (maxSteps := 4000000) -implicitDefEqProofs only [go_sem, Nat.reduceAdd, Nat.reduceSub, Nat.reduceLT, Nat.reduceLeDiff, Nat.reduceEqDiff, ↓reduceIte]
  refine ecall0 _ s0 (by simp -implicitDefEqProofs only [go_sem]) (by simp -implicitDefEqProofs only [go_sem]) ?_
  simp (maxSteps := 4000000) -implicitDefEqProofs only [go_sem, Nat.reduceAdd, Nat.reduceSub, Nat.reduceLT, Nat.reduceLeDiff, Nat.reduceEqDiff, ↓reduceIte]
  refine ecall0 _ s3 (by simp -implicitDefEqProofs only [go_sem]) (by simp -implicitDefEqProofs only [go_sem]) ?_
  simp (maxSteps := 4000000) -implicitDefEqProofs only [go_sem, Nat.reduceAdd, Nat.reduceSub, Nat.reduceLT, Nat.reduceLeDiff, Nat.reduceEqDiff, ↓reduceIte]
  refine ecall0 _ s4 (by simp -implicitDefEqProofs only [go_sem]) (by simp -implicitDefEqProofs only [go_sem]) ?_
  simp (maxSteps := 4000000) -implicitDefEqProofs only [go_sem, e0, e1, e2, e3, Option.some.injEq, forall_eq', and_true, true_and, Bool.not_true, Bool.not_false, decide_true, Nat.reduceAdd, Nat.reduceSub, Nat.reduceLT, Nat.reduceLeDiff, Nat.reduceEqDiff, ↓reduceIte]
  try refine ⟨by omega, ?_⟩
  refine ECall.dat (args' := [.d (.sl (([5, 7] : List Int).map uD)), .d (.sl (([5, 7] : List Int).map uD))]) (by simp -implicitDefEqProofs only [go_sem]; rfl) rfl ?_
  refine ecall0 _ (sameStates_ref [5, 7] [5, 7] (by unfold Sm; decide)) (by simp -implicitDefEqProofs only [go_sem]) (by simp -implicitDefEqProofs only [go_sem]) ?_
  simp (maxSteps := 4000000) -implicitDefEqProofs only [go_sem, e0, e1, e2, e3, Option.some.injEq, forall_eq', and_true, true_and, Bool.not_true, Bool.not_false, decide_true, Nat.reduceAdd, Nat.reduceSub, Nat.reduceLT, Nat.reduceLeDiff, Nat.reduceEqDiff, ↓reduceIte]
  exact wk_bool rfl

end Go.AX.Tr

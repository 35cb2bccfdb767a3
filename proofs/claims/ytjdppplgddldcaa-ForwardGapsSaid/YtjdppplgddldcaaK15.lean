/- Forward: the chapter's example. -/
import Derived.Test.YtjdppplgddldcaaK14
import Derived.KernelRfl
set_option maxHeartbeats 8000000
set_option linter.unusedVariables false
set_option linter.unusedSimpArgs false
set_option maxRecDepth 20000
namespace Go.AX.Fw
open Go.Proofs Go.RowKit Go.IntWalk Go.AX.Br Go.AX.Lg
def sRtwo : ByteArray := ⟨#[114, 50]⟩
def exF : Lg := ⟨[⟨sFix, 3⟩], [⟨sMain, ⟨#[]⟩, 0⟩, ⟨sRtwo, sMain, 0⟩, ⟨sR1, sMain, 0⟩], [[], [], [⟨1, sFix⟩]]⟩
def exO : List ByteArray := [sR1, sRtwo, sMain]
def exG : List St := [⟨3, ⟨#[]⟩, sMain⟩, ⟨3, ⟨#[]⟩, sRtwo⟩]
def exP : List St := [⟨3, sR1, sMain⟩, ⟨3, sMain, sRtwo⟩]
theorem exv1 : gpsR exF exO = (exG, 0) := by kernel_rfl
theorem exv2 : plnR exF exO = (exP, 0) := by kernel_rfl
theorem exv3 : alwR exF exO 3 sRtwo = (false, 0) := by kernel_rfl

theorem example_fspec : Spec Try.prog 29 [] [] (lA exF) [] := by
  simp -implicitDefEqProofs only [lA]
  refine spec_of_ev (fn := Try.f29) DX_ok 3000 Try.func29 rfl rfl (Nat.le_of_ble_eq_true rfl) ?_
  simp (maxSteps := 4000000) -implicitDefEqProofs only [Try.f29, go_sem]
  simp (maxSteps := 4000000) -implicitDefEqProofs only [go_sem, Nat.reduceAdd, Nat.reduceSub, Nat.reduceLT, Nat.reduceLeDiff, Nat.reduceEqDiff, ↓reduceIte]
  repeat' (first | (refine And.intro (by omega) ?_))
  exact wk_datE (by kernel_rfl) (by simp -implicitDefEqProofs only [go_sem])
theorem order_fspec : Spec Try.prog 30 [] [] (.d (.sl (exO.map sD))) [] := by
  refine spec_of_ev (fn := Try.f30) DX_ok 3000 Try.func30 rfl rfl (Nat.le_of_ble_eq_true rfl) ?_
  simp (maxSteps := 4000000) -implicitDefEqProofs only [Try.f30, go_sem]
  simp (maxSteps := 4000000) -implicitDefEqProofs only [go_sem, Nat.reduceAdd, Nat.reduceSub, Nat.reduceLT, Nat.reduceLeDiff, Nat.reduceEqDiff, ↓reduceIte]
  repeat' (first | (refine And.intro (by omega) ?_))
  exact wk_datE (by kernel_rfl) (by simp -implicitDefEqProofs only [go_sem])
theorem alive_fspec : Spec Try.prog 24 [] [] (.d (.bool true)) [] := by
  have s0 := example_fspec
  have s1 := order_fspec
  have s2 := Gaps_own exF exO (by decide) (by decide) (by decide) (by decide)
  have s3 := Plan_own exF exO (by decide) (by decide) (by decide) (by decide)
  have s4 := Allowed_own exF exO 3 sRtwo (by decide) (by decide) (by decide) (by decide)
  rw [exv1] at s2
  rw [exv2] at s3
  rw [exv3] at s4
  have s5 := sameSt_ref exG exG (by unfold Sm; decide)
  have s6 := sameSt_ref exP exP (by unfold Sm; decide)
  rw [decide_eq_true rfl] at s5 s6
  obtain ⟨G, hG⟩ : ∃ A, A = exF := ⟨_, rfl⟩
  obtain ⟨O, hO⟩ : ∃ A, A = exO := ⟨_, rfl⟩
  rw [← hG] at s0 s2 s3 s4
  rw [← hO] at s1 s2 s3 s4
  simp -implicitDefEqProofs only [lA, sRtwo] at s0 s1 s2 s3 s4
  have e0 : ((0 : Int) == 0) = true := rfl
  have g0 : exG.map stD = [[.int .i64 3, .str ⟨#[]⟩, .str ⟨#[109, 97, 105, 110]⟩], [.int .i64 3, .str ⟨#[]⟩, .str ⟨#[114, 50]⟩]] := rfl
  have p0 : exP.map stD = [[.int .i64 3, .str ⟨#[114, 49]⟩, .str ⟨#[109, 97, 105, 110]⟩], [.int .i64 3, .str ⟨#[109, 97, 105, 110]⟩, .str ⟨#[114, 50]⟩]] := rfl
  obtain ⟨GD, hGD⟩ : ∃ A, A = exG.map stD := ⟨_, rfl⟩
  obtain ⟨PD, hPD⟩ : ∃ A, A = exP.map stD := ⟨_, rfl⟩
  rw [← hGD] at s2 s5 g0
  rw [← hPD] at s3 s6 p0
  clear hG hO hGD hPD
  refine spec_of_ev (fn := Try.f24) DX_ok 3000 Try.func24 rfl rfl (Nat.le_of_ble_eq_true rfl) ?_
  simp (maxSteps := 4000000) -implicitDefEqProofs only [Try.f24, go_sem]
  refine ecall0 _ s0 (by simp -implicitDefEqProofs only [go_sem]) (by simp -implicitDefEqProofs only [go_sem]) ?_
  simp (maxSteps := 4000000) -implicitDefEqProofs only [go_sem, Nat.reduceAdd, Nat.reduceSub, Nat.reduceLT, Nat.reduceLeDiff, Nat.reduceEqDiff, ↓reduceIte]
  refine ecall0 _ s1 (by simp -implicitDefEqProofs only [go_sem]) (by simp -implicitDefEqProofs only [go_sem]) ?_
  simp (maxSteps := 4000000) -implicitDefEqProofs only [go_sem, Nat.reduceAdd, Nat.reduceSub, Nat.reduceLT, Nat.reduceLeDiff, Nat.reduceEqDiff, ↓reduceIte]
  refine ecall0 _ s2 (by simp -implicitDefEqProofs only [go_sem]) (by simp -implicitDefEqProofs only [go_sem]) ?_
  simp (maxSteps := 4000000) -implicitDefEqProofs only [go_sem, Nat.reduceAdd, Nat.reduceSub, Nat.reduceLT, Nat.reduceLeDiff, Nat.reduceEqDiff, ↓reduceIte]
  refine ecall0 _ s0 (by simp -implicitDefEqProofs only [go_sem]) (by simp -implicitDefEqProofs only [go_sem]) ?_
  simp (maxSteps := 4000000) -implicitDefEqProofs only [go_sem, Nat.reduceAdd, Nat.reduceSub, Nat.reduceLT, Nat.reduceLeDiff, Nat.reduceEqDiff, ↓reduceIte]
  refine ecall0 _ s1 (by simp -implicitDefEqProofs only [go_sem]) (by simp -implicitDefEqProofs only [go_sem]) ?_
  simp (maxSteps := 4000000) -implicitDefEqProofs only [go_sem, Nat.reduceAdd, Nat.reduceSub, Nat.reduceLT, Nat.reduceLeDiff, Nat.reduceEqDiff, ↓reduceIte]
  refine ecall0 _ s3 (by simp -implicitDefEqProofs only [go_sem]) (by simp -implicitDefEqProofs only [go_sem]) ?_
  simp (maxSteps := 4000000) -implicitDefEqProofs only [go_sem, Nat.reduceAdd, Nat.reduceSub, Nat.reduceLT, Nat.reduceLeDiff, Nat.reduceEqDiff, ↓reduceIte]
  refine ecall0 _ s0 (by simp -implicitDefEqProofs only [go_sem]) (by simp -implicitDefEqProofs only [go_sem]) ?_
  simp (maxSteps := 4000000) -implicitDefEqProofs only [go_sem, Nat.reduceAdd, Nat.reduceSub, Nat.reduceLT, Nat.reduceLeDiff, Nat.reduceEqDiff, ↓reduceIte]
  refine ecall0 _ s1 (by simp -implicitDefEqProofs only [go_sem]) (by simp -implicitDefEqProofs only [go_sem]) ?_
  simp (maxSteps := 4000000) -implicitDefEqProofs only [go_sem, Nat.reduceAdd, Nat.reduceSub, Nat.reduceLT, Nat.reduceLeDiff, Nat.reduceEqDiff, ↓reduceIte]
  refine ecall0 _ s4 (by simp -implicitDefEqProofs only [go_sem]) (by simp -implicitDefEqProofs only [go_sem]) ?_
  simp (maxSteps := 4000000) -implicitDefEqProofs only [go_sem, e0, Option.some.injEq, forall_eq', and_true, true_and, Bool.not_true, Bool.not_false, decide_true, Nat.reduceAdd, Nat.reduceSub, Nat.reduceLT, Nat.reduceLeDiff, Nat.reduceEqDiff, ↓reduceIte]
  repeat' (first | (refine And.intro (by omega) ?_))
  refine ECall.dat (args' := [.d (.sl GD), .d (.sl GD)]) (by rw [g0]; simp -implicitDefEqProofs only [go_sem]; rfl) rfl ?_
  refine ecall0 _ s5 (by simp -implicitDefEqProofs only [go_sem]) (by simp -implicitDefEqProofs only [go_sem]) ?_
  simp (maxSteps := 4000000) -implicitDefEqProofs only [go_sem, e0, Option.some.injEq, forall_eq', and_true, true_and, Bool.not_true, Bool.not_false, decide_true, Nat.reduceAdd, Nat.reduceSub, Nat.reduceLT, Nat.reduceLeDiff, Nat.reduceEqDiff, ↓reduceIte]
  repeat' (first | (refine And.intro (by omega) ?_))
  refine ECall.dat (args' := [.d (.sl PD), .d (.sl PD)]) (by rw [p0]; simp -implicitDefEqProofs only [go_sem]; rfl) rfl ?_
  refine ecall0 _ s6 (by simp -implicitDefEqProofs only [go_sem]) (by simp -implicitDefEqProofs only [go_sem]) ?_
  simp (maxSteps := 4000000) -implicitDefEqProofs only [go_sem, e0, Option.some.injEq, forall_eq', and_true, true_and, Bool.not_true, Bool.not_false, decide_true, Nat.reduceAdd, Nat.reduceSub, Nat.reduceLT, Nat.reduceLeDiff, Nat.reduceEqDiff, ↓reduceIte]
  exact wk_bool rfl

end Go.AX.Fw

/- TrainRuns: whatever the input, the law returns true, and its arguments read as they did. No condition. -/
import Derived.Test.YtioihldhnhlpnaaGreatK9
set_option maxHeartbeats 8000000
set_option linter.unusedVariables false
set_option linter.unusedSimpArgs false
set_option maxRecDepth 20000
namespace Go.AX.Tr
open Go.Proofs Go.RowKit Go.IntWalk Go.AX.Br Go.AX.Lg Go.AX.Qu Go.AX.Wn
theorem runF_fit {t : Tr} {b : ByteArray} {tk : Int} : ∀ n k, TFit (itR t b tk k).1 → k + n ≤ 30 → TFit (runF t b tk n k).1 ∧ (runF t b tk n k).2.1.length ≤ 30
  | 0, k, f, h => ⟨f, by rw [runF, it_len]; omega⟩
  | n + 1, k, f, h => by
    rw [runF]
    split
    · exact ⟨f, by rw [it_len]; omega⟩
    split
    · exact ⟨f, by rw [it_len]; omega⟩
    next q =>
      exact runF_fit n (k + 1) (step_fit f (by omega)) (by omega)
theorem run_fit {t : Tr} (b : ByteArray) (tk n : Int) (f : TFit t) : TFit (runR t b tk n).1 ∧ (runR t b tk n).2.1.length ≤ 30 := by
  unfold runR
  split
  · exact ⟨t0_fit, by simp⟩
  split
  · exact ⟨t0_fit, by simp⟩
  split
  · exact ⟨t0_fit, by simp⟩
  · exact runF_fit _ 0 f (by omega)
theorem runs_law (t : Tr) (b : ByteArray) (tk n : Int) (ht : TSm t) : Spec Tryz.prog 3 [tA t, .d (.str b), .d (.int .i64 tk), .d (.int .i64 n)] [] (.d (.bool true)) [] := by
  have c0 := tgreat_ref t ht
  simp only [tA, tC] at c0
  refine spec_of_ev (fn := Tryz.f3) DX_ok 3000 Tryz.func3 rfl rfl (Nat.le_of_ble_eq_true rfl) ?_
  simp (maxSteps := 4000000) -implicitDefEqProofs only [Tryz.f3, go_sem, tA]
  refine ecall0 _ c0 (by simp only [go_sem]) (by simp only [go_sem]) ?_
  cases g1 : tgreat t
  case true =>
    simp (maxSteps := 4000000) -implicitDefEqProofs only [go_sem, g1, Option.some.injEq, forall_eq', and_true, true_and, Bool.not_true, Bool.not_false, decide_true, Nat.reduceAdd, Nat.reduceSub, Nat.reduceLT, Nat.reduceLeDiff, Nat.reduceEqDiff, ↓reduceIte]
    exact wk_bool rfl
  have f := tfit_of g1
  cases g2 : decide ((100 : Int) < b.size)
  case true =>
    simp (maxSteps := 4000000) -implicitDefEqProofs only [go_sem, g1, g2, Option.some.injEq, forall_eq', and_true, true_and, Bool.not_true, Bool.not_false, decide_true, Nat.reduceAdd, Nat.reduceSub, Nat.reduceLT, Nat.reduceLeDiff, Nat.reduceEqDiff, ↓reduceIte]
    exact wk_bool rfl
  have c1 := twin_tdat t f.k f.b f.e f.s f.q f.h f.c
  have c2 := Run_own t b tk n f
  have c3 := Run_ref t b tk n f
  have rf := run_fit b tk n f
  have d1 := same_tref t f
  obtain ⟨S, hS⟩ : ∃ O, O = runR t b tk n := ⟨_, rfl⟩
  rw [← hS] at c2 c3 rf
  have d2 := same_tref S.1 rf.1
  have d3 := sameStates_ref S.2.1 S.2.1 (by unfold Sm; omega)
  rw [decide_eq_true rfl] at d3
  simp only [tA, tC] at c1 c2 c3 d1 d2
  have z1 : ∀ n : Int, (n == n) = true := fun n => by simp
  simp (maxSteps := 4000000) -implicitDefEqProofs only [go_sem, g1, g2, Option.some.injEq, forall_eq', and_true, true_and, Bool.not_true, Bool.not_false, decide_true, Nat.reduceAdd, Nat.reduceSub, Nat.reduceLT, Nat.reduceLeDiff, Nat.reduceEqDiff, ↓reduceIte]
  refine ecall0 _ c1 (by simp only [go_sem]) (by simp only [go_sem]) ?_
  simp (maxSteps := 4000000) -implicitDefEqProofs only [go_sem, Nat.reduceAdd, Nat.reduceSub, Nat.reduceLT, Nat.reduceLeDiff, Nat.reduceEqDiff, ↓reduceIte]
  refine ecall0 _ c2 (by simp only [go_sem]) (by simp only [go_sem]) ?_
  simp (maxSteps := 4000000) -implicitDefEqProofs only [go_sem, Nat.reduceAdd, Nat.reduceSub, Nat.reduceLT, Nat.reduceLeDiff, Nat.reduceEqDiff, ↓reduceIte]
  refine ecall0 _ c3 (by simp only [go_sem]) (by simp only [go_sem]) ?_
  simp (maxSteps := 4000000) -implicitDefEqProofs only [go_sem, Nat.reduceAdd, Nat.reduceSub, Nat.reduceLT, Nat.reduceLeDiff, Nat.reduceEqDiff, ↓reduceIte]
  refine ecall0 _ d2 (by simp only [go_sem]) (by simp only [go_sem]) ?_
  simp (maxSteps := 4000000) -implicitDefEqProofs only [go_sem, z1, Option.some.injEq, forall_eq', and_true, true_and, Bool.not_true, Bool.not_false, decide_true, Nat.reduceAdd, Nat.reduceSub, Nat.reduceLT, Nat.reduceLeDiff, Nat.reduceEqDiff, ↓reduceIte]
  refine ecall0 _ d3 (by simp only [go_sem]) (by simp only [go_sem]) ?_
  simp (maxSteps := 4000000) -implicitDefEqProofs only [go_sem, z1, Option.some.injEq, forall_eq', and_true, true_and, Bool.not_true, Bool.not_false, decide_true, Nat.reduceAdd, Nat.reduceSub, Nat.reduceLT, Nat.reduceLeDiff, Nat.reduceEqDiff, ↓reduceIte]
  refine ecall0 _ d1 (by simp only [go_sem]) (by simp only [go_sem]) ?_
  simp (maxSteps := 4000000) -implicitDefEqProofs only [go_sem, z1, Option.some.injEq, forall_eq', and_true, true_and, Bool.not_true, Bool.not_false, decide_true, Nat.reduceAdd, Nat.reduceSub, Nat.reduceLT, Nat.reduceLeDiff, Nat.reduceEqDiff, ↓reduceIte]
  exact wk_bool rfl
end Go.AX.Tr
namespace Go.Proofs.YtioihldhnhlpnaaGreat
open Go.AX Go.AX.Tr Go.RowKit
set_option maxRecDepth 100000 in
theorem trainRuns_lifted (os : Os) (started : os.Started) (H : Type) (enc : TypeId × Value → H) :
    ReturnsInHanded {} Tryz.checked os 3 .any (Rows.trainRunsSpec.pre6 enc Tryz.prog Tryz.f3 Rows.trainRunsRow.domain false) (Rows.trainRunsSpec.post enc Tryz.prog Tryz.f3 false true false false) := by
  refine Go.AX.lifted (C := Tryz.checked) (f := 3) (fn := Tryz.f3) (s := Rows.trainRunsSpec) (rt := 4) (n := 8) (by kernel_rfl) (by kernel_rfl) Tryz.func3 rfl ?_ rfl (by kernel_rfl) (by kernel_rfl) (by kernel_rfl) (by kernel_rfl) os started H enc
    (ChangeSpec.witness6 (enc := enc) (C := Tryz.checked) false ⟨#[], #[.agg #[.slice none 0 0, .slice none 0 0, .slice none 0 0, .slice none 0 0, .slice none 0 0, .slice none 0 0], .string ByteArray.empty, .int .i64 0, .int .i64 0], []⟩ 8 (by kernel_rfl) (by kernel_rfl) (by kernel_rfl) (by kernel_rfl)) ?_
  · intro H ds h
    match ds, h with
    | [a0, a1, a2, a3], _ => rfl
  · intro xs hx
    have hp : Tryz.f3.params.toList = [31, 9, 3, 3] := rfl
    rw [hp] at hx ⊢
    have i0 : isA Tryz.prog 31 = true := by kernel_rfl
    have i1 : isA Tryz.prog 9 = false := by kernel_rfl
    have i2 : isA Tryz.prog 3 = false := by kernel_rfl
    have i3 : isA Tryz.prog 3 = false := by kernel_rfl
    rcases xs with _ | ⟨d0, _ | ⟨d1, _ | ⟨d2, _ | ⟨d3, _ | ⟨d4, xs⟩⟩⟩⟩⟩ <;> simp only [Tyds, and_false] at hx
    obtain ⟨k0, k1, k2, k3, _⟩ := hx
    obtain ⟨t, rfl, ht⟩ := train_of k0
    obtain ⟨b, rfl, hb⟩ := str_of k1
    obtain ⟨tk, rfl, htk⟩ := int_of k2
    obtain ⟨n, rfl, hn⟩ := int_of k3
    simp only [avs, i0, i1, i2, i3, dv, Bool.false_eq_true, if_false, if_true, List.headD_cons, List.map_cons, List.map_nil]
    exact runs_law t b tk n ht
theorem trainRuns_over : Rows.trainRunsRow.holds Tryz.pinned (OpenSpec.ofChange Rows.trainRunsSpec) :=
  OpenClaim.holds_of_wide 3 Tryz.f3 rfl rfl rfl rfl rfl rfl rfl ⟨rfl, rfl, rfl, rfl, rfl⟩ rfl rfl rfl rfl rfl (by kernel_rfl) Tryz.func3 (by kernel_rfl)
    (of_decide_eq_true (by kernel_rfl)) (by unfold Func.isWrapper; first | (rw [if_pos (by decide +kernel)]; kernel_rfl) | (rw [if_neg (by decide +kernel)]; exact ⟨rfl, rfl⟩))
    (fun os started H enc _ => trainRuns_lifted os started H enc)
/-- The row, under a short name, for the claim. -/
theorem trainRuns_holds : Rows.TrainRunsSaid := trainRuns_over
#print axioms trainRuns_holds
end Go.Proofs.YtioihldhnhlpnaaGreat

/- Ledgers: examples of their own, to be changed. -/
import Derived.Test.YtcpkcjjhokbmkaaK10
import Derived.KernelRfl
set_option maxHeartbeats 8000000
set_option linter.unusedVariables false
set_option linter.unusedSimpArgs false
set_option maxRecDepth 20000
namespace Go.AX.Lg
open Go.Proofs Go.RowKit Go.IntWalk Go.AX.Br
theorem EvS.ops0 {Γ : Ctx} {all : Array Oper} {k : List It} {env : List AV} {σ : List AObj} (h : EvS Γ k env σ) : EvS Γ (.ops [] all :: k) env σ := fun c0 σ0 Q0 hn hQ hY c a G => by
  have := h c0 σ0 Q0 hn hQ hY c a G
  simp only [SemK]
  simpa only [wpListIn] using this
def exK : List (List D) := [[.str ⟨#[102, 105, 120]⟩, .int .i64 3], [.str ⟨#[102, 105, 120, 45, 50]⟩, .int .i64 3], [.str ⟨#[111, 116, 104, 101, 114]⟩, .int .i64 0]]
def exBr : List (List D) := [[.str ⟨#[109, 97, 105, 110]⟩, .str ByteArray.empty, .int .i64 0], [.str ⟨#[114, 49]⟩, .str ⟨#[109, 97, 105, 110]⟩, .int .i64 1]]
def exE0 : List (List D) := [[.int .u8 1, .str ⟨#[102, 105, 120]⟩], [.int .u8 1, .str ⟨#[111, 116, 104, 101, 114]⟩]]
def exE1 : List (List D) := [[.int .u8 3, .str ⟨#[102, 105, 120]⟩]]
/-- all of it owned -/
theorem example_kspec : Spec Try.prog 36 [] [] (.agg [.own 0, .d (.sl exBr), .d (.sl [[.sl exE0], [.sl exE1]])]) [.row 2 exK] := by
  refine spec_of_ev (fn := Try.f36) DX_ok 3000 Try.func36 rfl rfl (Nat.le_of_ble_eq_true rfl) ?_
  simp (maxSteps := 4000000) -implicitDefEqProofs only [Try.f36, go_sem]
  simp (maxSteps := 4000000) -implicitDefEqProofs only [go_sem, Nat.reduceAdd, Nat.reduceSub, Nat.reduceLT, Nat.reduceLeDiff, Nat.reduceEqDiff, ↓reduceIte]
  refine ⟨by omega, by omega, by omega, by omega, ?_⟩
  simp only [exBr, exE0, exE1, exK]
  refine Wk.trans (Wk.frz 2 rfl) (Wk.trans (Wk.frz 5 rfl) ?_)
  exact (Wk.via [1] (by (simp only [go_sem, ↓reduceIte]) <;> trivial) (by first | (simp (maxSteps := 4000000) -implicitDefEqProofs only [go_sem, Nat.reduceAdd, Nat.reduceSub, Nat.reduceLT, Nat.reduceLeDiff, Nat.reduceEqDiff, ↓reduceIte]; done) | ((simp (maxSteps := 4000000) -implicitDefEqProofs only [go_sem, Nat.reduceAdd, Nat.reduceSub, Nat.reduceLT, Nat.reduceLeDiff, Nat.reduceEqDiff, ↓reduceIte]) <;> omega)) (by simp) (by first | (simp; done) | (simp [so]; done)) (by (simp (maxSteps := 4000000) -implicitDefEqProofs only [go_sem, Nat.reduceAdd, Nat.reduceSub, Nat.reduceLT, Nat.reduceLeDiff, Nat.reduceEqDiff, ↓reduceIte]) <;> trivial) (by first | (simp only [go_sem]; done) | ((simp (maxSteps := 4000000) -implicitDefEqProofs only [go_sem, Nat.reduceAdd, Nat.reduceSub, Nat.reduceLT, Nat.reduceLeDiff, Nat.reduceEqDiff, ↓reduceIte]) <;> omega)) (Nat.zero_le _) (fun i h => absurd h (Nat.not_lt_zero i)))
theorem example_bspec : Spec Try.prog 36 [] [] (.agg [.d (.sl exK), .own 0, .d (.sl [[.sl exE0], [.sl exE1]])]) [.row 3 exBr] := by
  refine spec_of_ev (fn := Try.f36) DX_ok 3000 Try.func36 rfl rfl (Nat.le_of_ble_eq_true rfl) ?_
  simp (maxSteps := 4000000) -implicitDefEqProofs only [Try.f36, go_sem]
  simp (maxSteps := 4000000) -implicitDefEqProofs only [go_sem, Nat.reduceAdd, Nat.reduceSub, Nat.reduceLT, Nat.reduceLeDiff, Nat.reduceEqDiff, ↓reduceIte]
  refine ⟨by omega, by omega, by omega, by omega, ?_⟩
  simp only [exBr, exE0, exE1, exK]
  refine Wk.trans (Wk.frz 1 rfl) (Wk.trans (Wk.frz 5 rfl) ?_)
  exact (Wk.via [2] (by (simp only [go_sem, ↓reduceIte]) <;> trivial) (by first | (simp (maxSteps := 4000000) -implicitDefEqProofs only [go_sem, Nat.reduceAdd, Nat.reduceSub, Nat.reduceLT, Nat.reduceLeDiff, Nat.reduceEqDiff, ↓reduceIte]; done) | ((simp (maxSteps := 4000000) -implicitDefEqProofs only [go_sem, Nat.reduceAdd, Nat.reduceSub, Nat.reduceLT, Nat.reduceLeDiff, Nat.reduceEqDiff, ↓reduceIte]) <;> omega)) (by simp) (by first | (simp; done) | (simp [so]; done)) (by (simp (maxSteps := 4000000) -implicitDefEqProofs only [go_sem, Nat.reduceAdd, Nat.reduceSub, Nat.reduceLT, Nat.reduceLeDiff, Nat.reduceEqDiff, ↓reduceIte]) <;> trivial) (by first | (simp only [go_sem]; done) | ((simp (maxSteps := 4000000) -implicitDefEqProofs only [go_sem, Nat.reduceAdd, Nat.reduceSub, Nat.reduceLT, Nat.reduceLeDiff, Nat.reduceEqDiff, ↓reduceIte]) <;> omega)) (Nat.zero_le _) (fun i h => absurd h (Nat.not_lt_zero i)))
theorem example_vspec : Spec Try.prog 36 [] [] (.agg [.d (.sl exK), .d (.sl exBr), .own 0]) [.vec 1 [[.d (.sl exE0)], [.d (.sl exE1)]]] := by
  refine spec_of_ev (fn := Try.f36) DX_ok 3000 Try.func36 rfl rfl (Nat.le_of_ble_eq_true rfl) ?_
  simp (maxSteps := 4000000) -implicitDefEqProofs only [Try.f36, go_sem]
  simp (maxSteps := 4000000) -implicitDefEqProofs only [go_sem, Nat.reduceAdd, Nat.reduceSub, Nat.reduceLT, Nat.reduceLeDiff, Nat.reduceEqDiff, ↓reduceIte]
  refine ⟨by omega, by omega, by omega, by omega, ?_⟩
  simp only [exBr, exE0, exE1, exK]
  refine Wk.trans (Wk.frz 1 rfl) (Wk.trans (Wk.frz 2 rfl) (Wk.trans (Wk.rowv 5 rfl) ?_))
  exact (Wk.via [5] (by (simp only [go_sem, ↓reduceIte]) <;> trivial) (by first | (simp (maxSteps := 4000000) -implicitDefEqProofs only [go_sem, Nat.reduceAdd, Nat.reduceSub, Nat.reduceLT, Nat.reduceLeDiff, Nat.reduceEqDiff, ↓reduceIte]; done) | ((simp (maxSteps := 4000000) -implicitDefEqProofs only [go_sem, Nat.reduceAdd, Nat.reduceSub, Nat.reduceLT, Nat.reduceLeDiff, Nat.reduceEqDiff, ↓reduceIte]) <;> omega)) (by simp) (by first | (simp; done) | (simp [so]; done)) (by (simp (maxSteps := 4000000) -implicitDefEqProofs only [go_sem, Nat.reduceAdd, Nat.reduceSub, Nat.reduceLT, Nat.reduceLeDiff, Nat.reduceEqDiff, ↓reduceIte]) <;> trivial) (by first | (simp only [go_sem]; done) | ((simp (maxSteps := 4000000) -implicitDefEqProofs only [go_sem, Nat.reduceAdd, Nat.reduceSub, Nat.reduceLT, Nat.reduceLeDiff, Nat.reduceEqDiff, ↓reduceIte]) <;> omega)) (Nat.zero_le _) (fun i h => absurd h (Nat.not_lt_zero i)))
theorem example_espec : Spec Try.prog 36 [] [] (.agg [.d (.sl exK), .d (.sl exBr), .own 0]) [.vec 1 [[.own 2], [.own 1]], .vec 2 [[.d (.int .u8 3), .d (.str ⟨#[102, 105, 120]⟩)]], .row 2 exE0] := by
  refine spec_of_evS (fn := Try.f36) Try.func36 rfl rfl (Nat.le_of_ble_eq_true rfl) ?_
  simp (maxSteps := 4000000) -implicitDefEqProofs only [Try.f36, go_sem]
  refine EvS.seq ?_
  refine EvS.at 1 ?_
  simp (maxSteps := 4000000) -implicitDefEqProofs only [go_sem, List.take_succ_cons, List.take_zero, List.drop_succ_cons, List.drop_zero, Option.some.injEq, forall_eq', and_true, true_and, Bool.not_true, Bool.not_false, decide_true, Nat.reduceAdd, Nat.reduceSub, Nat.reduceLT, Nat.reduceLeDiff, Nat.reduceEqDiff, ↓reduceIte]
  refine EvS.ops0 ?_
  refine EvS.seq ?_
  refine EvS.at 12 ?_
  simp (maxSteps := 4000000) -implicitDefEqProofs only [go_sem, List.take_succ_cons, List.take_zero, List.drop_succ_cons, List.drop_zero, Option.some.injEq, forall_eq', and_true, true_and, Bool.not_true, Bool.not_false, decide_true, Nat.reduceAdd, Nat.reduceSub, Nat.reduceLT, Nat.reduceLeDiff, Nat.reduceEqDiff, ↓reduceIte]
  repeat' (first | (refine And.intro (by omega) ?_))
  refine EvS.wk (Wk.rowv 4 rfl) ?_
  refine EvS.of_ev DX_ok 3000 ?_
  simp only [List.set_cons_succ, List.set_cons_zero]
  simp (maxSteps := 4000000) -implicitDefEqProofs only [go_sem, Nat.reduceAdd, Nat.reduceSub, Nat.reduceLT, Nat.reduceLeDiff, Nat.reduceEqDiff, ↓reduceIte]
  repeat' (first | (refine And.intro (by omega) ?_))
  simp only [exBr, exE0, exE1, exK]
  refine Wk.trans (Wk.frz 1 rfl) (Wk.trans (Wk.frz 2 rfl) ?_)
  exact (Wk.via [5, 4, 3] (by (simp only [go_sem, ↓reduceIte]) <;> trivial) (by first | (simp (maxSteps := 4000000) -implicitDefEqProofs only [go_sem, Nat.reduceAdd, Nat.reduceSub, Nat.reduceLT, Nat.reduceLeDiff, Nat.reduceEqDiff, ↓reduceIte]; done) | ((simp (maxSteps := 4000000) -implicitDefEqProofs only [go_sem, Nat.reduceAdd, Nat.reduceSub, Nat.reduceLT, Nat.reduceLeDiff, Nat.reduceEqDiff, ↓reduceIte]) <;> omega)) (by simp) (by first | (simp; done) | (simp [so]; done)) (by (simp (maxSteps := 4000000) -implicitDefEqProofs only [go_sem, Nat.reduceAdd, Nat.reduceSub, Nat.reduceLT, Nat.reduceLeDiff, Nat.reduceEqDiff, ↓reduceIte]) <;> trivial) (by first | (simp only [go_sem]; done) | ((simp (maxSteps := 4000000) -implicitDefEqProofs only [go_sem, Nat.reduceAdd, Nat.reduceSub, Nat.reduceLT, Nat.reduceLeDiff, Nat.reduceEqDiff, ↓reduceIte]) <;> omega)) (Nat.zero_le _) (fun i h => absurd h (Nat.not_lt_zero i)))
end Go.AX.Lg

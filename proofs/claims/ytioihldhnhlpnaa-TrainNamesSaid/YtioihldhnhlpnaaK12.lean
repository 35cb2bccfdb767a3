/- Trains: examples of their own, to be changed. -/
import Derived.Test.YtioihldhnhlpnaaK11
import Derived.KernelRfl
set_option maxHeartbeats 8000000
set_option linter.unusedVariables false
set_option linter.unusedSimpArgs false
set_option maxRecDepth 20000
namespace Go.AX.Tr
open Go.Proofs Go.RowKit Go.IntWalk Go.AX.Br Go.AX.Lg Go.AX.Qu Go.AX.Wn
def sR2 : ByteArray := ⟨#[114, 50]⟩
def sNone : ByteArray := ⟨#[110, 111, 110, 101]⟩
def altE (n : Nat) : List Ev := (List.range n).map fun p => ⟨if p % 2 = 0 then 2 else 3, sFix⟩
def exT1 : Tr := ⟨⟨[⟨sFix, 30⟩, ⟨sOther, 2⟩], exT.lg.br, exT.lg.ev⟩, exT.q, exT.hs, exT.cl⟩
def exT2 : Tr := ⟨exT.lg, [⟨sR1, sFix, 8, false, 0⟩, ⟨sR1, sOther, 2, false, 0⟩], exT.hs, exT.cl⟩
def exT3 : Tr := ⟨exT.lg, exT.q, [⟨sR1, 5, 5, sRel⟩], exT.cl⟩
def exT4 : Tr := ⟨exT.lg, exT.q, exT.hs, List.replicate 31 ⟨⟨#[]⟩, ⟨#[]⟩⟩⟩
def exT5 : Tr := ⟨exT.lg, [⟨sR1, sFix, 2, false, 0⟩, ⟨sR1, sNone, 2, false, 0⟩], exT.hs, exT.cl⟩
def exT6 : Tr := ⟨exT.lg, exT.q, exT.hs, [⟨sR1, sNone⟩]⟩
def exT7 : Tr := ⟨exT.lg, exT.q, exT.hs, [⟨sR2, sOther⟩]⟩
def exT8 : Tr := ⟨exT.lg, exT.q, exT.hs, [⟨sR1, sOther⟩, ⟨sR1, sOther⟩]⟩
def exOv : Tr := ⟨exT.lg, [⟨sR1, sFix, 2, true, 0⟩, ⟨sR1, sOther, 2, false, 0⟩], exT.hs, exT.cl⟩
def exF : Tr := ⟨⟨exT.lg.kn, exT.lg.br, [[⟨1, sFix⟩], altE 40]⟩, exT.q, exT.hs, exT.cl⟩
def exX : Tr := (runR exOv sR1 5 30).1
theorem exOv_fit : TFit exOv := ⟨by decide, by decide, by decide, by decide, by decide, by decide, by decide⟩
theorem exF_fit : TFit exF := ⟨by decide, by decide, by decide, by decide, by decide, by decide, by decide⟩
theorem nm_bad : tcheck exT1 = 8 := by kernel_rfl
theorem nm_queue : tcheck exT2 = 8 := by kernel_rfl
theorem nm_hold : tcheck exT3 = 8 := by kernel_rfl
theorem nm_many : tcheck exT4 = 4 := by kernel_rfl
theorem nm_change : tcheck exT5 = 6 := by kernel_rfl
theorem nm_clash : tcheck exT6 = 6 := by kernel_rfl
theorem nm_branch : tcheck exT7 = 6 := by kernel_rfl
theorem nm_twice : tcheck exT8 = 14 := by kernel_rfl
theorem nm_a : outcR exT 2 = (0, 2) := by kernel_rfl
theorem nm_b : outcR exT (-1) = (0, 2) := by kernel_rfl
theorem nm_c : (stepR exT sR2 0).2.2 = 6 := by kernel_rfl
theorem nm_d : (stepR exT sMain 0).2.2 = 6 := by kernel_rfl
theorem nm_e : (stepR exT sR1 (-1)).2.2 = 2 := by kernel_rfl
theorem nm_f : (stepR exT sR1 1000001).2.2 = 2 := by kernel_rfl
theorem nm_g : (runR exT sR2 0 0).2.2 = 6 := by kernel_rfl
theorem nm_h : (runR exT sR1 0 31).2.2 = 2 := by kernel_rfl
theorem nm_i : (runR exT sR1 1000001 0).2.2 = 2 := by kernel_rfl
theorem nm_j : runR exOv sR1 5 30 = (exX, [5], 0) := by kernel_rfl
theorem nm_k : waitR exOv sR1 5 = (5, 0) := by kernel_rfl
theorem nm_m : runR exT sMain 0 30 = (exT, [], 0) := by kernel_rfl
theorem nm_o : (stepR exF sR1 0).2.2 = 4 := by kernel_rfl
theorem nm_q : runR exF sR1 0 2 = (exF, [], 4) := by kernel_rfl
theorem exX_q : exX.q.map rD = [[.str sR1, .str sFix, .int .u8 5, .bool true, .int .i64 0], [.str sR1, .str sOther, .int .u8 2, .bool false, .int .i64 0]] := by kernel_rfl
def xK : List (List D) := [[.str ⟨#[102, 105, 120]⟩, .int .i64 1], [.str ⟨#[111, 116, 104, 101, 114]⟩, .int .i64 2]]
def xB : List (List D) := [[.str ⟨#[109, 97, 105, 110]⟩, .str ByteArray.empty, .int .i64 0], [.str ⟨#[114, 49]⟩, .str ⟨#[109, 97, 105, 110]⟩, .int .i64 0]]
def xE0 : List (List D) := [[.int .u8 1, .str ⟨#[102, 105, 120]⟩]]
def xE : List (List D) := [[.sl xE0], [.sl []]]
def xQ : List (List D) := [[.str ⟨#[114, 49]⟩, .str ⟨#[102, 105, 120]⟩, .int .u8 2, .bool false, .int .i64 0], [.str ⟨#[114, 49]⟩, .str ⟨#[111, 116, 104, 101, 114]⟩, .int .u8 2, .bool false, .int .i64 0]]
def xH : List (List D) := [[.str ⟨#[114, 49]⟩, .int .i64 5, .int .i64 9, .str ⟨#[114, 101, 108, 101, 97, 115, 101]⟩]]
def xC : List (List D) := [[.str ⟨#[114, 49]⟩, .str ⟨#[111, 116, 104, 101, 114]⟩]]

theorem example_K : Spec Try.prog 4 [] [] (.agg [.own 0, .d (.sl xB), .d (.sl xE), .d (.sl xQ), .d (.sl xH), .d (.sl xC)]) [.row 2 xK] := by
  refine spec_of_ev (fn := Try.f4) DX_ok 3000 Try.func4 rfl rfl (Nat.le_of_ble_eq_true rfl) ?_
  simp (maxSteps := 4000000) -implicitDefEqProofs only [Try.f4, go_sem]
  simp (maxSteps := 4000000) -implicitDefEqProofs only [go_sem, Nat.reduceAdd, Nat.reduceSub, Nat.reduceLT, Nat.reduceLeDiff, Nat.reduceEqDiff, ↓reduceIte]
  repeat' (first | (refine And.intro (by omega) ?_))
  simp -implicitDefEqProofs only [xK, xB, xE, xE0, xQ, xH, xC]
  refine Wk.trans (Wk.frz 2 rfl) (Wk.trans (Wk.frz 4 rfl) (Wk.trans (Wk.frz 5 rfl) (Wk.trans (Wk.frz 6 rfl) (Wk.trans (Wk.frz 7 rfl) (?_)))))
  exact (Wk.via [1] (by (simp -implicitDefEqProofs only [go_sem, ↓reduceIte]) <;> trivial) (by first | (simp (maxSteps := 4000000) -implicitDefEqProofs only [go_sem, Nat.reduceAdd, Nat.reduceSub, Nat.reduceLT, Nat.reduceLeDiff, Nat.reduceEqDiff, ↓reduceIte]; done) | ((simp (maxSteps := 4000000) -implicitDefEqProofs only [go_sem, Nat.reduceAdd, Nat.reduceSub, Nat.reduceLT, Nat.reduceLeDiff, Nat.reduceEqDiff, ↓reduceIte]) <;> omega)) (by simp) (by first | (simp; done) | (simp [so]; done)) (by (simp (maxSteps := 4000000) -implicitDefEqProofs only [go_sem, Nat.reduceAdd, Nat.reduceSub, Nat.reduceLT, Nat.reduceLeDiff, Nat.reduceEqDiff, ↓reduceIte]) <;> trivial) (by first | (simp -implicitDefEqProofs only [go_sem]; done) | ((simp (maxSteps := 4000000) -implicitDefEqProofs only [go_sem, Nat.reduceAdd, Nat.reduceSub, Nat.reduceLT, Nat.reduceLeDiff, Nat.reduceEqDiff, ↓reduceIte]) <;> omega)) (Nat.zero_le _) (fun i h => absurd h (Nat.not_lt_zero i)))
theorem example_Q : Spec Try.prog 4 [] [] (.agg [.d (.sl xK), .d (.sl xB), .d (.sl xE), .own 0, .d (.sl xH), .d (.sl xC)]) [.row 5 xQ] := by
  refine spec_of_ev (fn := Try.f4) DX_ok 3000 Try.func4 rfl rfl (Nat.le_of_ble_eq_true rfl) ?_
  simp (maxSteps := 4000000) -implicitDefEqProofs only [Try.f4, go_sem]
  simp (maxSteps := 4000000) -implicitDefEqProofs only [go_sem, Nat.reduceAdd, Nat.reduceSub, Nat.reduceLT, Nat.reduceLeDiff, Nat.reduceEqDiff, ↓reduceIte]
  repeat' (first | (refine And.intro (by omega) ?_))
  simp -implicitDefEqProofs only [xK, xB, xE, xE0, xQ, xH, xC]
  refine Wk.trans (Wk.frz 1 rfl) (Wk.trans (Wk.frz 2 rfl) (Wk.trans (Wk.frz 4 rfl) (Wk.trans (Wk.frz 6 rfl) (Wk.trans (Wk.frz 7 rfl) (?_)))))
  exact (Wk.via [5] (by (simp -implicitDefEqProofs only [go_sem, ↓reduceIte]) <;> trivial) (by first | (simp (maxSteps := 4000000) -implicitDefEqProofs only [go_sem, Nat.reduceAdd, Nat.reduceSub, Nat.reduceLT, Nat.reduceLeDiff, Nat.reduceEqDiff, ↓reduceIte]; done) | ((simp (maxSteps := 4000000) -implicitDefEqProofs only [go_sem, Nat.reduceAdd, Nat.reduceSub, Nat.reduceLT, Nat.reduceLeDiff, Nat.reduceEqDiff, ↓reduceIte]) <;> omega)) (by simp) (by first | (simp; done) | (simp [so]; done)) (by (simp (maxSteps := 4000000) -implicitDefEqProofs only [go_sem, Nat.reduceAdd, Nat.reduceSub, Nat.reduceLT, Nat.reduceLeDiff, Nat.reduceEqDiff, ↓reduceIte]) <;> trivial) (by first | (simp -implicitDefEqProofs only [go_sem]; done) | ((simp (maxSteps := 4000000) -implicitDefEqProofs only [go_sem, Nat.reduceAdd, Nat.reduceSub, Nat.reduceLT, Nat.reduceLeDiff, Nat.reduceEqDiff, ↓reduceIte]) <;> omega)) (Nat.zero_le _) (fun i h => absurd h (Nat.not_lt_zero i)))
theorem example_H : Spec Try.prog 4 [] [] (.agg [.d (.sl xK), .d (.sl xB), .d (.sl xE), .d (.sl xQ), .own 0, .d (.sl xC)]) [.row 4 xH] := by
  refine spec_of_ev (fn := Try.f4) DX_ok 3000 Try.func4 rfl rfl (Nat.le_of_ble_eq_true rfl) ?_
  simp (maxSteps := 4000000) -implicitDefEqProofs only [Try.f4, go_sem]
  simp (maxSteps := 4000000) -implicitDefEqProofs only [go_sem, Nat.reduceAdd, Nat.reduceSub, Nat.reduceLT, Nat.reduceLeDiff, Nat.reduceEqDiff, ↓reduceIte]
  repeat' (first | (refine And.intro (by omega) ?_))
  simp -implicitDefEqProofs only [xK, xB, xE, xE0, xQ, xH, xC]
  refine Wk.trans (Wk.frz 1 rfl) (Wk.trans (Wk.frz 2 rfl) (Wk.trans (Wk.frz 4 rfl) (Wk.trans (Wk.frz 5 rfl) (Wk.trans (Wk.frz 7 rfl) (?_)))))
  exact (Wk.via [6] (by (simp -implicitDefEqProofs only [go_sem, ↓reduceIte]) <;> trivial) (by first | (simp (maxSteps := 4000000) -implicitDefEqProofs only [go_sem, Nat.reduceAdd, Nat.reduceSub, Nat.reduceLT, Nat.reduceLeDiff, Nat.reduceEqDiff, ↓reduceIte]; done) | ((simp (maxSteps := 4000000) -implicitDefEqProofs only [go_sem, Nat.reduceAdd, Nat.reduceSub, Nat.reduceLT, Nat.reduceLeDiff, Nat.reduceEqDiff, ↓reduceIte]) <;> omega)) (by simp) (by first | (simp; done) | (simp [so]; done)) (by (simp (maxSteps := 4000000) -implicitDefEqProofs only [go_sem, Nat.reduceAdd, Nat.reduceSub, Nat.reduceLT, Nat.reduceLeDiff, Nat.reduceEqDiff, ↓reduceIte]) <;> trivial) (by first | (simp -implicitDefEqProofs only [go_sem]; done) | ((simp (maxSteps := 4000000) -implicitDefEqProofs only [go_sem, Nat.reduceAdd, Nat.reduceSub, Nat.reduceLT, Nat.reduceLeDiff, Nat.reduceEqDiff, ↓reduceIte]) <;> omega)) (Nat.zero_le _) (fun i h => absurd h (Nat.not_lt_zero i)))
theorem example_C : Spec Try.prog 4 [] [] (.agg [.d (.sl xK), .d (.sl xB), .d (.sl xE), .d (.sl xQ), .d (.sl xH), .own 0]) [.row 2 xC] := by
  refine spec_of_ev (fn := Try.f4) DX_ok 3000 Try.func4 rfl rfl (Nat.le_of_ble_eq_true rfl) ?_
  simp (maxSteps := 4000000) -implicitDefEqProofs only [Try.f4, go_sem]
  simp (maxSteps := 4000000) -implicitDefEqProofs only [go_sem, Nat.reduceAdd, Nat.reduceSub, Nat.reduceLT, Nat.reduceLeDiff, Nat.reduceEqDiff, ↓reduceIte]
  repeat' (first | (refine And.intro (by omega) ?_))
  simp -implicitDefEqProofs only [xK, xB, xE, xE0, xQ, xH, xC]
  refine Wk.trans (Wk.frz 1 rfl) (Wk.trans (Wk.frz 2 rfl) (Wk.trans (Wk.frz 4 rfl) (Wk.trans (Wk.frz 5 rfl) (Wk.trans (Wk.frz 6 rfl) (?_)))))
  exact (Wk.via [7] (by (simp -implicitDefEqProofs only [go_sem, ↓reduceIte]) <;> trivial) (by first | (simp (maxSteps := 4000000) -implicitDefEqProofs only [go_sem, Nat.reduceAdd, Nat.reduceSub, Nat.reduceLT, Nat.reduceLeDiff, Nat.reduceEqDiff, ↓reduceIte]; done) | ((simp (maxSteps := 4000000) -implicitDefEqProofs only [go_sem, Nat.reduceAdd, Nat.reduceSub, Nat.reduceLT, Nat.reduceLeDiff, Nat.reduceEqDiff, ↓reduceIte]) <;> omega)) (by simp) (by first | (simp; done) | (simp [so]; done)) (by (simp (maxSteps := 4000000) -implicitDefEqProofs only [go_sem, Nat.reduceAdd, Nat.reduceSub, Nat.reduceLT, Nat.reduceLeDiff, Nat.reduceEqDiff, ↓reduceIte]) <;> trivial) (by first | (simp -implicitDefEqProofs only [go_sem]; done) | ((simp (maxSteps := 4000000) -implicitDefEqProofs only [go_sem, Nat.reduceAdd, Nat.reduceSub, Nat.reduceLT, Nat.reduceLeDiff, Nat.reduceEqDiff, ↓reduceIte]) <;> omega)) (Nat.zero_le _) (fun i h => absurd h (Nat.not_lt_zero i)))
theorem example_E : Spec Try.prog 4 [] [] (.agg [.d (.sl xK), .d (.sl xB), .own 0, .d (.sl xQ), .d (.sl xH), .d (.sl xC)]) [.vec 1 [[.own 1], [.nil]], .vec 2 [[.d (.int .u8 1), .d (.str ⟨#[102, 105, 120]⟩)]]] := by
  refine spec_of_evS (fn := Try.f4) Try.func4 rfl rfl (Nat.le_of_ble_eq_true rfl) ?_
  simp (maxSteps := 4000000) -implicitDefEqProofs only [Try.f4, go_sem]
  refine EvS.seq ?_
  refine EvS.at 1 ?_
  simp (maxSteps := 4000000) -implicitDefEqProofs only [go_sem, List.take_succ_cons, List.take_zero, List.drop_succ_cons, List.drop_zero, Option.some.injEq, forall_eq', and_true, true_and, Bool.not_true, Bool.not_false, decide_true, Nat.reduceAdd, Nat.reduceSub, Nat.reduceLT, Nat.reduceLeDiff, Nat.reduceEqDiff, ↓reduceIte]
  refine EvS.none ?_
  refine EvS.seq ?_
  refine EvS.at 8 ?_
  simp (maxSteps := 4000000) -implicitDefEqProofs only [go_sem, List.take_succ_cons, List.take_zero, List.drop_succ_cons, List.drop_zero, Option.some.injEq, forall_eq', and_true, true_and, Bool.not_true, Bool.not_false, decide_true, Nat.reduceAdd, Nat.reduceSub, Nat.reduceLT, Nat.reduceLeDiff, Nat.reduceEqDiff, ↓reduceIte]
  repeat' (first | (refine And.intro (by omega) ?_))
  refine EvS.wk (Wk.rowv 3 rfl) ?_
  refine EvS.of_ev DX_ok 3000 ?_
  simp -implicitDefEqProofs only [List.set_cons_succ, List.set_cons_zero]
  simp (maxSteps := 4000000) -implicitDefEqProofs only [go_sem, Nat.reduceAdd, Nat.reduceSub, Nat.reduceLT, Nat.reduceLeDiff, Nat.reduceEqDiff, ↓reduceIte]
  repeat' (first | (refine And.intro (by omega) ?_))
  simp -implicitDefEqProofs only [xK, xB, xE, xE0, xQ, xH, xC]
  refine Wk.trans (Wk.frz 1 rfl) (Wk.trans (Wk.frz 2 rfl) (Wk.trans (Wk.frz 5 rfl) (Wk.trans (Wk.frz 6 rfl) (Wk.trans (Wk.frz 7 rfl) ?_))))
  exact (Wk.via [4, 3] (by (simp -implicitDefEqProofs only [go_sem, ↓reduceIte]) <;> trivial) (by first | (simp (maxSteps := 4000000) -implicitDefEqProofs only [go_sem, Nat.reduceAdd, Nat.reduceSub, Nat.reduceLT, Nat.reduceLeDiff, Nat.reduceEqDiff, ↓reduceIte]; done) | ((simp (maxSteps := 4000000) -implicitDefEqProofs only [go_sem, Nat.reduceAdd, Nat.reduceSub, Nat.reduceLT, Nat.reduceLeDiff, Nat.reduceEqDiff, ↓reduceIte]) <;> omega)) (by simp) (by first | (simp; done) | (simp [so]; done)) (by (simp (maxSteps := 4000000) -implicitDefEqProofs only [go_sem, Nat.reduceAdd, Nat.reduceSub, Nat.reduceLT, Nat.reduceLeDiff, Nat.reduceEqDiff, ↓reduceIte]) <;> trivial) (by first | (simp -implicitDefEqProofs only [go_sem]; done) | ((simp (maxSteps := 4000000) -implicitDefEqProofs only [go_sem, Nat.reduceAdd, Nat.reduceSub, Nat.reduceLT, Nat.reduceLeDiff, Nat.reduceEqDiff, ↓reduceIte]) <;> omega)) (Nat.zero_le _) (fun i h => absurd h (Nat.not_lt_zero i)))

end Go.AX.Tr

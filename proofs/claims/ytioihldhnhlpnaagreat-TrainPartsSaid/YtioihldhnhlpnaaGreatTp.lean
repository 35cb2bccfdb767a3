/- TrainParts: whatever the input, the law returns true, and its arguments read as they did. No condition. -/
import Derived.Test.YtioihldhnhlpnaaGreatK11
set_option maxHeartbeats 8000000
set_option linter.unusedVariables false
set_option linter.unusedSimpArgs false
set_option maxRecDepth 20000
namespace Go.AX.Tr
open Go.Proofs Go.RowKit Go.IntWalk Go.AX.Br Go.AX.Lg Go.AX.Qu Go.AX.Wn
theorem has_at {t : Tr} {i : Nat} {x : Br} (hx : t.lg.br[i]? = some x) : 0 ≤ idx (has x.name) t.lg.br := (idx_le hx (p := has x.name) (by simp [has])).1
theorem parts_law (t : Tr) (ii tk m n : Int) (ht : TSm t) (hm : -9223372036854775808 ≤ m ∧ m ≤ 9223372036854775807) (hn : -9223372036854775808 ≤ n ∧ n ≤ 9223372036854775807) : Spec Tryz.prog 8 [tA t, .d (.int .i64 ii), .d (.int .i64 tk), .d (.int .i64 m), .d (.int .i64 n)] [] (.d (.bool true)) [] := by
  have c0 := alive_tspec
  have c1 := tgreat_ref t ht
  simp only [tA, tC] at c1
  have b1 : (!true) = false := rfl
  have b2 : (!false) = true := rfl
  refine spec_of_ev (fn := Tryz.f8) DX_ok 3000 Tryz.func8 rfl rfl (Nat.le_of_ble_eq_true rfl) ?_
  simp (maxSteps := 4000000) -implicitDefEqProofs only [Tryz.f8, go_sem, tA]
  refine ecall0 _ c0 (by simp only [go_sem]) (by simp only [go_sem]) ?_
  simp (maxSteps := 4000000) -implicitDefEqProofs only [go_sem, Nat.reduceAdd, Nat.reduceSub, Nat.reduceLT, Nat.reduceLeDiff, Nat.reduceEqDiff, ↓reduceIte]
  refine ecall0 _ c1 (by simp only [go_sem]) (by simp only [go_sem]) ?_
  cases g1 : tgreat t
  case true =>
    simp (maxSteps := 4000000) -implicitDefEqProofs only [go_sem, g1, Option.some.injEq, forall_eq', and_true, true_and, Bool.not_true, Bool.not_false, decide_true, Nat.reduceAdd, Nat.reduceSub, Nat.reduceLT, Nat.reduceLeDiff, Nat.reduceEqDiff, ↓reduceIte]
    exact wk_bool rfl
  have f := tfit_of g1
  have c2 := tcheck_ref t f.k f.b f.e f.q f.h f.c
  simp only [tA, tC] at c2
  simp (maxSteps := 4000000) -implicitDefEqProofs only [go_sem, g1, Option.some.injEq, forall_eq', and_true, true_and, Bool.not_true, Bool.not_false, decide_true, Nat.reduceAdd, Nat.reduceSub, Nat.reduceLT, Nat.reduceLeDiff, Nat.reduceEqDiff, ↓reduceIte]
  refine ecall0 _ c2 (by simp only [go_sem]) (by simp only [go_sem]) ?_
  cases g2 : (tcheck t != 0)
  case true =>
    simp (maxSteps := 4000000) -implicitDefEqProofs only [go_sem, g2, Option.some.injEq, forall_eq', and_true, true_and, Bool.not_true, Bool.not_false, decide_true, Nat.reduceAdd, Nat.reduceSub, Nat.reduceLT, Nat.reduceLeDiff, Nat.reduceEqDiff, ↓reduceIte]
    exact wk_bool rfl
  have o := tok_of (t := t) (by simpa using g2)
  cases g3 : decide (ii < 0)
  case true =>
    simp (maxSteps := 4000000) -implicitDefEqProofs only [go_sem, g2, g3, Option.some.injEq, forall_eq', and_true, true_and, Bool.not_true, Bool.not_false, decide_true, Nat.reduceAdd, Nat.reduceSub, Nat.reduceLT, Nat.reduceLeDiff, Nat.reduceEqDiff, ↓reduceIte]
    exact wk_bool rfl
  cases g4 : decide ((t.lg.br.length : Int) ≤ ii)
  case true =>
    simp (maxSteps := 4000000) -implicitDefEqProofs only [go_sem, g2, g3, g4, Option.some.injEq, forall_eq', and_true, true_and, Bool.not_true, Bool.not_false, decide_true, Nat.reduceAdd, Nat.reduceSub, Nat.reduceLT, Nat.reduceLeDiff, Nat.reduceEqDiff, ↓reduceIte]
    exact wk_bool rfl
  obtain ⟨i, rfl⟩ : ∃ n : Nat, ii = n := ⟨ii.toNat, by have := of_decide_eq_false g3; omega⟩
  have hi : i < t.lg.br.length := by have := of_decide_eq_false g4; omega
  obtain ⟨x, hx⟩ : ∃ x, t.lg.br[i]? = some x := ⟨t.lg.br[i]'hi, List.getElem?_eq_getElem _⟩
  have hb := has_at hx
  have c3 := tick_ref tk
  simp (maxSteps := 4000000) -implicitDefEqProofs only [go_sem, g2, g3, g4, Option.some.injEq, forall_eq', and_true, true_and, Bool.not_true, Bool.not_false, decide_true, Nat.reduceAdd, Nat.reduceSub, Nat.reduceLT, Nat.reduceLeDiff, Nat.reduceEqDiff, ↓reduceIte]
  refine ecall0 _ c3 (by simp only [go_sem]) (by simp only [go_sem]) ?_
  cases g5 : tick tk
  case false =>
    simp (maxSteps := 4000000) -implicitDefEqProofs only [go_sem, b2, Option.some.injEq, forall_eq', and_true, true_and, Bool.not_true, Bool.not_false, decide_true, Nat.reduceAdd, Nat.reduceSub, Nat.reduceLT, Nat.reduceLeDiff, Nat.reduceEqDiff, ↓reduceIte]
    exact wk_bool rfl
  obtain ⟨k1, k2⟩ : 0 ≤ tk ∧ tk ≤ 1000000 := by simpa only [tick, Bool.and_eq_true, decide_eq_true_eq] using g5
  cases g6 : decide (m < 0)
  case true =>
    simp (maxSteps := 4000000) -implicitDefEqProofs only [go_sem, b1, g6, Option.some.injEq, forall_eq', and_true, true_and, Bool.not_true, Bool.not_false, decide_true, Nat.reduceAdd, Nat.reduceSub, Nat.reduceLT, Nat.reduceLeDiff, Nat.reduceEqDiff, ↓reduceIte]
    exact wk_bool rfl
  cases g7 : decide (n < 0)
  case true =>
    simp (maxSteps := 4000000) -implicitDefEqProofs only [go_sem, b1, g6, g7, Option.some.injEq, forall_eq', and_true, true_and, Bool.not_true, Bool.not_false, decide_true, Nat.reduceAdd, Nat.reduceSub, Nat.reduceLT, Nat.reduceLeDiff, Nat.reduceEqDiff, ↓reduceIte]
    exact wk_bool rfl
  cases g8 : decide (30 < IntKind.i64.wrap (m + n))
  case true =>
    simp (maxSteps := 4000000) -implicitDefEqProofs only [go_sem, b1, g6, g7, g8, Option.some.injEq, forall_eq', and_true, true_and, Bool.not_true, Bool.not_false, decide_true, Nat.reduceAdd, Nat.reduceSub, Nat.reduceLT, Nat.reduceLeDiff, Nat.reduceEqDiff, ↓reduceIte]
    exact wk_bool rfl
  cases g9 : decide (30 < m)
  case true =>
    simp (maxSteps := 4000000) -implicitDefEqProofs only [go_sem, b1, g6, g7, g8, g9, Option.some.injEq, forall_eq', and_true, true_and, Bool.not_true, Bool.not_false, decide_true, Nat.reduceAdd, Nat.reduceSub, Nat.reduceLT, Nat.reduceLeDiff, Nat.reduceEqDiff, ↓reduceIte]
    exact wk_bool rfl
  cases g10 : decide (30 < n)
  case true =>
    simp (maxSteps := 4000000) -implicitDefEqProofs only [go_sem, b1, g6, g7, g8, g9, g10, Option.some.injEq, forall_eq', and_true, true_and, Bool.not_true, Bool.not_false, decide_true, Nat.reduceAdd, Nat.reduceSub, Nat.reduceLT, Nat.reduceLeDiff, Nat.reduceEqDiff, ↓reduceIte]
    exact wk_bool rfl
  have q6 := of_decide_eq_false g6
  have q7 := of_decide_eq_false g7
  have q8 := of_decide_eq_false g8
  have q9 := of_decide_eq_false g9
  have q10 := of_decide_eq_false g10
  have wmn : IntKind.i64.wrap (m + n) = m + n := i64_in _ (by omega)
  obtain ⟨m, rfl⟩ : ∃ k : Nat, m = k := ⟨m.toNat, by omega⟩
  obtain ⟨n, rfl⟩ : ∃ k : Nat, n = k := ⟨n.toNat, by omega⟩
  rw [wmn] at q8 g8
  have n1 : (0 ≤ (i : Int) ∧ (i : Int) < t.lg.br.length) = True := eq_true (by omega)
  have n2 : (i < t.lg.br.length) = True := eq_true (by omega)
  have d1 := Run_own t x.name tk m f
  have d2 := Run_own t x.name tk ((m : Int) + n) f
  have d4 := Run_own t x.name tk 1 f
  have d5 := Step_own t x.name tk f
  have cast : (m : Int) + n = ((m + n : Nat) : Int) := by omega
  rw [run_eq o hb k1 k2 (by omega)] at d1
  rw [show runR t x.name tk ((m : Int) + n) = runG x.name tk (m + n) t by rw [cast]; exact run_eq o hb k1 k2 (by omega)] at d2
  rw [show runR t x.name tk 1 = runG x.name tk 1 t from run_eq (n := 1) o hb k1 k2 (by omega)] at d4
  have parts := runG_parts (b := x.name) (tk := tk) n m t
  obtain ⟨oA, fA, bA, eA, lA'⟩ := runG_ok (b := x.name) (tk := tk) m o f
  obtain ⟨oC, fC, bC, eC, lC'⟩ := runG_ok (b := x.name) (tk := tk) (m + n) o f
  obtain ⟨oD, fD, bD', eD, lD'⟩ := runG_ok (b := x.name) (tk := tk) 1 o f
  have hone : runG x.name tk 1 t = if (stepR t x.name tk).2.2 = 4 then (t, [], 4) else if (stepR t x.name tk).2.2 ≠ 0 then (t, [], 0) else ((stepR t x.name tk).1, [(stepR t x.name tk).2.1], 0) := by simp only [runG]
  have fS := step_fit2 x.name tk f
  obtain ⟨A, hA⟩ : ∃ A, A = runG x.name tk m t := ⟨_, rfl⟩
  obtain ⟨C, hC⟩ : ∃ A, A = runG x.name tk (m + n) t := ⟨_, rfl⟩
  obtain ⟨D1, hD⟩ : ∃ A, A = runG x.name tk 1 t := ⟨_, rfl⟩
  obtain ⟨S, hS⟩ : ∃ A, A = stepR t x.name tk := ⟨_, rfl⟩
  rw [← hA] at d1 parts oA fA bA eA lA'
  rw [← hC] at d2 parts fC lC'
  rw [← hD] at d4 hone fD lD'
  rw [← hS] at d5 hone fS
  have sA := same_tref C.1 fC
  have sS := same_tref S.1 fS
  have ss1 := sameStates_ref C.2.1 C.2.1 (by unfold Sm; omega)
  rw [decide_eq_true rfl] at ss1
  have z0 : ((0 : Int) != 0) = false := rfl
  have z4 : ((4 : Int) != 0) = true := rfl
  have y4 : ((4 : Int) == 4) = true := rfl
  have y0 : ((0 : Int) == 0) = true := rfl
  have y04 : ((0 : Int) == 4) = false := rfl
  have y28 : ((28 : Int) == 4) = false := rfl
  have t1 : (true == true) = true := rfl
  have t2 : (false == false) = true := rfl
  have zn : ∀ n : Int, (n != n) = false := fun n => by simp
  simp only [tA, tC] at d1 d2 d4 d5 sA sS
  simp (maxSteps := 4000000) -implicitDefEqProofs only [go_sem, b1, g6, g7, g8, g9, g10, wmn, n1, n2, hx, Option.some.injEq, forall_eq', and_true, true_and, Bool.not_true, Bool.not_false, decide_true, Nat.reduceAdd, Nat.reduceSub, Nat.reduceLT, Nat.reduceLeDiff, Nat.reduceEqDiff, ↓reduceIte]
  refine ecall0 _ d1 (by simp only [go_sem]) (by simp only [go_sem]) ?_
  simp (maxSteps := 4000000) -implicitDefEqProofs only [go_sem, wmn, Option.some.injEq, forall_eq', and_true, true_and, Bool.not_true, Bool.not_false, decide_true, Nat.reduceAdd, Nat.reduceSub, Nat.reduceLT, Nat.reduceLeDiff, Nat.reduceEqDiff, ↓reduceIte]
  refine ecall0 _ d2 (by simp only [go_sem]) (by simp only [go_sem]) ?_
  rcases eA with eA | eA
  case inr =>
    rw [if_pos (by rw [eA]; decide)] at parts
    rw [← parts] at eA
    rw [← parts, eA]
    simp (maxSteps := 4000000) -implicitDefEqProofs only [go_sem, z4, y4, eA, Option.some.injEq, forall_eq', and_true, true_and, Bool.not_true, Bool.not_false, decide_true, Nat.reduceAdd, Nat.reduceSub, Nat.reduceLT, Nat.reduceLeDiff, Nat.reduceEqDiff, ↓reduceIte]
    refine ecall0 _ sA (by simp only [go_sem]) (by simp only [go_sem]) ?_
    simp (maxSteps := 4000000) -implicitDefEqProofs only [go_sem, z4, y4, Option.some.injEq, forall_eq', and_true, true_and, Bool.not_true, Bool.not_false, decide_true, Nat.reduceAdd, Nat.reduceSub, Nat.reduceLT, Nat.reduceLeDiff, Nat.reduceEqDiff, ↓reduceIte]
    refine ecall0 _ ss1 (by simp only [go_sem]) (by simp only [go_sem]) ?_
    simp (maxSteps := 4000000) -implicitDefEqProofs only [go_sem, z4, y4, Option.some.injEq, forall_eq', and_true, true_and, Bool.not_true, Bool.not_false, decide_true, Nat.reduceAdd, Nat.reduceSub, Nat.reduceLT, Nat.reduceLeDiff, Nat.reduceEqDiff, ↓reduceIte]
    exact wk_bool rfl
  rw [if_neg (by rw [eA]; decide)] at parts
  have hbA : 0 ≤ idx (has x.name) A.1.lg.br := by rw [bA]; exact hb
  have d3 := Run_own A.1 x.name tk n fA
  rw [run_eq oA hbA k1 k2 (by omega)] at d3
  obtain ⟨oB, fB, bB, eB, lB'⟩ := runG_ok (b := x.name) (tk := tk) n oA fA
  obtain ⟨B, hB⟩ : ∃ B, B = runG x.name tk n A.1 := ⟨_, rfl⟩
  rw [← hB] at d3 parts fB eB lB'
  simp only [tA, tC] at d3
  have p1 : C.1 = B.1 := by rw [parts]
  have p2 : C.2.1 = A.2.1 ++ B.2.1 := by rw [parts]
  have p3 : C.2.2 = B.2.2 := by rw [parts]
  have e3 : A.2.1.map uD ++ B.2.1.map uD = C.2.1.map uD := by rw [p2, List.map_append]
  rw [eA, p1, p3]
  rw [p1] at sA
  simp (maxSteps := 4000000) -implicitDefEqProofs only [go_sem, z0, Option.some.injEq, forall_eq', and_true, true_and, Bool.not_true, Bool.not_false, decide_true, Nat.reduceAdd, Nat.reduceSub, Nat.reduceLT, Nat.reduceLeDiff, Nat.reduceEqDiff, ↓reduceIte]
  refine ecall0 _ d3 (by simp only [go_sem]) (by simp only [go_sem]) ?_
  simp (maxSteps := 4000000) -implicitDefEqProofs only [go_sem, zn, Option.some.injEq, forall_eq', and_true, true_and, Bool.not_true, Bool.not_false, decide_true, Nat.reduceAdd, Nat.reduceSub, Nat.reduceLT, Nat.reduceLeDiff, Nat.reduceEqDiff, ↓reduceIte]
  refine ecall0 _ sA (by simp only [go_sem]) (by simp only [go_sem]) ?_
  simp (maxSteps := 4000000) -implicitDefEqProofs only [go_sem, b1, Option.some.injEq, forall_eq', and_true, true_and, Bool.not_true, Bool.not_false, decide_true, Nat.reduceAdd, Nat.reduceSub, Nat.reduceLT, Nat.reduceLeDiff, Nat.reduceEqDiff, ↓reduceIte]
  refine ⟨⟨by omega, by omega⟩, ⟨by omega, by omega⟩, ?_⟩
  rw [← p2]
  refine ECall.dat (args' := [.d (.sl (C.2.1.map uD)), .d (.sl (C.2.1.map uD))]) (by simp only [go_sem]; rfl) rfl ?_
  refine ecall0 _ ss1 (by simp only [go_sem]) (by simp only [go_sem]) ?_
  have x40 : ((4 : Int) == 0) = false := rfl
  have l0 : (((0 : Nat) : Int) == 0) = true := rfl
  by_cases h4 : S.2.2 = 4
  · rw [if_pos h4] at hone
    rw [hone] at d4
    rw [h4] at d5
    simp (maxSteps := 4000000) -implicitDefEqProofs only [go_sem, b1, Option.some.injEq, forall_eq', and_true, true_and, Bool.not_true, Bool.not_false, decide_true, Nat.reduceAdd, Nat.reduceSub, Nat.reduceLT, Nat.reduceLeDiff, Nat.reduceEqDiff, ↓reduceIte]
    refine ecall0 _ d4 (by simp only [go_sem]) (by simp only [go_sem]) ?_
    simp (maxSteps := 4000000) -implicitDefEqProofs only [go_sem, Nat.reduceAdd, Nat.reduceSub, Nat.reduceLT, Nat.reduceLeDiff, Nat.reduceEqDiff, ↓reduceIte]
    refine ecall0 _ d5 (by simp only [go_sem]) (by simp only [go_sem]) ?_
    simp (maxSteps := 4000000) -implicitDefEqProofs only [go_sem, x40, l0, y0, y4, t1, Option.some.injEq, forall_eq', and_true, true_and, Bool.not_true, Bool.not_false, decide_true, Nat.reduceAdd, Nat.reduceSub, Nat.reduceLT, Nat.reduceLeDiff, Nat.reduceEqDiff, ↓reduceIte]
    exact wk_bool rfl
  rw [if_neg h4] at hone
  by_cases h0 : S.2.2 = 0
  · rw [if_neg (by simpa using h0)] at hone
    rw [hone] at d4
    rw [h0] at d5
    simp (maxSteps := 4000000) -implicitDefEqProofs only [go_sem, b1, Option.some.injEq, forall_eq', and_true, true_and, Bool.not_true, Bool.not_false, decide_true, Nat.reduceAdd, Nat.reduceSub, Nat.reduceLT, Nat.reduceLeDiff, Nat.reduceEqDiff, ↓reduceIte]
    refine ecall0 _ d4 (by simp only [go_sem]) (by simp only [go_sem]) ?_
    simp (maxSteps := 4000000) -implicitDefEqProofs only [go_sem, Nat.reduceAdd, Nat.reduceSub, Nat.reduceLT, Nat.reduceLeDiff, Nat.reduceEqDiff, ↓reduceIte]
    refine ecall0 _ d5 (by simp only [go_sem]) (by simp only [go_sem]) ?_
    simp (maxSteps := 4000000) -implicitDefEqProofs only [go_sem, y0, Option.some.injEq, forall_eq', and_true, true_and, Bool.not_true, Bool.not_false, decide_true, Nat.reduceAdd, Nat.reduceSub, Nat.reduceLT, Nat.reduceLeDiff, Nat.reduceEqDiff, ↓reduceIte]
    refine ecall0 _ sS (by simp only [go_sem]) (by simp only [go_sem]) ?_
    simp (maxSteps := 4000000) -implicitDefEqProofs only [go_sem, y0, Option.some.injEq, forall_eq', and_true, true_and, Bool.not_true, Bool.not_false, decide_true, Nat.reduceAdd, Nat.reduceSub, Nat.reduceLT, Nat.reduceLeDiff, Nat.reduceEqDiff, ↓reduceIte]
    try refine ⟨by omega, ?_⟩
    refine ECall.dat (args' := [.d (.sl ([S.2.1].map uD)), .d (.sl ([S.2.1].map uD))]) (by simp only [go_sem]; rfl) rfl ?_
    have ss2 := sameStates_ref [S.2.1] [S.2.1] (by unfold Sm; simp)
    rw [decide_eq_true rfl] at ss2
    refine ecall0 _ ss2 (by simp only [go_sem]) (by simp only [go_sem]) ?_
    simp (maxSteps := 4000000) -implicitDefEqProofs only [go_sem, y0, Option.some.injEq, forall_eq', and_true, true_and, Bool.not_true, Bool.not_false, decide_true, Nat.reduceAdd, Nat.reduceSub, Nat.reduceLT, Nat.reduceLeDiff, Nat.reduceEqDiff, ↓reduceIte]
    exact wk_bool rfl
  · rw [if_pos (by simpa using h0)] at hone
    rw [hone] at d4
    have x0 : (S.2.2 == 0) = false := by simp [h0]
    have x4 : (S.2.2 == 4) = false := by simp [h4]
    simp (maxSteps := 4000000) -implicitDefEqProofs only [go_sem, b1, Option.some.injEq, forall_eq', and_true, true_and, Bool.not_true, Bool.not_false, decide_true, Nat.reduceAdd, Nat.reduceSub, Nat.reduceLT, Nat.reduceLeDiff, Nat.reduceEqDiff, ↓reduceIte]
    refine ecall0 _ d4 (by simp only [go_sem]) (by simp only [go_sem]) ?_
    simp (maxSteps := 4000000) -implicitDefEqProofs only [go_sem, Nat.reduceAdd, Nat.reduceSub, Nat.reduceLT, Nat.reduceLeDiff, Nat.reduceEqDiff, ↓reduceIte]
    refine ecall0 _ d5 (by simp only [go_sem]) (by simp only [go_sem]) ?_
    simp (maxSteps := 4000000) -implicitDefEqProofs only [go_sem, x0, x4, l0, y0, y04, t2, Option.some.injEq, forall_eq', and_true, true_and, Bool.not_true, Bool.not_false, decide_true, Nat.reduceAdd, Nat.reduceSub, Nat.reduceLT, Nat.reduceLeDiff, Nat.reduceEqDiff, ↓reduceIte]
    exact wk_bool rfl
end Go.AX.Tr
namespace Go.Proofs.YtioihldhnhlpnaaGreat
open Go.AX Go.AX.Tr Go.RowKit
set_option maxRecDepth 100000 in
theorem trainParts_lifted (os : Os) (started : os.Started) (H : Type) (enc : TypeId × Value → H) :
    ReturnsInHanded {} Tryz.checked os 8 .any (Rows.trainPartsSpec.pre6 enc Tryz.prog Tryz.f8 Rows.trainPartsRow.domain false) (Rows.trainPartsSpec.post enc Tryz.prog Tryz.f8 false true false false) := by
  refine Go.AX.lifted (C := Tryz.checked) (f := 8) (fn := Tryz.f8) (s := Rows.trainPartsSpec) (rt := 4) (n := 8) (by kernel_rfl) (by kernel_rfl) Tryz.func8 rfl ?_ rfl (by kernel_rfl) (by kernel_rfl) (by kernel_rfl) (by kernel_rfl) os started H enc
    (ChangeSpec.witness6 (enc := enc) (C := Tryz.checked) false ⟨#[], #[.agg #[.slice none 0 0, .slice none 0 0, .slice none 0 0, .slice none 0 0, .slice none 0 0, .slice none 0 0], .int .i64 0, .int .i64 0, .int .i64 0, .int .i64 0], []⟩ 8 (by kernel_rfl) (by kernel_rfl) (by kernel_rfl) (by kernel_rfl)) ?_
  · intro H ds h
    match ds, h with
    | [a0, a1, a2, a3, a4], _ => rfl
  · intro xs hx
    have hp : Tryz.f8.params.toList = [31, 3, 3, 3, 3] := rfl
    rw [hp] at hx ⊢
    have i0 : isA Tryz.prog 31 = true := by kernel_rfl
    have i1 : isA Tryz.prog 3 = false := by kernel_rfl
    have i2 : isA Tryz.prog 3 = false := by kernel_rfl
    have i3 : isA Tryz.prog 3 = false := by kernel_rfl
    have i4 : isA Tryz.prog 3 = false := by kernel_rfl
    rcases xs with _ | ⟨d0, _ | ⟨d1, _ | ⟨d2, _ | ⟨d3, _ | ⟨d4, _ | ⟨d5, xs⟩⟩⟩⟩⟩⟩ <;> simp only [Tyds, and_false] at hx
    obtain ⟨k0, k1, k2, k3, k4, _⟩ := hx
    obtain ⟨t, rfl, ht⟩ := train_of k0
    obtain ⟨ii, rfl, hii⟩ := int_of k1
    obtain ⟨tk, rfl, htk⟩ := int_of k2
    obtain ⟨m, rfl, hm⟩ := int_of k3
    obtain ⟨n, rfl, hn⟩ := int_of k4
    simp only [avs, i0, i1, i2, i3, i4, dv, Bool.false_eq_true, if_false, if_true, List.headD_cons, List.map_cons, List.map_nil]
    exact parts_law t ii tk m n ht hm hn
theorem trainParts_over : Rows.trainPartsRow.holds Tryz.pinned (OpenSpec.ofChange Rows.trainPartsSpec) :=
  OpenClaim.holds_of_wide 8 Tryz.f8 rfl rfl rfl rfl rfl rfl rfl ⟨rfl, rfl, rfl, rfl, rfl⟩ rfl rfl rfl rfl rfl (by kernel_rfl) Tryz.func8 (by kernel_rfl)
    (of_decide_eq_true (by kernel_rfl)) (by unfold Func.isWrapper; first | (rw [if_pos (by decide +kernel)]; kernel_rfl) | (rw [if_neg (by decide +kernel)]; exact ⟨rfl, rfl⟩))
    (fun os started H enc _ => trainParts_lifted os started H enc)
/-- The row, under a short name, for the claim. -/
theorem trainParts_holds : Rows.TrainPartsSaid := trainParts_over
#print axioms trainParts_holds
end Go.Proofs.YtioihldhnhlpnaaGreat

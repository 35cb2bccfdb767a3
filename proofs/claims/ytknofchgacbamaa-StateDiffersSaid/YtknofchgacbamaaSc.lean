/- StateDiffers: whatever the input, the law returns true, and its arguments read as they did. No condition. -/
import Derived.Test.YtknofchgacbamaaK11
set_option maxHeartbeats 8000000
set_option linter.unusedVariables false
set_option linter.unusedSimpArgs false
set_option maxRecDepth 20000
namespace Go.AX.Tr
open Go.Proofs Go.RowKit Go.IntWalk Go.AX.Br Go.AX.Lg Go.AX.Qu Go.AX.Wn
theorem iEqI (x y : Int) : (x == y) = decide (x = y) := by rw [Bool.eq_iff_iff]; simp
theorem iBne (a b : Int) : (a != b) = !(a == b) := rfl
theorem sameIs_ref (a b : List Int) (ha : Sm a.length) : Spec Try.prog 8 [.d (.sl (a.map iD)), .d (.sl (b.map iD))] [] (.d (.bool (decide (a = b)))) [] := by
  unfold Sm at ha
  refine spec_of_ev (fn := Try.f8) DX_ok 3000 Try.func8 rfl rfl (Nat.le_of_ble_eq_true rfl) ?_
  simp (maxSteps := 4000000) -implicitDefEqProofs only [Try.f8, go_sem]
  by_cases h1 : a.length = b.length
  · have d1 : ((a.length : Int) != b.length) = false := by simp [h1]
    simp (maxSteps := 4000000) -implicitDefEqProofs only [go_sem, d1, Option.some.injEq, forall_eq', and_true, true_and, Bool.not_true, Bool.not_false, decide_true, Nat.reduceAdd, Nat.reduceSub, Nat.reduceLT, Nat.reduceLeDiff, Nat.reduceEqDiff, ↓reduceIte]
    refine eloop (S := Nat) (fun i => mkE 26 [(0, .d (.sl (a.map iD))), (1, .d (.sl (b.map iD))), (5, .d (.int .i64 i))]) (fun i => []) (fun i => i ≤ a.length ∧ ∀ j x, a[j]? = some x → j < i → b[j]? = some x) (fun i => a.length - i) 0 ⟨by omega, by omega⟩ (Wk.sub (by (simp only [go_sem]) <;> trivial)) ?_
    rintro i ⟨hi, hj⟩
    rcases Nat.lt_or_ge i a.length with h2 | h2
    · have d2 : decide ((i : Int) < a.length) = true := by simp; omega
      obtain ⟨x, hx⟩ : ∃ x, a[i]? = some x := ⟨a[i]'(by omega), List.getElem?_eq_getElem _⟩
      obtain ⟨y, hy⟩ : ∃ x, b[i]? = some x := ⟨b[i]'(by omega), List.getElem?_eq_getElem _⟩
      have n1 : (0 ≤ (i : Int) ∧ (i : Int) < a.length) = True := eq_true (by omega)
      have n2 : (0 ≤ (i : Int) ∧ (i : Int) < b.length) = True := eq_true (by omega)
      have n3 : (i < a.length) = True := eq_true (by omega)
      have n4 : (i < b.length) = True := eq_true (by omega)
      have w1 : IntKind.i64.wrap ((i : Int) + 1) = i + 1 := i64_in _ (by omega)
      by_cases h3 : x = y
      · have hxy := (iEqI x y).trans (decide_eq_true h3)
        simp (maxSteps := 4000000) -implicitDefEqProofs only [go_sem, d2, Option.some.injEq, forall_eq', and_true, true_and, Bool.not_true, Bool.not_false, decide_true, Nat.reduceAdd, Nat.reduceSub, Nat.reduceLT, Nat.reduceLeDiff, Nat.reduceEqDiff, ↓reduceIte]
        refine DX.plain (.take 0 false (.take 1 false (.take 2 false (.take 3 false (.take 4 false (.take 5 false (.take 6 false (.take 7 false (.take 8 false .done))))))))) (by kernel_rfl) (by kernel_rfl) Ty.mixed ?_
        simp (maxSteps := 4000000) -implicitDefEqProofs only [go_sem, n1, n2, n3, n4, hx, hy, hxy, w1, iBne, Option.some.injEq, forall_eq', and_true, true_and, Bool.not_true, Bool.not_false, decide_true, Nat.reduceAdd, Nat.reduceSub, Nat.reduceLT, Nat.reduceLeDiff, Nat.reduceEqDiff, ↓reduceIte]
        exact .mk (i + 1) ⟨by omega, upto_succ hx (by rw [h3]; exact hy) hj⟩ (by omega) (Wk.sub (by (simp only [go_sem]) <;> trivial))
      · have hxy := (iEqI x y).trans (decide_eq_false h3)
        simp (maxSteps := 4000000) -implicitDefEqProofs only [go_sem, d2, Option.some.injEq, forall_eq', and_true, true_and, Bool.not_true, Bool.not_false, decide_true, Nat.reduceAdd, Nat.reduceSub, Nat.reduceLT, Nat.reduceLeDiff, Nat.reduceEqDiff, ↓reduceIte]
        refine DX.plain (.take 0 false (.take 1 false (.take 2 false (.take 3 false (.take 4 false (.take 5 false (.take 6 false (.take 7 false (.take 8 false .done))))))))) (by kernel_rfl) (by kernel_rfl) Ty.mixed ?_
        simp (maxSteps := 4000000) -implicitDefEqProofs only [go_sem, n1, n2, n3, n4, hx, hy, hxy, iBne, Option.some.injEq, forall_eq', and_true, true_and, Bool.not_true, Bool.not_false, decide_true, Nat.reduceAdd, Nat.reduceSub, Nat.reduceLT, Nat.reduceLeDiff, Nat.reduceEqDiff, ↓reduceIte]
        refine wk_bool (decide_eq_false fun e => h3 ?_).symm
        subst e; rw [hx] at hy; exact Option.some.inj hy
    · have d2 : decide ((i : Int) < a.length) = false := by simp; omega
      simp (maxSteps := 4000000) -implicitDefEqProofs only [go_sem, d2, Option.some.injEq, forall_eq', and_true, true_and, Bool.not_true, Bool.not_false, decide_true, Nat.reduceAdd, Nat.reduceSub, Nat.reduceLT, Nat.reduceLeDiff, Nat.reduceEqDiff, ↓reduceIte]
      refine wk_bool (decide_eq_true ?_).symm
      refine List.ext_getElem? fun j => ?_
      rcases Nat.lt_or_ge j a.length with q | q
      · have hx := List.getElem?_eq_getElem q
        rw [hx]; exact (hj j _ hx (by omega)).symm
      · rw [List.getElem?_eq_none q, List.getElem?_eq_none (by omega)]
  · have d1 : ((a.length : Int) != b.length) = true := by simp; omega
    simp (maxSteps := 4000000) -implicitDefEqProofs only [go_sem, d1, Option.some.injEq, forall_eq', and_true, true_and, Bool.not_true, Bool.not_false, decide_true, Nat.reduceAdd, Nat.reduceSub, Nat.reduceLT, Nat.reduceLeDiff, Nat.reduceEqDiff, ↓reduceIte]
    exact wk_bool (decide_eq_false fun e => h1 (by rw [e])).symm

theorem samePart_0 (a b : Tr) (fa : TFit a) : Spec Try.prog 26 [tA a, tA b, .d (.int .i64 0)] [] (.d (.bool (decide (a.lg.kn = b.lg.kn)))) [] := by
  have c := same_tgen ⟨⟨a.lg.kn, [], []⟩, [], [], []⟩ ⟨⟨b.lg.kn, [], []⟩, [], [], []⟩ (decide (a.lg.kn = b.lg.kn)) (decide (a.lg.kn = b.lg.kn)) (by simp) (by simp) ⟨fa.k, by simp, by simp, by simp, by simp, by simp, by simp⟩
  simp only [tA, tC, List.map_nil] at c
  have q0 : ((0 : Int) == 0) = true := rfl
  refine spec_of_ev (fn := Try.f26) DX_ok 3000 Try.func26 rfl rfl (Nat.le_of_ble_eq_true rfl) ?_
  simp (maxSteps := 4000000) -implicitDefEqProofs only [Try.f26, go_sem, tA]
  simp (maxSteps := 4000000) -implicitDefEqProofs only [go_sem, q0, Option.some.injEq, forall_eq', and_true, true_and, Bool.not_true, Bool.not_false, decide_true, Nat.reduceAdd, Nat.reduceSub, Nat.reduceLT, Nat.reduceLeDiff, Nat.reduceEqDiff, ↓reduceIte]
  refine DX.plain (.take 0 false (.take 1 false (.take 2 false (.take 3 true (.take 4 true (.take 5 true (.take 6 false (.take 7 false (.run [8] (fun _ => [true, true, true]) fun _ => (.take 9 false (.take 10 false (.run [11] (fun _ => [false, false, false]) fun _ => .done)))))))))))) (by kernel_rfl) (by kernel_rfl) Ty.mixed ?_
  simp (maxSteps := 4000000) -implicitDefEqProofs only [go_sem, q0, Option.some.injEq, forall_eq', and_true, true_and, Bool.not_true, Bool.not_false, decide_true, Nat.reduceAdd, Nat.reduceSub, Nat.reduceLT, Nat.reduceLeDiff, Nat.reduceEqDiff, ↓reduceIte]
  refine ECall.dat (args' := [tA ⟨⟨a.lg.kn, [], []⟩, [], [], []⟩, tA ⟨⟨b.lg.kn, [], []⟩, [], [], []⟩]) (by simp only [go_sem, tA, tC, List.map_nil]; rfl) rfl ?_
  simp only [tA, tC, List.map_nil]
  refine ecall0 _ c (by simp only [go_sem]) (by simp only [go_sem]) ?_
  simp (maxSteps := 4000000) -implicitDefEqProofs only [go_sem, Nat.reduceAdd, Nat.reduceSub, Nat.reduceLT, Nat.reduceLeDiff, Nat.reduceEqDiff, ↓reduceIte]
  exact wk_bool rfl
theorem samePart_1 (a b : Tr) (fa : TFit a) : Spec Try.prog 26 [tA a, tA b, .d (.int .i64 1)] [] (.d (.bool (decide (a.lg.br = b.lg.br)))) [] := by
  have c := same_tgen ⟨⟨[], a.lg.br, []⟩, [], [], []⟩ ⟨⟨[], b.lg.br, []⟩, [], [], []⟩ (decide (a.lg.br = b.lg.br)) (decide (a.lg.br = b.lg.br)) (by simp) (by simp) ⟨by simp, fa.b, by simp, by simp, by simp, by simp, by simp⟩
  simp only [tA, tC, List.map_nil] at c
  have q0 : ((1 : Int) == 0) = false := rfl
  have q1 : ((1 : Int) == 1) = true := rfl
  refine spec_of_ev (fn := Try.f26) DX_ok 3000 Try.func26 rfl rfl (Nat.le_of_ble_eq_true rfl) ?_
  simp (maxSteps := 4000000) -implicitDefEqProofs only [Try.f26, go_sem, tA]
  simp (maxSteps := 4000000) -implicitDefEqProofs only [go_sem, q0, q1, Option.some.injEq, forall_eq', and_true, true_and, Bool.not_true, Bool.not_false, decide_true, Nat.reduceAdd, Nat.reduceSub, Nat.reduceLT, Nat.reduceLeDiff, Nat.reduceEqDiff, ↓reduceIte]
  refine DX.plain (.take 0 false (.take 1 false (.take 2 false (.take 3 true (.take 4 true (.take 5 true (.take 6 false (.take 7 false (.run [8] (fun _ => [true, true, true]) fun _ => (.take 9 false (.take 10 false (.run [11] (fun _ => [false, false, false]) fun _ => .done)))))))))))) (by kernel_rfl) (by kernel_rfl) Ty.mixed ?_
  simp (maxSteps := 4000000) -implicitDefEqProofs only [go_sem, q0, Option.some.injEq, forall_eq', and_true, true_and, Bool.not_true, Bool.not_false, decide_true, Nat.reduceAdd, Nat.reduceSub, Nat.reduceLT, Nat.reduceLeDiff, Nat.reduceEqDiff, ↓reduceIte]
  refine ECall.dat (args' := [tA ⟨⟨[], a.lg.br, []⟩, [], [], []⟩, tA ⟨⟨[], b.lg.br, []⟩, [], [], []⟩]) (by simp only [go_sem, tA, tC, List.map_nil]; rfl) rfl ?_
  simp only [tA, tC, List.map_nil]
  refine ecall0 _ c (by simp only [go_sem]) (by simp only [go_sem]) ?_
  simp (maxSteps := 4000000) -implicitDefEqProofs only [go_sem, Nat.reduceAdd, Nat.reduceSub, Nat.reduceLT, Nat.reduceLeDiff, Nat.reduceEqDiff, ↓reduceIte]
  exact wk_bool rfl
theorem samePart_2 (a b : Tr) (fa : TFit a) : Spec Try.prog 26 [tA a, tA b, .d (.int .i64 2)] [] (.d (.bool (decide (a.lg.ev = b.lg.ev)))) [] := by
  have c := same_tgen ⟨⟨[], [], a.lg.ev⟩, [], [], []⟩ ⟨⟨[], [], b.lg.ev⟩, [], [], []⟩ (decide (a.lg.ev = b.lg.ev)) (decide (a.lg.ev = b.lg.ev)) (by simp) (by simp) ⟨by simp, by simp, fa.e, fa.s, by simp, by simp, by simp⟩
  simp only [tA, tC, List.map_nil] at c
  have q0 : ((2 : Int) == 0) = false := rfl
  have q1 : ((2 : Int) == 1) = false := rfl
  have q2 : ((2 : Int) == 2) = true := rfl
  refine spec_of_ev (fn := Try.f26) DX_ok 3000 Try.func26 rfl rfl (Nat.le_of_ble_eq_true rfl) ?_
  simp (maxSteps := 4000000) -implicitDefEqProofs only [Try.f26, go_sem, tA]
  simp (maxSteps := 4000000) -implicitDefEqProofs only [go_sem, q0, q1, q2, Option.some.injEq, forall_eq', and_true, true_and, Bool.not_true, Bool.not_false, decide_true, Nat.reduceAdd, Nat.reduceSub, Nat.reduceLT, Nat.reduceLeDiff, Nat.reduceEqDiff, ↓reduceIte]
  refine DX.plain (.take 0 false (.take 1 false (.take 2 false (.take 3 true (.take 4 true (.take 5 true (.take 6 false (.take 7 false (.run [8] (fun _ => [true, true, true]) fun _ => (.take 9 false (.take 10 false (.run [11] (fun _ => [false, false, false]) fun _ => .done)))))))))))) (by kernel_rfl) (by kernel_rfl) Ty.mixed ?_
  simp (maxSteps := 4000000) -implicitDefEqProofs only [go_sem, q0, Option.some.injEq, forall_eq', and_true, true_and, Bool.not_true, Bool.not_false, decide_true, Nat.reduceAdd, Nat.reduceSub, Nat.reduceLT, Nat.reduceLeDiff, Nat.reduceEqDiff, ↓reduceIte]
  refine ECall.dat (args' := [tA ⟨⟨[], [], a.lg.ev⟩, [], [], []⟩, tA ⟨⟨[], [], b.lg.ev⟩, [], [], []⟩]) (by simp only [go_sem, tA, tC, List.map_nil]; rfl) rfl ?_
  simp only [tA, tC, List.map_nil]
  refine ecall0 _ c (by simp only [go_sem]) (by simp only [go_sem]) ?_
  simp (maxSteps := 4000000) -implicitDefEqProofs only [go_sem, Nat.reduceAdd, Nat.reduceSub, Nat.reduceLT, Nat.reduceLeDiff, Nat.reduceEqDiff, ↓reduceIte]
  exact wk_bool rfl
theorem samePart_3 (a b : Tr) (fa : TFit a) : Spec Try.prog 26 [tA a, tA b, .d (.int .i64 3)] [] (.d (.bool (decide (a.q = b.q)))) [] := by
  have c := same_tgen ⟨⟨[], [], []⟩, a.q, [], []⟩ ⟨⟨[], [], []⟩, b.q, [], []⟩ (decide (a.q = b.q)) (true) (by simp) (by simp) ⟨by simp, by simp, by simp, by simp, fa.q, by simp, by simp⟩
  simp only [tA, tC, List.map_nil] at c
  have q0 : ((3 : Int) == 0) = false := rfl
  have q1 : ((3 : Int) == 1) = false := rfl
  have q2 : ((3 : Int) == 2) = false := rfl
  have q3 : ((3 : Int) == 3) = true := rfl
  refine spec_of_ev (fn := Try.f26) DX_ok 3000 Try.func26 rfl rfl (Nat.le_of_ble_eq_true rfl) ?_
  simp (maxSteps := 4000000) -implicitDefEqProofs only [Try.f26, go_sem, tA]
  simp (maxSteps := 4000000) -implicitDefEqProofs only [go_sem, q0, q1, q2, q3, Option.some.injEq, forall_eq', and_true, true_and, Bool.not_true, Bool.not_false, decide_true, Nat.reduceAdd, Nat.reduceSub, Nat.reduceLT, Nat.reduceLeDiff, Nat.reduceEqDiff, ↓reduceIte]
  refine DX.plain (.take 0 false (.take 1 false (.take 2 true (.take 3 true (.take 4 false (.run [5] (fun _ => [true, true]) fun _ => (.take 6 false (.run [7] (fun _ => [false, false]) fun _ => .done)))))))) (by kernel_rfl) (by kernel_rfl) Ty.mixed ?_
  simp (maxSteps := 4000000) -implicitDefEqProofs only [go_sem, q0, Option.some.injEq, forall_eq', and_true, true_and, Bool.not_true, Bool.not_false, decide_true, Nat.reduceAdd, Nat.reduceSub, Nat.reduceLT, Nat.reduceLeDiff, Nat.reduceEqDiff, ↓reduceIte]
  refine ECall.dat (args' := [tA ⟨⟨[], [], []⟩, a.q, [], []⟩, tA ⟨⟨[], [], []⟩, b.q, [], []⟩]) (by simp only [go_sem, tA, tC, List.map_nil]; rfl) rfl ?_
  simp only [tA, tC, List.map_nil]
  refine ecall0 _ c (by simp only [go_sem]) (by simp only [go_sem]) ?_
  simp (maxSteps := 4000000) -implicitDefEqProofs only [go_sem, Nat.reduceAdd, Nat.reduceSub, Nat.reduceLT, Nat.reduceLeDiff, Nat.reduceEqDiff, ↓reduceIte]
  exact wk_bool rfl
theorem samePart_4 (a b : Tr) (fa : TFit a) : Spec Try.prog 26 [tA a, tA b, .d (.int .i64 4)] [] (.d (.bool (decide (a.hs = b.hs)))) [] := by
  have c := same_tgen ⟨⟨[], [], []⟩, [], a.hs, []⟩ ⟨⟨[], [], []⟩, [], b.hs, []⟩ (decide (a.hs = b.hs)) (true) (by simp) (by simp) ⟨by simp, by simp, by simp, by simp, by simp, fa.h, by simp⟩
  simp only [tA, tC, List.map_nil] at c
  have q0 : ((4 : Int) == 0) = false := rfl
  have q1 : ((4 : Int) == 1) = false := rfl
  have q2 : ((4 : Int) == 2) = false := rfl
  have q3 : ((4 : Int) == 3) = false := rfl
  have q4 : ((4 : Int) == 4) = true := rfl
  refine spec_of_ev (fn := Try.f26) DX_ok 3000 Try.func26 rfl rfl (Nat.le_of_ble_eq_true rfl) ?_
  simp (maxSteps := 4000000) -implicitDefEqProofs only [Try.f26, go_sem, tA]
  simp (maxSteps := 4000000) -implicitDefEqProofs only [go_sem, q0, q1, q2, q3, q4, Option.some.injEq, forall_eq', and_true, true_and, Bool.not_true, Bool.not_false, decide_true, Nat.reduceAdd, Nat.reduceSub, Nat.reduceLT, Nat.reduceLeDiff, Nat.reduceEqDiff, ↓reduceIte]
  refine DX.plain (.take 0 false (.take 1 false (.take 2 true (.take 3 true (.take 4 false (.run [5] (fun _ => [true, true]) fun _ => (.take 6 false (.run [7] (fun _ => [false, false]) fun _ => .done)))))))) (by kernel_rfl) (by kernel_rfl) Ty.mixed ?_
  simp (maxSteps := 4000000) -implicitDefEqProofs only [go_sem, q0, Option.some.injEq, forall_eq', and_true, true_and, Bool.not_true, Bool.not_false, decide_true, Nat.reduceAdd, Nat.reduceSub, Nat.reduceLT, Nat.reduceLeDiff, Nat.reduceEqDiff, ↓reduceIte]
  refine ECall.dat (args' := [tA ⟨⟨[], [], []⟩, [], a.hs, []⟩, tA ⟨⟨[], [], []⟩, [], b.hs, []⟩]) (by simp only [go_sem, tA, tC, List.map_nil]; rfl) rfl ?_
  simp only [tA, tC, List.map_nil]
  refine ecall0 _ c (by simp only [go_sem]) (by simp only [go_sem]) ?_
  simp (maxSteps := 4000000) -implicitDefEqProofs only [go_sem, Nat.reduceAdd, Nat.reduceSub, Nat.reduceLT, Nat.reduceLeDiff, Nat.reduceEqDiff, ↓reduceIte]
  exact wk_bool rfl
theorem samePart_5 (a b : Tr) (fa : TFit a) : Spec Try.prog 26 [tA a, tA b, .d (.int .i64 5)] [] (.d (.bool (decide (a.cl = b.cl)))) [] := by
  have c := same_tgen ⟨⟨[], [], []⟩, [], [], a.cl⟩ ⟨⟨[], [], []⟩, [], [], b.cl⟩ (decide (a.cl = b.cl)) (true) (by simp) (by simp) ⟨by simp, by simp, by simp, by simp, by simp, by simp, fa.c⟩
  simp only [tA, tC, List.map_nil] at c
  have q0 : ((5 : Int) == 0) = false := rfl
  have q1 : ((5 : Int) == 1) = false := rfl
  have q2 : ((5 : Int) == 2) = false := rfl
  have q3 : ((5 : Int) == 3) = false := rfl
  have q4 : ((5 : Int) == 4) = false := rfl
  have q5 : ((5 : Int) == 5) = true := rfl
  refine spec_of_ev (fn := Try.f26) DX_ok 3000 Try.func26 rfl rfl (Nat.le_of_ble_eq_true rfl) ?_
  simp (maxSteps := 4000000) -implicitDefEqProofs only [Try.f26, go_sem, tA]
  simp (maxSteps := 4000000) -implicitDefEqProofs only [go_sem, q0, q1, q2, q3, q4, q5, Option.some.injEq, forall_eq', and_true, true_and, Bool.not_true, Bool.not_false, decide_true, Nat.reduceAdd, Nat.reduceSub, Nat.reduceLT, Nat.reduceLeDiff, Nat.reduceEqDiff, ↓reduceIte]
  refine DX.plain (.take 0 false (.take 1 false (.take 2 true (.take 3 true (.take 4 false (.run [5] (fun _ => [true, true]) fun _ => (.take 6 false (.run [7] (fun _ => [false, false]) fun _ => .done)))))))) (by kernel_rfl) (by kernel_rfl) Ty.mixed ?_
  simp (maxSteps := 4000000) -implicitDefEqProofs only [go_sem, q0, Option.some.injEq, forall_eq', and_true, true_and, Bool.not_true, Bool.not_false, decide_true, Nat.reduceAdd, Nat.reduceSub, Nat.reduceLT, Nat.reduceLeDiff, Nat.reduceEqDiff, ↓reduceIte]
  refine ECall.dat (args' := [tA ⟨⟨[], [], []⟩, [], [], a.cl⟩, tA ⟨⟨[], [], []⟩, [], [], b.cl⟩]) (by simp only [go_sem, tA, tC, List.map_nil]; rfl) rfl ?_
  simp only [tA, tC, List.map_nil]
  refine ecall0 _ c (by simp only [go_sem]) (by simp only [go_sem]) ?_
  simp (maxSteps := 4000000) -implicitDefEqProofs only [go_sem, Nat.reduceAdd, Nat.reduceSub, Nat.reduceLT, Nat.reduceLeDiff, Nat.reduceEqDiff, ↓reduceIte]
  exact wk_bool rfl
theorem samePart_ref (a b : Tr) (fa : TFit a) : ∀ k : Nat, k < 6 → Spec Try.prog 26 [tA a, tA b, .d (.int .i64 k)] [] (.d (.bool ((parts a b).getD k true))) []
  | 0, _ => samePart_0 a b fa
  | 1, _ => samePart_1 a b fa
  | 2, _ => samePart_2 a b fa
  | 3, _ => samePart_3 a b fa
  | 4, _ => samePart_4 a b fa
  | 5, _ => samePart_5 a b fa
theorem Differ_tref (a b : Tr) (fa : TFit a) (fb : TFit b) : Spec Try.prog 7 [tA a, tA b] [] (.tup [.d (.sl ((tdifR a b).1.map iD)), .d (.int .i64 (tdifR a b).2)]) [] := by
  obtain ⟨R, hR⟩ : ∃ R, R = tdifR a b := ⟨_, rfl⟩
  rw [← hR]
  unfold tdifR at hR
  have ca := tcheck_ref a fa.k fa.b fa.e fa.q fa.h fa.c
  have cb := tcheck_ref b fb.k fb.b fb.e fb.q fb.h fb.c
  have cs := samePart_ref a b fa
  simp only [tA, tC] at ca cb cs
  refine spec_of_ev (fn := Try.f7) DX_ok 3000 Try.func7 rfl rfl (Nat.le_of_ble_eq_true rfl) ?_
  simp (maxSteps := 4000000) -implicitDefEqProofs only [Try.f7, go_sem, tA]
  refine ecall0 _ ca (by simp only [go_sem]) (by simp only [go_sem]) ?_
  cases k1 : (tcheck a != 0)
  case true =>
    have e : R = ([], tcheck a) := by rw [hR, if_pos (by simpa using k1)]
    simp (maxSteps := 4000000) -implicitDefEqProofs only [go_sem, k1, Option.some.injEq, forall_eq', and_true, true_and, Bool.not_true, Bool.not_false, decide_true, Nat.reduceAdd, Nat.reduceSub, Nat.reduceLT, Nat.reduceLeDiff, Nat.reduceEqDiff, ↓reduceIte]
    rw [e]
    exact wk_dat (r' := .tup [.d (.sl []), .d (.int .i64 (tcheck a))]) (by simp only [go_sem]; rfl) rfl (by simp only [go_sem])
  rw [if_neg (by simpa using k1)] at hR
  simp (maxSteps := 4000000) -implicitDefEqProofs only [go_sem, k1, Option.some.injEq, forall_eq', and_true, true_and, Bool.not_true, Bool.not_false, decide_true, Nat.reduceAdd, Nat.reduceSub, Nat.reduceLT, Nat.reduceLeDiff, Nat.reduceEqDiff, ↓reduceIte]
  refine ecall0 _ cb (by simp only [go_sem]) (by simp only [go_sem]) ?_
  cases k2 : (tcheck b != 0)
  case true =>
    have e : R = ([], tcheck b) := by rw [hR, if_pos (by simpa using k2)]
    simp (maxSteps := 4000000) -implicitDefEqProofs only [go_sem, k2, Option.some.injEq, forall_eq', and_true, true_and, Bool.not_true, Bool.not_false, decide_true, Nat.reduceAdd, Nat.reduceSub, Nat.reduceLT, Nat.reduceLeDiff, Nat.reduceEqDiff, ↓reduceIte]
    rw [e]
    exact wk_dat (r' := .tup [.d (.sl []), .d (.int .i64 (tcheck b))]) (by simp only [go_sem]; rfl) rfl (by simp only [go_sem])
  rw [if_neg (by simpa using k2)] at hR
  obtain ⟨L, hL⟩ : ∃ L, L = parts a b := ⟨_, rfl⟩
  rw [← hL] at hR cs
  simp (maxSteps := 4000000) -implicitDefEqProofs only [go_sem, k2, Option.some.injEq, forall_eq', and_true, true_and, Bool.not_true, Bool.not_false, decide_true, Nat.reduceAdd, Nat.reduceSub, Nat.reduceLT, Nat.reduceLeDiff, Nat.reduceEqDiff, ↓reduceIte]
  refine eloop (S := Nat) (fun n => mkE 34 [(2, .ptr 0 0), (3, .ptr 1 0), (8, .own 2), (9, .d (.int .i64 n))]) (fun n => [tH a, tH b, .row 1 ((outP L n).map iD)]) (fun n => n ≤ 6) (fun n => 6 - n) 0 (by omega) (Wk.trans (Wk.nil 8 1 rfl) (Wk.via [0, 1, 2] (by (simp only [go_sem, ↓reduceIte]) <;> trivial) (by first | (simp (maxSteps := 4000000) -implicitDefEqProofs only [go_sem, Nat.reduceAdd, Nat.reduceSub, Nat.reduceLT, Nat.reduceLeDiff, Nat.reduceEqDiff, ↓reduceIte]; done) | ((simp (maxSteps := 4000000) -implicitDefEqProofs only [go_sem, Nat.reduceAdd, Nat.reduceSub, Nat.reduceLT, Nat.reduceLeDiff, Nat.reduceEqDiff, ↓reduceIte]) <;> omega)) (by simp) (by first | (simp; done) | (simp [so]; done)) (by (simp (maxSteps := 4000000) -implicitDefEqProofs only [go_sem, Nat.reduceAdd, Nat.reduceSub, Nat.reduceLT, Nat.reduceLeDiff, Nat.reduceEqDiff, ↓reduceIte]) <;> trivial) (by first | (simp only [go_sem]; done) | ((simp (maxSteps := 4000000) -implicitDefEqProofs only [go_sem, Nat.reduceAdd, Nat.reduceSub, Nat.reduceLT, Nat.reduceLeDiff, Nat.reduceEqDiff, ↓reduceIte]) <;> omega)) (Nat.zero_le _) (fun i h => absurd h (Nat.not_lt_zero i)))) ?_
  intro n hn
  rcases Nat.lt_or_ge n 6 with h2 | h2
  case inr =>
    have : n = 6 := by omega
    subst this
    have f1 : decide ((((6 : Nat) : Int)) < 6) = false := rfl
    simp (maxSteps := 4000000) -implicitDefEqProofs only [go_sem, f1, Option.some.injEq, forall_eq', and_true, true_and, Bool.not_true, Bool.not_false, decide_true, Nat.reduceAdd, Nat.reduceSub, Nat.reduceLT, Nat.reduceLeDiff, Nat.reduceEqDiff, ↓reduceIte]
    rw [hR]
    exact wk_dat (r' := .tup [.d (.sl ((outP L 6).map iD)), .d (.int .i64 0)]) (by simp only [go_sem]; rfl) rfl (by simp only [go_sem])
  have f1 : decide ((n : Int) < 6) = true := by simp; omega
  have w1 : IntKind.i64.wrap ((n : Int) + 1) = ((n + 1 : Nat) : Int) := by rw [i64_in _ (by omega)]; simp
  have cn := cs n h2
  obtain ⟨x, hx⟩ : ∃ x, x = L.getD n true := ⟨_, rfl⟩
  rw [← hx] at cn
  have ll := outP_len L n
  have b1 : (!true) = false := rfl
  have b2 : (!false) = true := rfl
  have hb : x = true ∨ x = false := by cases x <;> simp
  simp (maxSteps := 4000000) -implicitDefEqProofs only [go_sem, f1, Option.some.injEq, forall_eq', and_true, true_and, Bool.not_true, Bool.not_false, decide_true, Nat.reduceAdd, Nat.reduceSub, Nat.reduceLT, Nat.reduceLeDiff, Nat.reduceEqDiff, ↓reduceIte]
  refine ecall0 _ cn (by simp only [go_sem]) (by simp only [go_sem]) ?_
  rcases hb with hb | hb
  · rw [hb] at hx ⊢
    have e := outP_no hx.symm
    simp (maxSteps := 4000000) -implicitDefEqProofs only [go_sem, b1, w1, Option.some.injEq, forall_eq', and_true, true_and, Bool.not_true, Bool.not_false, decide_true, Nat.reduceAdd, Nat.reduceSub, Nat.reduceLT, Nat.reduceLeDiff, Nat.reduceEqDiff, ↓reduceIte]
    exact .mk (n + 1) (by omega) (by omega) (by rw [e]; exact (Wk.via [0, 1, 2] (by (simp only [go_sem, ↓reduceIte]) <;> trivial) (by first | (simp (maxSteps := 4000000) -implicitDefEqProofs only [go_sem, Nat.reduceAdd, Nat.reduceSub, Nat.reduceLT, Nat.reduceLeDiff, Nat.reduceEqDiff, ↓reduceIte]; done) | ((simp (maxSteps := 4000000) -implicitDefEqProofs only [go_sem, Nat.reduceAdd, Nat.reduceSub, Nat.reduceLT, Nat.reduceLeDiff, Nat.reduceEqDiff, ↓reduceIte]) <;> omega)) (by simp) (by first | (simp; done) | (simp [so]; done)) (by (simp (maxSteps := 4000000) -implicitDefEqProofs only [go_sem, Nat.reduceAdd, Nat.reduceSub, Nat.reduceLT, Nat.reduceLeDiff, Nat.reduceEqDiff, ↓reduceIte]) <;> trivial) (by first | (simp only [go_sem]; done) | ((simp (maxSteps := 4000000) -implicitDefEqProofs only [go_sem, Nat.reduceAdd, Nat.reduceSub, Nat.reduceLT, Nat.reduceLeDiff, Nat.reduceEqDiff, ↓reduceIte]) <;> omega)) (Nat.zero_le _) (fun i h => absurd h (Nat.not_lt_zero i))))
  · rw [hb] at hx ⊢
    have e := outP_yes hx.symm
    have e3 : (outP L n).map iD ++ [[D.int .i64 (n : Int)]] = (outP L n ++ [(n : Int)]).map iD := by simp [iD]
    simp (maxSteps := 4000000) -implicitDefEqProofs only [go_sem, b2, w1, Option.some.injEq, forall_eq', and_true, true_and, Bool.not_true, Bool.not_false, decide_true, Nat.reduceAdd, Nat.reduceSub, Nat.reduceLT, Nat.reduceLeDiff, Nat.reduceEqDiff, ↓reduceIte]
    refine ⟨⟨fun e he => by simp at he; subst he; rfl, by omega, by omega⟩, ?_⟩
    rw [e3]
    exact .mk (n + 1) (by omega) (by omega) (by rw [e]; exact (Wk.via [0, 1, 4] (by (simp only [go_sem, ↓reduceIte]) <;> trivial) (by first | (simp (maxSteps := 4000000) -implicitDefEqProofs only [go_sem, Nat.reduceAdd, Nat.reduceSub, Nat.reduceLT, Nat.reduceLeDiff, Nat.reduceEqDiff, ↓reduceIte]; done) | ((simp (maxSteps := 4000000) -implicitDefEqProofs only [go_sem, Nat.reduceAdd, Nat.reduceSub, Nat.reduceLT, Nat.reduceLeDiff, Nat.reduceEqDiff, ↓reduceIte]) <;> omega)) (by simp) (by first | (simp; done) | (simp [so]; done)) (by (simp (maxSteps := 4000000) -implicitDefEqProofs only [go_sem, Nat.reduceAdd, Nat.reduceSub, Nat.reduceLT, Nat.reduceLeDiff, Nat.reduceEqDiff, ↓reduceIte]) <;> trivial) (by first | (simp only [go_sem]; done) | ((simp (maxSteps := 4000000) -implicitDefEqProofs only [go_sem, Nat.reduceAdd, Nat.reduceSub, Nat.reduceLT, Nat.reduceLeDiff, Nat.reduceEqDiff, ↓reduceIte]) <;> omega)) (Nat.zero_le _) (fun i h => absurd h (Nat.not_lt_zero i))))
theorem state_differs (a b : Tr) (ha : TSm a) (hb : TSm b) : Spec Try.prog 3 [tA a, tA b] [] (.d (.bool true)) [] := by
  have c1 := tgreat_ref a ha
  have c2 := tgreat_ref b hb
  simp only [tA, tC] at c1 c2
  refine spec_of_ev (fn := Try.f3) DX_ok 3000 Try.func3 rfl rfl (Nat.le_of_ble_eq_true rfl) ?_
  simp (maxSteps := 4000000) -implicitDefEqProofs only [Try.f3, go_sem, tA]
  refine ecall0 _ c1 (by simp only [go_sem]) (by simp only [go_sem]) ?_
  cases g1 : tgreat a
  case true =>
    simp (maxSteps := 4000000) -implicitDefEqProofs only [go_sem, g1, Option.some.injEq, forall_eq', and_true, true_and, Bool.not_true, Bool.not_false, decide_true, Nat.reduceAdd, Nat.reduceSub, Nat.reduceLT, Nat.reduceLeDiff, Nat.reduceEqDiff, ↓reduceIte]
    exact wk_bool rfl
  simp (maxSteps := 4000000) -implicitDefEqProofs only [go_sem, g1, Option.some.injEq, forall_eq', and_true, true_and, Bool.not_true, Bool.not_false, decide_true, Nat.reduceAdd, Nat.reduceSub, Nat.reduceLT, Nat.reduceLeDiff, Nat.reduceEqDiff, ↓reduceIte]
  refine ecall0 _ c2 (by simp only [go_sem]) (by simp only [go_sem]) ?_
  cases g2 : tgreat b
  case true =>
    simp (maxSteps := 4000000) -implicitDefEqProofs only [go_sem, g2, Option.some.injEq, forall_eq', and_true, true_and, Bool.not_true, Bool.not_false, decide_true, Nat.reduceAdd, Nat.reduceSub, Nat.reduceLT, Nat.reduceLeDiff, Nat.reduceEqDiff, ↓reduceIte]
    exact wk_bool rfl
  have fa := tfit_of g1
  have fb := tfit_of g2
  have c3 := Differ_town a b fa fb
  have c4 := Differ_tref a b fa fb
  have ll : Sm (tdifR a b).1.length := by
    have : (tdifR a b).1.length ≤ 6 := by
      unfold tdifR
      split
      · simp
      split
      · simp
      · exact outP_len _ _
    unfold Sm; omega
  obtain ⟨R, hR⟩ : ∃ R, R = tdifR a b := ⟨_, rfl⟩
  rw [← hR] at c3 c4 ll
  have c5 := sameIs_ref R.1 R.1 ll
  rw [decide_eq_true rfl] at c5
  have z1 : ∀ n : Int, (n == n) = true := fun n => by simp
  simp only [tA, tC] at c3 c4
  simp (maxSteps := 4000000) -implicitDefEqProofs only [go_sem, g2, Option.some.injEq, forall_eq', and_true, true_and, Bool.not_true, Bool.not_false, decide_true, Nat.reduceAdd, Nat.reduceSub, Nat.reduceLT, Nat.reduceLeDiff, Nat.reduceEqDiff, ↓reduceIte]
  refine ecall0 _ c3 (by simp only [go_sem]) (by simp only [go_sem]) ?_
  simp (maxSteps := 4000000) -implicitDefEqProofs only [go_sem, Nat.reduceAdd, Nat.reduceSub, Nat.reduceLT, Nat.reduceLeDiff, Nat.reduceEqDiff, ↓reduceIte]
  refine ecall0 _ c4 (by simp only [go_sem]) (by simp only [go_sem]) ?_
  simp (maxSteps := 4000000) -implicitDefEqProofs only [go_sem, Nat.reduceAdd, Nat.reduceSub, Nat.reduceLT, Nat.reduceLeDiff, Nat.reduceEqDiff, ↓reduceIte]
  refine ecall0 _ c5 (by simp only [go_sem]) (by simp only [go_sem]) ?_
  simp (maxSteps := 4000000) -implicitDefEqProofs only [go_sem, z1, Option.some.injEq, forall_eq', and_true, true_and, Bool.not_true, Bool.not_false, decide_true, Nat.reduceAdd, Nat.reduceSub, Nat.reduceLT, Nat.reduceLeDiff, Nat.reduceEqDiff, ↓reduceIte]
  exact wk_bool rfl
end Go.AX.Tr
namespace Go.Proofs.Ytknofchgacbamaa
open Go.AX Go.AX.Tr Go.RowKit
set_option maxRecDepth 100000 in
theorem stateDiffers_lifted (os : Os) (started : os.Started) (H : Type) (enc : TypeId × Value → H) :
    ReturnsInHanded {} Try.checked os 3 .any (Rows.stateDiffersSpec.pre6 enc Try.prog Try.f3 Rows.stateDiffersRow.domain false) (Rows.stateDiffersSpec.post enc Try.prog Try.f3 false true false false) := by
  refine Go.AX.lifted (C := Try.checked) (f := 3) (fn := Try.f3) (s := Rows.stateDiffersSpec) (rt := 4) (n := 8) (by kernel_rfl) (by kernel_rfl) Try.func3 rfl ?_ rfl (by kernel_rfl) (by kernel_rfl) (by kernel_rfl) (by kernel_rfl) os started H enc
    (ChangeSpec.witness6 (enc := enc) (C := Try.checked) false ⟨#[], #[.agg #[.slice none 0 0, .slice none 0 0, .slice none 0 0, .slice none 0 0, .slice none 0 0, .slice none 0 0], .agg #[.slice none 0 0, .slice none 0 0, .slice none 0 0, .slice none 0 0, .slice none 0 0, .slice none 0 0]], []⟩ 8 (by kernel_rfl) (by kernel_rfl) (by kernel_rfl) (by kernel_rfl)) ?_
  · intro H ds h
    match ds, h with
    | [a0, a1], _ => rfl
  · intro xs hx
    have hp : Try.f3.params.toList = [31, 31] := rfl
    rw [hp] at hx ⊢
    have i0 : isA Try.prog 31 = true := by kernel_rfl
    have i1 : isA Try.prog 31 = true := by kernel_rfl
    rcases xs with _ | ⟨d0, _ | ⟨d1, _ | ⟨d2, xs⟩⟩⟩ <;> simp only [Tyds, and_false] at hx
    obtain ⟨k0, k1, _⟩ := hx
    obtain ⟨a, rfl, ha⟩ := train_of k0
    obtain ⟨b, rfl, hb⟩ := train_of k1
    simp only [avs, i0, i1, dv, Bool.false_eq_true, if_false, if_true, List.headD_cons, List.map_cons, List.map_nil]
    exact state_differs a b ha hb
theorem stateDiffers_over : Rows.stateDiffersRow.holds Try.pinned (OpenSpec.ofChange Rows.stateDiffersSpec) :=
  OpenClaim.holds_of_wide 3 Try.f3 rfl rfl rfl rfl rfl rfl rfl ⟨rfl, rfl, rfl, rfl, rfl⟩ rfl rfl rfl rfl rfl (by kernel_rfl) Try.func3 (by kernel_rfl)
    (of_decide_eq_true (by kernel_rfl)) (by unfold Func.isWrapper; first | (rw [if_pos (by decide +kernel)]; kernel_rfl) | (rw [if_neg (by decide +kernel)]; exact ⟨rfl, rfl⟩))
    (fun os started H enc _ => stateDiffers_lifted os started H enc)
/-- The row, under a short name, for the claim. -/
theorem stateDiffers_holds : Rows.StateDiffersSaid := stateDiffers_over
#print axioms stateDiffers_holds
end Go.Proofs.Ytknofchgacbamaa

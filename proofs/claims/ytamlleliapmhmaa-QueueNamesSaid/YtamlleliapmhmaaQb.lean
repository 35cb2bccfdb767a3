/- Queues: the check of a queue, both sides. -/
import Derived.Test.YtamlleliapmhmaaQa
set_option maxHeartbeats 8000000
set_option linter.unusedVariables false
set_option linter.unusedSimpArgs false
set_option maxRecDepth 20000
namespace Go.AX.Qu
open Go.Proofs Go.RowKit Go.IntWalk Go.AX.Br
theorem qcheck_bad {q : List Rq} {x : Rq} (hl : ¬ 30 < q.length) (hx : x ∈ q) (hv : valid x = false) : qcheck q = 8 := by
  have : q.any (fun r => !valid r) = true := List.any_eq_true.2 ⟨x, hx, by simp [hv]⟩
  simp only [qcheck, this]
  rw [if_neg hl]; rfl
theorem all_valid {q : List Rq} (h : ∀ (j : Nat) (x : Rq), q[j]? = some x → j < q.length → valid x = true) : q.any (fun r => !valid r) = false := by
  rw [List.any_eq_false]
  intro x hx
  obtain ⟨j, hj⟩ := List.mem_iff_getElem?.1 hx
  simp [h j x hj (some_lt hj)]
theorem take_any {q : List Rq} {r : Rq} {k : Nat} {x : Rq} (h : q[k]? = some x) : ((q.take (k + 1)).any fun s => same2 s r) = (((q.take k).any fun s => same2 s r) || same2 x r) := by
  rw [List.take_add_one, h]; simp
theorem qcheck_ref (q : List Rq) (hq : Sm q.length) : Spec Try.prog 21 [.d (.sl (q.map rD))] [] (.d (.int .i64 (qcheck q))) [] := by
  unfold Sm at hq
  refine spec_of_ev (fn := Try.f21) DX_ok 3000 Try.func21 rfl rfl (Nat.le_of_ble_eq_true rfl) ?_
  simp (maxSteps := 4000000) -implicitDefEqProofs only [Try.f21, go_sem]
  rcases Nat.lt_or_ge 30 q.length with h0 | h0
  · have d0 : decide (30 < (q.length : Int)) = true := by simp; omega
    simp (maxSteps := 4000000) -implicitDefEqProofs only [go_sem, d0, Option.some.injEq, forall_eq', and_true, true_and, Bool.not_true, Bool.not_false, decide_true, Nat.reduceAdd, Nat.reduceSub, Nat.reduceLT, Nat.reduceLeDiff, Nat.reduceEqDiff, ↓reduceIte]
    exact wk_int (by simp only [qcheck]; rw [if_pos h0])
  have h0' : ¬ 30 < q.length := by omega
  have d0 : decide (30 < (q.length : Int)) = false := by simp; omega
  simp (maxSteps := 4000000) -implicitDefEqProofs only [go_sem, d0, Option.some.injEq, forall_eq', and_true, true_and, Bool.not_true, Bool.not_false, decide_true, Nat.reduceAdd, Nat.reduceSub, Nat.reduceLT, Nat.reduceLeDiff, Nat.reduceEqDiff, ↓reduceIte]
  refine eloop (S := Nat) (fun i => mkE 70 [(0, .d (.sl (q.map rD))), (3, .d (.int .i64 i))]) (fun i => []) (fun i => i ≤ q.length ∧ ∀ j x, q[j]? = some x → j < i → valid x = true) (fun i => q.length - i) 0 ⟨by omega, by omega⟩ (Wk.sub (by (simp only [go_sem]) <;> trivial)) ?_
  rintro i ⟨hi, hj⟩
  rcases Nat.lt_or_ge i q.length with h2 | h2
  · have d2 : decide ((i : Int) < q.length) = true := by simp; omega
    obtain ⟨x, hx⟩ : ∃ x, q[i]? = some x := ⟨q[i]'(by omega), List.getElem?_eq_getElem _⟩
    have n1 : (0 ≤ (i : Int) ∧ (i : Int) < q.length) = True := eq_true (by omega)
    have w1 : IntKind.i64.wrap ((i : Int) + 1) = i + 1 := i64_in _ (by omega)
    have vx := valid_ref x
    simp only [rA] at vx
    simp (maxSteps := 4000000) -implicitDefEqProofs only [go_sem, d2, n1, hx, Option.some.injEq, forall_eq', and_true, true_and, Bool.not_true, Bool.not_false, decide_true, Nat.reduceAdd, Nat.reduceSub, Nat.reduceLT, Nat.reduceLeDiff, Nat.reduceEqDiff, ↓reduceIte]
    refine ecall0 _ vx (by simp only [go_sem]) (by simp only [go_sem]) ?_
    cases h3 : valid x
    · simp (maxSteps := 4000000) -implicitDefEqProofs only [go_sem, h3, Option.some.injEq, forall_eq', and_true, true_and, Bool.not_true, Bool.not_false, decide_true, Nat.reduceAdd, Nat.reduceSub, Nat.reduceLT, Nat.reduceLeDiff, Nat.reduceEqDiff, ↓reduceIte]
      exact wk_int (qcheck_bad h0' (List.mem_of_getElem? hx) h3).symm
    · simp (maxSteps := 4000000) -implicitDefEqProofs only [go_sem, h3, w1, Option.some.injEq, forall_eq', and_true, true_and, Bool.not_true, Bool.not_false, decide_true, Nat.reduceAdd, Nat.reduceSub, Nat.reduceLT, Nat.reduceLeDiff, Nat.reduceEqDiff, ↓reduceIte]
      exact .mk (i + 1) ⟨by omega, upto_succ hx h3 hj⟩ (by omega) (Wk.sub (by (simp only [go_sem]) <;> trivial))
  have d2 : decide ((i : Int) < q.length) = false := by simp; omega
  have hall := all_valid (q := q) fun j x hx hlt => hj j x hx (by omega)
  have fin : ∀ b, qtw q = b → qcheck q = if b = true then 14 else 0 := fun b hb => by simp only [qcheck, hall, hb]; rw [if_neg h0']; simp
  simp (maxSteps := 4000000) -implicitDefEqProofs only [go_sem, d2, Option.some.injEq, forall_eq', and_true, true_and, Bool.not_true, Bool.not_false, decide_true, Nat.reduceAdd, Nat.reduceSub, Nat.reduceLT, Nat.reduceLeDiff, Nat.reduceEqDiff, ↓reduceIte]
  clear hj hi h2 d2
  refine eloop (S := Nat) (fun i => mkE 70 [(0, .d (.sl (q.map rD))), (4, .d (.int .i64 i))]) (fun i => []) (fun i => i ≤ q.length ∧ ∀ j x, q[j]? = some x → j < i → (opn x && (q.take j).any fun s => same2 s x) = false) (fun i => q.length - i) 0 ⟨by omega, by omega⟩ (Wk.sub (by (simp only [go_sem]) <;> trivial)) ?_
  rintro i ⟨hi, hj⟩
  rcases Nat.lt_or_ge i q.length with h2 | h2
  · have d2 : decide ((i : Int) < q.length) = true := by simp; omega
    obtain ⟨x, hx⟩ : ∃ x, q[i]? = some x := ⟨q[i]'(by omega), List.getElem?_eq_getElem _⟩
    have n1 : (0 ≤ (i : Int) ∧ (i : Int) < q.length) = True := eq_true (by omega)
    have n1' : (i < q.length) = True := eq_true (by omega)
    have w1 : IntKind.i64.wrap ((i : Int) + 1) = i + 1 := i64_in _ (by omega)
    have ox := open_ref x
    simp only [rA] at ox
    simp (maxSteps := 4000000) -implicitDefEqProofs only [go_sem, d2, Option.some.injEq, forall_eq', and_true, true_and, Bool.not_true, Bool.not_false, decide_true, Nat.reduceAdd, Nat.reduceSub, Nat.reduceLT, Nat.reduceLeDiff, Nat.reduceEqDiff, ↓reduceIte]
    refine eloop (S := Nat) (fun k => mkE 70 [(0, .d (.sl (q.map rD))), (4, .d (.int .i64 i)), (5, .d (.int .i64 k))]) (fun i => []) (fun k => k ≤ i ∧ (opn x && (q.take k).any fun s => same2 s x) = false) (fun k => i - k) 0 ⟨by omega, by simp⟩ (Wk.sub (by (simp only [go_sem]) <;> trivial)) ?_
    rintro k ⟨hk, hkn⟩
    rcases Nat.lt_or_ge k i with h4 | h4
    · have d3 : decide ((k : Int) < i) = true := by simp; omega
      obtain ⟨y, hy⟩ : ∃ x, q[k]? = some x := ⟨q[k]'(by omega), List.getElem?_eq_getElem _⟩
      have n2 : (0 ≤ (k : Int) ∧ (k : Int) < q.length) = True := eq_true (by omega)
      have n2' : (k < q.length) = True := eq_true (by omega)
      have w2 : IntKind.i64.wrap ((k : Int) + 1) = k + 1 := i64_in _ (by omega)
      have oy := open_ref y
      simp only [rA] at oy
      simp (maxSteps := 4000000) -implicitDefEqProofs only [go_sem, d3, Option.some.injEq, forall_eq', and_true, true_and, Bool.not_true, Bool.not_false, decide_true, Nat.reduceAdd, Nat.reduceSub, Nat.reduceLT, Nat.reduceLeDiff, Nat.reduceEqDiff, ↓reduceIte]
      refine DX.plain (.take 0 false (.take 1 false (.take 2 false (.take 3 false (.take 4 false (.take 5 false (.take 6 false (.take 7 false (.take 8 false (.take 9 false (.take 10 false (.take 11 false (.take 12 false (.take 13 false (.take 14 false (.take 15 false (.take 16 false (.take 17 false (.take 18 false (.take 19 false (.take 20 false (.take 21 false (.take 22 false (.take 23 false (.take 24 false (.take 25 false (.take 26 false (.take 27 false (.take 28 false (.take 29 false (.take 30 false (.take 31 false (.take 32 false (.take 33 false (.take 34 false (.take 35 false (.take 36 false (.take 37 false .done)))))))))))))))))))))))))))))))))))))) (by kernel_rfl) (by kernel_rfl) Ty.mixed ?_
      simp (maxSteps := 4000000) -implicitDefEqProofs only [go_sem, n1, n1', n2, n2', hx, hy, Option.some.injEq, forall_eq', and_true, true_and, Bool.not_true, Bool.not_false, decide_true, Nat.reduceAdd, Nat.reduceSub, Nat.reduceLT, Nat.reduceLeDiff, Nat.reduceEqDiff, ↓reduceIte]
      refine ⟨_, _, ox, rfl, ?_⟩
      cases h5 : opn x
      · simp (maxSteps := 4000000) -implicitDefEqProofs only [go_sem, h5, w2, Option.some.injEq, forall_eq', and_true, true_and, Bool.not_true, Bool.not_false, decide_true, Nat.reduceAdd, Nat.reduceSub, Nat.reduceLT, Nat.reduceLeDiff, Nat.reduceEqDiff, ↓reduceIte]
        exact .mk (k + 1) ⟨by omega, rfl⟩ (by omega) (Wk.sub (by (simp only [go_sem]) <;> trivial))
      rw [h5, Bool.true_and] at hkn
      have nx := (take_any (r := x) hy).trans (by rw [hkn, Bool.false_or])
      simp (maxSteps := 4000000) -implicitDefEqProofs only [go_sem, h5, n1, n1', n2, n2', hx, hy, Option.some.injEq, forall_eq', and_true, true_and, Bool.not_true, Bool.not_false, decide_true, Nat.reduceAdd, Nat.reduceSub, Nat.reduceLT, Nat.reduceLeDiff, Nat.reduceEqDiff, ↓reduceIte]
      refine ⟨_, _, oy, rfl, ?_⟩
      cases h6 : opn y
      · simp (maxSteps := 4000000) -implicitDefEqProofs only [go_sem, h6, w2, Option.some.injEq, forall_eq', and_true, true_and, Bool.not_true, Bool.not_false, decide_true, Nat.reduceAdd, Nat.reduceSub, Nat.reduceLT, Nat.reduceLeDiff, Nat.reduceEqDiff, ↓reduceIte]
        exact .mk (k + 1) ⟨by omega, by rw [nx]; simp [same2, h6]⟩ (by omega) (Wk.sub (by (simp only [go_sem]) <;> trivial))
      have sw1 : decide (x.br = y.br) = decide (y.br = x.br) := by rw [decide_eq_decide]; exact eq_comm
      have sw2 : decide (x.ch = y.ch) = decide (y.ch = x.ch) := by rw [decide_eq_decide]; exact eq_comm
      cases h7 : decide (y.br = x.br)
      · rw [h7] at sw1
        simp (maxSteps := 4000000) -implicitDefEqProofs only [go_sem, h6, sw1, n1, n1', n2, n2', hx, hy, w2, Option.some.injEq, forall_eq', and_true, true_and, Bool.not_true, Bool.not_false, decide_true, Nat.reduceAdd, Nat.reduceSub, Nat.reduceLT, Nat.reduceLeDiff, Nat.reduceEqDiff, ↓reduceIte]
        exact .mk (k + 1) ⟨by omega, by rw [nx]; simp only [same2, h7, Bool.and_false, Bool.false_and]⟩ (by omega) (Wk.sub (by (simp only [go_sem]) <;> trivial))
      rw [h7] at sw1
      cases h8 : decide (y.ch = x.ch)
      · rw [h8] at sw2
        simp (maxSteps := 4000000) -implicitDefEqProofs only [go_sem, h6, sw1, sw2, n1, n1', n2, n2', hx, hy, w2, Option.some.injEq, forall_eq', and_true, true_and, Bool.not_true, Bool.not_false, decide_true, Nat.reduceAdd, Nat.reduceSub, Nat.reduceLT, Nat.reduceLeDiff, Nat.reduceEqDiff, ↓reduceIte]
        exact .mk (k + 1) ⟨by omega, by rw [nx]; simp only [same2, h8, Bool.and_false]⟩ (by omega) (Wk.sub (by (simp only [go_sem]) <;> trivial))
      · rw [h8] at sw2
        simp (maxSteps := 4000000) -implicitDefEqProofs only [go_sem, h6, sw1, sw2, n1, n1', n2, n2', hx, hy, Option.some.injEq, forall_eq', and_true, true_and, Bool.not_true, Bool.not_false, decide_true, Nat.reduceAdd, Nat.reduceSub, Nat.reduceLT, Nat.reduceLeDiff, Nat.reduceEqDiff, ↓reduceIte]
        refine wk_int ?_
        have : qtw q = true := by
          refine anyI_t hx ?_
          rw [h5, Bool.true_and, List.any_eq_true]
          refine ⟨y, ?_, by simp only [same2, h6, h7, h8, Bool.and_true]⟩
          have : (q.take i)[k]? = some y := by rw [List.getElem?_take_of_lt h4]; exact hy
          exact List.mem_of_getElem? this
        rw [fin true this]; rfl
    · have d3 : decide ((k : Int) < i) = false := by simp; omega
      have : k = i := by omega
      subst this
      simp (maxSteps := 4000000) -implicitDefEqProofs only [go_sem, d3, w1, Option.some.injEq, forall_eq', and_true, true_and, Bool.not_true, Bool.not_false, decide_true, Nat.reduceAdd, Nat.reduceSub, Nat.reduceLT, Nat.reduceLeDiff, Nat.reduceEqDiff, ↓reduceIte]
      exact .mk (k + 1) ⟨by omega, upto_succ hx hkn hj⟩ (by omega) (Wk.sub (by (simp only [go_sem]) <;> trivial))
  · have d2 : decide ((i : Int) < q.length) = false := by simp; omega
    simp (maxSteps := 4000000) -implicitDefEqProofs only [go_sem, d2, Option.some.injEq, forall_eq', and_true, true_and, Bool.not_true, Bool.not_false, decide_true, Nat.reduceAdd, Nat.reduceSub, Nat.reduceLT, Nat.reduceLeDiff, Nat.reduceEqDiff, ↓reduceIte]
    refine wk_int ?_
    rw [fin false (anyI_f fun j x hx => hj j x hx (by have := some_lt hx; omega))]; rfl
end Go.AX.Qu

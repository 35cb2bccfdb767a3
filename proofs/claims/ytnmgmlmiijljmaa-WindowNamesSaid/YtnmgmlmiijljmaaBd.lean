/- Branches: the program's own check of a table. -/
import Derived.Test.YtnmgmlmiijljmaaBc0
set_option maxHeartbeats 8000000
set_option linter.unusedVariables false
set_option linter.unusedSimpArgs false
set_option maxRecDepth 20000
namespace Go.AX.Br
open Go.Proofs Go.RowKit Go.IntWalk
theorem check_own (l : List Br) (hl : Sm l.length) : Spec Try.prog 49 [.d (.sl (l.map bD))] [] (.d (.int .i64 (check l))) [] := by
  have hl' := hl
  unfold Sm at hl
  refine spec_of_ev (fn := Try.f49) DX_ok 3000 Try.func49 rfl rfl (Nat.le_of_ble_eq_true rfl) ?_
  simp (maxSteps := 4000000) -implicitDefEqProofs only [Try.f49, go_sem]
  refine cbs (fun h1 => ?_) (fun h1 => ?_)
  · simp (maxSteps := 4000000) -implicitDefEqProofs only [go_sem, Nat.reduceAdd, Nat.reduceSub, Nat.reduceLT, Nat.reduceLeDiff, Nat.reduceEqDiff, ↓reduceIte]
    simp only [decide_eq_true_eq] at h1
    exact wk_int (by simp only [check]; rw [if_pos (by omega)])
  simp (maxSteps := 4000000) -implicitDefEqProofs only [go_sem, Nat.reduceAdd, Nat.reduceSub, Nat.reduceLT, Nat.reduceLeDiff, Nat.reduceEqDiff, ↓reduceIte]
  simp only [decide_eq_false_iff_not] at h1
  refine eloop (S := Nat) (fun i => mkE 76 [(0, .d (.sl (l.map bD))), (10, .d (.sl (l.map bD))), (11, .d (.int .i64 l.length)), (12, .d (.int .i64 i))]) (fun i => []) (fun i => i ≤ l.length ∧ ∀ j x, l[j]? = some x → j < i → decide (idx (has x.name) l < j) = false) (fun i => l.length - i) 0 ⟨by omega, by omega⟩ (Wk.sub (by (simp only [go_sem]) <;> trivial)) ?_
  rintro i ⟨hi, hj⟩
  simp (maxSteps := 4000000) -implicitDefEqProofs only [go_sem, Nat.reduceAdd, Nat.reduceSub, Nat.reduceLT, Nat.reduceLeDiff, Nat.reduceEqDiff, ↓reduceIte]
  refine cbs (fun h2 => ?_) (fun h2 => ?_)
  · simp only [decide_eq_true_eq] at h2
    simp (maxSteps := 4000000) -implicitDefEqProofs only [go_sem, Nat.reduceAdd, Nat.reduceSub, Nat.reduceLT, Nat.reduceLeDiff, Nat.reduceEqDiff, ↓reduceIte]
    refine ⟨by omega, fun x hx => ?_⟩
    refine ecall0 _ (index_own l x.name hl') (by simp only [go_sem]) (by simp only [go_sem]) ?_
    simp (maxSteps := 4000000) -implicitDefEqProofs only [go_sem, Nat.reduceAdd, Nat.reduceSub, Nat.reduceLT, Nat.reduceLeDiff, Nat.reduceEqDiff, ↓reduceIte]
    refine cbs (fun h3 => ?_) (fun h3 => ?_)
    · simp (maxSteps := 4000000) -implicitDefEqProofs only [go_sem, Nat.reduceAdd, Nat.reduceSub, Nat.reduceLT, Nat.reduceLeDiff, Nat.reduceEqDiff, ↓reduceIte]
      have ht : twice l = true := anyI_t hx h3
      exact wk_int (by simp only [check]; rw [if_neg (by omega), if_pos ht])
    · simp (maxSteps := 4000000) -implicitDefEqProofs only [go_sem, Nat.reduceAdd, Nat.reduceSub, Nat.reduceLT, Nat.reduceLeDiff, Nat.reduceEqDiff, ↓reduceIte]
      rw [i64_in _ (by omega)]
      exact .mk (i + 1) ⟨by omega, upto_succ hx h3 hj⟩ (by omega) (Wk.forget (by (simp only [go_sem]) <;> trivial) (by simp only [go_sem]))
  · simp (maxSteps := 4000000) -implicitDefEqProofs only [go_sem, Nat.reduceAdd, Nat.reduceSub, Nat.reduceLT, Nat.reduceLeDiff, Nat.reduceEqDiff, ↓reduceIte]
    simp only [decide_eq_false_iff_not] at h2
    have ht : twice l = false := anyI_f fun j x hx => hj j x hx (by have := some_lt hx; omega)
    clear hj hi h2
    cases hn : ((l.length : Int) == 0)
    · simp only [beq_eq_false_iff_ne, ne_eq] at hn
      have hne : l.isEmpty = false := by cases l <;> simp_all
      have fin : ∀ b, anyI (badAt l) l = b → check l = if b = true then 8 else 0 := fun b hb => by simp only [check]; rw [if_neg (by omega), ht, hne, hb]; simp
      have bad : ∀ (i : Nat) (x : Br), l[i]? = some x → badAt l i x = true → check l = 8 := fun i x hx hb => by rw [fin true (anyI_t hx hb)]; rfl
      obtain ⟨x, hx⟩ : ∃ x, l[0]? = some x := ⟨l[0]'(by omega), List.getElem?_eq_getElem _⟩
      have hlt : (0 < l.length) = True := eq_true (by omega)
      have need : (0 ≤ (0 : Int) ∧ (0 : Int) < l.length) = True := eq_true (by omega)
      cases hf : decide (x.frm = ⟨#[]⟩)
      · simp (maxSteps := 4000000) -implicitDefEqProofs only [go_sem, hx, hlt, need, hf, Option.some.injEq, forall_eq', and_true, true_and, Bool.not_true, Bool.not_false, decide_true, Nat.reduceAdd, Nat.reduceSub, Nat.reduceLT, Nat.reduceLeDiff, Nat.reduceEqDiff, ↓reduceIte]
        exact wk_int (bad 0 x hx (by simp [badAt, root, hf])).symm
      cases hz : (x.at' == 0)
      · have hz' : (x.at' != 0) = true := by simp only [bne, hz]; rfl
        simp (maxSteps := 4000000) -implicitDefEqProofs only [go_sem, hx, hlt, need, hf, hz', Option.some.injEq, forall_eq', and_true, true_and, Bool.not_true, Bool.not_false, decide_true, Nat.reduceAdd, Nat.reduceSub, Nat.reduceLT, Nat.reduceLeDiff, Nat.reduceEqDiff, ↓reduceIte]
        exact wk_int (bad 0 x hx (by simp [badAt, root, hz])).symm
      have hz' : (x.at' != 0) = false := by simp only [bne, hz]; rfl
      have hr : root x = true := by simp [root, hf, hz]
      simp (maxSteps := 4000000) -implicitDefEqProofs only [go_sem, hx, hlt, need, hf, hz', Option.some.injEq, forall_eq', and_true, true_and, Bool.not_true, Bool.not_false, decide_true, Nat.reduceAdd, Nat.reduceSub, Nat.reduceLT, Nat.reduceLeDiff, Nat.reduceEqDiff, ↓reduceIte]
      have root0 : ∀ (i : Nat) (x : Br), l[i]? = some x → i = 0 → root x = true := fun i y hy h0 => by subst h0; rw [hx] at hy; cases hy; exact hr
      clear hx hf hz hz' hr hlt need
      refine eloop (S := Nat) (fun i => mkE 76 [(0, .d (.sl (l.map bD))), (41, .d (.sl (l.map bD))), (42, .d (.int .i64 l.length)), (43, .d (.int .i64 i))]) (fun i => []) (fun i => i ≤ l.length ∧ ∀ j x, l[j]? = some x → j < i → badAt l j x = false) (fun i => l.length - i) 0 ⟨by omega, by omega⟩ (Wk.sub (by (simp only [go_sem]) <;> trivial)) ?_
      rintro i ⟨hi, hj⟩
      simp (maxSteps := 4000000) -implicitDefEqProofs only [go_sem, Nat.reduceAdd, Nat.reduceSub, Nat.reduceLT, Nat.reduceLeDiff, Nat.reduceEqDiff, ↓reduceIte]
      refine cbs (fun h2 => ?_) (fun h2 => ?_)
      · simp only [decide_eq_true_eq] at h2
        obtain ⟨x, hx⟩ : ∃ x, l[i]? = some x := ⟨l[i]'(by omega), List.getElem?_eq_getElem _⟩
        have need : (0 ≤ (i : Int) ∧ (i : Int) < l.length) = True := eq_true (by omega)
        have hlt : (i < l.length) = True := eq_true (by omega)
        simp (maxSteps := 4000000) -implicitDefEqProofs only [go_sem, need, hx, hlt, Option.some.injEq, forall_eq', and_true, true_and, Bool.not_true, Bool.not_false, decide_true, Nat.reduceAdd, Nat.reduceSub, Nat.reduceLT, Nat.reduceLeDiff, Nat.reduceEqDiff, ↓reduceIte]
        refine DX.plain (.take 0 false (.take 1 false (.take 2 false (.take 3 false (.take 4 false (.take 5 false (.take 6 false (.take 7 false (.take 8 false (.take 9 false (.take 10 false (.take 11 false (.take 12 false (.take 13 false (.take 14 false (.take 15 false (.take 16 false (.take 17 false (.take 18 false (.take 19 false (.take 20 false (.take 21 false (.take 22 false (.take 23 false (.take 24 false (.take 25 false (.take 26 false .done))))))))))))))))))))))))))) (by kernel_rfl) (by kernel_rfl) Ty.mixed ?_
        simp (maxSteps := 4000000) -implicitDefEqProofs only [go_sem, need, hx, hlt, Option.some.injEq, forall_eq', and_true, true_and, Bool.not_true, Bool.not_false, decide_true, Nat.reduceAdd, Nat.reduceSub, Nat.reduceLT, Nat.reduceLeDiff, Nat.reduceEqDiff, ↓reduceIte]
        refine ⟨_, _, (name_own x.name).lift0 _ (by simp only [go_sem]) (by simp only [go_sem]), rfl, ?_⟩
        have bd := bad i x hx
        cases hN : isNm x.name
        · simp (maxSteps := 4000000) -implicitDefEqProofs only [go_sem, hN, Option.some.injEq, forall_eq', and_true, true_and, Bool.not_true, Bool.not_false, decide_true, Nat.reduceAdd, Nat.reduceSub, Nat.reduceLT, Nat.reduceLeDiff, Nat.reduceEqDiff, ↓reduceIte]
          exact wk_int (bd (by simp [badAt, badN, hN])).symm
        rcases Int.lt_or_le x.at' 0 with hA | hA
        · have d1 := decide_eq_true hA
          simp (maxSteps := 4000000) -implicitDefEqProofs only [go_sem, hN, d1, Option.some.injEq, forall_eq', and_true, true_and, Bool.not_true, Bool.not_false, decide_true, Nat.reduceAdd, Nat.reduceSub, Nat.reduceLT, Nat.reduceLeDiff, Nat.reduceEqDiff, ↓reduceIte]
          exact wk_int (bd (by simp [badAt, badN, hA])).symm
        have d1 := decide_eq_false (Int.not_lt.2 hA)
        rcases Int.lt_or_le 320 x.at' with hB | hB
        · have d2 := decide_eq_true hB
          simp (maxSteps := 4000000) -implicitDefEqProofs only [go_sem, hN, d1, d2, Option.some.injEq, forall_eq', and_true, true_and, Bool.not_true, Bool.not_false, decide_true, Nat.reduceAdd, Nat.reduceSub, Nat.reduceLT, Nat.reduceLeDiff, Nat.reduceEqDiff, ↓reduceIte]
          exact wk_int (bd (by simp [badAt, badN, hB])).symm
        have d2 := decide_eq_false (Int.not_lt.2 hB)
        have hnb : badN x = false := by simp [badN, hN, d1, d2]
        rcases Nat.eq_zero_or_pos i with h0 | h0
        · have hr := root0 i x hx h0
          have g0 : decide (0 < (i : Int)) = false := by simp [h0]
          simp (maxSteps := 4000000) -implicitDefEqProofs only [go_sem, hN, d1, d2, g0, Option.some.injEq, forall_eq', and_true, true_and, Bool.not_true, Bool.not_false, decide_true, Nat.reduceAdd, Nat.reduceSub, Nat.reduceLT, Nat.reduceLeDiff, Nat.reduceEqDiff, ↓reduceIte]
          rw [i64_in _ (by omega)]
          exact .mk (i + 1) ⟨by omega, upto_succ hx (by simp [badAt, hr, hnb, h0]) hj⟩ (by omega) (Wk.forget (by (simp only [go_sem]) <;> trivial) (by simp only [go_sem]))
        · have g0 : decide (0 < (i : Int)) = true := by simp; omega
          have hi0 : ¬ i = 0 := by omega
          have hti : (l.take i).length = i := by rw [List.length_take]; omega
          simp (maxSteps := 4000000) -implicitDefEqProofs only [go_sem, hN, d1, d2, g0, Option.some.injEq, forall_eq', and_true, true_and, Bool.not_true, Bool.not_false, decide_true, Nat.reduceAdd, Nat.reduceSub, Nat.reduceLT, Nat.reduceLeDiff, Nat.reduceEqDiff, ↓reduceIte]
          refine ⟨by omega, _, _, (index_own (l.take i) x.frm (by unfold Sm; omega)).lift0 _ (by simp only [go_sem]) (by simp only [go_sem]), rfl, ?_⟩
          cases hq : decide (idx (has x.frm) (l.take i) < 0)
          · simp (maxSteps := 4000000) -implicitDefEqProofs only [go_sem, hq, Option.some.injEq, forall_eq', and_true, true_and, Bool.not_true, Bool.not_false, decide_true, Nat.reduceAdd, Nat.reduceSub, Nat.reduceLT, Nat.reduceLeDiff, Nat.reduceEqDiff, ↓reduceIte]
            rw [i64_in _ (by omega)]
            exact .mk (i + 1) ⟨by omega, upto_succ hx (by simp [badAt, hnb, hi0, hq]) hj⟩ (by omega) (Wk.forget (by (simp only [go_sem]) <;> trivial) (by simp only [go_sem]))
          · simp (maxSteps := 4000000) -implicitDefEqProofs only [go_sem, hq, Option.some.injEq, forall_eq', and_true, true_and, Bool.not_true, Bool.not_false, decide_true, Nat.reduceAdd, Nat.reduceSub, Nat.reduceLT, Nat.reduceLeDiff, Nat.reduceEqDiff, ↓reduceIte]
            exact wk_int (bd (by simp only [badAt, hq, h0, decide_true, Bool.true_and, Bool.or_true])).symm
      · simp (maxSteps := 4000000) -implicitDefEqProofs only [go_sem, Nat.reduceAdd, Nat.reduceSub, Nat.reduceLT, Nat.reduceLeDiff, Nat.reduceEqDiff, ↓reduceIte]
        simp only [decide_eq_false_iff_not] at h2
        refine wk_int ?_
        rw [fin false (anyI_f fun j x hx => hj j x hx (by have := some_lt hx; omega))]; rfl
    · simp (maxSteps := 4000000) -implicitDefEqProofs only [go_sem, hn, Option.some.injEq, forall_eq', and_true, true_and, Bool.not_true, Bool.not_false, decide_true, Nat.reduceAdd, Nat.reduceSub, Nat.reduceLT, Nat.reduceLeDiff, Nat.reduceEqDiff, ↓reduceIte]
      simp only [beq_iff_eq] at hn
      have he : l = [] := List.eq_nil_of_length_eq_zero (by omega)
      exact wk_int (by simp only [check]; rw [if_neg (by omega), ht]; simp [he])
end Go.AX.Br

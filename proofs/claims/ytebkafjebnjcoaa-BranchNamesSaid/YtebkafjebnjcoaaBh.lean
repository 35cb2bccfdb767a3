/- Branches: whether a table and counts fit; both sides. -/
import Derived.Test.YtebkafjebnjcoaaBg
set_option maxHeartbeats 1000000
set_option linter.unusedVariables false
set_option linter.unusedSimpArgs false
set_option maxRecDepth 20000
namespace Go.AX.Br
open Go.Proofs Go.RowKit Go.IntWalk
theorem badC_all {cs : List Int} (h : cs.any badC = false) : ∀ c ∈ cs, 0 ≤ c ∧ c ≤ 40 := fun c hc => by
  rw [List.any_eq_false] at h
  have := h c hc
  simp only [badC, Bool.or_eq_true, decide_eq_true_eq, not_or] at this
  omega
theorem fits_own (l : List Br) (cs : List Int) (hl : Sm l.length) (hc : Sm cs.length) : Spec Try.prog 17 [.d (.sl (l.map bD)), .d (.sl (cs.map iD))] [] (.d (.int .i64 (fits l cs))) [] := by
  have hl' := hl
  have hc' := hc
  unfold Sm at hl hc
  refine spec_of_ev (fn := Try.f17) DX_ok 3000 Try.func17 rfl rfl (Nat.le_of_ble_eq_true rfl) ?_
  simp only [Try.f17, go_sem]
  refine ecall0 _ (check_own l hl') (by simp only [go_sem]) (by simp only [go_sem]) ?_
  simp only [go_sem, Nat.reduceAdd, Nat.reduceSub, Nat.reduceLT, Nat.reduceLeDiff, Nat.reduceEqDiff, ↓reduceIte]
  refine cbs (fun h1 => ?_) (fun h1 => ?_)
  · simp only [go_sem, Nat.reduceAdd, Nat.reduceSub, Nat.reduceLT, Nat.reduceLeDiff, Nat.reduceEqDiff, ↓reduceIte]
    simp only [bne_iff_ne, ne_eq] at h1
    exact wk_int (by simp only [fits]; rw [if_pos h1])
  simp only [go_sem, Nat.reduceAdd, Nat.reduceSub, Nat.reduceLT, Nat.reduceLeDiff, Nat.reduceEqDiff, ↓reduceIte]
  simp only [bne_eq_false_iff_eq] at h1
  by_cases h2 : cs.length = l.length
  · have g : ((cs.length : Int) != l.length) = false := by simp [h2]
    simp only [go_sem, g, Option.some.injEq, forall_eq', and_true, true_and, Bool.not_true, Bool.not_false, Nat.reduceAdd, Nat.reduceSub, Nat.reduceLT, Nat.reduceLeDiff, Nat.reduceEqDiff, ↓reduceIte]
    refine .all _ _ (ints_containsFunc cs badC _ [] [] hc' fun c _ => bad_own c) ?_
    cases h3 : cs.any badC
    · simp only [go_sem, h3, Option.some.injEq, forall_eq', and_true, true_and, Bool.not_true, Bool.not_false, Nat.reduceAdd, Nat.reduceSub, Nat.reduceLT, Nat.reduceLeDiff, Nat.reduceEqDiff, ↓reduceIte]
      refine ecall0 _ (starts_own l cs h1 h2 (badC_all h3)) (by simp only [go_sem]) (by simp only [go_sem]) ?_
      simp only [go_sem, Nat.reduceAdd, Nat.reduceSub, Nat.reduceLT, Nat.reduceLeDiff, Nat.reduceEqDiff, ↓reduceIte]
      cases h4 : fit l cs
      · simp only [go_sem, h4, Option.some.injEq, forall_eq', and_true, true_and, Bool.not_true, Bool.not_false, Nat.reduceAdd, Nat.reduceSub, Nat.reduceLT, Nat.reduceLeDiff, Nat.reduceEqDiff, ↓reduceIte]
        exact wk_int (by simp only [fits]; rw [if_neg (by omega), if_neg (by simp [h2, h3]), h4]; simp)
      · simp only [go_sem, h4, Option.some.injEq, forall_eq', and_true, true_and, Bool.not_true, Bool.not_false, Nat.reduceAdd, Nat.reduceSub, Nat.reduceLT, Nat.reduceLeDiff, Nat.reduceEqDiff, ↓reduceIte]
        exact wk_int (by simp only [fits]; rw [if_neg (by omega), if_neg (by simp [h2, h3]), h4]; simp)
    · simp only [go_sem, h3, Option.some.injEq, forall_eq', and_true, true_and, Bool.not_true, Bool.not_false, Nat.reduceAdd, Nat.reduceSub, Nat.reduceLT, Nat.reduceLeDiff, Nat.reduceEqDiff, ↓reduceIte]
      exact wk_int (by simp only [fits]; rw [if_neg (by omega), if_pos (.inr h3)])
  · have g : ((cs.length : Int) != l.length) = true := by simp; omega
    simp only [go_sem, g, Option.some.injEq, forall_eq', and_true, true_and, Bool.not_true, Bool.not_false, Nat.reduceAdd, Nat.reduceSub, Nat.reduceLT, Nat.reduceLeDiff, Nat.reduceEqDiff, ↓reduceIte]
    exact wk_int (by simp only [fits]; rw [if_neg (by omega), if_pos (.inl h2)])
theorem fits_ref (l : List Br) (cs : List Int) (hl : Sm l.length) (hc : Sm cs.length) : Spec Try.prog 18 [.d (.sl (l.map bD)), .d (.sl (cs.map iD))] [] (.d (.int .i64 (fits l cs))) [] := by
  have hl' := hl
  have hc' := hc
  unfold Sm at hl hc
  refine spec_of_ev (fn := Try.f18) DX_ok 3000 Try.func18 rfl rfl (Nat.le_of_ble_eq_true rfl) ?_
  simp only [Try.f18, go_sem]
  refine ecall0 _ (check_ref l hl') (by simp only [go_sem]) (by simp only [go_sem]) ?_
  simp only [go_sem, Nat.reduceAdd, Nat.reduceSub, Nat.reduceLT, Nat.reduceLeDiff, Nat.reduceEqDiff, ↓reduceIte]
  refine cbs (fun h1 => ?_) (fun h1 => ?_)
  · simp only [go_sem, Nat.reduceAdd, Nat.reduceSub, Nat.reduceLT, Nat.reduceLeDiff, Nat.reduceEqDiff, ↓reduceIte]
    refine ecall0 _ (check_ref l hl') (by simp only [go_sem]) (by simp only [go_sem]) ?_
    simp only [go_sem, Nat.reduceAdd, Nat.reduceSub, Nat.reduceLT, Nat.reduceLeDiff, Nat.reduceEqDiff, ↓reduceIte]
    simp only [bne_iff_ne, ne_eq] at h1
    exact wk_int (by simp only [fits]; rw [if_pos h1])
  simp only [go_sem, Nat.reduceAdd, Nat.reduceSub, Nat.reduceLT, Nat.reduceLeDiff, Nat.reduceEqDiff, ↓reduceIte]
  simp only [bne_eq_false_iff_eq] at h1
  by_cases h2 : cs.length = l.length
  · have g : ((cs.length : Int) != l.length) = false := by simp [h2]
    simp only [go_sem, g, Option.some.injEq, forall_eq', and_true, true_and, Bool.not_true, Bool.not_false, Nat.reduceAdd, Nat.reduceSub, Nat.reduceLT, Nat.reduceLeDiff, Nat.reduceEqDiff, ↓reduceIte]
    refine eloop (S := Nat) (fun i => mkE 44 [(0, .d (.sl (l.map bD))), (1, .d (.sl (cs.map iD))), (5, .d (.int .i64 i))]) (fun i => []) (fun i => i ≤ cs.length ∧ ∀ j x, cs[j]? = some x → j < i → badC x = false) (fun i => cs.length - i) 0 ⟨by omega, by omega⟩ (Wk.sub (by simp only [go_sem]; trivial)) ?_
    rintro i ⟨hi, hj⟩
    rcases Nat.lt_or_ge i cs.length with h3 | h3
    · have d0 : decide ((i : Int) < cs.length) = true := by simp; omega
      obtain ⟨x, hx⟩ : ∃ x, cs[i]? = some x := ⟨cs[i]'(by omega), List.getElem?_eq_getElem _⟩
      have need : (0 ≤ (i : Int) ∧ (i : Int) < cs.length) = True := eq_true (by omega)
      have yes : badC x = true → fits l cs = 2 := fun h => by simp only [fits]; rw [if_neg (by omega), if_pos (.inr (List.any_eq_true.2 ⟨x, List.mem_of_getElem? hx, h⟩))]
      rcases Int.lt_or_le x 0 with hA | hA
      · have d1 := decide_eq_true hA
        simp only [go_sem, d0, need, hx, d1, Option.some.injEq, forall_eq', and_true, true_and, Bool.not_true, Bool.not_false, Nat.reduceAdd, Nat.reduceSub, Nat.reduceLT, Nat.reduceLeDiff, Nat.reduceEqDiff, ↓reduceIte]
        exact wk_int (yes (by simp [badC, hA])).symm
      have d1 := decide_eq_false (Int.not_lt.2 hA)
      rcases Int.lt_or_le 40 x with hB | hB
      · have d2 := decide_eq_true hB
        simp only [go_sem, d0, need, hx, d1, d2, Option.some.injEq, forall_eq', and_true, true_and, Bool.not_true, Bool.not_false, Nat.reduceAdd, Nat.reduceSub, Nat.reduceLT, Nat.reduceLeDiff, Nat.reduceEqDiff, ↓reduceIte]
        exact wk_int (yes (by simp [badC, hB])).symm
      have d2 := decide_eq_false (Int.not_lt.2 hB)
      simp only [go_sem, d0, need, hx, d1, d2, Option.some.injEq, forall_eq', and_true, true_and, Bool.not_true, Bool.not_false, Nat.reduceAdd, Nat.reduceSub, Nat.reduceLT, Nat.reduceLeDiff, Nat.reduceEqDiff, ↓reduceIte]
      rw [i64_in _ (by omega)]
      exact .mk (i + 1) ⟨by omega, upto_succ hx (by simp [badC, d1, d2]) hj⟩ (by omega) (Wk.sub (by simp only [go_sem]; trivial))
    · have d0 : decide ((i : Int) < cs.length) = false := by simp; omega
      have hall : cs.any badC = false := by
        rw [List.any_eq_false]
        intro x hx
        obtain ⟨j, hj'⟩ := List.mem_iff_getElem?.1 hx
        have := hj j x hj' (by have := some_lt hj'; omega)
        simp [this]
      simp only [go_sem, d0, Option.some.injEq, forall_eq', and_true, true_and, Bool.not_true, Bool.not_false, Nat.reduceAdd, Nat.reduceSub, Nat.reduceLT, Nat.reduceLeDiff, Nat.reduceEqDiff, ↓reduceIte]
      refine ecall0 _ (views_ref l cs h1 h2 (badC_all hall)) (by simp only [go_sem]) (by simp only [go_sem]) ?_
      simp only [go_sem, Nat.reduceAdd, Nat.reduceSub, Nat.reduceLT, Nat.reduceLeDiff, Nat.reduceEqDiff, ↓reduceIte]
      cases h4 : fit l cs
      · simp only [go_sem, h4, Option.some.injEq, forall_eq', and_true, true_and, Bool.not_true, Bool.not_false, Nat.reduceAdd, Nat.reduceSub, Nat.reduceLT, Nat.reduceLeDiff, Nat.reduceEqDiff, ↓reduceIte]
        exact wk_int (by simp only [fits]; rw [if_neg (by omega), if_neg (by simp [h2, hall]), h4]; simp)
      · simp only [go_sem, h4, Option.some.injEq, forall_eq', and_true, true_and, Bool.not_true, Bool.not_false, Nat.reduceAdd, Nat.reduceSub, Nat.reduceLT, Nat.reduceLeDiff, Nat.reduceEqDiff, ↓reduceIte]
        exact wk_int (by simp only [fits]; rw [if_neg (by omega), if_neg (by simp [h2, hall]), h4]; simp)
  · have g : ((cs.length : Int) != l.length) = true := by simp; omega
    simp only [go_sem, g, Option.some.injEq, forall_eq', and_true, true_and, Bool.not_true, Bool.not_false, Nat.reduceAdd, Nat.reduceSub, Nat.reduceLT, Nat.reduceLeDiff, Nat.reduceEqDiff, ↓reduceIte]
    exact wk_int (by simp only [fits]; rw [if_neg (by omega), if_pos (.inl h2)])
end Go.AX.Br

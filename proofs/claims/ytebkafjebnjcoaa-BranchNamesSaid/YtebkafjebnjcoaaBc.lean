/- Branches: the check of a table. -/
import Derived.Test.YtebkafjebnjcoaaBb
set_option maxHeartbeats 1000000
set_option linter.unusedVariables false
set_option linter.unusedSimpArgs false
set_option maxRecDepth 20000
namespace Go.AX.Br
open Go.Proofs Go.RowKit Go.IntWalk
def twice (l : List Br) : Bool := anyI (fun i b => decide (idx (has b.name) l < i)) l
def root (b : Br) : Bool := decide (b.frm = ⟨#[]⟩) && (b.at' == 0)
def badN (b : Br) : Bool := !isNm b.name || decide (b.at' < 0) || decide (320 < b.at')
def badAt (l : List Br) (i : Nat) (b : Br) : Bool := badN b || (decide (i = 0) && !root b) || (decide (0 < i) && decide (idx (has b.frm) (l.take i) < 0))
def check (l : List Br) : Int := if 8 < l.length then 4 else if twice l then 14 else if l.isEmpty || anyI (badAt l) l then 8 else 0
theorem idx_le {α : Type} {p : α → Bool} {l : List α} {i : Nat} {x : α} (hx : l[i]? = some x) (hp : p x = true) : 0 ≤ idx p l ∧ idx p l ≤ i := by
  unfold idx
  cases h : l.findIdx? p with
  | none =>
    have := List.findIdx?_eq_none_iff.1 h x (List.mem_of_getElem? hx)
    rw [hp] at this; cases this
  | some k =>
    obtain ⟨hk, _, hmin⟩ := List.findIdx?_eq_some_iff_getElem.1 h
    refine ⟨by simp, ?_⟩
    simp only [Int.ofNat_le]
    rcases Nat.lt_or_ge i k with q | q
    · have := hmin i q
      have hlt := some_lt hx
      rw [List.getElem?_eq_getElem hlt] at hx
      simp at hx
      rw [hx, hp] at this; simp at this
    · exact q
theorem check_ref (l : List Br) (hl : Sm l.length) : Spec Try.prog 16 [.d (.sl (l.map bD))] [] (.d (.int .i64 (check l))) [] := by
  have hl' := hl
  unfold Sm at hl
  refine spec_of_ev (fn := Try.f16) DX_ok 3000 Try.func16 rfl rfl (Nat.le_of_ble_eq_true rfl) ?_
  simp only [Try.f16, go_sem]
  refine cbs (fun h1 => ?_) (fun h1 => ?_)
  · simp only [go_sem, Nat.reduceAdd, Nat.reduceSub, Nat.reduceLT, Nat.reduceLeDiff, Nat.reduceEqDiff, ↓reduceIte]
    simp only [decide_eq_true_eq] at h1
    exact wk_int (by simp only [check]; rw [if_pos (by omega)])
  simp only [go_sem, Nat.reduceAdd, Nat.reduceSub, Nat.reduceLT, Nat.reduceLeDiff, Nat.reduceEqDiff, ↓reduceIte]
  simp only [decide_eq_false_iff_not] at h1
  refine eloop (S := Nat) (fun i => mkE 89 [(0, .d (.sl (l.map bD))), (3, .d (.int .i64 i))]) (fun i => []) (fun i => i ≤ l.length ∧ ∀ j x, l[j]? = some x → j < i → decide (idx (has x.name) l < j) = false) (fun i => l.length - i) 0 ⟨by omega, by omega⟩ (Wk.sub (by simp only [go_sem]; trivial)) ?_
  rintro i ⟨hi, hj⟩
  simp only [go_sem, Nat.reduceAdd, Nat.reduceSub, Nat.reduceLT, Nat.reduceLeDiff, Nat.reduceEqDiff, ↓reduceIte]
  refine cbs (fun h2 => ?_) (fun h2 => ?_)
  · simp only [decide_eq_true_eq] at h2
    simp only [go_sem, Nat.reduceAdd, Nat.reduceSub, Nat.reduceLT, Nat.reduceLeDiff, Nat.reduceEqDiff, ↓reduceIte]
    refine ⟨by omega, fun x hx => ?_⟩
    refine ecall0 _ (index_ref l x.name hl') (by simp only [go_sem]) (by simp only [go_sem]) ?_
    simp only [go_sem, Nat.reduceAdd, Nat.reduceSub, Nat.reduceLT, Nat.reduceLeDiff, Nat.reduceEqDiff, ↓reduceIte]
    have hle := idx_le hx (p := has x.name) (by simp [has])
    refine cbs (fun h3 => ?_) (fun h3 => ?_)
    · simp only [go_sem, Nat.reduceAdd, Nat.reduceSub, Nat.reduceLT, Nat.reduceLeDiff, Nat.reduceEqDiff, ↓reduceIte]
      simp only [bne_iff_ne, ne_eq] at h3
      have : twice l = true := anyI_t hx (by simp; omega)
      exact wk_int (by simp only [check]; rw [if_neg (by omega), if_pos this])
    · simp only [go_sem, Nat.reduceAdd, Nat.reduceSub, Nat.reduceLT, Nat.reduceLeDiff, Nat.reduceEqDiff, ↓reduceIte]
      simp only [bne_eq_false_iff_eq] at h3
      rw [i64_in _ (by omega)]
      exact .mk (i + 1) ⟨by omega, upto_succ hx (by simp [h3]) hj⟩ (by omega) (Wk.sub (by simp only [go_sem]; trivial))
  · simp only [go_sem, Nat.reduceAdd, Nat.reduceSub, Nat.reduceLT, Nat.reduceLeDiff, Nat.reduceEqDiff, ↓reduceIte]
    simp only [decide_eq_false_iff_not] at h2
    have ht : twice l = false := anyI_f fun j x hx => hj j x hx (by have := some_lt hx; omega)
    refine cbs (fun h3 => ?_) (fun h3 => ?_)
    · simp only [go_sem, Nat.reduceAdd, Nat.reduceSub, Nat.reduceLT, Nat.reduceLeDiff, Nat.reduceEqDiff, ↓reduceIte]
      simp only [beq_iff_eq] at h3
      have he : l = [] := List.eq_nil_of_length_eq_zero (by omega)
      exact wk_int (by simp only [check]; rw [if_neg (by omega), ht]; simp [he])
    simp only [go_sem, Nat.reduceAdd, Nat.reduceSub, Nat.reduceLT, Nat.reduceLeDiff, Nat.reduceEqDiff, ↓reduceIte]
    simp only [beq_eq_false_iff_ne, ne_eq] at h3
    have hne : l.isEmpty = false := by cases l <;> simp_all
    have fin : ∀ b, anyI (badAt l) l = b → check l = if b = true then 8 else 0 := fun b hb => by simp only [check]; rw [if_neg (by omega), ht, hne, hb]; simp
    clear hj hi h2
    refine eloop (S := Nat) (fun i => mkE 89 [(0, .d (.sl (l.map bD))), (4, .d (.int .i64 i))]) (fun i => []) (fun i => i ≤ l.length ∧ ∀ j x, l[j]? = some x → j < i → badAt l j x = false) (fun i => l.length - i) 0 ⟨by omega, by omega⟩ (Wk.sub (by simp only [go_sem]; trivial)) ?_
    rintro i ⟨hi, hj⟩
    simp only [go_sem, Nat.reduceAdd, Nat.reduceSub, Nat.reduceLT, Nat.reduceLeDiff, Nat.reduceEqDiff, ↓reduceIte]
    refine cbs (fun h2 => ?_) (fun h2 => ?_)
    · simp only [decide_eq_true_eq] at h2
      obtain ⟨x, hx⟩ : ∃ x, l[i]? = some x := ⟨l[i]'(by omega), List.getElem?_eq_getElem _⟩
      have need : (0 ≤ (i : Int) ∧ (i : Int) < l.length) = True := eq_true (by omega)
      have hlt : (i < l.length) = True := eq_true (by omega)
      have bad : badAt l i x = true → check l = 8 := fun hb => by rw [fin true (anyI_t hx hb)]; rfl
      simp only [go_sem, need, hx, Option.some.injEq, forall_eq', and_true, true_and, Bool.not_true, Bool.not_false, Nat.reduceAdd, Nat.reduceSub, Nat.reduceLT, Nat.reduceLeDiff, Nat.reduceEqDiff, ↓reduceIte]
      refine ecall0 _ (name_ref x.name) (by simp only [go_sem]) (by simp only [go_sem]) ?_
      simp only [go_sem, Nat.reduceAdd, Nat.reduceSub, Nat.reduceLT, Nat.reduceLeDiff, Nat.reduceEqDiff, ↓reduceIte]
      cases hN : isNm x.name
      · simp only [go_sem, need, hx, hN, Option.some.injEq, forall_eq', and_true, true_and, Bool.not_true, Bool.not_false, Nat.reduceAdd, Nat.reduceSub, Nat.reduceLT, Nat.reduceLeDiff, Nat.reduceEqDiff, ↓reduceIte]
        exact wk_int (bad (by simp [badAt, badN, hN])).symm
      rcases Int.lt_or_le x.at' 0 with hA | hA
      · have d1 := decide_eq_true hA
        simp only [go_sem, need, hx, hN, d1, Option.some.injEq, forall_eq', and_true, true_and, Bool.not_true, Bool.not_false, Nat.reduceAdd, Nat.reduceSub, Nat.reduceLT, Nat.reduceLeDiff, Nat.reduceEqDiff, ↓reduceIte]
        exact wk_int (bad (by simp [badAt, badN, hA])).symm
      have d1 := decide_eq_false (Int.not_lt.2 hA)
      rcases Int.lt_or_le 320 x.at' with hB | hB
      · have d2 := decide_eq_true hB
        simp only [go_sem, need, hx, hN, d1, d2, Option.some.injEq, forall_eq', and_true, true_and, Bool.not_true, Bool.not_false, Nat.reduceAdd, Nat.reduceSub, Nat.reduceLT, Nat.reduceLeDiff, Nat.reduceEqDiff, ↓reduceIte]
        exact wk_int (bad (by simp [badAt, badN, hB])).symm
      have d2 := decide_eq_false (Int.not_lt.2 hB)
      simp only [go_sem, need, hx, hN, d1, d2, Option.some.injEq, forall_eq', and_true, true_and, Bool.not_true, Bool.not_false, Nat.reduceAdd, Nat.reduceSub, Nat.reduceLT, Nat.reduceLeDiff, Nat.reduceEqDiff, ↓reduceIte]
      have hn : badN x = false := by simp [badN, hN, d1, d2]
      rcases Nat.eq_zero_or_pos i with h0 | h0
      · have e0 : ((i : Int) == 0) = true := by simp [h0]
        have g0 : decide (0 < (i : Int)) = false := by simp [h0]
        cases hf : decide (x.frm = ⟨#[]⟩)
        · skip
          refine DX.plain (.take 0 false (.take 1 false (.take 2 false (.take 3 false (.take 4 false (.take 5 false (.take 6 false (.take 7 false (.take 8 false (.take 9 false (.take 10 false (.take 11 false (.take 12 false (.take 13 false (.take 14 false (.take 15 false (.take 16 false (.take 17 false (.take 18 false (.take 19 false (.take 20 false (.take 21 false (.take 22 false (.take 23 false (.take 24 false (.take 25 false (.take 26 false (.take 27 false (.take 28 false (.take 29 false (.take 30 false (.take 31 false (.take 32 false (.take 33 false .done)))))))))))))))))))))))))))))))))) (by kernel_rfl) (by kernel_rfl) Ty.mixed ?_
          simp only [go_sem, need, hx, hlt, e0, g0, hf, Option.some.injEq, forall_eq', and_true, true_and, Bool.not_true, Bool.not_false, Nat.reduceAdd, Nat.reduceSub, Nat.reduceLT, Nat.reduceLeDiff, Nat.reduceEqDiff, ↓reduceIte]
          exact wk_int (bad (by simp [badAt, root, hf, h0])).symm
        cases hz : (x.at' == 0)
        · have hz' : (x.at' != 0) = true := by simp only [bne, hz]; rfl
          refine DX.plain (.take 0 false (.take 1 false (.take 2 false (.take 3 false (.take 4 false (.take 5 false (.take 6 false (.take 7 false (.take 8 false (.take 9 false (.take 10 false (.take 11 false (.take 12 false (.take 13 false (.take 14 false (.take 15 false (.take 16 false (.take 17 false (.take 18 false (.take 19 false (.take 20 false (.take 21 false (.take 22 false (.take 23 false (.take 24 false (.take 25 false (.take 26 false (.take 27 false (.take 28 false (.take 29 false (.take 30 false (.take 31 false (.take 32 false (.take 33 false .done)))))))))))))))))))))))))))))))))) (by kernel_rfl) (by kernel_rfl) Ty.mixed ?_
          simp only [go_sem, need, hx, hlt, e0, g0, hf, hz', Option.some.injEq, forall_eq', and_true, true_and, Bool.not_true, Bool.not_false, Nat.reduceAdd, Nat.reduceSub, Nat.reduceLT, Nat.reduceLeDiff, Nat.reduceEqDiff, ↓reduceIte]
          exact wk_int (bad (by simp [badAt, root, hz, h0])).symm
        · have hz' : (x.at' != 0) = false := by simp only [bne, hz]; rfl
          refine DX.plain (.take 0 false (.take 1 false (.take 2 false (.take 3 false (.take 4 false (.take 5 false (.take 6 false (.take 7 false (.take 8 false (.take 9 false (.take 10 false (.take 11 false (.take 12 false (.take 13 false (.take 14 false (.take 15 false (.take 16 false (.take 17 false (.take 18 false (.take 19 false (.take 20 false (.take 21 false (.take 22 false (.take 23 false (.take 24 false (.take 25 false (.take 26 false (.take 27 false (.take 28 false (.take 29 false (.take 30 false (.take 31 false (.take 32 false (.take 33 false .done)))))))))))))))))))))))))))))))))) (by kernel_rfl) (by kernel_rfl) Ty.mixed ?_
          simp only [go_sem, need, hx, hlt, e0, g0, hf, hz', Option.some.injEq, forall_eq', and_true, true_and, Bool.not_true, Bool.not_false, Nat.reduceAdd, Nat.reduceSub, Nat.reduceLT, Nat.reduceLeDiff, Nat.reduceEqDiff, ↓reduceIte]
          rw [i64_in _ (by omega)]
          exact .mk (i + 1) ⟨by omega, upto_succ hx (by simp [badAt, root, hf, hz, hn, h0]) hj⟩ (by omega) (Wk.sub (by simp only [go_sem]; trivial))
      · have e0 : ((i : Int) == 0) = false := by simp; omega
        have g0 : decide (0 < (i : Int)) = true := by simp; omega
        have hi0 : ¬ i = 0 := by omega
        have hti : (l.take i).length = i := by rw [List.length_take]; omega
        refine DX.plain (.take 0 false (.take 1 false (.take 2 false (.take 3 false (.take 4 false (.take 5 false (.take 6 false (.take 7 false (.take 8 false (.take 9 false (.take 10 false (.take 11 false (.take 12 false (.take 13 false (.take 14 false (.take 15 false (.take 16 false (.take 17 false (.take 18 false (.take 19 false (.take 20 false (.take 21 false (.take 22 false (.take 23 false (.take 24 false (.take 25 false (.take 26 false (.take 27 false (.take 28 false (.take 29 false (.take 30 false (.take 31 false (.take 32 false (.take 33 false .done)))))))))))))))))))))))))))))))))) (by kernel_rfl) (by kernel_rfl) Ty.mixed ?_
        simp only [go_sem, need, hx, hlt, e0, g0, Option.some.injEq, forall_eq', and_true, true_and, Bool.not_true, Bool.not_false, Nat.reduceAdd, Nat.reduceSub, Nat.reduceLT, Nat.reduceLeDiff, Nat.reduceEqDiff, ↓reduceIte]
        refine ⟨by omega, _, _, index_ref (l.take i) x.frm (by unfold Sm; omega), rfl, ?_⟩
        cases hq : decide (idx (has x.frm) (l.take i) < 0)
        · simp only [go_sem, hq, Option.some.injEq, forall_eq', and_true, true_and, Bool.not_true, Bool.not_false, Nat.reduceAdd, Nat.reduceSub, Nat.reduceLT, Nat.reduceLeDiff, Nat.reduceEqDiff, ↓reduceIte]
          rw [i64_in _ (by omega)]
          exact .mk (i + 1) ⟨by omega, upto_succ hx (by simp [badAt, hn, hi0, hq]) hj⟩ (by omega) (Wk.sub (by simp only [go_sem]; trivial))
        · simp only [go_sem, hq, Option.some.injEq, forall_eq', and_true, true_and, Bool.not_true, Bool.not_false, Nat.reduceAdd, Nat.reduceSub, Nat.reduceLT, Nat.reduceLeDiff, Nat.reduceEqDiff, ↓reduceIte]
          exact wk_int (bad (by simp only [badAt, hq, h0, decide_true, Bool.true_and, Bool.or_true])).symm
    · simp only [go_sem, Nat.reduceAdd, Nat.reduceSub, Nat.reduceLT, Nat.reduceLeDiff, Nat.reduceEqDiff, ↓reduceIte]
      simp only [decide_eq_false_iff_not] at h2
      refine wk_int ?_
      rw [fin false (anyI_f fun j x hx => hj j x hx (by have := some_lt hx; omega))]; rfl
end Go.AX.Br

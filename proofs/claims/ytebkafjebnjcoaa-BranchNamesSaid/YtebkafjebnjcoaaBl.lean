/- Branches: Stem, both sides; lists of marks compared. -/
import Derived.Test.YtebkafjebnjcoaaBk
set_option maxHeartbeats 1000000
set_option linter.unusedVariables false
set_option linter.unusedSimpArgs false
set_option maxRecDepth 20000
namespace Go.AX.Br
open Go.Proofs Go.RowKit Go.IntWalk
theorem sameMarks_ref (a b : List Mk) (ha : Sm a.length) : Spec Try.prog 19 [.d (.sl (a.map mkD)), .d (.sl (b.map mkD))] [] (.d (.bool (decide (a = b)))) [] := by
  unfold Sm at ha
  refine spec_of_ev (fn := Try.f19) DX_ok 3000 Try.func19 rfl rfl (Nat.le_of_ble_eq_true rfl) ?_
  simp only [Try.f19, go_sem]
  by_cases h1 : a.length = b.length
  · have d1 : ((a.length : Int) != b.length) = false := by simp [h1]
    simp only [go_sem, d1, Option.some.injEq, forall_eq', and_true, true_and, Bool.not_true, Bool.not_false, Nat.reduceAdd, Nat.reduceSub, Nat.reduceLT, Nat.reduceLeDiff, Nat.reduceEqDiff, ↓reduceIte]
    refine eloop (S := Nat) (fun i => mkE 26 [(0, .d (.sl (a.map mkD))), (1, .d (.sl (b.map mkD))), (5, .d (.int .i64 i))]) (fun i => []) (fun i => i ≤ a.length ∧ ∀ j x, a[j]? = some x → j < i → b[j]? = some x) (fun i => a.length - i) 0 ⟨by omega, by omega⟩ (Wk.sub (by simp only [go_sem]; trivial)) ?_
    rintro i ⟨hi, hj⟩
    rcases Nat.lt_or_ge i a.length with h2 | h2
    · have d2 : decide ((i : Int) < a.length) = true := by simp; omega
      obtain ⟨x, hx⟩ : ∃ x, a[i]? = some x := ⟨a[i]'(by omega), List.getElem?_eq_getElem _⟩
      obtain ⟨y, hy⟩ : ∃ x, b[i]? = some x := ⟨b[i]'(by omega), List.getElem?_eq_getElem _⟩
      have n1 : (0 ≤ (i : Int) ∧ (i : Int) < a.length) = True := eq_true (by omega)
      have n2 : (0 ≤ (i : Int) ∧ (i : Int) < b.length) = True := eq_true (by omega)
      have n3 : (i < a.length) = True := eq_true (by omega)
      have n4 : (i < b.length) = True := eq_true (by omega)
      have hxy := mkD_eq x y
      simp only [mkD, deqs, deq, Bool.and_true] at hxy
      cases h3 : decide (x = y)
      · have h4 := hxy.trans h3
        simp only [go_sem, d2, Option.some.injEq, forall_eq', and_true, true_and, Bool.not_true, Bool.not_false, Nat.reduceAdd, Nat.reduceSub, Nat.reduceLT, Nat.reduceLeDiff, Nat.reduceEqDiff, ↓reduceIte]
        refine DX.plain (.take 0 false (.take 1 false (.take 2 false (.take 3 false (.take 4 false (.take 5 false (.take 6 false (.take 7 false (.take 8 false .done))))))))) (by kernel_rfl) (by kernel_rfl) Ty.mixed ?_
        simp only [go_sem, n1, n2, n3, n4, hx, hy, h4, Option.some.injEq, forall_eq', and_true, true_and, Bool.not_true, Bool.not_false, Nat.reduceAdd, Nat.reduceSub, Nat.reduceLT, Nat.reduceLeDiff, Nat.reduceEqDiff, ↓reduceIte]
        simp only [decide_eq_false_iff_not] at h3
        refine wk_bool (decide_eq_false fun e => h3 ?_).symm
        subst e; rw [hx] at hy; exact Option.some.inj hy
      · have h4 := hxy.trans h3
        simp only [go_sem, d2, Option.some.injEq, forall_eq', and_true, true_and, Bool.not_true, Bool.not_false, Nat.reduceAdd, Nat.reduceSub, Nat.reduceLT, Nat.reduceLeDiff, Nat.reduceEqDiff, ↓reduceIte]
        refine DX.plain (.take 0 false (.take 1 false (.take 2 false (.take 3 false (.take 4 false (.take 5 false (.take 6 false (.take 7 false (.take 8 false .done))))))))) (by kernel_rfl) (by kernel_rfl) Ty.mixed ?_
        simp only [go_sem, n1, n2, n3, n4, hx, hy, h4, Option.some.injEq, forall_eq', and_true, true_and, Bool.not_true, Bool.not_false, Nat.reduceAdd, Nat.reduceSub, Nat.reduceLT, Nat.reduceLeDiff, Nat.reduceEqDiff, ↓reduceIte]
        simp only [decide_eq_true_eq] at h3
        rw [i64_in _ (by omega)]
        exact .mk (i + 1) ⟨by omega, upto_succ hx (by rw [h3]; exact hy) hj⟩ (by omega) (Wk.sub (by simp only [go_sem]; trivial))
    · have d2 : decide ((i : Int) < a.length) = false := by simp; omega
      simp only [go_sem, d2, Option.some.injEq, forall_eq', and_true, true_and, Bool.not_true, Bool.not_false, Nat.reduceAdd, Nat.reduceSub, Nat.reduceLT, Nat.reduceLeDiff, Nat.reduceEqDiff, ↓reduceIte]
      refine wk_bool (decide_eq_true ?_).symm
      refine List.ext_getElem? fun j => ?_
      rcases Nat.lt_or_ge j a.length with q | q
      · have hx := List.getElem?_eq_getElem q
        rw [hx]; exact (hj j _ hx (by omega)).symm
      · rw [List.getElem?_eq_none q, List.getElem?_eq_none (by omega)]
  · have d1 : ((a.length : Int) != b.length) = true := by simp; omega
    simp only [go_sem, d1, Option.some.injEq, forall_eq', and_true, true_and, Bool.not_true, Bool.not_false, Nat.reduceAdd, Nat.reduceSub, Nat.reduceLT, Nat.reduceLeDiff, Nat.reduceEqDiff, ↓reduceIte]
    exact wk_bool (decide_eq_false fun e => h1 (by rw [e])).symm
theorem Stem_ref (l : List Br) (cs : List Int) (a b : ByteArray) (hl : Sm l.length) (hc : Sm cs.length) : Spec Try.prog 14 [.d (.sl (l.map bD)), .d (.sl (cs.map iD)), .d (.str a), .d (.str b)] [] (.tup [.d (.int .i64 (stemR l cs a b).1), .d (.int .i64 (stemR l cs a b).2)]) [] := by
  refine spec_of_ev (fn := Try.f14) DX_ok 3000 Try.func14 rfl rfl (Nat.le_of_ble_eq_true rfl) ?_
  simp only [Try.f14, go_sem]
  refine ecall0 _ (fits_ref l cs hl hc) (by simp only [go_sem]) (by simp only [go_sem]) ?_
  simp only [go_sem, Nat.reduceAdd, Nat.reduceSub, Nat.reduceLT, Nat.reduceLeDiff, Nat.reduceEqDiff, ↓reduceIte]
  refine cbs (fun h1 => ?_) (fun h1 => ?_)
  · simp only [go_sem, Nat.reduceAdd, Nat.reduceSub, Nat.reduceLT, Nat.reduceLeDiff, Nat.reduceEqDiff, ↓reduceIte]
    refine ecall0 _ (fits_ref l cs hl hc) (by simp only [go_sem]) (by simp only [go_sem]) ?_
    simp only [go_sem, Nat.reduceAdd, Nat.reduceSub, Nat.reduceLT, Nat.reduceLeDiff, Nat.reduceEqDiff, ↓reduceIte]
    simp only [bne_iff_ne, ne_eq] at h1
    have e : stemR l cs a b = (0, fits l cs) := by simp only [stemR]; rw [if_pos h1]
    rw [e]
    exact Wk.refl _ _ _
  simp only [go_sem, Nat.reduceAdd, Nat.reduceSub, Nat.reduceLT, Nat.reduceLeDiff, Nat.reduceEqDiff, ↓reduceIte]
  simp only [bne_eq_false_iff_eq] at h1
  have g := good_of h1
  refine ecall0 _ (index_ref l a hl) (by simp only [go_sem]) (by simp only [go_sem]) ?_
  simp only [go_sem, Nat.reduceAdd, Nat.reduceSub, Nat.reduceLT, Nat.reduceLeDiff, Nat.reduceEqDiff, ↓reduceIte]
  refine ecall0 _ (index_ref l b hl) (by simp only [go_sem]) (by simp only [go_sem]) ?_
  simp only [go_sem, Nat.reduceAdd, Nat.reduceSub, Nat.reduceLT, Nat.reduceLeDiff, Nat.reduceEqDiff, ↓reduceIte]
  have bad : (idx (has a) l < 0 ∨ idx (has b) l < 0) → stemR l cs a b = (0, 6) := fun h => by simp only [stemR]; rw [if_neg (by omega), if_pos h]
  rcases Int.lt_or_le (idx (has a) l) 0 with h2 | h2
  · have d1 := decide_eq_true h2
    simp only [go_sem, d1, Option.some.injEq, forall_eq', and_true, true_and, Bool.not_true, Bool.not_false, Nat.reduceAdd, Nat.reduceSub, Nat.reduceLT, Nat.reduceLeDiff, Nat.reduceEqDiff, ↓reduceIte]
    rw [bad (.inl h2)]
    exact Wk.refl _ _ _
  have d1 := decide_eq_false (Int.not_lt.2 h2)
  rcases Int.lt_or_le (idx (has b) l) 0 with h3 | h3
  · have d2 := decide_eq_true h3
    simp only [go_sem, d1, d2, Option.some.injEq, forall_eq', and_true, true_and, Bool.not_true, Bool.not_false, Nat.reduceAdd, Nat.reduceSub, Nat.reduceLT, Nat.reduceLeDiff, Nat.reduceEqDiff, ↓reduceIte]
    rw [bad (.inr h3)]
    exact Wk.refl _ _ _
  have d2 := decide_eq_false (Int.not_lt.2 h3)
  obtain ⟨i, x, i1, i2, i3⟩ := idx_get h2
  obtain ⟨k, y, k1, k2, k3⟩ := idx_get h3
  have hil := some_lt i2
  have hkl := some_lt k2
  have hvl := g.vlen
  have hl8 := g.ok.len
  obtain ⟨v, hv⟩ := good_view g hil
  obtain ⟨w, hw⟩ := good_view g hkl
  have e : stemR l cs a b = ((lcp v w : Int), 0) := by
    simp only [stemR]; rw [if_neg (by omega), if_neg (by omega), i1, k1]; simp [List.getD_eq_getElem?_getD, hv, hw]
  rw [e]
  have hle := lcp_le v w
  obtain ⟨ci, hci⟩ : ∃ c, cs[i]? = some c := ⟨cs[i]'(by have := g.len; omega), List.getElem?_eq_getElem _⟩
  have hvlen := fit_len g.ok g.fit i2 hci hv
  have hgi := g.ok.good _ _ i2
  have hgc := g.cnt ci (List.mem_of_getElem? hci)
  simp only [go_sem, d1, d2, Option.some.injEq, forall_eq', and_true, true_and, Bool.not_true, Bool.not_false, Nat.reduceAdd, Nat.reduceSub, Nat.reduceLT, Nat.reduceLeDiff, Nat.reduceEqDiff, ↓reduceIte]
  refine ecall0 _ (views_ref l cs g.chk g.len g.cnt) (by simp only [go_sem]) (by simp only [go_sem]) ?_
  simp only [go_sem, Nat.reduceAdd, Nat.reduceSub, Nat.reduceLT, Nat.reduceLeDiff, Nat.reduceEqDiff, ↓reduceIte]
  have n1 : (0 ≤ (i : Int) ∧ (i : Int) < (vw l cs).length) = True := eq_true (by omega)
  have n2 : (0 ≤ (k : Int) ∧ (k : Int) < (vw l cs).length) = True := eq_true (by omega)
  have n3 : (i < (vw l cs).length) = True := eq_true (by omega)
  have n4 : (k < (vw l cs).length) = True := eq_true (by omega)
  refine eloop (S := Nat) (fun n => mkE 76 [(10, .d (.int .i64 i)), (11, .d (.int .i64 k)), (12, .d (.sl ((vw l cs).map vD))), (14, .d (.int .i64 n))]) (fun n => []) (fun n => n ≤ lcp v w) (fun n => lcp v w - n) 0 (Nat.zero_le _) (by rw [i1, k1]; exact (Wk.sub (by simp only [go_sem]; trivial))) ?_
  intro n hn
  rcases Nat.lt_or_ge n v.length with h4 | h4
  · have d3 : decide ((n : Int) < v.length) = true := by simp; omega
    obtain ⟨x', hx⟩ : ∃ x, v[n]? = some x := ⟨v[n]'(by omega), List.getElem?_eq_getElem _⟩
    have n5 : (0 ≤ (n : Int) ∧ (n : Int) < v.length) = True := eq_true (by omega)
    have n6 : (n < v.length) = True := eq_true (by omega)
    rcases Nat.lt_or_ge n w.length with h5 | h5
    · have d4 : decide ((n : Int) < w.length) = true := by simp; omega
      obtain ⟨y', hy⟩ : ∃ x, w[n]? = some x := ⟨w[n]'(by omega), List.getElem?_eq_getElem _⟩
      have n7 : (0 ≤ (n : Int) ∧ (n : Int) < w.length) = True := eq_true (by omega)
      have n8 : (n < w.length) = True := eq_true (by omega)
      have hxy := mkD_eq x' y'
      simp only [mkD, deqs, deq, Bool.and_true] at hxy
      cases h6 : decide (x' = y')
      · have h7 := hxy.trans h6
        simp only [go_sem, d3, Option.some.injEq, forall_eq', and_true, true_and, Bool.not_true, Bool.not_false, Nat.reduceAdd, Nat.reduceSub, Nat.reduceLT, Nat.reduceLeDiff, Nat.reduceEqDiff, ↓reduceIte]
        refine DX.plain (.take 0 false (.take 1 false (.take 2 false (.take 3 false (.take 4 false (.take 5 false (.take 6 false (.take 7 false (.take 8 false (.take 9 false (.take 10 false (.take 11 false (.take 12 false (.take 13 false (.take 14 false (.take 15 false (.take 16 false (.take 17 false (.take 18 false (.take 19 false (.take 20 false (.take 21 false (.take 22 false (.take 23 false (.take 24 false (.take 25 false (.take 26 false (.take 27 false (.take 28 false (.take 29 false (.take 30 false (.take 31 false (.take 32 false .done))))))))))))))))))))))))))))))))) (by kernel_rfl) (by kernel_rfl) Ty.mixed ?_
        simp only [go_sem, n1, n2, n3, n4, n5, n6, n7, n8, hv, hw, hx, hy, d3, d4, h7, Option.some.injEq, forall_eq', and_true, true_and, Bool.not_true, Bool.not_false, Nat.reduceAdd, Nat.reduceSub, Nat.reduceLT, Nat.reduceLeDiff, Nat.reduceEqDiff, ↓reduceIte]
        have : n = lcp v w := by
          rcases Nat.lt_or_ge n (lcp v w) with q | q
          · obtain ⟨z, z1, z2⟩ := lcp_get q
            rw [hx] at z1; rw [hy] at z2; cases z1; cases z2; simp at h6
          · omega
        rw [← this]
        exact Wk.refl _ _ _
      · have h7 := hxy.trans h6
        simp only [go_sem, d3, Option.some.injEq, forall_eq', and_true, true_and, Bool.not_true, Bool.not_false, Nat.reduceAdd, Nat.reduceSub, Nat.reduceLT, Nat.reduceLeDiff, Nat.reduceEqDiff, ↓reduceIte]
        refine DX.plain (.take 0 false (.take 1 false (.take 2 false (.take 3 false (.take 4 false (.take 5 false (.take 6 false (.take 7 false (.take 8 false (.take 9 false (.take 10 false (.take 11 false (.take 12 false (.take 13 false (.take 14 false (.take 15 false (.take 16 false (.take 17 false (.take 18 false (.take 19 false (.take 20 false (.take 21 false (.take 22 false (.take 23 false (.take 24 false (.take 25 false (.take 26 false (.take 27 false (.take 28 false (.take 29 false (.take 30 false (.take 31 false (.take 32 false .done))))))))))))))))))))))))))))))))) (by kernel_rfl) (by kernel_rfl) Ty.mixed ?_
        simp only [go_sem, n1, n2, n3, n4, n5, n6, n7, n8, hv, hw, hx, hy, d3, d4, h7, Option.some.injEq, forall_eq', and_true, true_and, Bool.not_true, Bool.not_false, Nat.reduceAdd, Nat.reduceSub, Nat.reduceLT, Nat.reduceLeDiff, Nat.reduceEqDiff, ↓reduceIte]
        simp only [decide_eq_true_eq] at h6
        rw [i64_in _ (by omega)]
        have : n < lcp v w := by
          rcases Nat.lt_or_ge n (lcp v w) with q | q
          · exact q
          · have : n = lcp v w := by omega
            subst this; subst h6
            exact (lcp_stop hx hy).elim
        exact .mk (n + 1) this (by omega) (Wk.sub (by simp only [go_sem]; trivial))
    · have d4 : decide ((n : Int) < w.length) = false := by simp; omega
      simp only [go_sem, d3, Option.some.injEq, forall_eq', and_true, true_and, Bool.not_true, Bool.not_false, Nat.reduceAdd, Nat.reduceSub, Nat.reduceLT, Nat.reduceLeDiff, Nat.reduceEqDiff, ↓reduceIte]
      refine DX.plain (.take 0 false (.take 1 false (.take 2 false (.take 3 false (.take 4 false (.take 5 false (.take 6 false (.take 7 false (.take 8 false (.take 9 false (.take 10 false (.take 11 false (.take 12 false (.take 13 false (.take 14 false (.take 15 false (.take 16 false (.take 17 false (.take 18 false (.take 19 false (.take 20 false (.take 21 false (.take 22 false (.take 23 false (.take 24 false (.take 25 false (.take 26 false (.take 27 false (.take 28 false (.take 29 false (.take 30 false (.take 31 false (.take 32 false .done))))))))))))))))))))))))))))))))) (by kernel_rfl) (by kernel_rfl) Ty.mixed ?_
      simp only [go_sem, n1, n2, n3, n4, n5, n6, hv, hw, hx, d3, d4, Option.some.injEq, forall_eq', and_true, true_and, Bool.not_true, Bool.not_false, Nat.reduceAdd, Nat.reduceSub, Nat.reduceLT, Nat.reduceLeDiff, Nat.reduceEqDiff, ↓reduceIte]
      have : n = lcp v w := by omega
      rw [← this]
      exact Wk.refl _ _ _
  · have d3 : decide ((n : Int) < v.length) = false := by simp; omega
    simp only [go_sem, d3, Option.some.injEq, forall_eq', and_true, true_and, Bool.not_true, Bool.not_false, Nat.reduceAdd, Nat.reduceSub, Nat.reduceLT, Nat.reduceLeDiff, Nat.reduceEqDiff, ↓reduceIte]
    refine DX.plain (.take 0 false (.take 1 false (.take 2 false (.take 3 false (.take 4 false (.take 5 false (.take 6 false (.take 7 false (.take 8 false (.take 9 false (.take 10 false (.take 11 false (.take 12 false (.take 13 false (.take 14 false (.take 15 false (.take 16 false (.take 17 false (.take 18 false (.take 19 false (.take 20 false (.take 21 false (.take 22 false (.take 23 false (.take 24 false (.take 25 false (.take 26 false (.take 27 false (.take 28 false (.take 29 false (.take 30 false (.take 31 false (.take 32 false .done))))))))))))))))))))))))))))))))) (by kernel_rfl) (by kernel_rfl) Ty.mixed ?_
    simp only [go_sem, n1, n2, n3, n4, hv, hw, d3, Option.some.injEq, forall_eq', and_true, true_and, Bool.not_true, Bool.not_false, Nat.reduceAdd, Nat.reduceSub, Nat.reduceLT, Nat.reduceLeDiff, Nat.reduceEqDiff, ↓reduceIte]
    have : n = lcp v w := by omega
    rw [← this]
    exact Wk.refl _ _ _
end Go.AX.Br

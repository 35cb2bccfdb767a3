/- Branches: names. -/
import Derived.Test.YtnmgmlmiijljmaaBa0
set_option maxHeartbeats 8000000
set_option linter.unusedVariables false
set_option linter.unusedSimpArgs false
set_option maxRecDepth 20000
namespace Go.AX.Br
open Go.Proofs Go.RowKit Go.IntWalk
def okc (c : Int) : Bool := decide (c = 45 ∨ (97 ≤ c ∧ c ≤ 122) ∨ (48 ≤ c ∧ c ≤ 57))
def isNm (s : ByteArray) : Bool := decide (1 ≤ s.size ∧ s.size ≤ 40 ∧ 97 ≤ bt s 0 ∧ bt s 0 ≤ 122) && (List.range s.size).all fun i => okc (bt s i)
theorem nm_first {s : ByteArray} (h : ¬ (1 ≤ s.size ∧ s.size ≤ 40 ∧ 97 ≤ bt s 0 ∧ bt s 0 ≤ 122)) : isNm s = false := by simp only [isNm, decide_eq_false h, Bool.false_and]
theorem nm_bad {s : ByteArray} {i : Nat} (hi : i < s.size) (h : okc (bt s i) = false) : isNm s = false := by
  have : ((List.range s.size).all fun i => okc (bt s i)) = false := by
    rw [List.all_eq_false]
    exact ⟨i, by simpa using hi, by simp [h]⟩
  simp [isNm, this]
theorem nm_all {s : ByteArray} (h0 : 1 ≤ s.size ∧ s.size ≤ 40 ∧ 97 ≤ bt s 0 ∧ bt s 0 ≤ 122) (h : ∀ i, i < s.size → okc (bt s i) = true) : isNm s = true := by
  have : ((List.range s.size).all fun i => okc (bt s i)) = true := by
    rw [List.all_eq_true]; intro i hi; exact h i (by simpa using hi)
  simp only [isNm, this, decide_eq_true h0, Bool.and_true]
theorem name_ref (s : ByteArray) : Spec Try.prog 39 [.d (.str s)] [] (.d (.bool (isNm s))) [] := by
  refine spec_of_ev (fn := Try.f39) DX_ok 3000 Try.func39 rfl rfl (Nat.le_of_ble_eq_true rfl) ?_
  simp (maxSteps := 4000000) -implicitDefEqProofs only [Try.f39, go_sem]
  refine gbs (fun h1 => ?_) (fun h1 => ?_)
  · simp (maxSteps := 4000000) -implicitDefEqProofs only [go_sem, Nat.reduceAdd, Nat.reduceSub, Nat.reduceLT, Nat.reduceLeDiff, Nat.reduceEqDiff, ↓reduceIte]
    simp only [decide_eq_true_eq] at h1
    exact wk_bool (nm_first (by omega)).symm
  simp (maxSteps := 4000000) -implicitDefEqProofs only [go_sem, Nat.reduceAdd, Nat.reduceSub, Nat.reduceLT, Nat.reduceLeDiff, Nat.reduceEqDiff, ↓reduceIte]
  simp only [decide_eq_false_iff_not] at h1
  refine gbs (fun h2 => ?_) (fun h2 => ?_)
  · simp (maxSteps := 4000000) -implicitDefEqProofs only [go_sem, Nat.reduceAdd, Nat.reduceSub, Nat.reduceLT, Nat.reduceLeDiff, Nat.reduceEqDiff, ↓reduceIte]
    simp only [decide_eq_true_eq] at h2
    exact wk_bool (nm_first (by omega)).symm
  simp (maxSteps := 4000000) -implicitDefEqProofs only [go_sem, Nat.reduceAdd, Nat.reduceSub, Nat.reduceLT, Nat.reduceLeDiff, Nat.reduceEqDiff, ↓reduceIte]
  simp only [decide_eq_false_iff_not] at h2
  refine ⟨by omega, ?_⟩
  refine gbs (fun h3 => ?_) (fun h3 => ?_)
  · simp (maxSteps := 4000000) -implicitDefEqProofs only [go_sem, Nat.reduceAdd, Nat.reduceSub, Nat.reduceLT, Nat.reduceLeDiff, Nat.reduceEqDiff, ↓reduceIte]
    simp only [decide_eq_true_eq] at h3
    exact wk_bool (nm_first (by omega)).symm
  simp (maxSteps := 4000000) -implicitDefEqProofs only [go_sem, Nat.reduceAdd, Nat.reduceSub, Nat.reduceLT, Nat.reduceLeDiff, Nat.reduceEqDiff, ↓reduceIte]
  simp only [decide_eq_false_iff_not] at h3
  refine ⟨by omega, ?_⟩
  refine cbs (fun h4 => ?_) (fun h4 => ?_)
  · simp (maxSteps := 4000000) -implicitDefEqProofs only [go_sem, Nat.reduceAdd, Nat.reduceSub, Nat.reduceLT, Nat.reduceLeDiff, Nat.reduceEqDiff, ↓reduceIte]
    simp only [decide_eq_true_eq] at h4
    exact wk_bool (nm_first (by omega)).symm
  simp (maxSteps := 4000000) -implicitDefEqProofs only [go_sem, Nat.reduceAdd, Nat.reduceSub, Nat.reduceLT, Nat.reduceLeDiff, Nat.reduceEqDiff, ↓reduceIte]
  simp only [decide_eq_false_iff_not] at h4
  refine eloop (S := Nat) (fun i => mkE 56 [(0, .d (.str s)), (3, .d (.int .i64 i))]) (fun i => []) (fun i => i ≤ s.size ∧ ∀ j, j < i → okc (bt s j) = true) (fun i => s.size - i) 0 ⟨by omega, by omega⟩ (Wk.sub (by (simp only [go_sem]) <;> trivial)) ?_
  rintro i ⟨hi, hj⟩
  simp (maxSteps := 4000000) -implicitDefEqProofs only [go_sem, Nat.reduceAdd, Nat.reduceSub, Nat.reduceLT, Nat.reduceLeDiff, Nat.reduceEqDiff, ↓reduceIte]
  refine cbs (fun h5 => ?_) (fun h5 => ?_)
  · simp only [decide_eq_true_eq] at h5
    simp (maxSteps := 4000000) -implicitDefEqProofs only [go_sem, Nat.reduceAdd, Nat.reduceSub, Nat.reduceLT, Nat.reduceLeDiff, Nat.reduceEqDiff, ↓reduceIte]
    have need : (0 ≤ (i : Int) ∧ (i : Int) < s.size) = True := eq_true (by omega)
    refine ⟨by omega, ?_⟩
    have hc : (bt s i = 45) ∨ (bt s i < 48 ∧ bt s i ≠ 45) ∨ (48 ≤ bt s i ∧ bt s i ≤ 57) ∨ (58 ≤ bt s i ∧ bt s i < 97) ∨ (97 ≤ bt s i ∧ bt s i ≤ 122) ∨ (122 < bt s i) := by omega
    rcases hc with hb | hb | hb | hb | hb | hb
    · have d1 : (bt s i != 45) = false := by simp; omega
      have d2 : decide (bt s i < 97) = true := by simp; omega
      have d3 : decide (122 < bt s i) = false := by simp; omega
      have d4 : decide (bt s i < 48) = true := by simp; omega
      have d5 : decide (57 < bt s i) = false := by simp; omega
      simp only [go_sem, d1, d2, d3, d4, d5, need, Nat.reduceAdd, Nat.reduceSub, Nat.reduceLT, Nat.reduceLeDiff, Nat.reduceEqDiff, ↓reduceIte]
      rw [i64_in _ (by omega)]
      have hk : okc (bt s i) = true := by simp [okc]; omega
      exact .mk (i + 1) ⟨by omega, fun j hlt => by rcases Nat.lt_or_ge j i with q | q; exact hj j q; exact (show j = i by omega) ▸ hk⟩ (by omega) (Wk.sub (by (simp only [go_sem]) <;> trivial))
    · have d1 : (bt s i != 45) = true := by simp; omega
      have d2 : decide (bt s i < 97) = true := by simp; omega
      have d3 : decide (122 < bt s i) = false := by simp; omega
      have d4 : decide (bt s i < 48) = true := by simp; omega
      have d5 : decide (57 < bt s i) = false := by simp; omega
      simp only [go_sem, d1, d2, d3, d4, d5, need, Nat.reduceAdd, Nat.reduceSub, Nat.reduceLT, Nat.reduceLeDiff, Nat.reduceEqDiff, ↓reduceIte]
      exact wk_bool (nm_bad (i := i) (by omega) (by simp [okc]; omega)).symm
    · have d1 : (bt s i != 45) = true := by simp; omega
      have d2 : decide (bt s i < 97) = true := by simp; omega
      have d3 : decide (122 < bt s i) = false := by simp; omega
      have d4 : decide (bt s i < 48) = false := by simp; omega
      have d5 : decide (57 < bt s i) = false := by simp; omega
      simp only [go_sem, d1, d2, d3, d4, d5, need, Nat.reduceAdd, Nat.reduceSub, Nat.reduceLT, Nat.reduceLeDiff, Nat.reduceEqDiff, ↓reduceIte]
      rw [i64_in _ (by omega)]
      have hk : okc (bt s i) = true := by simp [okc]; omega
      exact .mk (i + 1) ⟨by omega, fun j hlt => by rcases Nat.lt_or_ge j i with q | q; exact hj j q; exact (show j = i by omega) ▸ hk⟩ (by omega) (Wk.sub (by (simp only [go_sem]) <;> trivial))
    · have d1 : (bt s i != 45) = true := by simp; omega
      have d2 : decide (bt s i < 97) = true := by simp; omega
      have d3 : decide (122 < bt s i) = false := by simp; omega
      have d4 : decide (bt s i < 48) = false := by simp; omega
      have d5 : decide (57 < bt s i) = true := by simp; omega
      simp only [go_sem, d1, d2, d3, d4, d5, need, Nat.reduceAdd, Nat.reduceSub, Nat.reduceLT, Nat.reduceLeDiff, Nat.reduceEqDiff, ↓reduceIte]
      exact wk_bool (nm_bad (i := i) (by omega) (by simp [okc]; omega)).symm
    · have d1 : (bt s i != 45) = true := by simp; omega
      have d2 : decide (bt s i < 97) = false := by simp; omega
      have d3 : decide (122 < bt s i) = false := by simp; omega
      have d4 : decide (bt s i < 48) = false := by simp; omega
      have d5 : decide (57 < bt s i) = true := by simp; omega
      simp only [go_sem, d1, d2, d3, d4, d5, need, Nat.reduceAdd, Nat.reduceSub, Nat.reduceLT, Nat.reduceLeDiff, Nat.reduceEqDiff, ↓reduceIte]
      rw [i64_in _ (by omega)]
      have hk : okc (bt s i) = true := by simp [okc]; omega
      exact .mk (i + 1) ⟨by omega, fun j hlt => by rcases Nat.lt_or_ge j i with q | q; exact hj j q; exact (show j = i by omega) ▸ hk⟩ (by omega) (Wk.sub (by (simp only [go_sem]) <;> trivial))
    · have d1 : (bt s i != 45) = true := by simp; omega
      have d2 : decide (bt s i < 97) = false := by simp; omega
      have d3 : decide (122 < bt s i) = true := by simp; omega
      have d4 : decide (bt s i < 48) = false := by simp; omega
      have d5 : decide (57 < bt s i) = true := by simp; omega
      simp only [go_sem, d1, d2, d3, d4, d5, need, Nat.reduceAdd, Nat.reduceSub, Nat.reduceLT, Nat.reduceLeDiff, Nat.reduceEqDiff, ↓reduceIte]
      exact wk_bool (nm_bad (i := i) (by omega) (by simp [okc]; omega)).symm
  · simp (maxSteps := 4000000) -implicitDefEqProofs only [go_sem, Nat.reduceAdd, Nat.reduceSub, Nat.reduceLT, Nat.reduceLeDiff, Nat.reduceEqDiff, ↓reduceIte]
    simp only [decide_eq_false_iff_not] at h5
    exact wk_bool (nm_all (by omega) fun j hlt => hj j (by omega)).symm
theorem dec_ok (s : ByteArray) (i : Nat) (hi : i < s.size) : okc ((Utf8.decode s i).1 : Int) = okc (bt s i) ∧ (okc ((Utf8.decode s i).1 : Int) = true → (Utf8.decode s i).2 = 1) ∧ 0 ≤ ((Utf8.decode s i).1 : Int) := by
  have hb := bt_get s i hi
  rcases Nat.lt_or_ge (s.get! i).toNat 128 with h | h
  · rw [dec_small s i h, hb]; exact ⟨rfl, fun _ => rfl, by omega⟩
  · have h1 := dec_big s i h
    have e1 : okc ((Utf8.decode s i).1 : Int) = false := by simp only [okc, decide_eq_false_iff_not]; omega
    have e2 : okc (bt s i) = false := by rw [hb]; simp only [okc, decide_eq_false_iff_not]; omega
    exact ⟨by rw [e1, e2], (fun q => by rw [e1] at q; exact absurd q (by simp)), by omega⟩
theorem name_own (s : ByteArray) : Spec Try.prog 54 [.d (.str s)] [] (.d (.bool (isNm s))) [] := by
  refine spec_of_ev (fn := Try.f54) DX_ok 3000 Try.func54 rfl rfl (Nat.le_of_ble_eq_true rfl) ?_
  simp (maxSteps := 4000000) -implicitDefEqProofs only [Try.f54, go_sem]
  refine gbs (fun h1 => ?_) (fun h1 => ?_)
  · simp (maxSteps := 4000000) -implicitDefEqProofs only [go_sem, Nat.reduceAdd, Nat.reduceSub, Nat.reduceLT, Nat.reduceLeDiff, Nat.reduceEqDiff, ↓reduceIte]
    simp only [beq_iff_eq] at h1
    exact wk_bool (nm_first (by omega)).symm
  simp (maxSteps := 4000000) -implicitDefEqProofs only [go_sem, Nat.reduceAdd, Nat.reduceSub, Nat.reduceLT, Nat.reduceLeDiff, Nat.reduceEqDiff, ↓reduceIte]
  simp only [beq_eq_false_iff_ne, ne_eq] at h1
  refine gbs (fun h2 => ?_) (fun h2 => ?_)
  · simp (maxSteps := 4000000) -implicitDefEqProofs only [go_sem, Nat.reduceAdd, Nat.reduceSub, Nat.reduceLT, Nat.reduceLeDiff, Nat.reduceEqDiff, ↓reduceIte]
    simp only [decide_eq_true_eq] at h2
    exact wk_bool (nm_first (by omega)).symm
  simp (maxSteps := 4000000) -implicitDefEqProofs only [go_sem, Nat.reduceAdd, Nat.reduceSub, Nat.reduceLT, Nat.reduceLeDiff, Nat.reduceEqDiff, ↓reduceIte]
  simp only [decide_eq_false_iff_not] at h2
  refine ⟨by omega, ?_⟩
  refine gbs (fun h3 => ?_) (fun h3 => ?_)
  · simp (maxSteps := 4000000) -implicitDefEqProofs only [go_sem, Nat.reduceAdd, Nat.reduceSub, Nat.reduceLT, Nat.reduceLeDiff, Nat.reduceEqDiff, ↓reduceIte]
    simp only [decide_eq_true_eq] at h3
    exact wk_bool (nm_first (by omega)).symm
  simp (maxSteps := 4000000) -implicitDefEqProofs only [go_sem, Nat.reduceAdd, Nat.reduceSub, Nat.reduceLT, Nat.reduceLeDiff, Nat.reduceEqDiff, ↓reduceIte]
  simp only [decide_eq_false_iff_not] at h3
  refine ⟨by omega, ?_⟩
  refine cbs (fun h4 => ?_) (fun h4 => ?_)
  · simp (maxSteps := 4000000) -implicitDefEqProofs only [go_sem, Nat.reduceAdd, Nat.reduceSub, Nat.reduceLT, Nat.reduceLeDiff, Nat.reduceEqDiff, ↓reduceIte]
    simp only [decide_eq_true_eq] at h4
    exact wk_bool (nm_first (by omega)).symm
  simp (maxSteps := 4000000) -implicitDefEqProofs only [go_sem, Nat.reduceAdd, Nat.reduceSub, Nat.reduceLT, Nat.reduceLeDiff, Nat.reduceEqDiff, ↓reduceIte]
  simp only [decide_eq_false_iff_not] at h4
  refine eloop (S := Nat) (fun i => mkE 46 [(0, .d (.str s)), (24, .ptr 0 0)]) (fun i => [.iter s i]) (fun i => i ≤ s.size ∧ ∀ j, j < i → okc (bt s j) = true) (fun i => s.size - i) 0 ⟨by omega, by omega⟩ (Wk.sub (by simp only [go_sem])) ?_
  rintro i ⟨hi, hj⟩
  simp (maxSteps := 4000000) -implicitDefEqProofs only [go_sem, Nat.reduceAdd, Nat.reduceSub, Nat.reduceLT, Nat.reduceLeDiff, Nat.reduceEqDiff, ↓reduceIte]
  refine ⟨fun h5 => ?_, fun h5 => ?_⟩
  · simp only [decide_eq_true_eq] at h5
    obtain ⟨k1, k2, k3⟩ := dec_ok s i h5
    generalize hc : ((Utf8.decode s i).1 : Int) = c at *
    generalize hn : (Utf8.decode s i).2 = n at *
    have hcc : (c = 45) ∨ (c < 48 ∧ c ≠ 45) ∨ (48 ≤ c ∧ c ≤ 57) ∨ (58 ≤ c ∧ c < 97) ∨ (97 ≤ c ∧ c ≤ 122) ∨ (122 < c) := by omega
    rcases hcc with hb | hb | hb | hb | hb | hb
    · have d1 : (c != 45) = false := by simp; omega
      have d2 : decide (c < 97) = true := by simp; omega
      have d3 : decide (122 < c) = false := by simp; omega
      have d4 : decide (c < 48) = true := by simp; omega
      have d5 : decide (57 < c) = false := by simp; omega
      simp only [go_sem, d1, d2, d3, d4, d5, Nat.reduceAdd, Nat.reduceSub, Nat.reduceLT, Nat.reduceLeDiff, Nat.reduceEqDiff, ↓reduceIte]
      have hk : okc c = true := by simp [okc]; omega
      rw [k2 hk]
      rw [hk] at k1
      exact .mk (i + 1) ⟨by omega, fun j hlt => by rcases Nat.lt_or_ge j i with q | q; exact hj j q; exact (show j = i by omega) ▸ k1.symm⟩ (by omega) (Wk.sub (by simp only [go_sem]))
    · have d1 : (c != 45) = true := by simp; omega
      have d2 : decide (c < 97) = true := by simp; omega
      have d3 : decide (122 < c) = false := by simp; omega
      have d4 : decide (c < 48) = true := by simp; omega
      have d5 : decide (57 < c) = false := by simp; omega
      simp only [go_sem, d1, d2, d3, d4, d5, Nat.reduceAdd, Nat.reduceSub, Nat.reduceLT, Nat.reduceLeDiff, Nat.reduceEqDiff, ↓reduceIte]
      have hk : okc c = false := by simp [okc]; omega
      exact Wk.trans (Wk.out (by simp only [go_sem]) (by simp only [go_sem])) (wk_bool (τ := []) (nm_bad (i := i) h5 (by rw [← k1]; exact hk)).symm)
    · have d1 : (c != 45) = true := by simp; omega
      have d2 : decide (c < 97) = true := by simp; omega
      have d3 : decide (122 < c) = false := by simp; omega
      have d4 : decide (c < 48) = false := by simp; omega
      have d5 : decide (57 < c) = false := by simp; omega
      simp only [go_sem, d1, d2, d3, d4, d5, Nat.reduceAdd, Nat.reduceSub, Nat.reduceLT, Nat.reduceLeDiff, Nat.reduceEqDiff, ↓reduceIte]
      have hk : okc c = true := by simp [okc]; omega
      rw [k2 hk]
      rw [hk] at k1
      exact .mk (i + 1) ⟨by omega, fun j hlt => by rcases Nat.lt_or_ge j i with q | q; exact hj j q; exact (show j = i by omega) ▸ k1.symm⟩ (by omega) (Wk.sub (by simp only [go_sem]))
    · have d1 : (c != 45) = true := by simp; omega
      have d2 : decide (c < 97) = true := by simp; omega
      have d3 : decide (122 < c) = false := by simp; omega
      have d4 : decide (c < 48) = false := by simp; omega
      have d5 : decide (57 < c) = true := by simp; omega
      simp only [go_sem, d1, d2, d3, d4, d5, Nat.reduceAdd, Nat.reduceSub, Nat.reduceLT, Nat.reduceLeDiff, Nat.reduceEqDiff, ↓reduceIte]
      have hk : okc c = false := by simp [okc]; omega
      exact Wk.trans (Wk.out (by simp only [go_sem]) (by simp only [go_sem])) (wk_bool (τ := []) (nm_bad (i := i) h5 (by rw [← k1]; exact hk)).symm)
    · have d1 : (c != 45) = true := by simp; omega
      have d2 : decide (c < 97) = false := by simp; omega
      have d3 : decide (122 < c) = false := by simp; omega
      have d4 : decide (c < 48) = false := by simp; omega
      have d5 : decide (57 < c) = true := by simp; omega
      simp only [go_sem, d1, d2, d3, d4, d5, Nat.reduceAdd, Nat.reduceSub, Nat.reduceLT, Nat.reduceLeDiff, Nat.reduceEqDiff, ↓reduceIte]
      have hk : okc c = true := by simp [okc]; omega
      rw [k2 hk]
      rw [hk] at k1
      exact .mk (i + 1) ⟨by omega, fun j hlt => by rcases Nat.lt_or_ge j i with q | q; exact hj j q; exact (show j = i by omega) ▸ k1.symm⟩ (by omega) (Wk.sub (by simp only [go_sem]))
    · have d1 : (c != 45) = true := by simp; omega
      have d2 : decide (c < 97) = false := by simp; omega
      have d3 : decide (122 < c) = true := by simp; omega
      have d4 : decide (c < 48) = false := by simp; omega
      have d5 : decide (57 < c) = true := by simp; omega
      simp only [go_sem, d1, d2, d3, d4, d5, Nat.reduceAdd, Nat.reduceSub, Nat.reduceLT, Nat.reduceLeDiff, Nat.reduceEqDiff, ↓reduceIte]
      have hk : okc c = false := by simp [okc]; omega
      exact Wk.trans (Wk.out (by simp only [go_sem]) (by simp only [go_sem])) (wk_bool (τ := []) (nm_bad (i := i) h5 (by rw [← k1]; exact hk)).symm)
  · simp only [decide_eq_false_iff_not] at h5
    exact Wk.trans (Wk.out (by simp only [go_sem]) (by simp only [go_sem])) (wk_bool (τ := []) (nm_all (by omega) fun j hlt => hj j (by omega)).symm)
end Go.AX.Br

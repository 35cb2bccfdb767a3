/- Branches: names and places. -/
import Derived.Test.YtejipcfaedookaaGreatK4
import Derived.IntWalk
set_option maxHeartbeats 8000000
set_option linter.unusedVariables false
set_option linter.unusedSimpArgs false
set_option maxRecDepth 20000
namespace Go.AX.Br
open Go.Proofs Go.RowKit Go.IntWalk
structure Br where
  name : ByteArray
  frm : ByteArray
  at' : Int
def bD (b : Br) : List D := [.str b.name, .str b.frm, .int .i64 b.at']
def bA (b : Br) : AV := .agg [.d (.str b.name), .d (.str b.frm), .d (.int .i64 b.at')]
theorem bD_len {l : List Br} : (∀ e ∈ l.map bD, e.length = 3) = True := eq_true (map_len (g := bD) fun _ => rfl)
attribute [go_sem] bD bA bD_len
def has (nm : ByteArray) (b : Br) : Bool := decide (b.name = nm)
theorem br_indexFunc (l : List Br) (p : Br → Bool) (f : FuncId) (caps : List AV) (τ : List AObj) (hl : Sm l.length) (h : ∀ x ∈ l, Spec Tryz.prog f (bA x :: caps) τ (.d (.bool (p x))) τ) :
    Spec Tryz.prog 106 [.d (.sl (l.map bD)), .fn f caps] τ (.d (.int .i64 (idx p l))) τ := by
  unfold Sm at hl
  refine spec_of_ev (fn := Tryz.f106) DX_ok 3000 Tryz.func106 rfl rfl (Nat.le_of_ble_eq_true rfl) ?_
  simp (maxSteps := 4000000) -implicitDefEqProofs only [Tryz.f106, go_sem]
  refine eloop (S := Nat) (fun i => mkE 19 [(0, .d (.sl (l.map bD))), (1, .fn f caps), (6, .d (.sl (l.map bD))), (7, .d (.int .i64 l.length)), (8, .d (.int .i64 i))]) (fun i => τ) (fun i => i ≤ l.length ∧ ∀ j x, l[j]? = some x → j < i → p x = false) (fun i => l.length - i) 0 ⟨by omega, by omega⟩ (Wk.sub (by (simp only [go_sem]) <;> trivial)) ?_
  rintro i ⟨hi, hj⟩
  simp (maxSteps := 4000000) -implicitDefEqProofs only [go_sem, Nat.reduceAdd, Nat.reduceSub, Nat.reduceLT, Nat.reduceLeDiff, Nat.reduceEqDiff, ↓reduceIte]
  refine cbs (fun h1 => ?_) (fun h1 => ?_)
  · simp only [go_sem, decide_eq_true_eq] at h1 ⊢
    refine ⟨by omega, fun x hx => .all _ _ (h x (List.mem_of_getElem? hx)) ?_⟩
    simp (maxSteps := 4000000) -implicitDefEqProofs only [go_sem, Nat.reduceAdd, Nat.reduceSub, Nat.reduceLT, Nat.reduceLeDiff, Nat.reduceEqDiff, ↓reduceIte]
    refine cbs (fun h2 => ?_) (fun h2 => ?_)
    · simp (maxSteps := 4000000) -implicitDefEqProofs only [go_sem, Nat.reduceAdd, Nat.reduceSub, Nat.reduceLT, Nat.reduceLeDiff, Nat.reduceEqDiff, ↓reduceIte]
      rw [idx_found hx h2 hj]
      exact Wk.refl _ _ _
    · simp (maxSteps := 4000000) -implicitDefEqProofs only [go_sem, Nat.reduceAdd, Nat.reduceSub, Nat.reduceLT, Nat.reduceLeDiff, Nat.reduceEqDiff, ↓reduceIte]
      rw [i64_in _ (by omega)]
      refine .mk (i + 1) ⟨by omega, fun j y hy hlt => ?_⟩ (by omega) (Wk.sub (by (simp only [go_sem]) <;> trivial))
      rcases Nat.lt_or_ge j i with q | q
      · exact hj j y hy q
      · have : j = i := by omega
        subst this; rw [hx] at hy; cases hy; exact h2
  · simp only [go_sem, decide_eq_false_iff_not] at h1 ⊢
    rw [idx_none fun j y hy => hj j y hy (by have := some_lt hy; omega)]
    exact Wk.refl _ _ _
theorem has_own (b : Br) (nm : ByteArray) : Spec Tryz.prog 115 [bA b, .ptr 0 0] [.cells [.d (.str nm)]] (.d (.bool (has nm b))) [.cells [.d (.str nm)]] := by
  unfold bA
  refine spec_of_ev (fn := Tryz.f115) DX_ok 3000 Tryz.func115 rfl rfl (Nat.le_of_ble_eq_true rfl) ?_
  simp (maxSteps := 4000000) -implicitDefEqProofs only [Tryz.f115, go_sem]
  exact Wk.keep (σ := [_]) (τ := [_]) (by simp only [go_sem]) (by simp only [go_sem])
theorem index_own (l : List Br) (nm : ByteArray) (hl : Sm l.length) : Spec Tryz.prog 84 [.d (.sl (l.map bD)), .d (.str nm)] [] (.d (.int .i64 (idx (has nm) l))) [] := by
  refine spec_of_ev (fn := Tryz.f84) DX_ok 3000 Tryz.func84 rfl rfl (Nat.le_of_ble_eq_true rfl) ?_
  simp (maxSteps := 4000000) -implicitDefEqProofs only [Tryz.f84, go_sem]
  refine .all _ _ (br_indexFunc l (has nm) _ [.ptr 0 0] [_] hl fun x hx => has_own x nm) ?_
  simp (maxSteps := 4000000) -implicitDefEqProofs only [go_sem, Nat.reduceAdd, Nat.reduceSub, Nat.reduceLT, Nat.reduceLeDiff, Nat.reduceEqDiff, ↓reduceIte]
  exact Wk.forget (by simp only [go_sem]) (by simp only [go_sem])
end Go.AX.Br
namespace Go.AX.Br
open Go.Proofs Go.RowKit Go.IntWalk
theorem index_ref (l : List Br) (nm : ByteArray) (hl : Sm l.length) : Spec Tryz.prog 56 [.d (.sl (l.map bD)), .d (.str nm)] [] (.d (.int .i64 (idx (has nm) l))) [] := by
  unfold Sm at hl
  refine spec_of_ev (fn := Tryz.f56) DX_ok 3000 Tryz.func56 rfl rfl (Nat.le_of_ble_eq_true rfl) ?_
  simp (maxSteps := 4000000) -implicitDefEqProofs only [Tryz.f56, go_sem]
  refine eloop (S := Nat) (fun i => mkE 20 [(0, .d (.sl (l.map bD))), (1, .d (.str nm)), (5, .d (.int .i64 i))]) (fun i => []) (fun i => i ≤ l.length ∧ ∀ j x, l[j]? = some x → j < i → has nm x = false) (fun i => l.length - i) 0 ⟨by omega, by omega⟩ (Wk.sub (by (simp only [go_sem]) <;> trivial)) ?_
  rintro i ⟨hi, hj⟩
  simp (maxSteps := 4000000) -implicitDefEqProofs only [go_sem, Nat.reduceAdd, Nat.reduceSub, Nat.reduceLT, Nat.reduceLeDiff, Nat.reduceEqDiff, ↓reduceIte]
  refine cbs (fun h1 => ?_) (fun h1 => ?_)
  · simp only [go_sem, decide_eq_true_eq] at h1 ⊢
    refine ⟨by omega, fun x hx => cbs (fun h2 => ?_) (fun h2 => ?_)⟩
    · simp (maxSteps := 4000000) -implicitDefEqProofs only [go_sem, Nat.reduceAdd, Nat.reduceSub, Nat.reduceLT, Nat.reduceLeDiff, Nat.reduceEqDiff, ↓reduceIte]
      refine wk_int ?_
      rw [idx_found hx (p := has nm) h2 hj]
    · simp (maxSteps := 4000000) -implicitDefEqProofs only [go_sem, Nat.reduceAdd, Nat.reduceSub, Nat.reduceLT, Nat.reduceLeDiff, Nat.reduceEqDiff, ↓reduceIte]
      rw [i64_in _ (by omega)]
      refine .mk (i + 1) ⟨by omega, fun j y hy hlt => ?_⟩ (by omega) (Wk.sub (by (simp only [go_sem]) <;> trivial))
      rcases Nat.lt_or_ge j i with q | q
      · exact hj j y hy q
      · have : j = i := by omega
        subst this; rw [hx] at hy; cases hy; exact h2
  · simp only [go_sem, decide_eq_false_iff_not] at h1 ⊢
    refine wk_int ?_
    rw [idx_none fun j y hy => hj j y hy (by have := some_lt hy; omega)]
end Go.AX.Br
namespace Go.AX.Br
open Go.Proofs Go.RowKit Go.IntWalk
def okc (c : Int) : Bool := decide (c = 45 ∨ (97 ≤ c ∧ c ≤ 122) ∨ (48 ≤ c ∧ c ≤ 57))
def isNm (s : ByteArray) : Bool := decide (1 ≤ s.size ∧ s.size ≤ 40 ∧ 97 ≤ bt s 0 ∧ bt s 0 ≤ 122) && (List.range s.size).all fun i => okc (bt s i)
theorem nm_first {s : ByteArray} (h : ¬ (1 ≤ s.size ∧ s.size ≤ 40 ∧ 97 ≤ bt s 0 ∧ bt s 0 ≤ 122)) : isNm s = false := by simp only [isNm, decide_eq_false h, Bool.false_and]
theorem nm_bad {s : ByteArray} {i : Nat} (hi : i < s.size) (h : okc (bt s i) = false) : isNm s = false := by
  have : ((List.range s.size).all fun i => okc (bt s i)) = false := by
    rw [List.all_eq_false]
    exact ⟨i, by simpa using hi, by simp [h]⟩
  simp [isNm, this]
theorem nm_all {s : ByteArray} (h0 : 1 ≤ s.size ∧ s.size ≤ 40 ∧ 97 ≤ bt s 0 ∧ bt s 0 ≤ 122) (h : ∀ i, i < s.size → okc (bt s i) = true) : isNm s = true := by
  have : ((List.range s.size).all fun i => okc (bt s i)) = true := by
    rw [List.all_eq_true]; intro i hi; exact h i (by simpa using hi)
  simp only [isNm, this, decide_eq_true h0, Bool.and_true]
theorem name_ref (s : ByteArray) : Spec Tryz.prog 48 [.d (.str s)] [] (.d (.bool (isNm s))) [] := by
  refine spec_of_ev (fn := Tryz.f48) DX_ok 3000 Tryz.func48 rfl rfl (Nat.le_of_ble_eq_true rfl) ?_
  simp (maxSteps := 4000000) -implicitDefEqProofs only [Tryz.f48, go_sem]
  refine gbs (fun h1 => ?_) (fun h1 => ?_)
  · simp (maxSteps := 4000000) -implicitDefEqProofs only [go_sem, Nat.reduceAdd, Nat.reduceSub, Nat.reduceLT, Nat.reduceLeDiff, Nat.reduceEqDiff, ↓reduceIte]
    simp only [decide_eq_true_eq] at h1
    exact wk_bool (nm_first (by omega)).symm
  simp (maxSteps := 4000000) -implicitDefEqProofs only [go_sem, Nat.reduceAdd, Nat.reduceSub, Nat.reduceLT, Nat.reduceLeDiff, Nat.reduceEqDiff, ↓reduceIte]
  simp only [decide_eq_false_iff_not] at h1
  refine gbs (fun h2 => ?_) (fun h2 => ?_)
  · simp (maxSteps := 4000000) -implicitDefEqProofs only [go_sem, Nat.reduceAdd, Nat.reduceSub, Nat.reduceLT, Nat.reduceLeDiff, Nat.reduceEqDiff, ↓reduceIte]
    simp only [decide_eq_true_eq] at h2
    exact wk_bool (nm_first (by omega)).symm
  simp (maxSteps := 4000000) -implicitDefEqProofs only [go_sem, Nat.reduceAdd, Nat.reduceSub, Nat.reduceLT, Nat.reduceLeDiff, Nat.reduceEqDiff, ↓reduceIte]
  simp only [decide_eq_false_iff_not] at h2
  refine ⟨by omega, ?_⟩
  refine gbs (fun h3 => ?_) (fun h3 => ?_)
  · simp (maxSteps := 4000000) -implicitDefEqProofs only [go_sem, Nat.reduceAdd, Nat.reduceSub, Nat.reduceLT, Nat.reduceLeDiff, Nat.reduceEqDiff, ↓reduceIte]
    simp only [decide_eq_true_eq] at h3
    exact wk_bool (nm_first (by omega)).symm
  simp (maxSteps := 4000000) -implicitDefEqProofs only [go_sem, Nat.reduceAdd, Nat.reduceSub, Nat.reduceLT, Nat.reduceLeDiff, Nat.reduceEqDiff, ↓reduceIte]
  simp only [decide_eq_false_iff_not] at h3
  refine ⟨by omega, ?_⟩
  refine cbs (fun h4 => ?_) (fun h4 => ?_)
  · simp (maxSteps := 4000000) -implicitDefEqProofs only [go_sem, Nat.reduceAdd, Nat.reduceSub, Nat.reduceLT, Nat.reduceLeDiff, Nat.reduceEqDiff, ↓reduceIte]
    simp only [decide_eq_true_eq] at h4
    exact wk_bool (nm_first (by omega)).symm
  simp (maxSteps := 4000000) -implicitDefEqProofs only [go_sem, Nat.reduceAdd, Nat.reduceSub, Nat.reduceLT, Nat.reduceLeDiff, Nat.reduceEqDiff, ↓reduceIte]
  simp only [decide_eq_false_iff_not] at h4
  refine eloop (S := Nat) (fun i => mkE 56 [(0, .d (.str s)), (3, .d (.int .i64 i))]) (fun i => []) (fun i => i ≤ s.size ∧ ∀ j, j < i → okc (bt s j) = true) (fun i => s.size - i) 0 ⟨by omega, by omega⟩ (Wk.sub (by (simp only [go_sem]) <;> trivial)) ?_
  rintro i ⟨hi, hj⟩
  simp (maxSteps := 4000000) -implicitDefEqProofs only [go_sem, Nat.reduceAdd, Nat.reduceSub, Nat.reduceLT, Nat.reduceLeDiff, Nat.reduceEqDiff, ↓reduceIte]
  refine cbs (fun h5 => ?_) (fun h5 => ?_)
  · simp only [decide_eq_true_eq] at h5
    simp (maxSteps := 4000000) -implicitDefEqProofs only [go_sem, Nat.reduceAdd, Nat.reduceSub, Nat.reduceLT, Nat.reduceLeDiff, Nat.reduceEqDiff, ↓reduceIte]
    have need : (0 ≤ (i : Int) ∧ (i : Int) < s.size) = True := eq_true (by omega)
    refine ⟨by omega, ?_⟩
    have hc : (bt s i = 45) ∨ (bt s i < 48 ∧ bt s i ≠ 45) ∨ (48 ≤ bt s i ∧ bt s i ≤ 57) ∨ (58 ≤ bt s i ∧ bt s i < 97) ∨ (97 ≤ bt s i ∧ bt s i ≤ 122) ∨ (122 < bt s i) := by omega
    rcases hc with hb | hb | hb | hb | hb | hb
    · have d1 : (bt s i != 45) = false := by simp; omega
      have d2 : decide (bt s i < 97) = true := by simp; omega
      have d3 : decide (122 < bt s i) = false := by simp; omega
      have d4 : decide (bt s i < 48) = true := by simp; omega
      have d5 : decide (57 < bt s i) = false := by simp; omega
      simp only [go_sem, d1, d2, d3, d4, d5, need, Nat.reduceAdd, Nat.reduceSub, Nat.reduceLT, Nat.reduceLeDiff, Nat.reduceEqDiff, ↓reduceIte]
      rw [i64_in _ (by omega)]
      have hk : okc (bt s i) = true := by simp [okc]; omega
      exact .mk (i + 1) ⟨by omega, fun j hlt => by rcases Nat.lt_or_ge j i with q | q; exact hj j q; exact (show j = i by omega) ▸ hk⟩ (by omega) (Wk.sub (by (simp only [go_sem]) <;> trivial))
    · have d1 : (bt s i != 45) = true := by simp; omega
      have d2 : decide (bt s i < 97) = true := by simp; omega
      have d3 : decide (122 < bt s i) = false := by simp; omega
      have d4 : decide (bt s i < 48) = true := by simp; omega
      have d5 : decide (57 < bt s i) = false := by simp; omega
      simp only [go_sem, d1, d2, d3, d4, d5, need, Nat.reduceAdd, Nat.reduceSub, Nat.reduceLT, Nat.reduceLeDiff, Nat.reduceEqDiff, ↓reduceIte]
      exact wk_bool (nm_bad (i := i) (by omega) (by simp [okc]; omega)).symm
    · have d1 : (bt s i != 45) = true := by simp; omega
      have d2 : decide (bt s i < 97) = true := by simp; omega
      have d3 : decide (122 < bt s i) = false := by simp; omega
      have d4 : decide (bt s i < 48) = false := by simp; omega
      have d5 : decide (57 < bt s i) = false := by simp; omega
      simp only [go_sem, d1, d2, d3, d4, d5, need, Nat.reduceAdd, Nat.reduceSub, Nat.reduceLT, Nat.reduceLeDiff, Nat.reduceEqDiff, ↓reduceIte]
      rw [i64_in _ (by omega)]
      have hk : okc (bt s i) = true := by simp [okc]; omega
      exact .mk (i + 1) ⟨by omega, fun j hlt => by rcases Nat.lt_or_ge j i with q | q; exact hj j q; exact (show j = i by omega) ▸ hk⟩ (by omega) (Wk.sub (by (simp only [go_sem]) <;> trivial))
    · have d1 : (bt s i != 45) = true := by simp; omega
      have d2 : decide (bt s i < 97) = true := by simp; omega
      have d3 : decide (122 < bt s i) = false := by simp; omega
      have d4 : decide (bt s i < 48) = false := by simp; omega
      have d5 : decide (57 < bt s i) = true := by simp; omega
      simp only [go_sem, d1, d2, d3, d4, d5, need, Nat.reduceAdd, Nat.reduceSub, Nat.reduceLT, Nat.reduceLeDiff, Nat.reduceEqDiff, ↓reduceIte]
      exact wk_bool (nm_bad (i := i) (by omega) (by simp [okc]; omega)).symm
    · have d1 : (bt s i != 45) = true := by simp; omega
      have d2 : decide (bt s i < 97) = false := by simp; omega
      have d3 : decide (122 < bt s i) = false := by simp; omega
      have d4 : decide (bt s i < 48) = false := by simp; omega
      have d5 : decide (57 < bt s i) = true := by simp; omega
      simp only [go_sem, d1, d2, d3, d4, d5, need, Nat.reduceAdd, Nat.reduceSub, Nat.reduceLT, Nat.reduceLeDiff, Nat.reduceEqDiff, ↓reduceIte]
      rw [i64_in _ (by omega)]
      have hk : okc (bt s i) = true := by simp [okc]; omega
      exact .mk (i + 1) ⟨by omega, fun j hlt => by rcases Nat.lt_or_ge j i with q | q; exact hj j q; exact (show j = i by omega) ▸ hk⟩ (by omega) (Wk.sub (by (simp only [go_sem]) <;> trivial))
    · have d1 : (bt s i != 45) = true := by simp; omega
      have d2 : decide (bt s i < 97) = false := by simp; omega
      have d3 : decide (122 < bt s i) = true := by simp; omega
      have d4 : decide (bt s i < 48) = false := by simp; omega
      have d5 : decide (57 < bt s i) = true := by simp; omega
      simp only [go_sem, d1, d2, d3, d4, d5, need, Nat.reduceAdd, Nat.reduceSub, Nat.reduceLT, Nat.reduceLeDiff, Nat.reduceEqDiff, ↓reduceIte]
      exact wk_bool (nm_bad (i := i) (by omega) (by simp [okc]; omega)).symm
  · simp (maxSteps := 4000000) -implicitDefEqProofs only [go_sem, Nat.reduceAdd, Nat.reduceSub, Nat.reduceLT, Nat.reduceLeDiff, Nat.reduceEqDiff, ↓reduceIte]
    simp only [decide_eq_false_iff_not] at h5
    exact wk_bool (nm_all (by omega) fun j hlt => hj j (by omega)).symm
theorem dec_ok (s : ByteArray) (i : Nat) (hi : i < s.size) : okc ((Utf8.decode s i).1 : Int) = okc (bt s i) ∧ (okc ((Utf8.decode s i).1 : Int) = true → (Utf8.decode s i).2 = 1) ∧ 0 ≤ ((Utf8.decode s i).1 : Int) := by
  have hb := bt_get s i hi
  rcases Nat.lt_or_ge (s.get! i).toNat 128 with h | h
  · rw [dec_small s i h, hb]; exact ⟨rfl, fun _ => rfl, by omega⟩
  · have h1 := dec_big s i h
    have e1 : okc ((Utf8.decode s i).1 : Int) = false := by simp only [okc, decide_eq_false_iff_not]; omega
    have e2 : okc (bt s i) = false := by rw [hb]; simp only [okc, decide_eq_false_iff_not]; omega
    exact ⟨by rw [e1, e2], (fun q => by rw [e1] at q; exact absurd q (by simp)), by omega⟩
theorem name_own (s : ByteArray) : Spec Tryz.prog 118 [.d (.str s)] [] (.d (.bool (isNm s))) [] := by
  refine spec_of_ev (fn := Tryz.f118) DX_ok 3000 Tryz.func118 rfl rfl (Nat.le_of_ble_eq_true rfl) ?_
  simp (maxSteps := 4000000) -implicitDefEqProofs only [Tryz.f118, go_sem]
  refine gbs (fun h1 => ?_) (fun h1 => ?_)
  · simp (maxSteps := 4000000) -implicitDefEqProofs only [go_sem, Nat.reduceAdd, Nat.reduceSub, Nat.reduceLT, Nat.reduceLeDiff, Nat.reduceEqDiff, ↓reduceIte]
    simp only [beq_iff_eq] at h1
    exact wk_bool (nm_first (by omega)).symm
  simp (maxSteps := 4000000) -implicitDefEqProofs only [go_sem, Nat.reduceAdd, Nat.reduceSub, Nat.reduceLT, Nat.reduceLeDiff, Nat.reduceEqDiff, ↓reduceIte]
  simp only [beq_eq_false_iff_ne, ne_eq] at h1
  refine gbs (fun h2 => ?_) (fun h2 => ?_)
  · simp (maxSteps := 4000000) -implicitDefEqProofs only [go_sem, Nat.reduceAdd, Nat.reduceSub, Nat.reduceLT, Nat.reduceLeDiff, Nat.reduceEqDiff, ↓reduceIte]
    simp only [decide_eq_true_eq] at h2
    exact wk_bool (nm_first (by omega)).symm
  simp (maxSteps := 4000000) -implicitDefEqProofs only [go_sem, Nat.reduceAdd, Nat.reduceSub, Nat.reduceLT, Nat.reduceLeDiff, Nat.reduceEqDiff, ↓reduceIte]
  simp only [decide_eq_false_iff_not] at h2
  refine ⟨by omega, ?_⟩
  refine gbs (fun h3 => ?_) (fun h3 => ?_)
  · simp (maxSteps := 4000000) -implicitDefEqProofs only [go_sem, Nat.reduceAdd, Nat.reduceSub, Nat.reduceLT, Nat.reduceLeDiff, Nat.reduceEqDiff, ↓reduceIte]
    simp only [decide_eq_true_eq] at h3
    exact wk_bool (nm_first (by omega)).symm
  simp (maxSteps := 4000000) -implicitDefEqProofs only [go_sem, Nat.reduceAdd, Nat.reduceSub, Nat.reduceLT, Nat.reduceLeDiff, Nat.reduceEqDiff, ↓reduceIte]
  simp only [decide_eq_false_iff_not] at h3
  refine ⟨by omega, ?_⟩
  refine cbs (fun h4 => ?_) (fun h4 => ?_)
  · simp (maxSteps := 4000000) -implicitDefEqProofs only [go_sem, Nat.reduceAdd, Nat.reduceSub, Nat.reduceLT, Nat.reduceLeDiff, Nat.reduceEqDiff, ↓reduceIte]
    simp only [decide_eq_true_eq] at h4
    exact wk_bool (nm_first (by omega)).symm
  simp (maxSteps := 4000000) -implicitDefEqProofs only [go_sem, Nat.reduceAdd, Nat.reduceSub, Nat.reduceLT, Nat.reduceLeDiff, Nat.reduceEqDiff, ↓reduceIte]
  simp only [decide_eq_false_iff_not] at h4
  refine eloop (S := Nat) (fun i => mkE 46 [(0, .d (.str s)), (24, .ptr 0 0)]) (fun i => [.iter s i]) (fun i => i ≤ s.size ∧ ∀ j, j < i → okc (bt s j) = true) (fun i => s.size - i) 0 ⟨by omega, by omega⟩ (Wk.sub (by simp only [go_sem])) ?_
  rintro i ⟨hi, hj⟩
  simp (maxSteps := 4000000) -implicitDefEqProofs only [go_sem, Nat.reduceAdd, Nat.reduceSub, Nat.reduceLT, Nat.reduceLeDiff, Nat.reduceEqDiff, ↓reduceIte]
  refine ⟨fun h5 => ?_, fun h5 => ?_⟩
  · simp only [decide_eq_true_eq] at h5
    obtain ⟨k1, k2, k3⟩ := dec_ok s i h5
    generalize hc : ((Utf8.decode s i).1 : Int) = c at *
    generalize hn : (Utf8.decode s i).2 = n at *
    have hcc : (c = 45) ∨ (c < 48 ∧ c ≠ 45) ∨ (48 ≤ c ∧ c ≤ 57) ∨ (58 ≤ c ∧ c < 97) ∨ (97 ≤ c ∧ c ≤ 122) ∨ (122 < c) := by omega
    rcases hcc with hb | hb | hb | hb | hb | hb
    · have d1 : (c != 45) = false := by simp; omega
      have d2 : decide (c < 97) = true := by simp; omega
      have d3 : decide (122 < c) = false := by simp; omega
      have d4 : decide (c < 48) = true := by simp; omega
      have d5 : decide (57 < c) = false := by simp; omega
      simp only [go_sem, d1, d2, d3, d4, d5, Nat.reduceAdd, Nat.reduceSub, Nat.reduceLT, Nat.reduceLeDiff, Nat.reduceEqDiff, ↓reduceIte]
      have hk : okc c = true := by simp [okc]; omega
      rw [k2 hk]
      rw [hk] at k1
      exact .mk (i + 1) ⟨by omega, fun j hlt => by rcases Nat.lt_or_ge j i with q | q; exact hj j q; exact (show j = i by omega) ▸ k1.symm⟩ (by omega) (Wk.sub (by simp only [go_sem]))
    · have d1 : (c != 45) = true := by simp; omega
      have d2 : decide (c < 97) = true := by simp; omega
      have d3 : decide (122 < c) = false := by simp; omega
      have d4 : decide (c < 48) = true := by simp; omega
      have d5 : decide (57 < c) = false := by simp; omega
      simp only [go_sem, d1, d2, d3, d4, d5, Nat.reduceAdd, Nat.reduceSub, Nat.reduceLT, Nat.reduceLeDiff, Nat.reduceEqDiff, ↓reduceIte]
      have hk : okc c = false := by simp [okc]; omega
      exact Wk.trans (Wk.out (by simp only [go_sem]) (by simp only [go_sem])) (wk_bool (τ := []) (nm_bad (i := i) h5 (by rw [← k1]; exact hk)).symm)
    · have d1 : (c != 45) = true := by simp; omega
      have d2 : decide (c < 97) = true := by simp; omega
      have d3 : decide (122 < c) = false := by simp; omega
      have d4 : decide (c < 48) = false := by simp; omega
      have d5 : decide (57 < c) = false := by simp; omega
      simp only [go_sem, d1, d2, d3, d4, d5, Nat.reduceAdd, Nat.reduceSub, Nat.reduceLT, Nat.reduceLeDiff, Nat.reduceEqDiff, ↓reduceIte]
      have hk : okc c = true := by simp [okc]; omega
      rw [k2 hk]
      rw [hk] at k1
      exact .mk (i + 1) ⟨by omega, fun j hlt => by rcases Nat.lt_or_ge j i with q | q; exact hj j q; exact (show j = i by omega) ▸ k1.symm⟩ (by omega) (Wk.sub (by simp only [go_sem]))
    · have d1 : (c != 45) = true := by simp; omega
      have d2 : decide (c < 97) = true := by simp; omega
      have d3 : decide (122 < c) = false := by simp; omega
      have d4 : decide (c < 48) = false := by simp; omega
      have d5 : decide (57 < c) = true := by simp; omega
      simp only [go_sem, d1, d2, d3, d4, d5, Nat.reduceAdd, Nat.reduceSub, Nat.reduceLT, Nat.reduceLeDiff, Nat.reduceEqDiff, ↓reduceIte]
      have hk : okc c = false := by simp [okc]; omega
      exact Wk.trans (Wk.out (by simp only [go_sem]) (by simp only [go_sem])) (wk_bool (τ := []) (nm_bad (i := i) h5 (by rw [← k1]; exact hk)).symm)
    · have d1 : (c != 45) = true := by simp; omega
      have d2 : decide (c < 97) = false := by simp; omega
      have d3 : decide (122 < c) = false := by simp; omega
      have d4 : decide (c < 48) = false := by simp; omega
      have d5 : decide (57 < c) = true := by simp; omega
      simp only [go_sem, d1, d2, d3, d4, d5, Nat.reduceAdd, Nat.reduceSub, Nat.reduceLT, Nat.reduceLeDiff, Nat.reduceEqDiff, ↓reduceIte]
      have hk : okc c = true := by simp [okc]; omega
      rw [k2 hk]
      rw [hk] at k1
      exact .mk (i + 1) ⟨by omega, fun j hlt => by rcases Nat.lt_or_ge j i with q | q; exact hj j q; exact (show j = i by omega) ▸ k1.symm⟩ (by omega) (Wk.sub (by simp only [go_sem]))
    · have d1 : (c != 45) = true := by simp; omega
      have d2 : decide (c < 97) = false := by simp; omega
      have d3 : decide (122 < c) = true := by simp; omega
      have d4 : decide (c < 48) = false := by simp; omega
      have d5 : decide (57 < c) = true := by simp; omega
      simp only [go_sem, d1, d2, d3, d4, d5, Nat.reduceAdd, Nat.reduceSub, Nat.reduceLT, Nat.reduceLeDiff, Nat.reduceEqDiff, ↓reduceIte]
      have hk : okc c = false := by simp [okc]; omega
      exact Wk.trans (Wk.out (by simp only [go_sem]) (by simp only [go_sem])) (wk_bool (τ := []) (nm_bad (i := i) h5 (by rw [← k1]; exact hk)).symm)
  · simp only [decide_eq_false_iff_not] at h5
    exact Wk.trans (Wk.out (by simp only [go_sem]) (by simp only [go_sem])) (wk_bool (τ := []) (nm_all (by omega) fun j hlt => hj j (by omega)).symm)
end Go.AX.Br
namespace Go.AX.Br
open Go.Proofs Go.RowKit Go.IntWalk
def twice (l : List Br) : Bool := anyI (fun i b => decide (idx (has b.name) l < i)) l
def root (b : Br) : Bool := decide (b.frm = ⟨#[]⟩) && (b.at' == 0)
def badN (b : Br) : Bool := !isNm b.name || decide (b.at' < 0) || decide (320 < b.at')
def badAt (l : List Br) (i : Nat) (b : Br) : Bool := badN b || (decide (i = 0) && !root b) || (decide (0 < i) && decide (idx (has b.frm) (l.take i) < 0))
def check (l : List Br) : Int := if 8 < l.length then 4 else if twice l then 14 else if l.isEmpty || anyI (badAt l) l then 8 else 0
theorem idx_le {α : Type} {p : α → Bool} {l : List α} {i : Nat} {x : α} (hx : l[i]? = some x) (hp : p x = true) : 0 ≤ idx p l ∧ idx p l ≤ i := by
  unfold idx
  cases h : l.findIdx? p with
  | none =>
    have := List.findIdx?_eq_none_iff.1 h x (List.mem_of_getElem? hx)
    rw [hp] at this; cases this
  | some k =>
    obtain ⟨hk, _, hmin⟩ := List.findIdx?_eq_some_iff_getElem.1 h
    refine ⟨by simp, ?_⟩
    simp only [Int.ofNat_le]
    rcases Nat.lt_or_ge i k with q | q
    · have := hmin i q
      have hlt := some_lt hx
      rw [List.getElem?_eq_getElem hlt] at hx
      simp at hx
      rw [hx, hp] at this; simp at this
    · exact q
end Go.AX.Br
namespace Go.AX.Br
open Go.Proofs Go.RowKit Go.IntWalk
theorem check_ref (l : List Br) (hl : Sm l.length) : Spec Tryz.prog 49 [.d (.sl (l.map bD))] [] (.d (.int .i64 (check l))) [] := by
  have hl' := hl
  unfold Sm at hl
  refine spec_of_ev (fn := Tryz.f49) DX_ok 3000 Tryz.func49 rfl rfl (Nat.le_of_ble_eq_true rfl) ?_
  simp (maxSteps := 4000000) -implicitDefEqProofs only [Tryz.f49, go_sem]
  refine cbs (fun h1 => ?_) (fun h1 => ?_)
  · simp (maxSteps := 4000000) -implicitDefEqProofs only [go_sem, Nat.reduceAdd, Nat.reduceSub, Nat.reduceLT, Nat.reduceLeDiff, Nat.reduceEqDiff, ↓reduceIte]
    simp only [decide_eq_true_eq] at h1
    exact wk_int (by simp only [check]; rw [if_pos (by omega)])
  simp (maxSteps := 4000000) -implicitDefEqProofs only [go_sem, Nat.reduceAdd, Nat.reduceSub, Nat.reduceLT, Nat.reduceLeDiff, Nat.reduceEqDiff, ↓reduceIte]
  simp only [decide_eq_false_iff_not] at h1
  refine eloop (S := Nat) (fun i => mkE 89 [(0, .d (.sl (l.map bD))), (3, .d (.int .i64 i))]) (fun i => []) (fun i => i ≤ l.length ∧ ∀ j x, l[j]? = some x → j < i → decide (idx (has x.name) l < j) = false) (fun i => l.length - i) 0 ⟨by omega, by omega⟩ (Wk.sub (by (simp only [go_sem]) <;> trivial)) ?_
  rintro i ⟨hi, hj⟩
  simp (maxSteps := 4000000) -implicitDefEqProofs only [go_sem, Nat.reduceAdd, Nat.reduceSub, Nat.reduceLT, Nat.reduceLeDiff, Nat.reduceEqDiff, ↓reduceIte]
  refine cbs (fun h2 => ?_) (fun h2 => ?_)
  · simp only [decide_eq_true_eq] at h2
    simp (maxSteps := 4000000) -implicitDefEqProofs only [go_sem, Nat.reduceAdd, Nat.reduceSub, Nat.reduceLT, Nat.reduceLeDiff, Nat.reduceEqDiff, ↓reduceIte]
    refine ⟨by omega, fun x hx => ?_⟩
    refine ecall0 _ (index_ref l x.name hl') (by simp only [go_sem]) (by simp only [go_sem]) ?_
    simp (maxSteps := 4000000) -implicitDefEqProofs only [go_sem, Nat.reduceAdd, Nat.reduceSub, Nat.reduceLT, Nat.reduceLeDiff, Nat.reduceEqDiff, ↓reduceIte]
    have hle := idx_le hx (p := has x.name) (by simp [has])
    refine cbs (fun h3 => ?_) (fun h3 => ?_)
    · simp (maxSteps := 4000000) -implicitDefEqProofs only [go_sem, Nat.reduceAdd, Nat.reduceSub, Nat.reduceLT, Nat.reduceLeDiff, Nat.reduceEqDiff, ↓reduceIte]
      simp only [bne_iff_ne, ne_eq] at h3
      have : twice l = true := anyI_t hx (by simp; omega)
      exact wk_int (by simp only [check]; rw [if_neg (by omega), if_pos this])
    · simp (maxSteps := 4000000) -implicitDefEqProofs only [go_sem, Nat.reduceAdd, Nat.reduceSub, Nat.reduceLT, Nat.reduceLeDiff, Nat.reduceEqDiff, ↓reduceIte]
      simp only [bne_eq_false_iff_eq] at h3
      rw [i64_in _ (by omega)]
      exact .mk (i + 1) ⟨by omega, upto_succ hx (by simp [h3]) hj⟩ (by omega) (Wk.sub (by (simp only [go_sem]) <;> trivial))
  · simp (maxSteps := 4000000) -implicitDefEqProofs only [go_sem, Nat.reduceAdd, Nat.reduceSub, Nat.reduceLT, Nat.reduceLeDiff, Nat.reduceEqDiff, ↓reduceIte]
    simp only [decide_eq_false_iff_not] at h2
    have ht : twice l = false := anyI_f fun j x hx => hj j x hx (by have := some_lt hx; omega)
    refine cbs (fun h3 => ?_) (fun h3 => ?_)
    · simp (maxSteps := 4000000) -implicitDefEqProofs only [go_sem, Nat.reduceAdd, Nat.reduceSub, Nat.reduceLT, Nat.reduceLeDiff, Nat.reduceEqDiff, ↓reduceIte]
      simp only [beq_iff_eq] at h3
      have he : l = [] := List.eq_nil_of_length_eq_zero (by omega)
      exact wk_int (by simp only [check]; rw [if_neg (by omega), ht]; simp [he])
    simp (maxSteps := 4000000) -implicitDefEqProofs only [go_sem, Nat.reduceAdd, Nat.reduceSub, Nat.reduceLT, Nat.reduceLeDiff, Nat.reduceEqDiff, ↓reduceIte]
    simp only [beq_eq_false_iff_ne, ne_eq] at h3
    have hne : l.isEmpty = false := by cases l <;> simp_all
    have fin : ∀ b, anyI (badAt l) l = b → check l = if b = true then 8 else 0 := fun b hb => by simp only [check]; rw [if_neg (by omega), ht, hne, hb]; simp
    clear hj hi h2
    refine eloop (S := Nat) (fun i => mkE 89 [(0, .d (.sl (l.map bD))), (4, .d (.int .i64 i))]) (fun i => []) (fun i => i ≤ l.length ∧ ∀ j x, l[j]? = some x → j < i → badAt l j x = false) (fun i => l.length - i) 0 ⟨by omega, by omega⟩ (Wk.sub (by (simp only [go_sem]) <;> trivial)) ?_
    rintro i ⟨hi, hj⟩
    simp (maxSteps := 4000000) -implicitDefEqProofs only [go_sem, Nat.reduceAdd, Nat.reduceSub, Nat.reduceLT, Nat.reduceLeDiff, Nat.reduceEqDiff, ↓reduceIte]
    refine cbs (fun h2 => ?_) (fun h2 => ?_)
    · simp only [decide_eq_true_eq] at h2
      obtain ⟨x, hx⟩ : ∃ x, l[i]? = some x := ⟨l[i]'(by omega), List.getElem?_eq_getElem _⟩
      have need : (0 ≤ (i : Int) ∧ (i : Int) < l.length) = True := eq_true (by omega)
      have hlt : (i < l.length) = True := eq_true (by omega)
      have bad : badAt l i x = true → check l = 8 := fun hb => by rw [fin true (anyI_t hx hb)]; rfl
      simp (maxSteps := 4000000) -implicitDefEqProofs only [go_sem, need, hx, Option.some.injEq, forall_eq', and_true, true_and, Bool.not_true, Bool.not_false, decide_true, Nat.reduceAdd, Nat.reduceSub, Nat.reduceLT, Nat.reduceLeDiff, Nat.reduceEqDiff, ↓reduceIte]
      refine ecall0 _ (name_ref x.name) (by simp only [go_sem]) (by simp only [go_sem]) ?_
      simp (maxSteps := 4000000) -implicitDefEqProofs only [go_sem, Nat.reduceAdd, Nat.reduceSub, Nat.reduceLT, Nat.reduceLeDiff, Nat.reduceEqDiff, ↓reduceIte]
      cases hN : isNm x.name
      · simp (maxSteps := 4000000) -implicitDefEqProofs only [go_sem, need, hx, hN, Option.some.injEq, forall_eq', and_true, true_and, Bool.not_true, Bool.not_false, decide_true, Nat.reduceAdd, Nat.reduceSub, Nat.reduceLT, Nat.reduceLeDiff, Nat.reduceEqDiff, ↓reduceIte]
        exact wk_int (bad (by simp [badAt, badN, hN])).symm
      rcases Int.lt_or_le x.at' 0 with hA | hA
      · have d1 := decide_eq_true hA
        simp (maxSteps := 4000000) -implicitDefEqProofs only [go_sem, need, hx, hN, d1, Option.some.injEq, forall_eq', and_true, true_and, Bool.not_true, Bool.not_false, decide_true, Nat.reduceAdd, Nat.reduceSub, Nat.reduceLT, Nat.reduceLeDiff, Nat.reduceEqDiff, ↓reduceIte]
        exact wk_int (bad (by simp [badAt, badN, hA])).symm
      have d1 := decide_eq_false (Int.not_lt.2 hA)
      rcases Int.lt_or_le 320 x.at' with hB | hB
      · have d2 := decide_eq_true hB
        simp (maxSteps := 4000000) -implicitDefEqProofs only [go_sem, need, hx, hN, d1, d2, Option.some.injEq, forall_eq', and_true, true_and, Bool.not_true, Bool.not_false, decide_true, Nat.reduceAdd, Nat.reduceSub, Nat.reduceLT, Nat.reduceLeDiff, Nat.reduceEqDiff, ↓reduceIte]
        exact wk_int (bad (by simp [badAt, badN, hB])).symm
      have d2 := decide_eq_false (Int.not_lt.2 hB)
      simp (maxSteps := 4000000) -implicitDefEqProofs only [go_sem, need, hx, hN, d1, d2, Option.some.injEq, forall_eq', and_true, true_and, Bool.not_true, Bool.not_false, decide_true, Nat.reduceAdd, Nat.reduceSub, Nat.reduceLT, Nat.reduceLeDiff, Nat.reduceEqDiff, ↓reduceIte]
      have hn : badN x = false := by simp [badN, hN, d1, d2]
      rcases Nat.eq_zero_or_pos i with h0 | h0
      · have e0 : ((i : Int) == 0) = true := by simp [h0]
        have g0 : decide (0 < (i : Int)) = false := by simp [h0]
        cases hf : decide (x.frm = ⟨#[]⟩)
        · skip
          refine DX.plain (.take 0 false (.take 1 false (.take 2 false (.take 3 false (.take 4 false (.take 5 false (.take 6 false (.take 7 false (.take 8 false (.take 9 false (.take 10 false (.take 11 false (.take 12 false (.take 13 false (.take 14 false (.take 15 false (.take 16 false (.take 17 false (.take 18 false (.take 19 false (.take 20 false (.take 21 false (.take 22 false (.take 23 false (.take 24 false (.take 25 false (.take 26 false (.take 27 false (.take 28 false (.take 29 false (.take 30 false (.take 31 false (.take 32 false (.take 33 false .done)))))))))))))))))))))))))))))))))) (by kernel_rfl) (by kernel_rfl) Ty.mixed ?_
          simp (maxSteps := 4000000) -implicitDefEqProofs only [go_sem, need, hx, hlt, e0, g0, hf, Option.some.injEq, forall_eq', and_true, true_and, Bool.not_true, Bool.not_false, decide_true, Nat.reduceAdd, Nat.reduceSub, Nat.reduceLT, Nat.reduceLeDiff, Nat.reduceEqDiff, ↓reduceIte]
          exact wk_int (bad (by simp [badAt, root, hf, h0])).symm
        cases hz : (x.at' == 0)
        · have hz' : (x.at' != 0) = true := by simp only [bne, hz]; rfl
          refine DX.plain (.take 0 false (.take 1 false (.take 2 false (.take 3 false (.take 4 false (.take 5 false (.take 6 false (.take 7 false (.take 8 false (.take 9 false (.take 10 false (.take 11 false (.take 12 false (.take 13 false (.take 14 false (.take 15 false (.take 16 false (.take 17 false (.take 18 false (.take 19 false (.take 20 false (.take 21 false (.take 22 false (.take 23 false (.take 24 false (.take 25 false (.take 26 false (.take 27 false (.take 28 false (.take 29 false (.take 30 false (.take 31 false (.take 32 false (.take 33 false .done)))))))))))))))))))))))))))))))))) (by kernel_rfl) (by kernel_rfl) Ty.mixed ?_
          simp (maxSteps := 4000000) -implicitDefEqProofs only [go_sem, need, hx, hlt, e0, g0, hf, hz', Option.some.injEq, forall_eq', and_true, true_and, Bool.not_true, Bool.not_false, decide_true, Nat.reduceAdd, Nat.reduceSub, Nat.reduceLT, Nat.reduceLeDiff, Nat.reduceEqDiff, ↓reduceIte]
          exact wk_int (bad (by simp [badAt, root, hz, h0])).symm
        · have hz' : (x.at' != 0) = false := by simp only [bne, hz]; rfl
          refine DX.plain (.take 0 false (.take 1 false (.take 2 false (.take 3 false (.take 4 false (.take 5 false (.take 6 false (.take 7 false (.take 8 false (.take 9 false (.take 10 false (.take 11 false (.take 12 false (.take 13 false (.take 14 false (.take 15 false (.take 16 false (.take 17 false (.take 18 false (.take 19 false (.take 20 false (.take 21 false (.take 22 false (.take 23 false (.take 24 false (.take 25 false (.take 26 false (.take 27 false (.take 28 false (.take 29 false (.take 30 false (.take 31 false (.take 32 false (.take 33 false .done)))))))))))))))))))))))))))))))))) (by kernel_rfl) (by kernel_rfl) Ty.mixed ?_
          simp (maxSteps := 4000000) -implicitDefEqProofs only [go_sem, need, hx, hlt, e0, g0, hf, hz', Option.some.injEq, forall_eq', and_true, true_and, Bool.not_true, Bool.not_false, decide_true, Nat.reduceAdd, Nat.reduceSub, Nat.reduceLT, Nat.reduceLeDiff, Nat.reduceEqDiff, ↓reduceIte]
          rw [i64_in _ (by omega)]
          exact .mk (i + 1) ⟨by omega, upto_succ hx (by simp [badAt, root, hf, hz, hn, h0]) hj⟩ (by omega) (Wk.sub (by (simp only [go_sem]) <;> trivial))
      · have e0 : ((i : Int) == 0) = false := by simp; omega
        have g0 : decide (0 < (i : Int)) = true := by simp; omega
        have hi0 : ¬ i = 0 := by omega
        have hti : (l.take i).length = i := by rw [List.length_take]; omega
        refine DX.plain (.take 0 false (.take 1 false (.take 2 false (.take 3 false (.take 4 false (.take 5 false (.take 6 false (.take 7 false (.take 8 false (.take 9 false (.take 10 false (.take 11 false (.take 12 false (.take 13 false (.take 14 false (.take 15 false (.take 16 false (.take 17 false (.take 18 false (.take 19 false (.take 20 false (.take 21 false (.take 22 false (.take 23 false (.take 24 false (.take 25 false (.take 26 false (.take 27 false (.take 28 false (.take 29 false (.take 30 false (.take 31 false (.take 32 false (.take 33 false .done)))))))))))))))))))))))))))))))))) (by kernel_rfl) (by kernel_rfl) Ty.mixed ?_
        simp (maxSteps := 4000000) -implicitDefEqProofs only [go_sem, need, hx, hlt, e0, g0, Option.some.injEq, forall_eq', and_true, true_and, Bool.not_true, Bool.not_false, decide_true, Nat.reduceAdd, Nat.reduceSub, Nat.reduceLT, Nat.reduceLeDiff, Nat.reduceEqDiff, ↓reduceIte]
        refine ⟨by omega, _, _, index_ref (l.take i) x.frm (by unfold Sm; omega), rfl, ?_⟩
        cases hq : decide (idx (has x.frm) (l.take i) < 0)
        · simp (maxSteps := 4000000) -implicitDefEqProofs only [go_sem, hq, Option.some.injEq, forall_eq', and_true, true_and, Bool.not_true, Bool.not_false, decide_true, Nat.reduceAdd, Nat.reduceSub, Nat.reduceLT, Nat.reduceLeDiff, Nat.reduceEqDiff, ↓reduceIte]
          rw [i64_in _ (by omega)]
          exact .mk (i + 1) ⟨by omega, upto_succ hx (by simp [badAt, hn, hi0, hq]) hj⟩ (by omega) (Wk.sub (by (simp only [go_sem]) <;> trivial))
        · simp (maxSteps := 4000000) -implicitDefEqProofs only [go_sem, hq, Option.some.injEq, forall_eq', and_true, true_and, Bool.not_true, Bool.not_false, decide_true, Nat.reduceAdd, Nat.reduceSub, Nat.reduceLT, Nat.reduceLeDiff, Nat.reduceEqDiff, ↓reduceIte]
          exact wk_int (bad (by simp only [badAt, hq, h0, decide_true, Bool.true_and, Bool.or_true])).symm
    · simp (maxSteps := 4000000) -implicitDefEqProofs only [go_sem, Nat.reduceAdd, Nat.reduceSub, Nat.reduceLT, Nat.reduceLeDiff, Nat.reduceEqDiff, ↓reduceIte]
      simp only [decide_eq_false_iff_not] at h2
      refine wk_int ?_
      rw [fin false (anyI_f fun j x hx => hj j x hx (by have := some_lt hx; omega))]; rfl
end Go.AX.Br
namespace Go.AX.Br
open Go.Proofs Go.RowKit Go.IntWalk
theorem check_own (l : List Br) (hl : Sm l.length) : Spec Tryz.prog 95 [.d (.sl (l.map bD))] [] (.d (.int .i64 (check l))) [] := by
  have hl' := hl
  unfold Sm at hl
  refine spec_of_ev (fn := Tryz.f95) DX_ok 3000 Tryz.func95 rfl rfl (Nat.le_of_ble_eq_true rfl) ?_
  simp (maxSteps := 4000000) -implicitDefEqProofs only [Tryz.f95, go_sem]
  refine cbs (fun h1 => ?_) (fun h1 => ?_)
  · simp (maxSteps := 4000000) -implicitDefEqProofs only [go_sem, Nat.reduceAdd, Nat.reduceSub, Nat.reduceLT, Nat.reduceLeDiff, Nat.reduceEqDiff, ↓reduceIte]
    simp only [decide_eq_true_eq] at h1
    exact wk_int (by simp only [check]; rw [if_pos (by omega)])
  simp (maxSteps := 4000000) -implicitDefEqProofs only [go_sem, Nat.reduceAdd, Nat.reduceSub, Nat.reduceLT, Nat.reduceLeDiff, Nat.reduceEqDiff, ↓reduceIte]
  simp only [decide_eq_false_iff_not] at h1
  refine eloop (S := Nat) (fun i => mkE 76 [(0, .d (.sl (l.map bD))), (10, .d (.sl (l.map bD))), (11, .d (.int .i64 l.length)), (12, .d (.int .i64 i))]) (fun i => []) (fun i => i ≤ l.length ∧ ∀ j x, l[j]? = some x → j < i → decide (idx (has x.name) l < j) = false) (fun i => l.length - i) 0 ⟨by omega, by omega⟩ (Wk.sub (by (simp only [go_sem]) <;> trivial)) ?_
  rintro i ⟨hi, hj⟩
  simp (maxSteps := 4000000) -implicitDefEqProofs only [go_sem, Nat.reduceAdd, Nat.reduceSub, Nat.reduceLT, Nat.reduceLeDiff, Nat.reduceEqDiff, ↓reduceIte]
  refine cbs (fun h2 => ?_) (fun h2 => ?_)
  · simp only [decide_eq_true_eq] at h2
    simp (maxSteps := 4000000) -implicitDefEqProofs only [go_sem, Nat.reduceAdd, Nat.reduceSub, Nat.reduceLT, Nat.reduceLeDiff, Nat.reduceEqDiff, ↓reduceIte]
    refine ⟨by omega, fun x hx => ?_⟩
    refine ecall0 _ (index_own l x.name hl') (by simp only [go_sem]) (by simp only [go_sem]) ?_
    simp (maxSteps := 4000000) -implicitDefEqProofs only [go_sem, Nat.reduceAdd, Nat.reduceSub, Nat.reduceLT, Nat.reduceLeDiff, Nat.reduceEqDiff, ↓reduceIte]
    refine cbs (fun h3 => ?_) (fun h3 => ?_)
    · simp (maxSteps := 4000000) -implicitDefEqProofs only [go_sem, Nat.reduceAdd, Nat.reduceSub, Nat.reduceLT, Nat.reduceLeDiff, Nat.reduceEqDiff, ↓reduceIte]
      have ht : twice l = true := anyI_t hx h3
      exact wk_int (by simp only [check]; rw [if_neg (by omega), if_pos ht])
    · simp (maxSteps := 4000000) -implicitDefEqProofs only [go_sem, Nat.reduceAdd, Nat.reduceSub, Nat.reduceLT, Nat.reduceLeDiff, Nat.reduceEqDiff, ↓reduceIte]
      rw [i64_in _ (by omega)]
      exact .mk (i + 1) ⟨by omega, upto_succ hx h3 hj⟩ (by omega) (Wk.forget (by (simp only [go_sem]) <;> trivial) (by simp only [go_sem]))
  · simp (maxSteps := 4000000) -implicitDefEqProofs only [go_sem, Nat.reduceAdd, Nat.reduceSub, Nat.reduceLT, Nat.reduceLeDiff, Nat.reduceEqDiff, ↓reduceIte]
    simp only [decide_eq_false_iff_not] at h2
    have ht : twice l = false := anyI_f fun j x hx => hj j x hx (by have := some_lt hx; omega)
    clear hj hi h2
    cases hn : ((l.length : Int) == 0)
    · simp only [beq_eq_false_iff_ne, ne_eq] at hn
      have hne : l.isEmpty = false := by cases l <;> simp_all
      have fin : ∀ b, anyI (badAt l) l = b → check l = if b = true then 8 else 0 := fun b hb => by simp only [check]; rw [if_neg (by omega), ht, hne, hb]; simp
      have bad : ∀ (i : Nat) (x : Br), l[i]? = some x → badAt l i x = true → check l = 8 := fun i x hx hb => by rw [fin true (anyI_t hx hb)]; rfl
      obtain ⟨x, hx⟩ : ∃ x, l[0]? = some x := ⟨l[0]'(by omega), List.getElem?_eq_getElem _⟩
      have hlt : (0 < l.length) = True := eq_true (by omega)
      have need : (0 ≤ (0 : Int) ∧ (0 : Int) < l.length) = True := eq_true (by omega)
      cases hf : decide (x.frm = ⟨#[]⟩)
      · simp (maxSteps := 4000000) -implicitDefEqProofs only [go_sem, hx, hlt, need, hf, Option.some.injEq, forall_eq', and_true, true_and, Bool.not_true, Bool.not_false, decide_true, Nat.reduceAdd, Nat.reduceSub, Nat.reduceLT, Nat.reduceLeDiff, Nat.reduceEqDiff, ↓reduceIte]
        exact wk_int (bad 0 x hx (by simp [badAt, root, hf])).symm
      cases hz : (x.at' == 0)
      · have hz' : (x.at' != 0) = true := by simp only [bne, hz]; rfl
        simp (maxSteps := 4000000) -implicitDefEqProofs only [go_sem, hx, hlt, need, hf, hz', Option.some.injEq, forall_eq', and_true, true_and, Bool.not_true, Bool.not_false, decide_true, Nat.reduceAdd, Nat.reduceSub, Nat.reduceLT, Nat.reduceLeDiff, Nat.reduceEqDiff, ↓reduceIte]
        exact wk_int (bad 0 x hx (by simp [badAt, root, hz])).symm
      have hz' : (x.at' != 0) = false := by simp only [bne, hz]; rfl
      have hr : root x = true := by simp [root, hf, hz]
      simp (maxSteps := 4000000) -implicitDefEqProofs only [go_sem, hx, hlt, need, hf, hz', Option.some.injEq, forall_eq', and_true, true_and, Bool.not_true, Bool.not_false, decide_true, Nat.reduceAdd, Nat.reduceSub, Nat.reduceLT, Nat.reduceLeDiff, Nat.reduceEqDiff, ↓reduceIte]
      have root0 : ∀ (i : Nat) (x : Br), l[i]? = some x → i = 0 → root x = true := fun i y hy h0 => by subst h0; rw [hx] at hy; cases hy; exact hr
      clear hx hf hz hz' hr hlt need
      refine eloop (S := Nat) (fun i => mkE 76 [(0, .d (.sl (l.map bD))), (41, .d (.sl (l.map bD))), (42, .d (.int .i64 l.length)), (43, .d (.int .i64 i))]) (fun i => []) (fun i => i ≤ l.length ∧ ∀ j x, l[j]? = some x → j < i → badAt l j x = false) (fun i => l.length - i) 0 ⟨by omega, by omega⟩ (Wk.sub (by (simp only [go_sem]) <;> trivial)) ?_
      rintro i ⟨hi, hj⟩
      simp (maxSteps := 4000000) -implicitDefEqProofs only [go_sem, Nat.reduceAdd, Nat.reduceSub, Nat.reduceLT, Nat.reduceLeDiff, Nat.reduceEqDiff, ↓reduceIte]
      refine cbs (fun h2 => ?_) (fun h2 => ?_)
      · simp only [decide_eq_true_eq] at h2
        obtain ⟨x, hx⟩ : ∃ x, l[i]? = some x := ⟨l[i]'(by omega), List.getElem?_eq_getElem _⟩
        have need : (0 ≤ (i : Int) ∧ (i : Int) < l.length) = True := eq_true (by omega)
        have hlt : (i < l.length) = True := eq_true (by omega)
        simp (maxSteps := 4000000) -implicitDefEqProofs only [go_sem, need, hx, hlt, Option.some.injEq, forall_eq', and_true, true_and, Bool.not_true, Bool.not_false, decide_true, Nat.reduceAdd, Nat.reduceSub, Nat.reduceLT, Nat.reduceLeDiff, Nat.reduceEqDiff, ↓reduceIte]
        refine DX.plain (.take 0 false (.take 1 false (.take 2 false (.take 3 false (.take 4 false (.take 5 false (.take 6 false (.take 7 false (.take 8 false (.take 9 false (.take 10 false (.take 11 false (.take 12 false (.take 13 false (.take 14 false (.take 15 false (.take 16 false (.take 17 false (.take 18 false (.take 19 false (.take 20 false (.take 21 false (.take 22 false (.take 23 false (.take 24 false (.take 25 false (.take 26 false .done))))))))))))))))))))))))))) (by kernel_rfl) (by kernel_rfl) Ty.mixed ?_
        simp (maxSteps := 4000000) -implicitDefEqProofs only [go_sem, need, hx, hlt, Option.some.injEq, forall_eq', and_true, true_and, Bool.not_true, Bool.not_false, decide_true, Nat.reduceAdd, Nat.reduceSub, Nat.reduceLT, Nat.reduceLeDiff, Nat.reduceEqDiff, ↓reduceIte]
        refine ⟨_, _, (name_own x.name).lift0 _ (by simp only [go_sem]) (by simp only [go_sem]), rfl, ?_⟩
        have bd := bad i x hx
        cases hN : isNm x.name
        · simp (maxSteps := 4000000) -implicitDefEqProofs only [go_sem, hN, Option.some.injEq, forall_eq', and_true, true_and, Bool.not_true, Bool.not_false, decide_true, Nat.reduceAdd, Nat.reduceSub, Nat.reduceLT, Nat.reduceLeDiff, Nat.reduceEqDiff, ↓reduceIte]
          exact wk_int (bd (by simp [badAt, badN, hN])).symm
        rcases Int.lt_or_le x.at' 0 with hA | hA
        · have d1 := decide_eq_true hA
          simp (maxSteps := 4000000) -implicitDefEqProofs only [go_sem, hN, d1, Option.some.injEq, forall_eq', and_true, true_and, Bool.not_true, Bool.not_false, decide_true, Nat.reduceAdd, Nat.reduceSub, Nat.reduceLT, Nat.reduceLeDiff, Nat.reduceEqDiff, ↓reduceIte]
          exact wk_int (bd (by simp [badAt, badN, hA])).symm
        have d1 := decide_eq_false (Int.not_lt.2 hA)
        rcases Int.lt_or_le 320 x.at' with hB | hB
        · have d2 := decide_eq_true hB
          simp (maxSteps := 4000000) -implicitDefEqProofs only [go_sem, hN, d1, d2, Option.some.injEq, forall_eq', and_true, true_and, Bool.not_true, Bool.not_false, decide_true, Nat.reduceAdd, Nat.reduceSub, Nat.reduceLT, Nat.reduceLeDiff, Nat.reduceEqDiff, ↓reduceIte]
          exact wk_int (bd (by simp [badAt, badN, hB])).symm
        have d2 := decide_eq_false (Int.not_lt.2 hB)
        have hnb : badN x = false := by simp [badN, hN, d1, d2]
        rcases Nat.eq_zero_or_pos i with h0 | h0
        · have hr := root0 i x hx h0
          have g0 : decide (0 < (i : Int)) = false := by simp [h0]
          simp (maxSteps := 4000000) -implicitDefEqProofs only [go_sem, hN, d1, d2, g0, Option.some.injEq, forall_eq', and_true, true_and, Bool.not_true, Bool.not_false, decide_true, Nat.reduceAdd, Nat.reduceSub, Nat.reduceLT, Nat.reduceLeDiff, Nat.reduceEqDiff, ↓reduceIte]
          rw [i64_in _ (by omega)]
          exact .mk (i + 1) ⟨by omega, upto_succ hx (by simp [badAt, hr, hnb, h0]) hj⟩ (by omega) (Wk.forget (by (simp only [go_sem]) <;> trivial) (by simp only [go_sem]))
        · have g0 : decide (0 < (i : Int)) = true := by simp; omega
          have hi0 : ¬ i = 0 := by omega
          have hti : (l.take i).length = i := by rw [List.length_take]; omega
          simp (maxSteps := 4000000) -implicitDefEqProofs only [go_sem, hN, d1, d2, g0, Option.some.injEq, forall_eq', and_true, true_and, Bool.not_true, Bool.not_false, decide_true, Nat.reduceAdd, Nat.reduceSub, Nat.reduceLT, Nat.reduceLeDiff, Nat.reduceEqDiff, ↓reduceIte]
          refine ⟨by omega, _, _, (index_own (l.take i) x.frm (by unfold Sm; omega)).lift0 _ (by simp only [go_sem]) (by simp only [go_sem]), rfl, ?_⟩
          cases hq : decide (idx (has x.frm) (l.take i) < 0)
          · simp (maxSteps := 4000000) -implicitDefEqProofs only [go_sem, hq, Option.some.injEq, forall_eq', and_true, true_and, Bool.not_true, Bool.not_false, decide_true, Nat.reduceAdd, Nat.reduceSub, Nat.reduceLT, Nat.reduceLeDiff, Nat.reduceEqDiff, ↓reduceIte]
            rw [i64_in _ (by omega)]
            exact .mk (i + 1) ⟨by omega, upto_succ hx (by simp [badAt, hnb, hi0, hq]) hj⟩ (by omega) (Wk.forget (by (simp only [go_sem]) <;> trivial) (by simp only [go_sem]))
          · simp (maxSteps := 4000000) -implicitDefEqProofs only [go_sem, hq, Option.some.injEq, forall_eq', and_true, true_and, Bool.not_true, Bool.not_false, decide_true, Nat.reduceAdd, Nat.reduceSub, Nat.reduceLT, Nat.reduceLeDiff, Nat.reduceEqDiff, ↓reduceIte]
            exact wk_int (bd (by simp only [badAt, hq, h0, decide_true, Bool.true_and, Bool.or_true])).symm
      · simp (maxSteps := 4000000) -implicitDefEqProofs only [go_sem, Nat.reduceAdd, Nat.reduceSub, Nat.reduceLT, Nat.reduceLeDiff, Nat.reduceEqDiff, ↓reduceIte]
        simp only [decide_eq_false_iff_not] at h2
        refine wk_int ?_
        rw [fin false (anyI_f fun j x hx => hj j x hx (by have := some_lt hx; omega))]; rfl
    · simp (maxSteps := 4000000) -implicitDefEqProofs only [go_sem, hn, Option.some.injEq, forall_eq', and_true, true_and, Bool.not_true, Bool.not_false, decide_true, Nat.reduceAdd, Nat.reduceSub, Nat.reduceLT, Nat.reduceLeDiff, Nat.reduceEqDiff, ↓reduceIte]
      simp only [beq_iff_eq] at hn
      have he : l = [] := List.eq_nil_of_length_eq_zero (by omega)
      exact wk_int (by simp only [check]; rw [if_neg (by omega), ht]; simp [he])
end Go.AX.Br
namespace Go.AX.Br
structure Mk where
  b : Int
  e : Int
  deriving DecidableEq
def mkD (m : Mk) : List D := [.int .i64 m.b, .int .i64 m.e]
def mkA (m : Mk) : AV := .agg [.d (.int .i64 m.b), .d (.int .i64 m.e)]
def vD (v : List Mk) : List D := [.sl (v.map mkD)]
def own (i : Nat) (c : Int) : List Mk := (List.range c.toNat).map fun (k : Nat) => ⟨i, k⟩
def vstep (l : List Br) (cs : List Int) (out : List (List Mk)) : Option (List (List Mk)) :=
  match l[out.length]?, cs[out.length]? with
  | some b, some c => if out.length = 0 then some (out ++ [own out.length c]) else
    match out[(idx (has b.frm) l).toNat]? with
    | some f => if (f.length : Int) < b.at' then none else some (out ++ [f.take b.at'.toNat ++ own out.length c])
    | none => none
  | _, _ => none
def vws (l : List Br) (cs : List Int) : Nat → Option (List (List Mk))
  | 0 => some []
  | n + 1 => (vws l cs n).bind (vstep l cs)
def fit (l : List Br) (cs : List Int) : Bool := (vws l cs l.length).isSome
def vw (l : List Br) (cs : List Int) : List (List Mk) := (vws l cs l.length).getD []
def badC (c : Int) : Bool := decide (c < 0) || decide (40 < c)
def fits (l : List Br) (cs : List Int) : Int := if check l ≠ 0 then check l else if cs.length ≠ l.length ∨ cs.any badC = true then 2 else if fit l cs then 0 else 16
theorem own_len (i : Nat) (c : Int) : (own i c).length = c.toNat := by simp [own]
theorem vws_len {l : List Br} {cs : List Int} : ∀ {n : Nat} {out : List (List Mk)}, vws l cs n = some out → out.length = n
  | 0, out, h => by simp only [vws, Option.some.injEq] at h; subst h; rfl
  | n + 1, out, h => by
    simp only [vws, Option.bind_eq_some_iff] at h
    obtain ⟨o, h1, h2⟩ := h
    have := vws_len h1
    simp only [vstep] at h2
    split at h2
    · split at h2
      · cases h2; simp [this]
      · split at h2
        · split at h2
          · simp at h2
          · cases h2; simp [this]
        · simp at h2
    · simp at h2
structure Ok (l : List Br) : Prop where
  len : l.length ≤ 8
  pos : 0 < l.length
  name : ∀ (i : Nat) (x : Br), l[i]? = some x → idx (has x.name) l = i
  good : ∀ (i : Nat) (x : Br), l[i]? = some x → isNm x.name = true ∧ 0 ≤ x.at' ∧ x.at' ≤ 320
  root : ∀ (x : Br), l[0]? = some x → x.frm = ⟨#[]⟩ ∧ x.at' = 0
  from' : ∀ (i : Nat) (x : Br), l[i]? = some x → 0 < i → ∃ j : Nat, j < i ∧ idx (has x.frm) l = j
theorem idx_get {α : Type} {p : α → Bool} {l : List α} (h : 0 ≤ idx p l) : ∃ (i : Nat) (x : α), idx p l = i ∧ l[i]? = some x ∧ p x = true := by
  unfold idx at *
  cases q : l.findIdx? p with
  | none => rw [q] at h; simp at h
  | some k =>
    obtain ⟨hk, hp, _⟩ := List.findIdx?_eq_some_iff_getElem.1 q
    exact ⟨k, _, rfl, List.getElem?_eq_getElem hk, hp⟩
theorem idx_take {α : Type} {p : α → Bool} {l : List α} {i : Nat} (h : 0 ≤ idx p (l.take i)) : ∃ j : Nat, j < i ∧ idx p l = j := by
  obtain ⟨j, x, h1, h2, h3⟩ := idx_get h
  have hj : j < i := by have := some_lt h2; rw [List.length_take] at this; omega
  rw [List.getElem?_take_of_lt hj] at h2
  have := idx_le h2 h3
  refine ⟨(idx p l).toNat, by omega, by omega⟩
theorem ok_of {l : List Br} (h : check l = 0) : Ok l := by
  simp only [check] at h
  split at h
  · omega
  · next h1 =>
    split at h
    · omega
    · next h2 =>
      split at h
      · omega
      · next h3 =>
        simp only [Bool.or_eq_true, not_or, Bool.not_eq_true] at h3
        have hb : ∀ (i : Nat) (x : Br), l[i]? = some x → badAt l i x = false := fun i x hx => anyI_no h3.2 hx
        have ht : ∀ (i : Nat) (x : Br), l[i]? = some x → decide (idx (has x.name) l < (i : Int)) = false := fun i x hx => by
          simp only [Bool.not_eq_true, twice] at h2
          exact anyI_no (p := fun i b => decide (idx (has b.name) l < i)) h2 hx
        refine ⟨by omega, ?_, fun i x hx => ?_, fun i x hx => ?_, fun x hx => ?_, fun i x hx h0 => ?_⟩
        · have := h3.1
          cases l with
          | nil => simp at this
          | cons _ _ => simp
        · have h4 := ht i x hx
          simp only [decide_eq_false_iff_not] at h4
          have := idx_le hx (p := has x.name) (by simp [has])
          omega
        · have h4 := hb i x hx
          simp only [badAt, badN, Bool.or_eq_false_iff, decide_eq_false_iff_not, Bool.not_eq_false'] at h4
          exact ⟨h4.1.1.1.1, by omega, by omega⟩
        · have h4 := hb 0 x hx
          simp only [badAt, Bool.or_eq_false_iff, decide_true, Bool.true_and, Bool.not_eq_false', root, Bool.and_eq_true, decide_eq_true_eq, beq_iff_eq] at h4
          exact h4.1.2
        · have h4 := hb i x hx
          simp only [badAt, Bool.or_eq_false_iff] at h4
          have h5 := h4.2
          simp only [h0, decide_true, Bool.true_and, decide_eq_false_iff_not] at h5
          exact idx_take (by omega)
structure Fit (l : List Br) (cs : List Int) (V : List (List Mk)) : Prop where
  len : V.length ≤ l.length
  zero : ∀ (c : Int) (v : List Mk), cs[0]? = some c → V[0]? = some v → v = own 0 c
  step : ∀ (i : Nat) (b : Br) (c : Int) (v : List Mk), 0 < i → l[i]? = some b → cs[i]? = some c → V[i]? = some v → ∃ (j : Nat) (f : List Mk), j < i ∧ idx (has b.frm) l = j ∧ V[j]? = some f ∧ b.at' ≤ f.length ∧ v = f.take b.at'.toNat ++ own i c
theorem fit_of {l : List Br} {cs : List Int} (ho : Ok l) : ∀ {n : Nat} {V : List (List Mk)}, n ≤ l.length → vws l cs n = some V → Fit l cs V
  | 0, V, _, h => by
    simp only [vws, Option.some.injEq] at h; subst h
    exact ⟨by simp, by simp, by simp⟩
  | n + 1, V, hn, h => by
    simp only [vws, Option.bind_eq_some_iff] at h
    obtain ⟨o, h1, h2⟩ := h
    have hl := vws_len h1
    have ih := fit_of ho (by omega) h1
    simp only [vstep, hl] at h2
    split at h2
    · next b c e1 e2 =>
      have old : ∀ (w : List Mk) (i : Nat), i < n → (o ++ [w])[i]? = o[i]? := fun w i hi => List.getElem?_append_left (by omega)
      have new : ∀ (w : List Mk), (o ++ [w])[n]? = some w := fun w => by rw [List.getElem?_append_right (by omega), hl]; simp
      split at h2
      · next h0 =>
        cases h2
        subst h0
        refine ⟨by simp; omega, fun c' v k1 k2 => ?_, fun i b' c' v hi k1 k2 k3 => ?_⟩
        · rw [new] at k2; cases k2; rw [e2] at k1; cases k1; rfl
        · have := some_lt k3; simp at this; omega
      · next h0 =>
        split at h2
        · next f e3 =>
          split at h2
          · simp at h2
          · next h4 =>
            cases h2
            refine ⟨by simp; omega, fun c' v k1 k2 => ?_, fun i b' c' v hi k1 k2 k3 => ?_⟩
            · rw [old _ 0 (by omega)] at k2; exact ih.zero c' v k1 k2
            · rcases Nat.lt_or_ge i n with q | q
              · rw [old _ i q] at k3
                obtain ⟨j, f', g1, g2, g3, g4, g5⟩ := ih.step i b' c' v hi k1 k2 k3
                exact ⟨j, f', g1, g2, by rw [old _ j (by omega)]; exact g3, g4, g5⟩
              · have hlt := some_lt k3
                simp at hlt
                have : i = n := by omega
                subst this
                rw [new] at k3; cases k3
                rw [e1] at k1; cases k1
                rw [e2] at k2; cases k2
                obtain ⟨j, g1, g2⟩ := ho.from' i b e1 hi
                have : (idx (has b.frm) l).toNat = j := by omega
                rw [this] at e3
                exact ⟨j, f, g1, g2, by rw [old _ j (by omega)]; exact e3, by omega, rfl⟩
        · simp at h2
    · simp at h2
theorem fit_len {l : List Br} {cs : List Int} {V : List (List Mk)} (ho : Ok l) (hf : Fit l cs V) {i : Nat} {b : Br} {c : Int} {v : List Mk} (h1 : l[i]? = some b) (h2 : cs[i]? = some c) (h3 : V[i]? = some v) : v.length = b.at'.toNat + c.toNat := by
  rcases Nat.eq_zero_or_pos i with q | q
  · subst q
    rw [hf.zero c v h2 h3, own_len, (ho.root b h1).2]; simp
  · obtain ⟨j, f, g1, g2, g3, g4, g5⟩ := hf.step i b c v q h1 h2 h3
    have := (ho.good i b h1).2.1
    rw [g5, List.length_append, own_len, List.length_take]; omega
end Go.AX.Br
namespace Go.AX.Br
open Go.Proofs Go.RowKit Go.IntWalk
def great (l : List Br) (cs : List Int) : Bool := l.any (fun b => decide (100 < b.name.size) || decide (100 < b.frm.size)) || (decide (20 < l.length) || decide (20 < cs.length))
attribute [go_sem] mkD mkA vD
theorem mkD_len {l : List Mk} : (∀ e ∈ l.map mkD, e.length = 2) = True := eq_true (map_len (g := mkD) fun _ => rfl)
theorem iD_len {l : List Int} : (∀ e ∈ l.map iD, e.length = 1) = True := eq_true (map_len (g := iD) fun _ => rfl)
theorem vD_len {l : List (List Mk)} : (∀ e ∈ l.map vD, e.length = 1) = True := eq_true (map_len (g := vD) fun _ => rfl)
attribute [go_sem] mkD_len iD_len vD_len
theorem great_ref (l : List Br) (cs : List Int) (hl : Sm l.length) : Spec Tryz.prog 47 [.d (.sl (l.map bD)), .d (.sl (cs.map iD))] [] (.d (.bool (great l cs))) [] := by
  unfold Sm at hl
  refine spec_of_ev (fn := Tryz.f47) DX_ok 3000 Tryz.func47 rfl rfl (Nat.le_of_ble_eq_true rfl) ?_
  simp (maxSteps := 4000000) -implicitDefEqProofs only [Tryz.f47, go_sem]
  refine eloop (S := Nat) (fun i => mkE 36 [(0, .d (.sl (l.map bD))), (1, .d (.sl (cs.map iD))), (5, .d (.int .i64 i))]) (fun i => []) (fun i => i ≤ l.length ∧ ∀ j x, l[j]? = some x → j < i → (decide (100 < x.name.size) || decide (100 < x.frm.size)) = false) (fun i => l.length - i) 0 ⟨by omega, by omega⟩ (Wk.sub (by (simp only [go_sem]) <;> trivial)) ?_
  rintro i ⟨hi, hj⟩
  simp (maxSteps := 4000000) -implicitDefEqProofs only [go_sem, Nat.reduceAdd, Nat.reduceSub, Nat.reduceLT, Nat.reduceLeDiff, Nat.reduceEqDiff, ↓reduceIte]
  refine cbs (fun h2 => ?_) (fun h2 => ?_)
  · simp only [decide_eq_true_eq] at h2
    obtain ⟨x, hx⟩ : ∃ x, l[i]? = some x := ⟨l[i]'(by omega), List.getElem?_eq_getElem _⟩
    have need : (0 ≤ (i : Int) ∧ (i : Int) < l.length) = True := eq_true (by omega)
    have yes : (decide (100 < x.name.size) || decide (100 < x.frm.size)) = true → great l cs = true := fun h => by
      simp only [great, Bool.or_eq_true]; exact .inl (List.any_eq_true.2 ⟨x, List.mem_of_getElem? hx, h⟩)
    rcases Int.lt_or_le 100 x.name.size with hA | hA
    · have d1 := decide_eq_true hA
      simp (maxSteps := 4000000) -implicitDefEqProofs only [go_sem, need, hx, d1, Option.some.injEq, forall_eq', and_true, true_and, Bool.not_true, Bool.not_false, decide_true, Nat.reduceAdd, Nat.reduceSub, Nat.reduceLT, Nat.reduceLeDiff, Nat.reduceEqDiff, ↓reduceIte]
      exact wk_bool (yes (by simp; omega)).symm
    have d1 := decide_eq_false (Int.not_lt.2 hA)
    rcases Int.lt_or_le 100 x.frm.size with hB | hB
    · have d2 := decide_eq_true hB
      simp (maxSteps := 4000000) -implicitDefEqProofs only [go_sem, need, hx, d1, d2, Option.some.injEq, forall_eq', and_true, true_and, Bool.not_true, Bool.not_false, decide_true, Nat.reduceAdd, Nat.reduceSub, Nat.reduceLT, Nat.reduceLeDiff, Nat.reduceEqDiff, ↓reduceIte]
      exact wk_bool (yes (by simp; omega)).symm
    have d2 := decide_eq_false (Int.not_lt.2 hB)
    simp (maxSteps := 4000000) -implicitDefEqProofs only [go_sem, need, hx, d1, d2, Option.some.injEq, forall_eq', and_true, true_and, Bool.not_true, Bool.not_false, decide_true, Nat.reduceAdd, Nat.reduceSub, Nat.reduceLT, Nat.reduceLeDiff, Nat.reduceEqDiff, ↓reduceIte]
    rw [i64_in _ (by omega)]
    exact .mk (i + 1) ⟨by omega, upto_succ hx (by simp; omega) hj⟩ (by omega) (Wk.sub (by (simp only [go_sem]) <;> trivial))
  · simp only [decide_eq_false_iff_not] at h2
    have no : l.any (fun b => decide (100 < b.name.size) || decide (100 < b.frm.size)) = false := by
      rw [List.any_eq_false]
      intro x hx
      obtain ⟨j, hj'⟩ := List.mem_iff_getElem?.1 hx
      have := hj j x hj' (by have := some_lt hj'; omega)
      simp [this]
    rcases Int.lt_or_le 20 l.length with hA | hA
    · have d1 := decide_eq_true hA
      simp (maxSteps := 4000000) -implicitDefEqProofs only [go_sem, d1, Option.some.injEq, forall_eq', and_true, true_and, Bool.not_true, Bool.not_false, decide_true, Nat.reduceAdd, Nat.reduceSub, Nat.reduceLT, Nat.reduceLeDiff, Nat.reduceEqDiff, ↓reduceIte]
      exact wk_bool (by simp [great]; omega)
    have d1 := decide_eq_false (Int.not_lt.2 hA)
    simp (maxSteps := 4000000) -implicitDefEqProofs only [go_sem, d1, Option.some.injEq, forall_eq', and_true, true_and, Bool.not_true, Bool.not_false, decide_true, Nat.reduceAdd, Nat.reduceSub, Nat.reduceLT, Nat.reduceLeDiff, Nat.reduceEqDiff, ↓reduceIte]
    refine wk_bool ?_
    simp only [great, no, Bool.false_or]
    rw [decide_eq_false (show ¬ 20 < l.length by omega), Bool.false_or, decide_eq_decide]
    omega
theorem bad_own (c : Int) : Spec Tryz.prog 113 [.d (.int .i64 c)] [] (.d (.bool (badC c))) [] := by
  refine spec_of_ev (fn := Tryz.f113) DX_ok 3000 Tryz.func113 rfl rfl (Nat.le_of_ble_eq_true rfl) ?_
  simp (maxSteps := 4000000) -implicitDefEqProofs only [Tryz.f113, go_sem]
  refine gbs (fun h1 => ?_) (fun h1 => ?_)
  · simp (maxSteps := 4000000) -implicitDefEqProofs only [go_sem, Nat.reduceAdd, Nat.reduceSub, Nat.reduceLT, Nat.reduceLeDiff, Nat.reduceEqDiff, ↓reduceIte]
    exact wk_bool (by simp only [badC, h1, Bool.true_or])
  · simp (maxSteps := 4000000) -implicitDefEqProofs only [go_sem, Nat.reduceAdd, Nat.reduceSub, Nat.reduceLT, Nat.reduceLeDiff, Nat.reduceEqDiff, ↓reduceIte]
    exact wk_bool (by simp only [badC, h1, Bool.false_or])
def iA (c : Int) : AV := .d (.int .i64 c)
attribute [go_sem] iA
theorem ints_indexFunc (l : List Int) (p : Int → Bool) (f : FuncId) (caps : List AV) (τ : List AObj) (hl : Sm l.length) (h : ∀ x ∈ l, Spec Tryz.prog f (iA x :: caps) τ (.d (.bool (p x))) τ) :
    Spec Tryz.prog 99 [.d (.sl (l.map iD)), .fn f caps] τ (.d (.int .i64 (idx p l))) τ := by
  unfold Sm at hl
  refine spec_of_ev (fn := Tryz.f99) DX_ok 3000 Tryz.func99 rfl rfl (Nat.le_of_ble_eq_true rfl) ?_
  simp (maxSteps := 4000000) -implicitDefEqProofs only [Tryz.f99, go_sem]
  refine eloop (S := Nat) (fun i => mkE 19 [(0, .d (.sl (l.map iD))), (1, .fn f caps), (6, .d (.sl (l.map iD))), (7, .d (.int .i64 l.length)), (8, .d (.int .i64 i))]) (fun i => τ) (fun i => i ≤ l.length ∧ ∀ j x, l[j]? = some x → j < i → p x = false) (fun i => l.length - i) 0 ⟨by omega, by omega⟩ (Wk.sub (by (simp only [go_sem]) <;> trivial)) ?_
  rintro i ⟨hi, hj⟩
  simp (maxSteps := 4000000) -implicitDefEqProofs only [go_sem, Nat.reduceAdd, Nat.reduceSub, Nat.reduceLT, Nat.reduceLeDiff, Nat.reduceEqDiff, ↓reduceIte]
  refine cbs (fun h1 => ?_) (fun h1 => ?_)
  · simp only [go_sem, decide_eq_true_eq] at h1 ⊢
    refine ⟨by omega, fun x hx => .all _ _ (h x (List.mem_of_getElem? hx)) ?_⟩
    simp (maxSteps := 4000000) -implicitDefEqProofs only [go_sem, Nat.reduceAdd, Nat.reduceSub, Nat.reduceLT, Nat.reduceLeDiff, Nat.reduceEqDiff, ↓reduceIte]
    refine cbs (fun h2 => ?_) (fun h2 => ?_)
    · simp (maxSteps := 4000000) -implicitDefEqProofs only [go_sem, Nat.reduceAdd, Nat.reduceSub, Nat.reduceLT, Nat.reduceLeDiff, Nat.reduceEqDiff, ↓reduceIte]
      rw [idx_found hx h2 hj]
      exact Wk.refl _ _ _
    · simp (maxSteps := 4000000) -implicitDefEqProofs only [go_sem, Nat.reduceAdd, Nat.reduceSub, Nat.reduceLT, Nat.reduceLeDiff, Nat.reduceEqDiff, ↓reduceIte]
      rw [i64_in _ (by omega)]
      refine .mk (i + 1) ⟨by omega, fun j y hy hlt => ?_⟩ (by omega) (Wk.sub (by (simp only [go_sem]) <;> trivial))
      rcases Nat.lt_or_ge j i with q | q
      · exact hj j y hy q
      · have : j = i := by omega
        subst this; rw [hx] at hy; cases hy; exact h2
  · simp only [go_sem, decide_eq_false_iff_not] at h1 ⊢
    rw [idx_none fun j y hy => hj j y hy (by have := some_lt hy; omega)]
    exact Wk.refl _ _ _
theorem ints_containsFunc (l : List Int) (p : Int → Bool) (f : FuncId) (caps : List AV) (τ : List AObj) (hl : Sm l.length) (h : ∀ x ∈ l, Spec Tryz.prog f (iA x :: caps) τ (.d (.bool (p x))) τ) :
    Spec Tryz.prog 63 [.d (.sl (l.map iD)), .fn f caps] τ (.d (.bool (l.any p))) τ := by
  refine spec_of_ev (fn := Tryz.f63) DX_ok 3000 Tryz.func63 rfl rfl (Nat.le_of_ble_eq_true rfl) ?_
  simp (maxSteps := 4000000) -implicitDefEqProofs only [Tryz.f63, go_sem]
  refine .all _ _ (ints_indexFunc l p f caps τ hl h) ?_
  simp (maxSteps := 4000000) -implicitDefEqProofs only [go_sem, Nat.reduceAdd, Nat.reduceSub, Nat.reduceLT, Nat.reduceLeDiff, Nat.reduceEqDiff, ↓reduceIte]
  rw [idx_any]
  exact Wk.refl _ _ _
theorem vws_none {l : List Br} {cs : List Int} {n : Nat} (h : vws l cs n = none) : ∀ m, n ≤ m → vws l cs m = none
  | 0, hm => by have : n = 0 := by omega
                subst this; exact h
  | m + 1, hm => by
    rcases Nat.lt_or_ge n (m + 1) with q | q
    · simp only [vws, vws_none h m (by omega), Option.bind_none]
    · have : n = m + 1 := by omega
      subst this; exact h
theorem vstep_zero {l : List Br} {cs : List Int} {V : List (List Mk)} {x : Br} {c : Int} (h0 : V.length = 0) (hx : l[V.length]? = some x) (hc : cs[V.length]? = some c) : vstep l cs V = some (V ++ [own V.length c]) := by
  simp only [vstep, hx, hc]; rw [if_pos h0]
theorem vstep_pos {l : List Br} {cs : List Int} {V : List (List Mk)} {x : Br} {c : Int} {j : Nat} {f : List Mk} (h0 : 0 < V.length) (hx : l[V.length]? = some x) (hc : cs[V.length]? = some c) (hj : idx (has x.frm) l = j) (hf : V[j]? = some f) :
    vstep l cs V = if (f.length : Int) < x.at' then none else some (V ++ [f.take x.at'.toNat ++ own V.length c]) := by
  simp only [vstep, hx, hc]; rw [if_neg (by omega), hj]; simp only [Int.toNat_natCast, hf]
theorem vws_succ {l : List Br} {cs : List Int} {n : Nat} {V : List (List Mk)} (h : vws l cs n = some V) : vws l cs (n + 1) = vstep l cs V := by simp only [vws, h, Option.bind_some]
theorem fit_none {l : List Br} {cs : List Int} {n : Nat} (h : vws l cs n = none) (hn : n ≤ l.length) : fit l cs = false := by simp [fit, vws_none h _ hn]
theorem starts_own (l : List Br) (cs : List Int) (hl : check l = 0) (hc : cs.length = l.length) (hb : ∀ c ∈ cs, 0 ≤ c ∧ c ≤ 40) : Spec Tryz.prog 114 [.d (.sl (l.map bD)), .d (.sl (cs.map iD))] [] (.tup [.any, .d (.bool (fit l cs))]) [] := by
  have ho := ok_of hl
  have hl8 := ho.len
  refine spec_of_ev (fn := Tryz.f114) DX_ok 3000 Tryz.func114 rfl rfl (Nat.le_of_ble_eq_true rfl) ?_
  simp (maxSteps := 4000000) -implicitDefEqProofs only [Tryz.f114, go_sem]
  refine eloop (S := Nat × List (ByteArray × Int) × List Int) (fun s => mkE 46 [(0, .d (.sl (l.map bD))), (1, .d (.sl (cs.map iD))), (6, .mp 0), (7, .own 1), (11, .d (.sl (l.map bD))), (12, .d (.int .i64 l.length)), (13, .d (.int .i64 s.1))])
    (fun s => [.map false false (mD sD iD s.2.1), .row 1 (s.2.2.map iD)])
    (fun s => s.1 ≤ l.length ∧ s.2.2.length = s.1 ∧ (∃ V, vws l cs s.1 = some V) ∧ ∀ j b c, j < s.1 → l[j]? = some b → cs[j]? = some c → look b.name s.2.1 = some (b.at' + c)) (fun s => l.length - s.1) (0, [], []) ?_ ?_ ?_
  · exact ⟨by omega, rfl, ⟨_, rfl⟩, by omega⟩
  · refine Wk.trans (Wk.nil 7 1 (by simp only [go_sem])) ?_
    simp (maxSteps := 4000000) -implicitDefEqProofs only [go_sem, Nat.reduceAdd, Nat.reduceSub, Nat.reduceLT, Nat.reduceLeDiff, Nat.reduceEqDiff, ↓reduceIte]
    exact Wk.sub (by simp only [go_sem]; trivial)
  intro s hs
  have hi : s.1 ≤ l.length := hs.1
  have hs2 : s.2.2.length = s.1 := hs.2.1
  obtain ⟨V, hV⟩ := hs.2.2.1
  have hk := hs.2.2.2
  clear hs
  have hVl := vws_len hV
  have hF := fit_of ho hi hV
  simp (maxSteps := 4000000) -implicitDefEqProofs only [go_sem, Nat.reduceAdd, Nat.reduceSub, Nat.reduceLT, Nat.reduceLeDiff, Nat.reduceEqDiff, ↓reduceIte]
  refine cbs (fun h2 => ?_) (fun h2 => ?_)
  · simp only [decide_eq_true_eq] at h2
    obtain ⟨x, hx⟩ : ∃ x, l[s.1]? = some x := ⟨l[s.1]'(by omega), List.getElem?_eq_getElem _⟩
    obtain ⟨c, hx2⟩ : ∃ c, cs[s.1]? = some c := ⟨cs[s.1]'(by omega), List.getElem?_eq_getElem _⟩
    have need : (0 ≤ (s.1 : Int) ∧ (s.1 : Int) < l.length) = True := eq_true (by omega)
    have need2 : (0 ≤ (s.1 : Int) ∧ (s.1 : Int) < cs.length) = True := eq_true (by omega)
    have hlt : (s.1 < cs.length) = True := eq_true (by omega)
    simp (maxSteps := 4000000) -implicitDefEqProofs only [go_sem, need, hx, Option.some.injEq, forall_eq', and_true, true_and, Bool.not_true, Bool.not_false, decide_true, Nat.reduceAdd, Nat.reduceSub, Nat.reduceLT, Nat.reduceLeDiff, Nat.reduceEqDiff, ↓reduceIte]
    have hub := hb c (List.mem_of_getElem? hx2)
    have hux := (ho.good _ x hx).2
    have next : ∀ V', vws l cs (s.1 + 1) = some V' → ∀ j b c', j < s.1 + 1 → l[j]? = some b → cs[j]? = some c' → look b.name (mput x.name (x.at' + c) s.2.1) = some (b.at' + c') := fun V' _ j b c' hj hb' hc' => by
      rw [look_put]
      split
      · next e =>
        have e1 := ho.name _ b hb'
        have e2 := ho.name _ x hx
        rw [e] at e1
        have : j = s.1 := by omega
        subst this
        rw [hx] at hb'; cases hb'; rw [hx2] at hc'; cases hc'; rfl
      · next e =>
        rcases Nat.lt_or_ge j s.1 with q | q
        · exact hk j b c' q hb' hc'
        · have : j = s.1 := by omega
          subst this; rw [hx] at hb'; cases hb'; exact absurd rfl e
    have n1 : ∀ k, (∃ ks, KeyT Tryz.prog 9 false ks ∧ kindOk false ks [D.str k] ∧ ∀ y ∈ mD sD iD s.2.1, kindOk false ks y.1) = True := fun k => mneed (kD := sD) (vD := iD) Ty.keyT_9 sD_kind k s.2.1
    have n2 : upM [D.str x.name] [D.int .i64 (x.at' + c)] (mD sD iD s.2.1) = mD sD iD (mput x.name (x.at' + c) s.2.1) := upM_mD (kD := sD) (vD := iD) sD_eq _ _ _
    have n3 : ∀ k, lkM [D.str k] (mD sD iD s.2.1) = (look k s.2.1).map iD := fun k => lkM_mD (kD := sD) (vD := iD) sD_eq _ _
    have w1 : IntKind.i64.wrap (x.at' + c) = x.at' + c := i64_in _ (by omega)
    have eV : s.1 = V.length := hVl.symm
    have ap : (∀ (e : List D), e ∈ [[D.int .i64 x.at']] → e.length = 1) ∧ (s.2.2.length + 1) * 8 ≤ 140737488355328 ∧ s.2.2.length ≤ 9223372036854775806 := ⟨by simp, by omega, by omega⟩
    have ap2 : s.2.2.map iD ++ [[D.int .i64 x.at']] = (s.2.2 ++ [x.at']).map iD := by simp [iD]
    rcases Nat.eq_zero_or_pos s.1 with h0 | h0
    · have g0 : decide (0 < (s.1 : Int)) = false := by simp [h0]
      have hv1 : vws l cs (s.1 + 1) = some (V ++ [own V.length c]) := by rw [vws_succ hV]; exact vstep_zero (by omega) (by rw [← eV]; exact hx) (by rw [← eV]; exact hx2)
      simp (maxSteps := 4000000) -implicitDefEqProofs only [go_sem, g0, Option.some.injEq, forall_eq', and_true, true_and, Bool.not_true, Bool.not_false, decide_true, Nat.reduceAdd, Nat.reduceSub, Nat.reduceLT, Nat.reduceLeDiff, Nat.reduceEqDiff, ↓reduceIte]
      refine ⟨ap, ?_⟩
      refine DX.plain (.take 0 false (.take 1 false (.take 2 false (.take 3 false (.take 4 false (.take 5 false (.take 6 false (.take 7 false (.take 8 false (.take 9 false (.run [10] (fun _ => []) fun _ => .done))))))))))) (by kernel_rfl) (by kernel_rfl) Ty.mixed ?_
      simp (maxSteps := 4000000) -implicitDefEqProofs only [go_sem, need, need2, hlt, hx2, n1, n2, w1, Option.some.injEq, forall_eq', and_true, true_and, Bool.not_true, Bool.not_false, decide_true, Nat.reduceAdd, Nat.reduceSub, Nat.reduceLT, Nat.reduceLeDiff, Nat.reduceEqDiff, ↓reduceIte]
      rw [i64_in _ (by omega)]
      exact .mk (s.1 + 1, mput x.name (x.at' + c) s.2.1, s.2.2 ++ [x.at']) ⟨by simp only; omega, by simp only [List.length_append, List.length_singleton]; omega, ⟨_, hv1⟩, next _ hv1⟩ (by simp only; omega) (by rw [ap2]; exact (Wk.via [0, 4] (by (simp only [go_sem, ↓reduceIte]) <;> trivial) (by first | (simp (maxSteps := 4000000) -implicitDefEqProofs only [go_sem, Nat.reduceAdd, Nat.reduceSub, Nat.reduceLT, Nat.reduceLeDiff, Nat.reduceEqDiff, ↓reduceIte]; done) | ((simp (maxSteps := 4000000) -implicitDefEqProofs only [go_sem, Nat.reduceAdd, Nat.reduceSub, Nat.reduceLT, Nat.reduceLeDiff, Nat.reduceEqDiff, ↓reduceIte]) <;> omega)) (by simp) (by first | (simp; done) | (simp [so]; done)) (by (simp (maxSteps := 4000000) -implicitDefEqProofs only [go_sem, Nat.reduceAdd, Nat.reduceSub, Nat.reduceLT, Nat.reduceLeDiff, Nat.reduceEqDiff, ↓reduceIte]) <;> trivial) (by first | (simp only [go_sem]; done) | ((simp (maxSteps := 4000000) -implicitDefEqProofs only [go_sem, Nat.reduceAdd, Nat.reduceSub, Nat.reduceLT, Nat.reduceLeDiff, Nat.reduceEqDiff, ↓reduceIte]) <;> omega)) (Nat.zero_le _) (fun i h => absurd h (Nat.not_lt_zero i))))
    · have g0 : decide (0 < (s.1 : Int)) = true := by simp; omega
      obtain ⟨j, hj1, hj2⟩ := ho.from' _ x hx h0
      obtain ⟨f, hf⟩ : ∃ f, V[j]? = some f := ⟨V[j]'(by omega), List.getElem?_eq_getElem _⟩
      obtain ⟨cj, hcj⟩ : ∃ c, cs[j]? = some c := ⟨cs[j]'(by omega), List.getElem?_eq_getElem _⟩
      obtain ⟨j', b, k1, k2, k3⟩ := idx_get (p := has x.frm) (l := l) (by omega)
      have : j' = j := by omega
      subst this
      have hbn : b.name = x.frm := by simpa [has] using k3
      have lkf : look x.frm s.2.1 = some (b.at' + cj) := by rw [← hbn]; exact hk j' b cj hj1 k2 hcj
      have hfl := fit_len ho hF k2 hcj hf
      have hbb := (ho.good _ b k2).2
      have hcb := hb cj (List.mem_of_getElem? hcj)
      have hv1 := vws_succ hV
      rw [vstep_pos (by omega) (by rw [← eV]; exact hx) (by rw [← eV]; exact hx2) hj2 hf] at hv1
      rcases Int.lt_or_le (b.at' + cj) x.at' with hA | hA
      · have d1 := decide_eq_true hA
        rw [if_pos (by omega)] at hv1
        simp (maxSteps := 4000000) -implicitDefEqProofs only [go_sem, g0, n1, n3, lkf, d1, Option.some.injEq, forall_eq', and_true, true_and, Bool.not_true, Bool.not_false, decide_true, Nat.reduceAdd, Nat.reduceSub, Nat.reduceLT, Nat.reduceLeDiff, Nat.reduceEqDiff, ↓reduceIte]
        rw [fit_none hv1 (by omega)]
        exact wk_tup_any
      · have d1 := decide_eq_false (Int.not_lt.2 hA)
        rw [if_neg (by omega)] at hv1
        simp (maxSteps := 4000000) -implicitDefEqProofs only [go_sem, g0, n1, n3, lkf, d1, Option.some.injEq, forall_eq', and_true, true_and, Bool.not_true, Bool.not_false, decide_true, Nat.reduceAdd, Nat.reduceSub, Nat.reduceLT, Nat.reduceLeDiff, Nat.reduceEqDiff, ↓reduceIte]
        refine ⟨ap, ?_⟩
        refine DX.plain (.take 0 false (.take 1 false (.take 2 false (.take 3 false (.take 4 false (.take 5 false (.take 6 false (.take 7 false (.take 8 false (.take 9 false (.run [10] (fun _ => []) fun _ => .done))))))))))) (by kernel_rfl) (by kernel_rfl) Ty.mixed ?_
        simp (maxSteps := 4000000) -implicitDefEqProofs only [go_sem, need, need2, hlt, hx2, n1, n2, w1, Option.some.injEq, forall_eq', and_true, true_and, Bool.not_true, Bool.not_false, decide_true, Nat.reduceAdd, Nat.reduceSub, Nat.reduceLT, Nat.reduceLeDiff, Nat.reduceEqDiff, ↓reduceIte]
        rw [i64_in _ (by omega)]
        exact .mk (s.1 + 1, mput x.name (x.at' + c) s.2.1, s.2.2 ++ [x.at']) ⟨by simp only; omega, by simp only [List.length_append, List.length_singleton]; omega, ⟨_, hv1⟩, next _ hv1⟩ (by simp only; omega) (by rw [ap2]; exact (Wk.via [0, 4] (by (simp only [go_sem, ↓reduceIte]) <;> trivial) (by first | (simp (maxSteps := 4000000) -implicitDefEqProofs only [go_sem, Nat.reduceAdd, Nat.reduceSub, Nat.reduceLT, Nat.reduceLeDiff, Nat.reduceEqDiff, ↓reduceIte]; done) | ((simp (maxSteps := 4000000) -implicitDefEqProofs only [go_sem, Nat.reduceAdd, Nat.reduceSub, Nat.reduceLT, Nat.reduceLeDiff, Nat.reduceEqDiff, ↓reduceIte]) <;> omega)) (by simp) (by first | (simp; done) | (simp [so]; done)) (by (simp (maxSteps := 4000000) -implicitDefEqProofs only [go_sem, Nat.reduceAdd, Nat.reduceSub, Nat.reduceLT, Nat.reduceLeDiff, Nat.reduceEqDiff, ↓reduceIte]) <;> trivial) (by first | (simp only [go_sem]; done) | ((simp (maxSteps := 4000000) -implicitDefEqProofs only [go_sem, Nat.reduceAdd, Nat.reduceSub, Nat.reduceLT, Nat.reduceLeDiff, Nat.reduceEqDiff, ↓reduceIte]) <;> omega)) (Nat.zero_le _) (fun i h => absurd h (Nat.not_lt_zero i))))
  · simp only [decide_eq_false_iff_not] at h2
    simp (maxSteps := 4000000) -implicitDefEqProofs only [go_sem, Nat.reduceAdd, Nat.reduceSub, Nat.reduceLT, Nat.reduceLeDiff, Nat.reduceEqDiff, ↓reduceIte]
    have : fit l cs = true := by
      have : s.1 = l.length := by omega
      rw [this] at hV; simp [fit, hV]
    rw [this]
    exact wk_tup_any
end Go.AX.Br
namespace Go.AX.Br
open Go.Proofs Go.RowKit Go.IntWalk
theorem own_take {i : Nat} {c : Int} {k : Nat} (hk : k < c.toNat) : (own i c).take (k + 1) = (own i c).take k ++ [⟨i, k⟩] := by
  have : (own i c)[k]? = some ⟨i, k⟩ := by simp [own, hk]
  rw [List.take_add_one, this]; rfl
theorem own_full {i : Nat} {c : Int} : (own i c).take c.toNat = own i c := List.take_of_length_le (by rw [own_len]; exact Nat.le_refl _)
def vE (l : List Br) (cs : List Int) (V : List (List Mk)) (i : Nat) (c : Int) (pre : List Mk) : Option Nat → List AV
  | some k => mkE 65 [(0, .d (.sl (l.map bD))), (1, .d (.sl (cs.map iD))), (6, .own 0), (7, .d (.int .i64 i)), (8, .own 1), (10, .d (.int .i64 k))]
  | none => mkE 65 [(0, .d (.sl (l.map bD))), (1, .d (.sl (cs.map iD))), (6, .own 0), (7, .d (.int .i64 i)), (8, .d (.sl ((pre ++ own i c).map mkD))), (10, .d (.int .i64 c))]
def vH (V : List (List Mk)) (i : Nat) (c : Int) (pre : List Mk) : Option Nat → List AObj
  | some k => [.row 1 (V.map vD), .row 2 ((pre ++ (own i c).take k).map mkD)]
  | none => [.row 1 (V.map vD)]
def vO (c : Int) : Option Nat → Prop
  | some k => k < c.toNat
  | none => True
def vM (c : Int) : Option Nat → Nat
  | some k => c.toNat - k
  | none => 0
theorem views_done (l : List Br) (cs : List Int) (V : List (List Mk)) (i : Nat) (c : Int) (k : Int) (hk : k = c) (v : List Mk) : Wk 0 (mkE 65 [(0, .d (.sl (l.map bD))), (1, .d (.sl (cs.map iD))), (6, .own 0), (7, .d (.int .i64 i)), (8, .own 1), (10, .d (.int .i64 k))]) [.row 1 (V.map vD), .row 2 (v.map mkD)]
    (mkE 65 [(0, .d (.sl (l.map bD))), (1, .d (.sl (cs.map iD))), (6, .own 0), (7, .d (.int .i64 i)), (8, .d (.sl (v.map mkD))), (10, .d (.int .i64 c))]) [.row 1 (V.map vD)] := by
  subst hk
  refine Wk.trans (Wk.frz 1 rfl) ?_
  have nb : sbs 1 (.sl (v.map mkD)) (mkE 65 [(0, .d (.sl (l.map bD))), (1, .d (.sl (cs.map iD))), (6, .own 0), (7, .d (.int .i64 i)), (8, .own 1), (10, .d (.int .i64 k))]) = mkE 65 [(0, .d (.sl (l.map bD))), (1, .d (.sl (cs.map iD))), (6, .own 0), (7, .d (.int .i64 i)), (8, .d (.sl (v.map mkD))), (10, .d (.int .i64 k))] := rfl
  rw [nb]
  simp only [go_sem]
  exact (Wk.via [0] (by (simp only [go_sem, ↓reduceIte]) <;> trivial) (by first | (simp (maxSteps := 4000000) -implicitDefEqProofs only [go_sem, Nat.reduceAdd, Nat.reduceSub, Nat.reduceLT, Nat.reduceLeDiff, Nat.reduceEqDiff, ↓reduceIte]; done) | ((simp (maxSteps := 4000000) -implicitDefEqProofs only [go_sem, Nat.reduceAdd, Nat.reduceSub, Nat.reduceLT, Nat.reduceLeDiff, Nat.reduceEqDiff, ↓reduceIte]) <;> omega)) (by simp) (by first | (simp; done) | (simp [so]; done)) (by (simp (maxSteps := 4000000) -implicitDefEqProofs only [go_sem, Nat.reduceAdd, Nat.reduceSub, Nat.reduceLT, Nat.reduceLeDiff, Nat.reduceEqDiff, ↓reduceIte]) <;> trivial) (by first | (simp only [go_sem]; done) | ((simp (maxSteps := 4000000) -implicitDefEqProofs only [go_sem, Nat.reduceAdd, Nat.reduceSub, Nat.reduceLT, Nat.reduceLeDiff, Nat.reduceEqDiff, ↓reduceIte]) <;> omega)) (Nat.zero_le _) (fun i h => absurd h (Nat.not_lt_zero i)))
theorem views_at (l : List Br) (cs : List Int) (V : List (List Mk)) (i : Nat) (c : Int) (pre : List Mk) (k : Nat) (hk : k ≤ c.toNat) (h0 : 0 ≤ c) : Wk 0 (mkE 65 [(0, .d (.sl (l.map bD))), (1, .d (.sl (cs.map iD))), (6, .own 0), (7, .d (.int .i64 i)), (8, .own 1), (10, .d (.int .i64 k))]) [.row 1 (V.map vD), .row 2 ((pre ++ (own i c).take k).map mkD)]
    (vE l cs V i c pre (if k < c.toNat then some k else none)) (vH V i c pre (if k < c.toNat then some k else none)) := by
  split
  · exact Wk.refl _ _ _
  · have : k = c.toNat := by omega
    subst this
    rw [own_full]
    exact views_done l cs V i c _ (by omega) _
theorem views_ref (l : List Br) (cs : List Int) (hl : check l = 0) (hc : cs.length = l.length) (hb : ∀ c ∈ cs, 0 ≤ c ∧ c ≤ 40) : Spec Tryz.prog 92 [.d (.sl (l.map bD)), .d (.sl (cs.map iD))] [] (.tup [.d (.sl ((vw l cs).map vD)), .d (.bool (fit l cs))]) [] := by
  have ho := ok_of hl
  have hl8 := ho.len
  refine spec_of_ev (fn := Tryz.f92) DX_ok 3000 Tryz.func92 rfl rfl (Nat.le_of_ble_eq_true rfl) ?_
  simp (maxSteps := 4000000) -implicitDefEqProofs only [Tryz.f92, go_sem]
  refine eloop (S := Nat × List (List Mk)) (fun s => mkE 65 [(0, .d (.sl (l.map bD))), (1, .d (.sl (cs.map iD))), (6, .own 0), (7, .d (.int .i64 s.1))])
    (fun s => [.row 1 (s.2.map vD)]) (fun s => s.1 ≤ l.length ∧ vws l cs s.1 = some s.2) (fun s => l.length - s.1) (0, []) ⟨by omega, rfl⟩ ?_ ?_
  · refine Wk.trans (Wk.nil 6 1 (by simp only [go_sem])) ?_
    simp (maxSteps := 4000000) -implicitDefEqProofs only [go_sem, Nat.reduceAdd, Nat.reduceSub, Nat.reduceLT, Nat.reduceLeDiff, Nat.reduceEqDiff, ↓reduceIte]
    exact Wk.sub (by simp only [go_sem]; trivial)
  intro s hs
  have hi : s.1 ≤ l.length := hs.1
  have hV := hs.2
  clear hs
  have hVl := vws_len hV
  have hF := fit_of ho hi hV
  have eV : s.1 = s.2.length := hVl.symm
  simp (maxSteps := 4000000) -implicitDefEqProofs only [go_sem, Nat.reduceAdd, Nat.reduceSub, Nat.reduceLT, Nat.reduceLeDiff, Nat.reduceEqDiff, ↓reduceIte]
  refine cbs (fun h2 => ?_) (fun h2 => ?_)
  · simp only [decide_eq_true_eq] at h2
    obtain ⟨x, hx⟩ : ∃ x, l[s.1]? = some x := ⟨l[s.1]'(by omega), List.getElem?_eq_getElem _⟩
    obtain ⟨c, hx2⟩ : ∃ c, cs[s.1]? = some c := ⟨cs[s.1]'(by omega), List.getElem?_eq_getElem _⟩
    have need : (0 ≤ (s.1 : Int) ∧ (s.1 : Int) < l.length) = True := eq_true (by omega)
    have need2 : (0 ≤ (s.1 : Int) ∧ (s.1 : Int) < cs.length) = True := eq_true (by omega)
    have hlt : (s.1 < cs.length) = True := eq_true (by omega)
    have hlt2 : (s.1 < l.length) = True := eq_true (by omega)
    have hub := hb c (List.mem_of_getElem? hx2)
    have hux := (ho.good _ x hx).2
    have ini := fun pre : List Mk => views_at l cs s.2 s.1 c pre 0 (by omega) (by omega)
    simp only [List.take_zero, List.append_nil] at ini
    have ok0 : vO c (if 0 < c.toNat then some 0 else none) := by
      by_cases q : 0 < c.toNat
      · rw [if_pos q]; exact q
      · rw [if_neg q]; trivial
    rcases Nat.eq_zero_or_pos s.1 with h0 | h0
    case' inl =>
      have g0 : decide (0 < (s.1 : Int)) = false := by simp [h0]
      have hv1 : vws l cs (s.1 + 1) = some (s.2 ++ [own s.2.length c]) := by rw [vws_succ hV]; exact vstep_zero (by omega) (by rw [← eV]; exact hx) (by rw [← eV]; exact hx2)
      obtain ⟨pre, hpre⟩ : ∃ pre : List Mk, pre = [] := ⟨_, rfl⟩
      have hpl : pre.length ≤ 320 := by rw [hpre]; simp
      have hv2 : vws l cs (s.1 + 1) = some (s.2 ++ [pre ++ own s.1 c]) := by rw [hv1, hpre, ← eV]; rfl
      simp (maxSteps := 4000000) -implicitDefEqProofs only [go_sem, g0, Option.some.injEq, forall_eq', and_true, true_and, Bool.not_true, Bool.not_false, decide_true, Nat.reduceAdd, Nat.reduceSub, Nat.reduceLT, Nat.reduceLeDiff, Nat.reduceEqDiff, ↓reduceIte]
      refine eloop (S := Option Nat) (vE l cs s.2 s.1 c pre) (vH s.2 s.1 c pre) (vO c) (vM c) (if 0 < c.toNat then some 0 else none) ok0 ?_ ?_
      · refine Wk.trans (Wk.nil 8 2 (by simp only [go_sem])) (Wk.trans ?_ (ini pre))
        rw [hpre]
        simp (maxSteps := 4000000) -implicitDefEqProofs only [go_sem, Nat.reduceAdd, Nat.reduceSub, Nat.reduceLT, Nat.reduceLeDiff, Nat.reduceEqDiff, ↓reduceIte]
        exact Wk.sub (by simp only [go_sem]; trivial)
    case' inr =>
      have g0 : decide (0 < (s.1 : Int)) = true := by simp; omega
      obtain ⟨j, hj1, hj2⟩ := ho.from' _ x hx h0
      obtain ⟨f, hf⟩ : ∃ f, s.2[j]? = some f := ⟨s.2[j]'(by omega), List.getElem?_eq_getElem _⟩
      obtain ⟨cj, hcj⟩ : ∃ c, cs[j]? = some c := ⟨cs[j]'(by omega), List.getElem?_eq_getElem _⟩
      obtain ⟨bj, hbj⟩ : ∃ b, l[j]? = some b := ⟨l[j]'(by omega), List.getElem?_eq_getElem _⟩
      have hfl := fit_len ho hF hbj hcj hf
      have hbb := (ho.good _ bj hbj).2
      have hcb := hb cj (List.mem_of_getElem? hcj)
      have hv1 := vws_succ hV
      rw [vstep_pos (by omega) (by rw [← eV]; exact hx) (by rw [← eV]; exact hx2) hj2 hf] at hv1
      have need3 : (0 ≤ (j : Int) ∧ (j : Int) < s.2.length) = True := eq_true (by omega)
      have need4 : (j < s.2.length) = True := eq_true (by omega)
      simp (maxSteps := 4000000) -implicitDefEqProofs only [go_sem, g0, need, hx, Option.some.injEq, forall_eq', and_true, true_and, Bool.not_true, Bool.not_false, decide_true, Nat.reduceAdd, Nat.reduceSub, Nat.reduceLT, Nat.reduceLeDiff, Nat.reduceEqDiff, ↓reduceIte]
      refine ecall0 _ (index_ref l x.frm (by unfold Sm; omega)) (by simp only [go_sem]) (by simp only [go_sem]) ?_
      simp (maxSteps := 4000000) -implicitDefEqProofs only [go_sem, Nat.reduceAdd, Nat.reduceSub, Nat.reduceLT, Nat.reduceLeDiff, Nat.reduceEqDiff, ↓reduceIte]
      rcases Int.lt_or_le f.length x.at' with hA | hA
      · have d1 := decide_eq_true hA
        rw [if_pos (by omega)] at hv1
        simp (maxSteps := 4000000) -implicitDefEqProofs only [go_sem, hj2, need3, need4, hf, need, hx, d1, Option.some.injEq, forall_eq', and_true, true_and, Bool.not_true, Bool.not_false, decide_true, Nat.reduceAdd, Nat.reduceSub, Nat.reduceLT, Nat.reduceLeDiff, Nat.reduceEqDiff, ↓reduceIte]
        refine wk_dat (r' := .tup [.d (.sl []), .d (.bool false)]) (by simp only [go_sem]; rfl) ?_ (by simp only [go_sem])
        have := vws_none hv1 l.length (by omega)
        simp [fit, vw, this]
      have d1 := decide_eq_false (Int.not_lt.2 hA)
      rw [if_neg (by omega)] at hv1
      obtain ⟨pre, hpre⟩ : ∃ pre : List Mk, pre = f.take x.at'.toNat := ⟨_, rfl⟩
      have hpl : pre.length ≤ 320 := by rw [hpre, List.length_take]; omega
      have hv2 : vws l cs (s.1 + 1) = some (s.2 ++ [pre ++ own s.1 c]) := by rw [hv1, hpre, ← eV]
      simp (maxSteps := 4000000) -implicitDefEqProofs only [go_sem, hj2, need3, need4, hf, need, hx, d1, Option.some.injEq, forall_eq', and_true, true_and, Bool.not_true, Bool.not_false, decide_true, Nat.reduceAdd, Nat.reduceSub, Nat.reduceLT, Nat.reduceLeDiff, Nat.reduceEqDiff, ↓reduceIte]
      rw [← hpre]
      refine ⟨by omega, by omega, ?_⟩
      refine eloop (S := Option Nat) (vE l cs s.2 s.1 c pre) (vH s.2 s.1 c pre) (vO c) (vM c) (if 0 < c.toNat then some 0 else none) ok0 ?_ ?_
      · refine Wk.trans ?_ (ini pre)
        exact Wk.sub (by simp only [go_sem]; trivial)
    all_goals
      intro o ho'
      cases o with
      | some k =>
        simp only [vO] at ho'
        have d2 : decide ((k : Int) < c) = true := by simp; omega
        have hln : (pre ++ (own s.1 c).take k).length ≤ 360 := by rw [List.length_append, List.length_take, own_len]; omega
        simp only [vE, vH]
        simp (maxSteps := 4000000) -implicitDefEqProofs only [go_sem, need2, hlt, hx2, d2, Option.some.injEq, forall_eq', and_true, true_and, Bool.not_true, Bool.not_false, decide_true, Nat.reduceAdd, Nat.reduceSub, Nat.reduceLT, Nat.reduceLeDiff, Nat.reduceEqDiff, ↓reduceIte]
        refine ⟨by omega, ⟨by simp, by omega, by omega⟩, ?_⟩
        rw [i64_in _ (by omega)]
        have e : (pre ++ (own s.1 c).take k).map mkD ++ [[D.int .i64 s.1, D.int .i64 k]] = (pre ++ (own s.1 c).take (k + 1)).map mkD := by rw [own_take ho']; simp [mkD]
        rw [e]
        refine .mk (if k + 1 < c.toNat then some (k + 1) else none) ?_ ?_ (Wk.trans ?_ (views_at l cs s.2 s.1 c pre (k + 1) (by omega) (by omega)))
        · by_cases q : k + 1 < c.toNat
          · rw [if_pos q]; exact q
          · rw [if_neg q]; trivial
        · by_cases q : k + 1 < c.toNat
          · rw [if_pos q]; simp only [vM]; omega
          · rw [if_neg q]; simp only [vM]; omega
        · exact (Wk.via [0, 3] (by (simp only [go_sem, ↓reduceIte]) <;> trivial) (by first | (simp (maxSteps := 4000000) -implicitDefEqProofs only [go_sem, Nat.reduceAdd, Nat.reduceSub, Nat.reduceLT, Nat.reduceLeDiff, Nat.reduceEqDiff, ↓reduceIte]; done) | ((simp (maxSteps := 4000000) -implicitDefEqProofs only [go_sem, Nat.reduceAdd, Nat.reduceSub, Nat.reduceLT, Nat.reduceLeDiff, Nat.reduceEqDiff, ↓reduceIte]) <;> omega)) (by simp) (by first | (simp; done) | (simp [so]; done)) (by (simp (maxSteps := 4000000) -implicitDefEqProofs only [go_sem, Nat.reduceAdd, Nat.reduceSub, Nat.reduceLT, Nat.reduceLeDiff, Nat.reduceEqDiff, ↓reduceIte]) <;> trivial) (by first | (simp only [go_sem]; done) | ((simp (maxSteps := 4000000) -implicitDefEqProofs only [go_sem, Nat.reduceAdd, Nat.reduceSub, Nat.reduceLT, Nat.reduceLeDiff, Nat.reduceEqDiff, ↓reduceIte]) <;> omega)) (Nat.zero_le _) (fun i h => absurd h (Nat.not_lt_zero i)))
      | none =>
        have d2 : decide (c < c) = false := by simp
        simp only [vE, vH]
        simp (maxSteps := 4000000) -implicitDefEqProofs only [go_sem, need2, hlt, hx2, d2, Option.some.injEq, forall_eq', and_true, true_and, Bool.not_true, Bool.not_false, decide_true, Nat.reduceAdd, Nat.reduceSub, Nat.reduceLT, Nat.reduceLeDiff, Nat.reduceEqDiff, ↓reduceIte]
        refine ⟨⟨by simp, by omega, by omega⟩, ?_⟩
        rw [i64_in _ (by omega)]
        have e : s.2.map vD ++ [[D.sl ((pre ++ own s.1 c).map mkD)]] = (s.2 ++ [pre ++ own s.1 c]).map vD := by simp [vD]
        rw [e]
        exact .mk (s.1 + 1, s.2 ++ [pre ++ own s.1 c]) ⟨by simp only; omega, hv2⟩ (by simp only; omega) (Wk.via [2] (by (simp only [go_sem, ↓reduceIte]) <;> trivial) (by first | (simp (maxSteps := 4000000) -implicitDefEqProofs only [go_sem, Nat.reduceAdd, Nat.reduceSub, Nat.reduceLT, Nat.reduceLeDiff, Nat.reduceEqDiff, ↓reduceIte]; done) | ((simp (maxSteps := 4000000) -implicitDefEqProofs only [go_sem, Nat.reduceAdd, Nat.reduceSub, Nat.reduceLT, Nat.reduceLeDiff, Nat.reduceEqDiff, ↓reduceIte]) <;> omega)) (by simp) (by first | (simp; done) | (simp [so]; done)) (by (simp (maxSteps := 4000000) -implicitDefEqProofs only [go_sem, Nat.reduceAdd, Nat.reduceSub, Nat.reduceLT, Nat.reduceLeDiff, Nat.reduceEqDiff, ↓reduceIte]) <;> trivial) (by first | (simp only [go_sem]; done) | ((simp (maxSteps := 4000000) -implicitDefEqProofs only [go_sem, Nat.reduceAdd, Nat.reduceSub, Nat.reduceLT, Nat.reduceLeDiff, Nat.reduceEqDiff, ↓reduceIte]) <;> omega)) (Nat.zero_le _) (fun i h => absurd h (Nat.not_lt_zero i)))
  · simp only [decide_eq_false_iff_not] at h2
    simp (maxSteps := 4000000) -implicitDefEqProofs only [go_sem, Nat.reduceAdd, Nat.reduceSub, Nat.reduceLT, Nat.reduceLeDiff, Nat.reduceEqDiff, ↓reduceIte]
    have e : s.1 = l.length := by omega
    rw [e] at hV
    refine wk_dat (r' := .tup [.d (.sl (s.2.map vD)), .d (.bool true)]) (by simp only [go_sem]; rfl) (by simp [fit, vw, hV]) (by simp only [go_sem])
end Go.AX.Br
namespace Go.AX.Br
open Go.Proofs Go.RowKit Go.IntWalk
theorem badC_all {cs : List Int} (h : cs.any badC = false) : ∀ c ∈ cs, 0 ≤ c ∧ c ≤ 40 := fun c hc => by
  rw [List.any_eq_false] at h
  have := h c hc
  simp only [badC, Bool.or_eq_true, decide_eq_true_eq, not_or] at this
  omega
theorem fits_own (l : List Br) (cs : List Int) (hl : Sm l.length) (hc : Sm cs.length) : Spec Tryz.prog 83 [.d (.sl (l.map bD)), .d (.sl (cs.map iD))] [] (.d (.int .i64 (fits l cs))) [] := by
  have hl' := hl
  have hc' := hc
  unfold Sm at hl hc
  refine spec_of_ev (fn := Tryz.f83) DX_ok 3000 Tryz.func83 rfl rfl (Nat.le_of_ble_eq_true rfl) ?_
  simp (maxSteps := 4000000) -implicitDefEqProofs only [Tryz.f83, go_sem]
  refine ecall0 _ (check_own l hl') (by simp only [go_sem]) (by simp only [go_sem]) ?_
  simp (maxSteps := 4000000) -implicitDefEqProofs only [go_sem, Nat.reduceAdd, Nat.reduceSub, Nat.reduceLT, Nat.reduceLeDiff, Nat.reduceEqDiff, ↓reduceIte]
  refine cbs (fun h1 => ?_) (fun h1 => ?_)
  · simp (maxSteps := 4000000) -implicitDefEqProofs only [go_sem, Nat.reduceAdd, Nat.reduceSub, Nat.reduceLT, Nat.reduceLeDiff, Nat.reduceEqDiff, ↓reduceIte]
    simp only [bne_iff_ne, ne_eq] at h1
    exact wk_int (by simp only [fits]; rw [if_pos h1])
  simp (maxSteps := 4000000) -implicitDefEqProofs only [go_sem, Nat.reduceAdd, Nat.reduceSub, Nat.reduceLT, Nat.reduceLeDiff, Nat.reduceEqDiff, ↓reduceIte]
  simp only [bne_eq_false_iff_eq] at h1
  by_cases h2 : cs.length = l.length
  · have g : ((cs.length : Int) != l.length) = false := by simp [h2]
    simp (maxSteps := 4000000) -implicitDefEqProofs only [go_sem, g, Option.some.injEq, forall_eq', and_true, true_and, Bool.not_true, Bool.not_false, decide_true, Nat.reduceAdd, Nat.reduceSub, Nat.reduceLT, Nat.reduceLeDiff, Nat.reduceEqDiff, ↓reduceIte]
    refine .all _ _ (ints_containsFunc cs badC _ [] [] hc' fun c _ => bad_own c) ?_
    cases h3 : cs.any badC
    · simp (maxSteps := 4000000) -implicitDefEqProofs only [go_sem, h3, Option.some.injEq, forall_eq', and_true, true_and, Bool.not_true, Bool.not_false, decide_true, Nat.reduceAdd, Nat.reduceSub, Nat.reduceLT, Nat.reduceLeDiff, Nat.reduceEqDiff, ↓reduceIte]
      refine ecall0 _ (starts_own l cs h1 h2 (badC_all h3)) (by simp only [go_sem]) (by simp only [go_sem]) ?_
      simp (maxSteps := 4000000) -implicitDefEqProofs only [go_sem, Nat.reduceAdd, Nat.reduceSub, Nat.reduceLT, Nat.reduceLeDiff, Nat.reduceEqDiff, ↓reduceIte]
      cases h4 : fit l cs
      · simp (maxSteps := 4000000) -implicitDefEqProofs only [go_sem, h4, Option.some.injEq, forall_eq', and_true, true_and, Bool.not_true, Bool.not_false, decide_true, Nat.reduceAdd, Nat.reduceSub, Nat.reduceLT, Nat.reduceLeDiff, Nat.reduceEqDiff, ↓reduceIte]
        exact wk_int (by simp only [fits]; rw [if_neg (by omega), if_neg (by simp [h2, h3]), h4]; simp)
      · simp (maxSteps := 4000000) -implicitDefEqProofs only [go_sem, h4, Option.some.injEq, forall_eq', and_true, true_and, Bool.not_true, Bool.not_false, decide_true, Nat.reduceAdd, Nat.reduceSub, Nat.reduceLT, Nat.reduceLeDiff, Nat.reduceEqDiff, ↓reduceIte]
        exact wk_int (by simp only [fits]; rw [if_neg (by omega), if_neg (by simp [h2, h3]), h4]; simp)
    · simp (maxSteps := 4000000) -implicitDefEqProofs only [go_sem, h3, Option.some.injEq, forall_eq', and_true, true_and, Bool.not_true, Bool.not_false, decide_true, Nat.reduceAdd, Nat.reduceSub, Nat.reduceLT, Nat.reduceLeDiff, Nat.reduceEqDiff, ↓reduceIte]
      exact wk_int (by simp only [fits]; rw [if_neg (by omega), if_pos (.inr h3)])
  · have g : ((cs.length : Int) != l.length) = true := by simp; omega
    simp (maxSteps := 4000000) -implicitDefEqProofs only [go_sem, g, Option.some.injEq, forall_eq', and_true, true_and, Bool.not_true, Bool.not_false, decide_true, Nat.reduceAdd, Nat.reduceSub, Nat.reduceLT, Nat.reduceLeDiff, Nat.reduceEqDiff, ↓reduceIte]
    exact wk_int (by simp only [fits]; rw [if_neg (by omega), if_pos (.inl h2)])
theorem fits_ref (l : List Br) (cs : List Int) (hl : Sm l.length) (hc : Sm cs.length) : Spec Tryz.prog 50 [.d (.sl (l.map bD)), .d (.sl (cs.map iD))] [] (.d (.int .i64 (fits l cs))) [] := by
  have hl' := hl
  have hc' := hc
  unfold Sm at hl hc
  refine spec_of_ev (fn := Tryz.f50) DX_ok 3000 Tryz.func50 rfl rfl (Nat.le_of_ble_eq_true rfl) ?_
  simp (maxSteps := 4000000) -implicitDefEqProofs only [Tryz.f50, go_sem]
  refine ecall0 _ (check_ref l hl') (by simp only [go_sem]) (by simp only [go_sem]) ?_
  simp (maxSteps := 4000000) -implicitDefEqProofs only [go_sem, Nat.reduceAdd, Nat.reduceSub, Nat.reduceLT, Nat.reduceLeDiff, Nat.reduceEqDiff, ↓reduceIte]
  refine cbs (fun h1 => ?_) (fun h1 => ?_)
  · simp (maxSteps := 4000000) -implicitDefEqProofs only [go_sem, Nat.reduceAdd, Nat.reduceSub, Nat.reduceLT, Nat.reduceLeDiff, Nat.reduceEqDiff, ↓reduceIte]
    refine ecall0 _ (check_ref l hl') (by simp only [go_sem]) (by simp only [go_sem]) ?_
    simp (maxSteps := 4000000) -implicitDefEqProofs only [go_sem, Nat.reduceAdd, Nat.reduceSub, Nat.reduceLT, Nat.reduceLeDiff, Nat.reduceEqDiff, ↓reduceIte]
    simp only [bne_iff_ne, ne_eq] at h1
    exact wk_int (by simp only [fits]; rw [if_pos h1])
  simp (maxSteps := 4000000) -implicitDefEqProofs only [go_sem, Nat.reduceAdd, Nat.reduceSub, Nat.reduceLT, Nat.reduceLeDiff, Nat.reduceEqDiff, ↓reduceIte]
  simp only [bne_eq_false_iff_eq] at h1
  by_cases h2 : cs.length = l.length
  · have g : ((cs.length : Int) != l.length) = false := by simp [h2]
    simp (maxSteps := 4000000) -implicitDefEqProofs only [go_sem, g, Option.some.injEq, forall_eq', and_true, true_and, Bool.not_true, Bool.not_false, decide_true, Nat.reduceAdd, Nat.reduceSub, Nat.reduceLT, Nat.reduceLeDiff, Nat.reduceEqDiff, ↓reduceIte]
    refine eloop (S := Nat) (fun i => mkE 44 [(0, .d (.sl (l.map bD))), (1, .d (.sl (cs.map iD))), (5, .d (.int .i64 i))]) (fun i => []) (fun i => i ≤ cs.length ∧ ∀ j x, cs[j]? = some x → j < i → badC x = false) (fun i => cs.length - i) 0 ⟨by omega, by omega⟩ (Wk.sub (by (simp only [go_sem]) <;> trivial)) ?_
    rintro i ⟨hi, hj⟩
    rcases Nat.lt_or_ge i cs.length with h3 | h3
    · have d0 : decide ((i : Int) < cs.length) = true := by simp; omega
      obtain ⟨x, hx⟩ : ∃ x, cs[i]? = some x := ⟨cs[i]'(by omega), List.getElem?_eq_getElem _⟩
      have need : (0 ≤ (i : Int) ∧ (i : Int) < cs.length) = True := eq_true (by omega)
      have yes : badC x = true → fits l cs = 2 := fun h => by simp only [fits]; rw [if_neg (by omega), if_pos (.inr (List.any_eq_true.2 ⟨x, List.mem_of_getElem? hx, h⟩))]
      rcases Int.lt_or_le x 0 with hA | hA
      · have d1 := decide_eq_true hA
        simp (maxSteps := 4000000) -implicitDefEqProofs only [go_sem, d0, need, hx, d1, Option.some.injEq, forall_eq', and_true, true_and, Bool.not_true, Bool.not_false, decide_true, Nat.reduceAdd, Nat.reduceSub, Nat.reduceLT, Nat.reduceLeDiff, Nat.reduceEqDiff, ↓reduceIte]
        exact wk_int (yes (by simp [badC, hA])).symm
      have d1 := decide_eq_false (Int.not_lt.2 hA)
      rcases Int.lt_or_le 40 x with hB | hB
      · have d2 := decide_eq_true hB
        simp (maxSteps := 4000000) -implicitDefEqProofs only [go_sem, d0, need, hx, d1, d2, Option.some.injEq, forall_eq', and_true, true_and, Bool.not_true, Bool.not_false, decide_true, Nat.reduceAdd, Nat.reduceSub, Nat.reduceLT, Nat.reduceLeDiff, Nat.reduceEqDiff, ↓reduceIte]
        exact wk_int (yes (by simp [badC, hB])).symm
      have d2 := decide_eq_false (Int.not_lt.2 hB)
      simp (maxSteps := 4000000) -implicitDefEqProofs only [go_sem, d0, need, hx, d1, d2, Option.some.injEq, forall_eq', and_true, true_and, Bool.not_true, Bool.not_false, decide_true, Nat.reduceAdd, Nat.reduceSub, Nat.reduceLT, Nat.reduceLeDiff, Nat.reduceEqDiff, ↓reduceIte]
      rw [i64_in _ (by omega)]
      exact .mk (i + 1) ⟨by omega, upto_succ hx (by simp [badC, d1, d2]) hj⟩ (by omega) (Wk.sub (by (simp only [go_sem]) <;> trivial))
    · have d0 : decide ((i : Int) < cs.length) = false := by simp; omega
      have hall : cs.any badC = false := by
        rw [List.any_eq_false]
        intro x hx
        obtain ⟨j, hj'⟩ := List.mem_iff_getElem?.1 hx
        have := hj j x hj' (by have := some_lt hj'; omega)
        simp [this]
      simp (maxSteps := 4000000) -implicitDefEqProofs only [go_sem, d0, Option.some.injEq, forall_eq', and_true, true_and, Bool.not_true, Bool.not_false, decide_true, Nat.reduceAdd, Nat.reduceSub, Nat.reduceLT, Nat.reduceLeDiff, Nat.reduceEqDiff, ↓reduceIte]
      refine ecall0 _ (views_ref l cs h1 h2 (badC_all hall)) (by simp only [go_sem]) (by simp only [go_sem]) ?_
      simp (maxSteps := 4000000) -implicitDefEqProofs only [go_sem, Nat.reduceAdd, Nat.reduceSub, Nat.reduceLT, Nat.reduceLeDiff, Nat.reduceEqDiff, ↓reduceIte]
      cases h4 : fit l cs
      · simp (maxSteps := 4000000) -implicitDefEqProofs only [go_sem, h4, Option.some.injEq, forall_eq', and_true, true_and, Bool.not_true, Bool.not_false, decide_true, Nat.reduceAdd, Nat.reduceSub, Nat.reduceLT, Nat.reduceLeDiff, Nat.reduceEqDiff, ↓reduceIte]
        exact wk_int (by simp only [fits]; rw [if_neg (by omega), if_neg (by simp [h2, hall]), h4]; simp)
      · simp (maxSteps := 4000000) -implicitDefEqProofs only [go_sem, h4, Option.some.injEq, forall_eq', and_true, true_and, Bool.not_true, Bool.not_false, decide_true, Nat.reduceAdd, Nat.reduceSub, Nat.reduceLT, Nat.reduceLeDiff, Nat.reduceEqDiff, ↓reduceIte]
        exact wk_int (by simp only [fits]; rw [if_neg (by omega), if_neg (by simp [h2, hall]), h4]; simp)
  · have g : ((cs.length : Int) != l.length) = true := by simp; omega
    simp (maxSteps := 4000000) -implicitDefEqProofs only [go_sem, g, Option.some.injEq, forall_eq', and_true, true_and, Bool.not_true, Bool.not_false, decide_true, Nat.reduceAdd, Nat.reduceSub, Nat.reduceLT, Nat.reduceLeDiff, Nat.reduceEqDiff, ↓reduceIte]
    exact wk_int (by simp only [fits]; rw [if_neg (by omega), if_pos (.inl h2)])
end Go.AX.Br
namespace Go.AX.Br
open Go.Proofs Go.RowKit Go.IntWalk
def caps : List AV := [.ptr 2 0, .ptr 0 0, .ptr 1 0]
def hp (l : List Br) (cs : List Int) : List AObj := [.cells [.d (.sl (l.map bD))], .cells [.d (.sl (cs.map iD))], .cells [.fn 116 caps]]
attribute [go_sem] caps hp
theorem view_take (F : List Mk) (i : Nat) (c : Int) (m k : Nat) (hk : k ≤ c.toNat) (hm : (F.take m).length + k ≤ m) (h : k = c.toNat ∨ m ≤ (F.take m).length + k) : F.take m ++ (own i c).take k = (F ++ own i c).take m := by
  rw [List.take_append]
  congr 1
  rw [List.length_take] at hm h
  rcases Nat.lt_or_ge m F.length with q | q
  · have : k = 0 := by omega
    subst this
    have : m - F.length = 0 := by omega
    rw [this]
  · rcases h with h | h
    · rw [List.take_of_length_le (by rw [own_len]; omega), List.take_of_length_le (by rw [own_len]; omega)]
    · congr 1; omega
theorem of_own (l : List Br) (cs : List Int) (V : List (List Mk)) (ho : Ok l) (hF : Fit l cs V) (hV : V.length = l.length) (hc : cs.length = l.length) (hb : ∀ c ∈ cs, 0 ≤ c ∧ c ≤ 40) : ∀ (i : Nat) (m : Int) (v : List Mk), V[i]? = some v → 0 ≤ m → m ≤ 1000 →
    Spec Tryz.prog 116 (.d (.int .i64 i) :: .d (.int .i64 m) :: caps) (hp l cs) (.own 3) (hp l cs ++ [.row 2 ((v.take m.toNat).map mkD)]) := by
  have hl8 := ho.len
  intro i
  induction i using Nat.strongRecOn with
  | _ i ih =>
  intro m v hv hm0 hm1
  have hil : i < l.length := by have := some_lt hv; omega
  obtain ⟨x, hx⟩ : ∃ x, l[i]? = some x := ⟨l[i]'(by omega), List.getElem?_eq_getElem _⟩
  obtain ⟨c, hx2⟩ : ∃ c, cs[i]? = some c := ⟨cs[i]'(by omega), List.getElem?_eq_getElem _⟩
  have need : (0 ≤ (i : Int) ∧ (i : Int) < l.length) = True := eq_true (by omega)
  have need2 : (0 ≤ (i : Int) ∧ (i : Int) < cs.length) = True := eq_true (by omega)
  have hlt : (i < cs.length) = True := eq_true (by omega)
  have hlt2 : (i < l.length) = True := eq_true (by omega)
  have hub := hb c (List.mem_of_getElem? hx2)
  have hux := (ho.good _ x hx).2
  refine spec_of_ev (fn := Tryz.f116) DX_ok 3000 Tryz.func116 rfl rfl (Nat.le_of_ble_eq_true rfl) ?_
  simp (maxSteps := 4000000) -implicitDefEqProofs only [Tryz.f116, go_sem]
  rcases Nat.eq_zero_or_pos i with h0 | h0
  case' inl =>
    have g0 : decide (0 < (i : Int)) = false := by simp [h0]
    obtain ⟨F, hFe⟩ : ∃ F : List Mk, F = [] := ⟨_, rfl⟩
    have hvF : v = F ++ own i c := by subst h0; rw [hFe]; exact hF.zero c v hx2 hv
    have hFl : F.length ≤ 320 := by rw [hFe]; simp
    simp (maxSteps := 4000000) -implicitDefEqProofs only [go_sem, g0, Option.some.injEq, forall_eq', and_true, true_and, Bool.not_true, Bool.not_false, decide_true, Nat.reduceAdd, Nat.reduceSub, Nat.reduceLT, Nat.reduceLeDiff, Nat.reduceEqDiff, ↓reduceIte]
    refine eloop (S := Nat) (fun k => mkE 49 [(0, .d (.int .i64 i)), (1, .d (.int .i64 m)), (2, .ptr 2 0), (3, .ptr 0 0), (4, .ptr 1 0), (8, .own 3), (9, .d (.int .i64 k))]) (fun k => hp l cs ++ [.row 2 ((F.take m.toNat ++ (own i c).take k).map mkD)]) (fun k => k ≤ c.toNat ∧ (F.take m.toNat).length + k ≤ m.toNat) (fun k => c.toNat - k) 0 ⟨by omega, by rw [List.length_take]; omega⟩ ?_ ?_
    · refine Wk.trans (Wk.nil 8 2 (by simp only [go_sem])) ?_
      have e0 : (F.take m.toNat ++ (own i c).take 0).map mkD = [] := by simp [hFe]
      rw [e0]
      simp (maxSteps := 4000000) -implicitDefEqProofs only [go_sem, Nat.reduceAdd, Nat.reduceSub, Nat.reduceLT, Nat.reduceLeDiff, Nat.reduceEqDiff, ↓reduceIte]
      exact Wk.sub (by simp only [go_sem]; trivial)
  case' inr =>
    have g0 : decide (0 < (i : Int)) = true := by simp; omega
    obtain ⟨j, f, hj1, hj2, hj3, hj4, hj5⟩ := hF.step i x c v h0 hx hx2 hv
    obtain ⟨F, hFe⟩ : ∃ F : List Mk, F = f.take x.at'.toNat := ⟨_, rfl⟩
    have hvF : v = F ++ own i c := by rw [hFe]; exact hj5
    have hFl : F.length ≤ 320 := by rw [hFe, List.length_take]; omega
    have rc := ih j hj1 (if x.at' < m then x.at' else m) f hj3 (by split <;> omega) (by split <;> omega)
    simp (maxSteps := 4000000) -implicitDefEqProofs only [go_sem, g0, Option.some.injEq, forall_eq', and_true, true_and, Bool.not_true, Bool.not_false, decide_true, Nat.reduceAdd, Nat.reduceSub, Nat.reduceLT, Nat.reduceLeDiff, Nat.reduceEqDiff, ↓reduceIte]
    refine DX.plain (.take 0 false (.take 1 false (.take 2 false (.take 3 false (.take 4 false (.take 5 false (.take 6 false (.take 7 false (.take 8 false (.take 9 false (.take 10 false (.take 11 false (.take 12 false (.take 13 false (.take 14 false (.run [15] (fun _ => []) fun _ => (.take 16 false .done))))))))))))))))) (by kernel_rfl) (by kernel_rfl) Ty.mixed ?_
    simp (maxSteps := 4000000) -implicitDefEqProofs only [go_sem, need, hx, hlt2, Option.some.injEq, forall_eq', and_true, true_and, Bool.not_true, Bool.not_false, decide_true, Nat.reduceAdd, Nat.reduceSub, Nat.reduceLT, Nat.reduceLeDiff, Nat.reduceEqDiff, ↓reduceIte]
    refine ⟨_, _, (index_own l x.frm (by unfold Sm; omega)).lift0 _ (by simp only [go_sem]) (by simp only [go_sem]), rfl, ?_⟩
    rw [hj2]
    refine ⟨_, _, rc, ?_⟩
    have pe : f.take (if x.at' < m then x.at' else m).toNat = F.take m.toNat := by
      rw [hFe, List.take_take]
      congr 1
      split <;> omega
    rw [pe]
    refine eloop (S := Nat) (fun k => mkE 49 [(0, .d (.int .i64 i)), (1, .d (.int .i64 m)), (2, .ptr 2 0), (3, .ptr 0 0), (4, .ptr 1 0), (8, .own 3), (9, .d (.int .i64 k))]) (fun k => hp l cs ++ [.row 2 ((F.take m.toNat ++ (own i c).take k).map mkD)]) (fun k => k ≤ c.toNat ∧ (F.take m.toNat).length + k ≤ m.toNat) (fun k => c.toNat - k) 0 ⟨by omega, by rw [List.length_take]; omega⟩ ?_ ?_
    · rw [List.take_zero, List.append_nil]
      simp (maxSteps := 4000000) -implicitDefEqProofs only [go_sem, Nat.reduceAdd, Nat.reduceSub, Nat.reduceLT, Nat.reduceLeDiff, Nat.reduceEqDiff, ↓reduceIte]
      exact Wk.sub (by simp only [go_sem]; trivial)
  all_goals
    rintro k ⟨hk1, hk2⟩
    have hkl : (F.take m.toNat ++ (own i c).take k).length = (F.take m.toNat).length + k := by rw [List.length_append, List.length_take (i := k), own_len]; omega
    have out : (k = c.toNat ∨ m.toNat ≤ (F.take m.toNat).length + k) → F.take m.toNat ++ (own i c).take k = v.take m.toNat := fun h => by rw [hvF]; exact view_take F i c m.toNat k hk1 hk2 h
    rcases Nat.lt_or_ge k c.toNat with h1 | h1
    · have d1 : decide ((k : Int) < c) = true := by simp; omega
      rcases Nat.lt_or_ge ((F.take m.toNat).length + k) m.toNat with h2 | h2
      · have d2 : decide (((F.take m.toNat ++ (own i c).take k).length : Int) < m) = true := by simp only [decide_eq_true_eq]; omega
        simp (maxSteps := 4000000) -implicitDefEqProofs only [go_sem, need2, hlt, hx2, d1, d2, Option.some.injEq, forall_eq', and_true, true_and, Bool.not_true, Bool.not_false, decide_true, Nat.reduceAdd, Nat.reduceSub, Nat.reduceLT, Nat.reduceLeDiff, Nat.reduceEqDiff, ↓reduceIte]
        refine ⟨by omega, ⟨by simp, by omega, by omega⟩, ?_⟩
        rw [i64_in _ (by omega)]
        have e : (F.take m.toNat ++ (own i c).take k).map mkD ++ [[D.int .i64 i, D.int .i64 k]] = (F.take m.toNat ++ (own i c).take (k + 1)).map mkD := by rw [own_take h1]; simp [mkD]
        rw [e]
        exact .mk (k + 1) ⟨by omega, by omega⟩ (by omega) (Wk.via [0, 1, 2, 5] (by (simp only [go_sem, ↓reduceIte]) <;> trivial) (by (simp (maxSteps := 4000000) -implicitDefEqProofs only [go_sem, Nat.reduceAdd, Nat.reduceSub, Nat.reduceLT, Nat.reduceLeDiff, Nat.reduceEqDiff, ↓reduceIte]) <;> omega) (by simp) (by simp) (by (simp (maxSteps := 4000000) -implicitDefEqProofs only [go_sem, Nat.reduceAdd, Nat.reduceSub, Nat.reduceLT, Nat.reduceLeDiff, Nat.reduceEqDiff, ↓reduceIte]) <;> trivial) (by (simp (maxSteps := 4000000) -implicitDefEqProofs only [go_sem, Nat.reduceAdd, Nat.reduceSub, Nat.reduceLT, Nat.reduceLeDiff, Nat.reduceEqDiff, ↓reduceIte]) <;> omega) (Nat.le_of_ble_eq_true rfl) (at0_pre rfl))
      · have d2 : decide (((F.take m.toNat ++ (own i c).take k).length : Int) < m) = false := by simp only [decide_eq_false_iff_not]; omega
        simp (maxSteps := 4000000) -implicitDefEqProofs only [go_sem, need2, hlt, hx2, d1, d2, Option.some.injEq, forall_eq', and_true, true_and, Bool.not_true, Bool.not_false, decide_true, Nat.reduceAdd, Nat.reduceSub, Nat.reduceLT, Nat.reduceLeDiff, Nat.reduceEqDiff, ↓reduceIte]
        rw [out (.inr h2)]
        exact Wk.refl _ _ _
    · have d1 : decide ((k : Int) < c) = false := by simp; omega
      simp (maxSteps := 4000000) -implicitDefEqProofs only [go_sem, need2, hlt, hx2, d1, Option.some.injEq, forall_eq', and_true, true_and, Bool.not_true, Bool.not_false, decide_true, Nat.reduceAdd, Nat.reduceSub, Nat.reduceLT, Nat.reduceLeDiff, Nat.reduceEqDiff, ↓reduceIte]
      rw [out (.inl (by omega))]
      exact Wk.refl _ _ _
theorem view_own (l : List Br) (cs : List Int) (V : List (List Mk)) (ho : Ok l) (hF : Fit l cs V) (hV : V.length = l.length) (hc : cs.length = l.length) (hb : ∀ c ∈ cs, 0 ≤ c ∧ c ≤ 40) (i : Nat) (v : List Mk) (hv : V[i]? = some v) :
    Spec Tryz.prog 85 [.d (.sl (l.map bD)), .d (.sl (cs.map iD)), .d (.int .i64 i)] [] (.own 0) [.row 2 (v.map mkD)] := by
  have hl8 := ho.len
  have hil : i < l.length := by have := some_lt hv; omega
  obtain ⟨x, hx⟩ : ∃ x, l[i]? = some x := ⟨l[i]'(by omega), List.getElem?_eq_getElem _⟩
  obtain ⟨c, hx2⟩ : ∃ c, cs[i]? = some c := ⟨cs[i]'(by omega), List.getElem?_eq_getElem _⟩
  have need : (0 ≤ (i : Int) ∧ (i : Int) < l.length) = True := eq_true (by omega)
  have need2 : (0 ≤ (i : Int) ∧ (i : Int) < cs.length) = True := eq_true (by omega)
  have hlt : (i < cs.length) = True := eq_true (by omega)
  have hlt2 : (i < l.length) = True := eq_true (by omega)
  have hub := hb c (List.mem_of_getElem? hx2)
  have hux := (ho.good _ x hx).2
  have hfl := fit_len ho hF hx hx2 hv
  have w1 : IntKind.i64.wrap (x.at' + c) = x.at' + c := i64_in _ (by omega)
  have rc := of_own l cs V ho hF hV hc hb i (x.at' + c) v hv (by omega) (by omega)
  rw [List.take_of_length_le (by omega)] at rc
  refine spec_of_ev (fn := Tryz.f85) DX_ok 3000 Tryz.func85 rfl rfl (Nat.le_of_ble_eq_true rfl) ?_
  simp (maxSteps := 4000000) -implicitDefEqProofs only [Tryz.f85, go_sem]
  refine ⟨by omega, ?_⟩
  refine DX.plain (.take 0 false (.take 1 false (.take 2 false (.take 3 false (.take 4 false (.take 5 false (.take 6 false (.take 7 false (.take 8 false (.take 9 false (.take 10 false (.take 11 false (.run [12] (fun _ => []) fun _ => (.take 13 false .done)))))))))))))) (by kernel_rfl) (by kernel_rfl) Ty.mixed ?_
  simp (maxSteps := 4000000) -implicitDefEqProofs only [go_sem, need, need2, hx, hx2, hlt, hlt2, w1, Option.some.injEq, forall_eq', and_true, true_and, Bool.not_true, Bool.not_false, decide_true, Nat.reduceAdd, Nat.reduceSub, Nat.reduceLT, Nat.reduceLeDiff, Nat.reduceEqDiff, ↓reduceIte]
  simp only [hp, List.cons_append, List.nil_append] at rc
  refine ⟨_, _, rc, ?_⟩
  exact (Wk.via [3] (by (simp only [go_sem, ↓reduceIte]) <;> trivial) (by first | (simp (maxSteps := 4000000) -implicitDefEqProofs only [go_sem, Nat.reduceAdd, Nat.reduceSub, Nat.reduceLT, Nat.reduceLeDiff, Nat.reduceEqDiff, ↓reduceIte]; done) | ((simp (maxSteps := 4000000) -implicitDefEqProofs only [go_sem, Nat.reduceAdd, Nat.reduceSub, Nat.reduceLT, Nat.reduceLeDiff, Nat.reduceEqDiff, ↓reduceIte]) <;> omega)) (by simp) (by first | (simp; done) | (simp [so]; done)) (by (simp (maxSteps := 4000000) -implicitDefEqProofs only [go_sem, Nat.reduceAdd, Nat.reduceSub, Nat.reduceLT, Nat.reduceLeDiff, Nat.reduceEqDiff, ↓reduceIte]) <;> trivial) (by first | (simp only [go_sem]; done) | ((simp (maxSteps := 4000000) -implicitDefEqProofs only [go_sem, Nat.reduceAdd, Nat.reduceSub, Nat.reduceLT, Nat.reduceLeDiff, Nat.reduceEqDiff, ↓reduceIte]) <;> omega)) (Nat.zero_le _) (fun i h => absurd h (Nat.not_lt_zero i)))
end Go.AX.Br
namespace Go.AX.Br
open Go.Proofs Go.RowKit Go.IntWalk
def viewR (l : List Br) (cs : List Int) (nm : ByteArray) : List Mk × Int :=
  if fits l cs ≠ 0 then ([], fits l cs) else if idx (has nm) l < 0 then ([], 6) else ((vw l cs).getD (idx (has nm) l).toNat [], 0)
structure Good (l : List Br) (cs : List Int) : Prop where
  chk : check l = 0
  ok : Ok l
  len : cs.length = l.length
  cnt : ∀ c ∈ cs, 0 ≤ c ∧ c ≤ 40
  some' : vws l cs l.length = some (vw l cs)
  vlen : (vw l cs).length = l.length
  fit : Fit l cs (vw l cs)
theorem good_of {l : List Br} {cs : List Int} (h : fits l cs = 0) : Good l cs := by
  simp only [fits] at h
  split at h
  · next h1 => exact absurd h h1
  · next h1 =>
    split at h
    · omega
    · next h2 =>
      split at h
      · next h3 =>
        have h1' : check l = 0 := by omega
        have hs : vws l cs l.length = some (vw l cs) := by
          unfold Br.fit at h3
          cases q : vws l cs l.length with
          | none => rw [q] at h3; simp at h3
          | some V => simp [vw, q]
        have ho := ok_of h1'
        refine ⟨h1', ho, ?_, ?_, hs, vws_len hs, fit_of ho (Nat.le_refl _) hs⟩
        · by_cases q : cs.length = l.length
          · exact q
          · exact absurd (.inl q) h2
        · refine badC_all ?_
          cases q : cs.any badC
          · rfl
          · exact absurd (.inr q) h2
      · omega
theorem good_view {l : List Br} {cs : List Int} (g : Good l cs) {i : Nat} (hi : i < l.length) : ∃ v, (vw l cs)[i]? = some v := ⟨_, List.getElem?_eq_getElem (by rw [g.vlen]; exact hi)⟩
theorem View_own (l : List Br) (cs : List Int) (nm : ByteArray) (hl : Sm l.length) (hc : Sm cs.length) : Spec Tryz.prog 38 [.d (.sl (l.map bD)), .d (.sl (cs.map iD)), .d (.str nm)] [] (.tup [.own 0, .d (.int .i64 (viewR l cs nm).2)]) [.row 2 ((viewR l cs nm).1.map mkD)] := by
  refine spec_of_ev (fn := Tryz.f38) DX_ok 3000 Tryz.func38 rfl rfl (Nat.le_of_ble_eq_true rfl) ?_
  simp (maxSteps := 4000000) -implicitDefEqProofs only [Tryz.f38, go_sem]
  refine ecall0 _ (fits_own l cs hl hc) (by simp only [go_sem]) (by simp only [go_sem]) ?_
  simp (maxSteps := 4000000) -implicitDefEqProofs only [go_sem, Nat.reduceAdd, Nat.reduceSub, Nat.reduceLT, Nat.reduceLeDiff, Nat.reduceEqDiff, ↓reduceIte]
  refine cbs (fun h1 => ?_) (fun h1 => ?_)
  · simp (maxSteps := 4000000) -implicitDefEqProofs only [go_sem, Nat.reduceAdd, Nat.reduceSub, Nat.reduceLT, Nat.reduceLeDiff, Nat.reduceEqDiff, ↓reduceIte]
    simp only [bne_iff_ne, ne_eq] at h1
    have e : viewR l cs nm = ([], fits l cs) := by simp only [viewR]; rw [if_pos h1]
    rw [e]
    exact wk_tup_nil 2 rfl
  simp (maxSteps := 4000000) -implicitDefEqProofs only [go_sem, Nat.reduceAdd, Nat.reduceSub, Nat.reduceLT, Nat.reduceLeDiff, Nat.reduceEqDiff, ↓reduceIte]
  simp only [bne_eq_false_iff_eq] at h1
  have g := good_of h1
  refine ecall0 _ (index_own l nm hl) (by simp only [go_sem]) (by simp only [go_sem]) ?_
  simp (maxSteps := 4000000) -implicitDefEqProofs only [go_sem, Nat.reduceAdd, Nat.reduceSub, Nat.reduceLT, Nat.reduceLeDiff, Nat.reduceEqDiff, ↓reduceIte]
  rcases Int.lt_or_le (idx (has nm) l) 0 with h2 | h2
  · have d1 := decide_eq_true h2
    simp (maxSteps := 4000000) -implicitDefEqProofs only [go_sem, d1, Option.some.injEq, forall_eq', and_true, true_and, Bool.not_true, Bool.not_false, decide_true, Nat.reduceAdd, Nat.reduceSub, Nat.reduceLT, Nat.reduceLeDiff, Nat.reduceEqDiff, ↓reduceIte]
    have e : viewR l cs nm = ([], 6) := by simp only [viewR]; rw [if_neg (by omega), if_pos h2]
    rw [e]
    exact wk_tup_nil 2 rfl
  · have d1 := decide_eq_false (Int.not_lt.2 h2)
    obtain ⟨i, x, k1, k2, k3⟩ := idx_get h2
    obtain ⟨v, hv⟩ := good_view g (some_lt k2)
    have e : viewR l cs nm = (v, 0) := by simp only [viewR]; rw [if_neg (by omega), if_neg (by omega), k1]; simp [List.getD_eq_getElem?_getD, hv]
    rw [e]
    simp (maxSteps := 4000000) -implicitDefEqProofs only [go_sem, d1, k1, Option.some.injEq, forall_eq', and_true, true_and, Bool.not_true, Bool.not_false, decide_true, Nat.reduceAdd, Nat.reduceSub, Nat.reduceLT, Nat.reduceLeDiff, Nat.reduceEqDiff, ↓reduceIte]
    refine ecallN _ _ (view_own l cs _ g.ok g.fit g.vlen g.len g.cnt i v hv) (by simp only [go_sem]) ?_
    simp (maxSteps := 4000000) -implicitDefEqProofs only [go_sem, Nat.reduceAdd, Nat.reduceSub, Nat.reduceLT, Nat.reduceLeDiff, Nat.reduceEqDiff, ↓reduceIte]
    exact Wk.refl _ _ _
theorem View_ref (l : List Br) (cs : List Int) (nm : ByteArray) (hl : Sm l.length) (hc : Sm cs.length) : Spec Tryz.prog 51 [.d (.sl (l.map bD)), .d (.sl (cs.map iD)), .d (.str nm)] [] (.tup [.d (.sl ((viewR l cs nm).1.map mkD)), .d (.int .i64 (viewR l cs nm).2)]) [] := by
  refine spec_of_ev (fn := Tryz.f51) DX_ok 3000 Tryz.func51 rfl rfl (Nat.le_of_ble_eq_true rfl) ?_
  simp (maxSteps := 4000000) -implicitDefEqProofs only [Tryz.f51, go_sem]
  refine ecall0 _ (fits_ref l cs hl hc) (by simp only [go_sem]) (by simp only [go_sem]) ?_
  simp (maxSteps := 4000000) -implicitDefEqProofs only [go_sem, Nat.reduceAdd, Nat.reduceSub, Nat.reduceLT, Nat.reduceLeDiff, Nat.reduceEqDiff, ↓reduceIte]
  refine cbs (fun h1 => ?_) (fun h1 => ?_)
  · simp (maxSteps := 4000000) -implicitDefEqProofs only [go_sem, Nat.reduceAdd, Nat.reduceSub, Nat.reduceLT, Nat.reduceLeDiff, Nat.reduceEqDiff, ↓reduceIte]
    refine ecall0 _ (fits_ref l cs hl hc) (by simp only [go_sem]) (by simp only [go_sem]) ?_
    simp (maxSteps := 4000000) -implicitDefEqProofs only [go_sem, Nat.reduceAdd, Nat.reduceSub, Nat.reduceLT, Nat.reduceLeDiff, Nat.reduceEqDiff, ↓reduceIte]
    simp only [bne_iff_ne, ne_eq] at h1
    refine wk_dat (r' := .tup [.d (.sl []), .d (.int .i64 (fits l cs))]) (by simp only [go_sem]; rfl) ?_ (by simp only [go_sem])
    simp only [viewR]; rw [if_pos h1]; rfl
  simp (maxSteps := 4000000) -implicitDefEqProofs only [go_sem, Nat.reduceAdd, Nat.reduceSub, Nat.reduceLT, Nat.reduceLeDiff, Nat.reduceEqDiff, ↓reduceIte]
  simp only [bne_eq_false_iff_eq] at h1
  have g := good_of h1
  refine ecall0 _ (index_ref l nm hl) (by simp only [go_sem]) (by simp only [go_sem]) ?_
  simp (maxSteps := 4000000) -implicitDefEqProofs only [go_sem, Nat.reduceAdd, Nat.reduceSub, Nat.reduceLT, Nat.reduceLeDiff, Nat.reduceEqDiff, ↓reduceIte]
  rcases Int.lt_or_le (idx (has nm) l) 0 with h2 | h2
  · have d1 := decide_eq_true h2
    simp (maxSteps := 4000000) -implicitDefEqProofs only [go_sem, d1, Option.some.injEq, forall_eq', and_true, true_and, Bool.not_true, Bool.not_false, decide_true, Nat.reduceAdd, Nat.reduceSub, Nat.reduceLT, Nat.reduceLeDiff, Nat.reduceEqDiff, ↓reduceIte]
    refine wk_dat (r' := .tup [.d (.sl []), .d (.int .i64 6)]) (by simp only [go_sem]; rfl) ?_ (by simp only [go_sem])
    simp only [viewR]; rw [if_neg (by omega), if_pos h2]; rfl
  · have d1 := decide_eq_false (Int.not_lt.2 h2)
    obtain ⟨i, x, k1, k2, k3⟩ := idx_get h2
    obtain ⟨v, hv⟩ := good_view g (some_lt k2)
    have hil := some_lt k2
    have hvl := g.vlen
    have need : (0 ≤ (i : Int) ∧ (i : Int) < (vw l cs).length) = True := eq_true (by omega)
    have hlt : (i < (vw l cs).length) = True := eq_true (by omega)
    have e : viewR l cs nm = (v, 0) := by simp only [viewR]; rw [if_neg (by omega), if_neg (by omega), k1]; simp [List.getD_eq_getElem?_getD, hv]
    rw [e]
    simp (maxSteps := 4000000) -implicitDefEqProofs only [go_sem, d1, k1, Option.some.injEq, forall_eq', and_true, true_and, Bool.not_true, Bool.not_false, decide_true, Nat.reduceAdd, Nat.reduceSub, Nat.reduceLT, Nat.reduceLeDiff, Nat.reduceEqDiff, ↓reduceIte]
    refine ecall0 _ (views_ref l cs g.chk g.len g.cnt) (by simp only [go_sem]) (by simp only [go_sem]) ?_
    simp (maxSteps := 4000000) -implicitDefEqProofs only [go_sem, Nat.reduceAdd, Nat.reduceSub, Nat.reduceLT, Nat.reduceLeDiff, Nat.reduceEqDiff, ↓reduceIte]
    simp (maxSteps := 4000000) -implicitDefEqProofs only [go_sem, need, hlt, hv, Option.some.injEq, forall_eq', and_true, true_and, Bool.not_true, Bool.not_false, decide_true, Nat.reduceAdd, Nat.reduceSub, Nat.reduceLT, Nat.reduceLeDiff, Nat.reduceEqDiff, ↓reduceIte]
    trace_state
    exact Wk.refl _ _ _
end Go.AX.Br
namespace Go.AX.Br
def lcp : List Mk → List Mk → Nat
  | x :: a, y :: b => if x = y then lcp a b + 1 else 0
  | _, _ => 0
theorem mark_pos {l : List Br} {cs : List Int} (g : Good l cs) : ∀ (i : Nat) (v : List Mk) (p : Nat) (m : Mk), (vw l cs)[i]? = some v → v[p]? = some m →
    ∃ (b e : Nat) (x : Br) (c : Int) (w : List Mk), m = ⟨b, e⟩ ∧ b ≤ i ∧ l[b]? = some x ∧ cs[b]? = some c ∧ (e : Int) < c ∧ (vw l cs)[b]? = some w ∧ (p : Int) = x.at' + e ∧ v.take (p + 1) = w.take (p + 1) := by
  intro i
  induction i using Nat.strongRecOn with
  | _ i ih =>
  intro v p m hv hm
  have hil : i < l.length := by have := some_lt hv; have := g.vlen; omega
  obtain ⟨x, hx⟩ : ∃ x, l[i]? = some x := ⟨l[i]'(by omega), List.getElem?_eq_getElem _⟩
  obtain ⟨c, hx2⟩ : ∃ c, cs[i]? = some c := ⟨cs[i]'(by have := g.len; omega), List.getElem?_eq_getElem _⟩
  have hc0 := (g.cnt c (List.mem_of_getElem? hx2)).1
  have ownp : ∀ (k : Nat) (m : Mk), (own i c)[k]? = some m → m = ⟨i, k⟩ ∧ (k : Int) < c := fun k m h => by
    have hlt := some_lt h
    rw [own_len] at hlt
    simp only [own, List.getElem?_map, List.getElem?_range hlt, Option.map_some, Option.some.injEq] at h
    exact ⟨h.symm, by omega⟩
  rcases Nat.eq_zero_or_pos i with h0 | h0
  · subst h0
    have e := g.fit.zero c v hx2 hv
    subst e
    obtain ⟨h1, h2⟩ := ownp p m hm
    exact ⟨0, p, x, c, _, h1, Nat.le_refl _, hx, hx2, h2, hv, by rw [(g.ok.root x hx).2]; omega, rfl⟩
  · obtain ⟨j, f, j1, j2, j3, j4, j5⟩ := g.fit.step i x c v h0 hx hx2 hv
    have hat := (g.ok.good i x hx).2.1
    have hfl : (f.take x.at'.toNat).length = x.at'.toNat := by rw [List.length_take]; omega
    rcases Nat.lt_or_ge p x.at'.toNat with q | q
    · have hm' : f[p]? = some m := by
        rw [j5, List.getElem?_append_left (by omega), List.getElem?_take_of_lt q] at hm; exact hm
      obtain ⟨b, e, y, cc, w, k1, k2, k3, k4, k5, k6, k7, k8⟩ := ih j j1 f p m j3 hm'
      refine ⟨b, e, y, cc, w, k1, by omega, k3, k4, k5, k6, k7, ?_⟩
      rw [← k8, j5, List.take_append_of_le_length (by omega), List.take_take]
      congr 1; omega
    · rw [j5, List.getElem?_append_right (by omega), hfl] at hm
      obtain ⟨h1, h2⟩ := ownp _ m hm
      exact ⟨i, p - x.at'.toNat, x, c, v, h1, Nat.le_refl _, hx, hx2, h2, hv, by omega, rfl⟩
def stemR (l : List Br) (cs : List Int) (a b : ByteArray) : Int × Int :=
  if fits l cs ≠ 0 then (0, fits l cs) else if idx (has a) l < 0 ∨ idx (has b) l < 0 then (0, 6) else (lcp ((vw l cs).getD (idx (has a) l).toNat []) ((vw l cs).getD (idx (has b) l).toNat []), 0)
def mkM (v : List Mk) : List (Mk × Bool) := v.foldl (fun m x => mput x true m) []
theorem mkD_eq (a b : Mk) : deqs (mkD a) (mkD b) = decide (a = b) := by
  cases a; cases b
  simp only [mkD, deqs, deq, Bool.and_true, Mk.mk.injEq]
  rw [Bool.eq_iff_iff]; simp
end Go.AX.Br
namespace Go.AX.Qu
open Go.Proofs Go.RowKit Go.IntWalk Go.AX.Br
structure Rq where
  br : ByteArray
  ch : ByteArray
  st : Int
  ov : Bool
  tr : Int
instance : DecidableEq Rq := fun a b => decidable_of_iff (a.br = b.br ∧ a.ch = b.ch ∧ a.st = b.st ∧ a.ov = b.ov ∧ a.tr = b.tr) (by cases a; cases b; simp)
def rD (r : Rq) : List D := [.str r.br, .str r.ch, .int .u8 r.st, .bool r.ov, .int .i64 r.tr]
def rA (r : Rq) : AV := .agg [.d (.str r.br), .d (.str r.ch), .d (.int .u8 r.st), .d (.bool r.ov), .d (.int .i64 r.tr)]
theorem rD_len {l : List Rq} : (∀ e ∈ l.map rD, e.length = 5) = True := eq_true (map_len (g := rD) fun _ => rfl)
theorem iD_len {l : List Int} : (∀ e ∈ l.map iD, e.length = 1) = True := eq_true (map_len (g := iD) fun _ => rfl)
attribute [go_sem] rD rA rD_len iD_len
def opn (r : Rq) : Bool := (r.st == 1) || (r.st == 2)
def valid (r : Rq) : Bool := isNm r.br && isNm r.ch && decide (1 ≤ r.st) && decide (r.st ≤ 7) && decide (0 ≤ r.tr) && decide (r.tr ≤ 5)
def same2 (a b : Rq) : Bool := opn a && decide (a.br = b.br) && decide (a.ch = b.ch)
def qtw (q : List Rq) : Bool := anyI (fun i r => opn r && (q.take i).any fun s => same2 s r) q
def qcheck (q : List Rq) : Int := if 30 < q.length then 4 else if q.any (fun r => !valid r) then 8 else if qtw q then 14 else 0
def qgreat (q : List Rq) : Bool := q.any (fun r => decide (100 < r.br.size) || decide (100 < r.ch.size)) || decide (40 < q.length)
theorem open_ref (r : Rq) : Spec Tryz.prog 55 [rA r] [] (.d (.bool (opn r))) [] := by
  refine spec_of_ev (fn := Tryz.f55) DX_ok 3000 Tryz.func55 rfl rfl (Nat.le_of_ble_eq_true rfl) ?_
  simp (maxSteps := 4000000) -implicitDefEqProofs only [Tryz.f55, go_sem]
  cases h : (r.st == 1)
  · simp (maxSteps := 4000000) -implicitDefEqProofs only [go_sem, h, Option.some.injEq, forall_eq', and_true, true_and, Bool.not_true, Bool.not_false, decide_true, Nat.reduceAdd, Nat.reduceSub, Nat.reduceLT, Nat.reduceLeDiff, Nat.reduceEqDiff, ↓reduceIte]
    exact wk_bool (by simp [opn, h])
  · simp (maxSteps := 4000000) -implicitDefEqProofs only [go_sem, h, Option.some.injEq, forall_eq', and_true, true_and, Bool.not_true, Bool.not_false, decide_true, Nat.reduceAdd, Nat.reduceSub, Nat.reduceLT, Nat.reduceLeDiff, Nat.reduceEqDiff, ↓reduceIte]
    exact wk_bool (by simp [opn, h])
theorem open_own (r : Rq) : Spec Tryz.prog 58 [rA r] [] (.d (.bool (opn r))) [] := by
  refine spec_of_ev (fn := Tryz.f58) DX_ok 3000 Tryz.func58 rfl rfl (Nat.le_of_ble_eq_true rfl) ?_
  simp (maxSteps := 4000000) -implicitDefEqProofs only [Tryz.f58, go_sem]
  cases h : (r.st == 1)
  · simp (maxSteps := 4000000) -implicitDefEqProofs only [go_sem, h, Option.some.injEq, forall_eq', and_true, true_and, Bool.not_true, Bool.not_false, decide_true, Nat.reduceAdd, Nat.reduceSub, Nat.reduceLT, Nat.reduceLeDiff, Nat.reduceEqDiff, ↓reduceIte]
    exact wk_bool (by simp [opn, h])
  · simp (maxSteps := 4000000) -implicitDefEqProofs only [go_sem, h, Option.some.injEq, forall_eq', and_true, true_and, Bool.not_true, Bool.not_false, decide_true, Nat.reduceAdd, Nat.reduceSub, Nat.reduceLT, Nat.reduceLeDiff, Nat.reduceEqDiff, ↓reduceIte]
    exact wk_bool (by simp [opn, h])
theorem check_one (s : ByteArray) : (check [⟨s, ⟨#[]⟩, 0⟩] == 0) = isNm s := by
  have ht : twice [⟨s, ⟨#[]⟩, 0⟩] = false := by
    refine anyI_f fun i b hb => decide_eq_false ?_
    have hi := some_lt hb
    simp at hi
    subst hi
    simp at hb
    subst hb
    have := idx_le (l := [(⟨s, ⟨#[]⟩, 0⟩ : Br)]) (i := 0) (x := ⟨s, ⟨#[]⟩, 0⟩) rfl (p := has s) (by simp [has])
    simp only; omega
  have hb : anyI (badAt [⟨s, ⟨#[]⟩, 0⟩]) [⟨s, ⟨#[]⟩, 0⟩] = !isNm s := by
    cases h : isNm s
    · exact anyI_t (i := 0) (x := ⟨s, ⟨#[]⟩, 0⟩) rfl (by simp [badAt, badN, h])
    · refine anyI_f fun i b hb => ?_
      have hi := some_lt hb
      simp at hi
      subst hi
      simp at hb
      subst hb
      simp [badAt, badN, root, h]
  simp only [check, ht, hb]
  cases isNm s <;> simp
theorem isName_own (s : ByteArray) : Spec Tryz.prog 57 [.d (.str s)] [] (.d (.bool (isNm s))) [] := by
  have hc := check_own [⟨s, ⟨#[]⟩, 0⟩] (by unfold Sm; simp)
  refine spec_of_ev (fn := Tryz.f57) DX_ok 3000 Tryz.func57 rfl rfl (Nat.le_of_ble_eq_true rfl) ?_
  simp (maxSteps := 4000000) -implicitDefEqProofs only [Tryz.f57, go_sem]
  simp (maxSteps := 4000000) -implicitDefEqProofs only [go_sem, Nat.reduceAdd, Nat.reduceSub, Nat.reduceLT, Nat.reduceLeDiff, Nat.reduceEqDiff, ↓reduceIte]
  refine ⟨by omega, ?_⟩
  refine ECall.frz 0 rfl ?_
  simp (maxSteps := 4000000) -implicitDefEqProofs only [go_sem, Nat.reduceAdd, Nat.reduceSub, Nat.reduceLT, Nat.reduceLeDiff, Nat.reduceEqDiff, ↓reduceIte]
  refine ecall0 _ hc (by simp only [go_sem]) (by simp only [go_sem]) ?_
  simp (maxSteps := 4000000) -implicitDefEqProofs only [go_sem, Nat.reduceAdd, Nat.reduceSub, Nat.reduceLT, Nat.reduceLeDiff, Nat.reduceEqDiff, ↓reduceIte]
  exact wk_bool (check_one s)
theorem valid_ref (r : Rq) : Spec Tryz.prog 54 [rA r] [] (.d (.bool (valid r))) [] := by
  refine spec_of_ev (fn := Tryz.f54) DX_ok 3000 Tryz.func54 rfl rfl (Nat.le_of_ble_eq_true rfl) ?_
  simp (maxSteps := 4000000) -implicitDefEqProofs only [Tryz.f54, go_sem]
  refine ecall0 _ (name_ref r.br) (by simp only [go_sem]) (by simp only [go_sem]) ?_
  simp (maxSteps := 4000000) -implicitDefEqProofs only [go_sem, Nat.reduceAdd, Nat.reduceSub, Nat.reduceLT, Nat.reduceLeDiff, Nat.reduceEqDiff, ↓reduceIte]
  cases h1 : isNm r.br
  · simp (maxSteps := 4000000) -implicitDefEqProofs only [go_sem, h1, Option.some.injEq, forall_eq', and_true, true_and, Bool.not_true, Bool.not_false, decide_true, Nat.reduceAdd, Nat.reduceSub, Nat.reduceLT, Nat.reduceLeDiff, Nat.reduceEqDiff, ↓reduceIte]
    exact wk_bool (by simp [valid, h1])
  simp (maxSteps := 4000000) -implicitDefEqProofs only [go_sem, h1, Option.some.injEq, forall_eq', and_true, true_and, Bool.not_true, Bool.not_false, decide_true, Nat.reduceAdd, Nat.reduceSub, Nat.reduceLT, Nat.reduceLeDiff, Nat.reduceEqDiff, ↓reduceIte]
  refine ecall0 _ (name_ref r.ch) (by simp only [go_sem]) (by simp only [go_sem]) ?_
  simp (maxSteps := 4000000) -implicitDefEqProofs only [go_sem, Nat.reduceAdd, Nat.reduceSub, Nat.reduceLT, Nat.reduceLeDiff, Nat.reduceEqDiff, ↓reduceIte]
  cases h2 : isNm r.ch
  · simp (maxSteps := 4000000) -implicitDefEqProofs only [go_sem, h2, Option.some.injEq, forall_eq', and_true, true_and, Bool.not_true, Bool.not_false, decide_true, Nat.reduceAdd, Nat.reduceSub, Nat.reduceLT, Nat.reduceLeDiff, Nat.reduceEqDiff, ↓reduceIte]
    exact wk_bool (by simp [valid, h2])
  cases h3 : decide (1 ≤ r.st)
  · simp (maxSteps := 4000000) -implicitDefEqProofs only [go_sem, h2, h3, Option.some.injEq, forall_eq', and_true, true_and, Bool.not_true, Bool.not_false, decide_true, Nat.reduceAdd, Nat.reduceSub, Nat.reduceLT, Nat.reduceLeDiff, Nat.reduceEqDiff, ↓reduceIte]
    exact wk_bool (by simp [valid, h3])
  cases h4 : decide (r.st ≤ 7)
  · simp (maxSteps := 4000000) -implicitDefEqProofs only [go_sem, h2, h3, h4, Option.some.injEq, forall_eq', and_true, true_and, Bool.not_true, Bool.not_false, decide_true, Nat.reduceAdd, Nat.reduceSub, Nat.reduceLT, Nat.reduceLeDiff, Nat.reduceEqDiff, ↓reduceIte]
    exact wk_bool (by simp [valid, h4])
  cases h5 : decide (0 ≤ r.tr)
  · simp (maxSteps := 4000000) -implicitDefEqProofs only [go_sem, h2, h3, h4, h5, Option.some.injEq, forall_eq', and_true, true_and, Bool.not_true, Bool.not_false, decide_true, Nat.reduceAdd, Nat.reduceSub, Nat.reduceLT, Nat.reduceLeDiff, Nat.reduceEqDiff, ↓reduceIte]
    exact wk_bool (by simp [valid, h5])
  simp (maxSteps := 4000000) -implicitDefEqProofs only [go_sem, h2, h3, h4, h5, Option.some.injEq, forall_eq', and_true, true_and, Bool.not_true, Bool.not_false, decide_true, Nat.reduceAdd, Nat.reduceSub, Nat.reduceLT, Nat.reduceLeDiff, Nat.reduceEqDiff, ↓reduceIte]
  exact wk_bool (by simp only [valid, h1, h2, h3, h4, h5, Bool.true_and])
def isHead (b : ByteArray) (r : Rq) : Bool := decide (r.br = b) && (r.st == 2)
theorem rq_indexFunc (l : List Rq) (p : Rq → Bool) (f : FuncId) (caps : List AV) (τ : List AObj) (hl : Sm l.length) (h : ∀ x ∈ l, Spec Tryz.prog f (rA x :: caps) τ (.d (.bool (p x))) τ) :
    Spec Tryz.prog 59 [.d (.sl (l.map rD)), .fn f caps] τ (.d (.int .i64 (idx p l))) τ := by
  unfold Sm at hl
  refine spec_of_ev (fn := Tryz.f59) DX_ok 3000 Tryz.func59 rfl rfl (Nat.le_of_ble_eq_true rfl) ?_
  simp (maxSteps := 4000000) -implicitDefEqProofs only [Tryz.f59, go_sem]
  refine eloop (S := Nat) (fun i => mkE 19 [(0, .d (.sl (l.map rD))), (1, .fn f caps), (6, .d (.sl (l.map rD))), (7, .d (.int .i64 l.length)), (8, .d (.int .i64 i))]) (fun i => τ) (fun i => i ≤ l.length ∧ ∀ j x, l[j]? = some x → j < i → p x = false) (fun i => l.length - i) 0 ⟨by omega, by omega⟩ (Wk.sub (by (simp only [go_sem]) <;> trivial)) ?_
  rintro i ⟨hi, hj⟩
  simp (maxSteps := 4000000) -implicitDefEqProofs only [go_sem, Nat.reduceAdd, Nat.reduceSub, Nat.reduceLT, Nat.reduceLeDiff, Nat.reduceEqDiff, ↓reduceIte]
  refine cbs (fun h1 => ?_) (fun h1 => ?_)
  · simp only [go_sem, decide_eq_true_eq] at h1 ⊢
    refine ⟨by omega, fun x hx => .all _ _ (h x (List.mem_of_getElem? hx)) ?_⟩
    simp (maxSteps := 4000000) -implicitDefEqProofs only [go_sem, Nat.reduceAdd, Nat.reduceSub, Nat.reduceLT, Nat.reduceLeDiff, Nat.reduceEqDiff, ↓reduceIte]
    refine cbs (fun h2 => ?_) (fun h2 => ?_)
    · simp (maxSteps := 4000000) -implicitDefEqProofs only [go_sem, Nat.reduceAdd, Nat.reduceSub, Nat.reduceLT, Nat.reduceLeDiff, Nat.reduceEqDiff, ↓reduceIte]
      rw [idx_found hx h2 hj]
      exact Wk.refl _ _ _
    · simp (maxSteps := 4000000) -implicitDefEqProofs only [go_sem, Nat.reduceAdd, Nat.reduceSub, Nat.reduceLT, Nat.reduceLeDiff, Nat.reduceEqDiff, ↓reduceIte]
      rw [i64_in _ (by omega)]
      refine .mk (i + 1) ⟨by omega, fun j y hy hlt => ?_⟩ (by omega) (Wk.sub (by (simp only [go_sem]) <;> trivial))
      rcases Nat.lt_or_ge j i with q | q
      · exact hj j y hy q
      · have : j = i := by omega
        subst this; rw [hx] at hy; cases hy; exact h2
  · simp only [go_sem, decide_eq_false_iff_not] at h1 ⊢
    rw [idx_none fun j y hy => hj j y hy (by have := some_lt hy; omega)]
    exact Wk.refl _ _ _
theorem headF_own (r : Rq) (b : ByteArray) : Spec Tryz.prog 60 [rA r, .ptr 0 0] [.cells [.d (.str b)]] (.d (.bool (isHead b r))) [.cells [.d (.str b)]] := by
  refine spec_of_ev (fn := Tryz.f60) DX_ok 3000 Tryz.func60 rfl rfl (Nat.le_of_ble_eq_true rfl) ?_
  simp (maxSteps := 4000000) -implicitDefEqProofs only [Tryz.f60, go_sem]
  cases h : decide (r.br = b)
  · simp (maxSteps := 4000000) -implicitDefEqProofs only [go_sem, h, Option.some.injEq, forall_eq', and_true, true_and, Bool.not_true, Bool.not_false, decide_true, Nat.reduceAdd, Nat.reduceSub, Nat.reduceLT, Nat.reduceLeDiff, Nat.reduceEqDiff, ↓reduceIte]
    rw [show isHead b r = false by simp [isHead, h]]
    exact Wk.keep (σ := [_]) (τ := [_]) (by simp only [go_sem]) (by simp only [go_sem])
  · simp (maxSteps := 4000000) -implicitDefEqProofs only [go_sem, h, Option.some.injEq, forall_eq', and_true, true_and, Bool.not_true, Bool.not_false, decide_true, Nat.reduceAdd, Nat.reduceSub, Nat.reduceLT, Nat.reduceLeDiff, Nat.reduceEqDiff, ↓reduceIte]
    rw [show isHead b r = (r.st == 2) by simp [isHead, h]]
    exact Wk.keep (σ := [_]) (τ := [_]) (by simp only [go_sem]) (by simp only [go_sem])
theorem head_own (q : List Rq) (b : ByteArray) (hq : Sm q.length) : Spec Tryz.prog 27 [.d (.sl (q.map rD)), .d (.str b)] [] (.d (.int .i64 (idx (isHead b) q))) [] := by
  refine spec_of_ev (fn := Tryz.f27) DX_ok 3000 Tryz.func27 rfl rfl (Nat.le_of_ble_eq_true rfl) ?_
  simp (maxSteps := 4000000) -implicitDefEqProofs only [Tryz.f27, go_sem]
  refine .all _ _ (rq_indexFunc q (isHead b) _ [.ptr 0 0] [_] hq fun x hx => headF_own x b) ?_
  simp (maxSteps := 4000000) -implicitDefEqProofs only [go_sem, Nat.reduceAdd, Nat.reduceSub, Nat.reduceLT, Nat.reduceLeDiff, Nat.reduceEqDiff, ↓reduceIte]
  exact Wk.forget (by simp only [go_sem]) (by simp only [go_sem])
theorem first_ref (q : List Rq) (b : ByteArray) (hq : Sm q.length) : Spec Tryz.prog 11 [.d (.sl (q.map rD)), .d (.str b)] [] (.d (.int .i64 (idx (isHead b) q))) [] := by
  unfold Sm at hq
  refine spec_of_ev (fn := Tryz.f11) DX_ok 3000 Tryz.func11 rfl rfl (Nat.le_of_ble_eq_true rfl) ?_
  simp (maxSteps := 4000000) -implicitDefEqProofs only [Tryz.f11, go_sem]
  refine eloop (S := Nat) (fun i => mkE 28 [(0, .d (.sl (q.map rD))), (1, .d (.str b)), (5, .d (.int .i64 i))]) (fun i => []) (fun i => i ≤ q.length ∧ ∀ j x, q[j]? = some x → j < i → isHead b x = false) (fun i => q.length - i) 0 ⟨by omega, by omega⟩ (Wk.sub (by (simp only [go_sem]) <;> trivial)) ?_
  rintro i ⟨hi, hj⟩
  rcases Nat.lt_or_ge i q.length with h2 | h2
  · have d2 : decide ((i : Int) < q.length) = true := by simp; omega
    obtain ⟨x, hx⟩ : ∃ x, q[i]? = some x := ⟨q[i]'(by omega), List.getElem?_eq_getElem _⟩
    have n1 : (0 ≤ (i : Int) ∧ (i : Int) < q.length) = True := eq_true (by omega)
    have w1 : IntKind.i64.wrap ((i : Int) + 1) = i + 1 := i64_in _ (by omega)
    cases h : decide (x.br = b)
    · simp (maxSteps := 4000000) -implicitDefEqProofs only [go_sem, d2, n1, hx, h, w1, Option.some.injEq, forall_eq', and_true, true_and, Bool.not_true, Bool.not_false, decide_true, Nat.reduceAdd, Nat.reduceSub, Nat.reduceLT, Nat.reduceLeDiff, Nat.reduceEqDiff, ↓reduceIte]
      exact .mk (i + 1) ⟨by omega, upto_succ hx (by simp [isHead, h]) hj⟩ (by omega) (Wk.sub (by (simp only [go_sem]) <;> trivial))
    cases h3 : (x.st == 2)
    · simp (maxSteps := 4000000) -implicitDefEqProofs only [go_sem, d2, n1, hx, h, h3, w1, Option.some.injEq, forall_eq', and_true, true_and, Bool.not_true, Bool.not_false, decide_true, Nat.reduceAdd, Nat.reduceSub, Nat.reduceLT, Nat.reduceLeDiff, Nat.reduceEqDiff, ↓reduceIte]
      exact .mk (i + 1) ⟨by omega, upto_succ hx (by simp [isHead, h3]) hj⟩ (by omega) (Wk.sub (by (simp only [go_sem]) <;> trivial))
    · simp (maxSteps := 4000000) -implicitDefEqProofs only [go_sem, d2, n1, hx, h, h3, w1, Option.some.injEq, forall_eq', and_true, true_and, Bool.not_true, Bool.not_false, decide_true, Nat.reduceAdd, Nat.reduceSub, Nat.reduceLT, Nat.reduceLeDiff, Nat.reduceEqDiff, ↓reduceIte]
      exact wk_int (idx_found hx (by simp [isHead, h, h3]) hj).symm
  · have d2 : decide ((i : Int) < q.length) = false := by simp; omega
    simp (maxSteps := 4000000) -implicitDefEqProofs only [go_sem, d2, Option.some.injEq, forall_eq', and_true, true_and, Bool.not_true, Bool.not_false, decide_true, Nat.reduceAdd, Nat.reduceSub, Nat.reduceLT, Nat.reduceLeDiff, Nat.reduceEqDiff, ↓reduceIte]
    exact wk_int (idx_none fun j x hx => hj j x hx (by have := some_lt hx; omega)).symm
theorem great_ref (q : List Rq) (hq : Sm q.length) : Spec Tryz.prog 21 [.d (.sl (q.map rD))] [] (.d (.bool (qgreat q))) [] := by
  unfold Sm at hq
  refine spec_of_ev (fn := Tryz.f21) DX_ok 3000 Tryz.func21 rfl rfl (Nat.le_of_ble_eq_true rfl) ?_
  simp (maxSteps := 4000000) -implicitDefEqProofs only [Tryz.f21, go_sem]
  refine eloop (S := Nat) (fun i => mkE 29 [(0, .d (.sl (q.map rD))), (3, .d (.int .i64 i))]) (fun i => []) (fun i => i ≤ q.length ∧ ∀ j x, q[j]? = some x → j < i → (decide (100 < x.br.size) || decide (100 < x.ch.size)) = false) (fun i => q.length - i) 0 ⟨by omega, by omega⟩ (Wk.sub (by (simp only [go_sem]) <;> trivial)) ?_
  rintro i ⟨hi, hj⟩
  rcases Nat.lt_or_ge i q.length with h2 | h2
  · have d2 : decide ((i : Int) < q.length) = true := by simp; omega
    obtain ⟨x, hx⟩ : ∃ x, q[i]? = some x := ⟨q[i]'(by omega), List.getElem?_eq_getElem _⟩
    have n1 : (0 ≤ (i : Int) ∧ (i : Int) < q.length) = True := eq_true (by omega)
    have w1 : IntKind.i64.wrap ((i : Int) + 1) = i + 1 := i64_in _ (by omega)
    have yes : (decide (100 < x.br.size) || decide (100 < x.ch.size)) = true → qgreat q = true := fun h => by
      simp only [qgreat, Bool.or_eq_true]; exact .inl (List.any_eq_true.2 ⟨x, List.mem_of_getElem? hx, h⟩)
    rcases Int.lt_or_le 100 x.br.size with hA | hA
    · have d1 := decide_eq_true hA
      simp (maxSteps := 4000000) -implicitDefEqProofs only [go_sem, d2, n1, hx, d1, Option.some.injEq, forall_eq', and_true, true_and, Bool.not_true, Bool.not_false, decide_true, Nat.reduceAdd, Nat.reduceSub, Nat.reduceLT, Nat.reduceLeDiff, Nat.reduceEqDiff, ↓reduceIte]
      exact wk_bool (yes (by simp; omega)).symm
    have d1 := decide_eq_false (Int.not_lt.2 hA)
    rcases Int.lt_or_le 100 x.ch.size with hB | hB
    · have d3 := decide_eq_true hB
      simp (maxSteps := 4000000) -implicitDefEqProofs only [go_sem, d2, n1, hx, d1, d3, Option.some.injEq, forall_eq', and_true, true_and, Bool.not_true, Bool.not_false, decide_true, Nat.reduceAdd, Nat.reduceSub, Nat.reduceLT, Nat.reduceLeDiff, Nat.reduceEqDiff, ↓reduceIte]
      exact wk_bool (yes (by simp; omega)).symm
    have d3 := decide_eq_false (Int.not_lt.2 hB)
    simp (maxSteps := 4000000) -implicitDefEqProofs only [go_sem, d2, n1, hx, d1, d3, w1, Option.some.injEq, forall_eq', and_true, true_and, Bool.not_true, Bool.not_false, decide_true, Nat.reduceAdd, Nat.reduceSub, Nat.reduceLT, Nat.reduceLeDiff, Nat.reduceEqDiff, ↓reduceIte]
    exact .mk (i + 1) ⟨by omega, upto_succ hx (by simp; omega) hj⟩ (by omega) (Wk.sub (by (simp only [go_sem]) <;> trivial))
  · have d2 : decide ((i : Int) < q.length) = false := by simp; omega
    simp (maxSteps := 4000000) -implicitDefEqProofs only [go_sem, d2, Option.some.injEq, forall_eq', and_true, true_and, Bool.not_true, Bool.not_false, decide_true, Nat.reduceAdd, Nat.reduceSub, Nat.reduceLT, Nat.reduceLeDiff, Nat.reduceEqDiff, ↓reduceIte]
    have no : q.any (fun r => decide (100 < r.br.size) || decide (100 < r.ch.size)) = false := by
      rw [List.any_eq_false]
      intro x hx
      obtain ⟨j, hj'⟩ := List.mem_iff_getElem?.1 hx
      have := hj j x hj' (by have := some_lt hj'; omega)
      simp [this]
    refine wk_bool ?_
    simp only [qgreat, no, Bool.false_or]
    rw [decide_eq_decide]; omega
theorem clone_rq (q : List Rq) (hq : q.length ≤ 1000) : Spec Tryz.prog 77 [.d (.sl (q.map rD))] [] (.own 0) [.row 5 (q.map rD)] := by
  refine spec_of_ev (fn := Tryz.f77) DX_ok 3000 Tryz.func77 rfl rfl (Nat.le_of_ble_eq_true rfl) ?_
  simp (maxSteps := 4000000) -implicitDefEqProofs only [Tryz.f77, go_sem]
  intro b hb
  cases b with
  | true =>
    simp (maxSteps := 4000000) -implicitDefEqProofs only [go_sem, Nat.reduceAdd, Nat.reduceSub, Nat.reduceLT, Nat.reduceLeDiff, Nat.reduceEqDiff, ↓reduceIte]
    rw [hb rfl]
    refine Wk.trans (Wk.nil 0 5 rfl) ?_
    exact (Wk.sub (by (simp only [go_sem]) <;> trivial))
  | false =>
    simp (maxSteps := 4000000) -implicitDefEqProofs only [go_sem, Nat.reduceAdd, Nat.reduceSub, Nat.reduceLT, Nat.reduceLeDiff, Nat.reduceEqDiff, ↓reduceIte]
    exact ⟨by omega, ⟨by omega, by omega⟩, (Wk.via [1] (by (simp only [go_sem, ↓reduceIte]) <;> trivial) (by first | (simp (maxSteps := 4000000) -implicitDefEqProofs only [go_sem, Nat.reduceAdd, Nat.reduceSub, Nat.reduceLT, Nat.reduceLeDiff, Nat.reduceEqDiff, ↓reduceIte]; done) | ((simp (maxSteps := 4000000) -implicitDefEqProofs only [go_sem, Nat.reduceAdd, Nat.reduceSub, Nat.reduceLT, Nat.reduceLeDiff, Nat.reduceEqDiff, ↓reduceIte]) <;> omega)) (by simp) (by first | (simp; done) | (simp [so]; done)) (by (simp (maxSteps := 4000000) -implicitDefEqProofs only [go_sem, Nat.reduceAdd, Nat.reduceSub, Nat.reduceLT, Nat.reduceLeDiff, Nat.reduceEqDiff, ↓reduceIte]) <;> trivial) (by first | (simp only [go_sem]; done) | ((simp (maxSteps := 4000000) -implicitDefEqProofs only [go_sem, Nat.reduceAdd, Nat.reduceSub, Nat.reduceLT, Nat.reduceLeDiff, Nat.reduceEqDiff, ↓reduceIte]) <;> omega)) (Nat.zero_le _) (fun i h => absurd h (Nat.not_lt_zero i)))⟩
theorem intEq (x y : Int) : (x == y) = decide (x = y) := by rw [Bool.eq_iff_iff]; simp
theorem bneI (x y : Int) : (x != y) = !(x == y) := rfl
theorem sameInts_ref (a b : List Int) (ha : Sm a.length) : Spec Tryz.prog 42 [.d (.sl (a.map iD)), .d (.sl (b.map iD))] [] (.d (.bool (decide (a = b)))) [] := by
  unfold Sm at ha
  refine spec_of_ev (fn := Tryz.f42) DX_ok 3000 Tryz.func42 rfl rfl (Nat.le_of_ble_eq_true rfl) ?_
  simp (maxSteps := 4000000) -implicitDefEqProofs only [Tryz.f42, go_sem]
  by_cases h1 : a.length = b.length
  · have d1 : ((a.length : Int) != b.length) = false := by simp [h1]
    simp (maxSteps := 4000000) -implicitDefEqProofs only [go_sem, d1, Option.some.injEq, forall_eq', and_true, true_and, Bool.not_true, Bool.not_false, decide_true, Nat.reduceAdd, Nat.reduceSub, Nat.reduceLT, Nat.reduceLeDiff, Nat.reduceEqDiff, ↓reduceIte]
    refine eloop (S := Nat) (fun i => mkE 26 [(0, .d (.sl (a.map iD))), (1, .d (.sl (b.map iD))), (5, .d (.int .i64 i))]) (fun i => []) (fun i => i ≤ a.length ∧ ∀ j x, a[j]? = some x → j < i → b[j]? = some x) (fun i => a.length - i) 0 ⟨by omega, by omega⟩ (Wk.sub (by (simp only [go_sem]) <;> trivial)) ?_
    rintro i ⟨hi, hj⟩
    rcases Nat.lt_or_ge i a.length with h2 | h2
    · have d2 : decide ((i : Int) < a.length) = true := by simp; omega
      obtain ⟨x, hx⟩ : ∃ x, a[i]? = some x := ⟨a[i]'(by omega), List.getElem?_eq_getElem _⟩
      obtain ⟨y, hy⟩ : ∃ x, b[i]? = some x := ⟨b[i]'(by omega), List.getElem?_eq_getElem _⟩
      have n1 : (0 ≤ (i : Int) ∧ (i : Int) < a.length) = True := eq_true (by omega)
      have n2 : (0 ≤ (i : Int) ∧ (i : Int) < b.length) = True := eq_true (by omega)
      have n3 : (i < a.length) = True := eq_true (by omega)
      have n4 : (i < b.length) = True := eq_true (by omega)
      have w1 : IntKind.i64.wrap ((i : Int) + 1) = i + 1 := i64_in _ (by omega)
      by_cases h3 : x = y
      · have hxy := (intEq x y).trans (decide_eq_true h3)
        simp (maxSteps := 4000000) -implicitDefEqProofs only [go_sem, d2, Option.some.injEq, forall_eq', and_true, true_and, Bool.not_true, Bool.not_false, decide_true, Nat.reduceAdd, Nat.reduceSub, Nat.reduceLT, Nat.reduceLeDiff, Nat.reduceEqDiff, ↓reduceIte]
        refine DX.plain (.take 0 false (.take 1 false (.take 2 false (.take 3 false (.take 4 false (.take 5 false (.take 6 false (.take 7 false (.take 8 false .done))))))))) (by kernel_rfl) (by kernel_rfl) Ty.mixed ?_
        simp (maxSteps := 4000000) -implicitDefEqProofs only [go_sem, n1, n2, n3, n4, hx, hy, hxy, w1, bneI, Option.some.injEq, forall_eq', and_true, true_and, Bool.not_true, Bool.not_false, decide_true, Nat.reduceAdd, Nat.reduceSub, Nat.reduceLT, Nat.reduceLeDiff, Nat.reduceEqDiff, ↓reduceIte]
        exact .mk (i + 1) ⟨by omega, upto_succ hx (by rw [h3]; exact hy) hj⟩ (by omega) (Wk.sub (by (simp only [go_sem]) <;> trivial))
      · have hxy := (intEq x y).trans (decide_eq_false h3)
        simp (maxSteps := 4000000) -implicitDefEqProofs only [go_sem, d2, Option.some.injEq, forall_eq', and_true, true_and, Bool.not_true, Bool.not_false, decide_true, Nat.reduceAdd, Nat.reduceSub, Nat.reduceLT, Nat.reduceLeDiff, Nat.reduceEqDiff, ↓reduceIte]
        refine DX.plain (.take 0 false (.take 1 false (.take 2 false (.take 3 false (.take 4 false (.take 5 false (.take 6 false (.take 7 false (.take 8 false .done))))))))) (by kernel_rfl) (by kernel_rfl) Ty.mixed ?_
        simp (maxSteps := 4000000) -implicitDefEqProofs only [go_sem, n1, n2, n3, n4, hx, hy, hxy, bneI, Option.some.injEq, forall_eq', and_true, true_and, Bool.not_true, Bool.not_false, decide_true, Nat.reduceAdd, Nat.reduceSub, Nat.reduceLT, Nat.reduceLeDiff, Nat.reduceEqDiff, ↓reduceIte]
        refine wk_bool (decide_eq_false fun e => h3 ?_).symm
        subst e; rw [hx] at hy; exact Option.some.inj hy
    · have d2 : decide ((i : Int) < a.length) = false := by simp; omega
      simp (maxSteps := 4000000) -implicitDefEqProofs only [go_sem, d2, Option.some.injEq, forall_eq', and_true, true_and, Bool.not_true, Bool.not_false, decide_true, Nat.reduceAdd, Nat.reduceSub, Nat.reduceLT, Nat.reduceLeDiff, Nat.reduceEqDiff, ↓reduceIte]
      refine wk_bool (decide_eq_true ?_).symm
      refine List.ext_getElem? fun j => ?_
      rcases Nat.lt_or_ge j a.length with q | q
      · have hx := List.getElem?_eq_getElem q
        rw [hx]; exact (hj j _ hx (by omega)).symm
      · rw [List.getElem?_eq_none q, List.getElem?_eq_none (by omega)]
  · have d1 : ((a.length : Int) != b.length) = true := by simp; omega
    simp (maxSteps := 4000000) -implicitDefEqProofs only [go_sem, d1, Option.some.injEq, forall_eq', and_true, true_and, Bool.not_true, Bool.not_false, decide_true, Nat.reduceAdd, Nat.reduceSub, Nat.reduceLT, Nat.reduceLeDiff, Nat.reduceEqDiff, ↓reduceIte]
    exact wk_bool (decide_eq_false fun e => h1 (by rw [e])).symm
end Go.AX.Qu
namespace Go.AX.Qu
open Go.Proofs Go.RowKit Go.IntWalk Go.AX.Br
theorem qcheck_bad {q : List Rq} {x : Rq} (hl : ¬ 30 < q.length) (hx : x ∈ q) (hv : valid x = false) : qcheck q = 8 := by
  have : q.any (fun r => !valid r) = true := List.any_eq_true.2 ⟨x, hx, by simp [hv]⟩
  simp only [qcheck, this]
  rw [if_neg hl]; rfl
theorem all_valid {q : List Rq} (h : ∀ (j : Nat) (x : Rq), q[j]? = some x → j < q.length → valid x = true) : q.any (fun r => !valid r) = false := by
  rw [List.any_eq_false]
  intro x hx
  obtain ⟨j, hj⟩ := List.mem_iff_getElem?.1 hx
  simp [h j x hj (some_lt hj)]
theorem take_any {q : List Rq} {r : Rq} {k : Nat} {x : Rq} (h : q[k]? = some x) : ((q.take (k + 1)).any fun s => same2 s r) = (((q.take k).any fun s => same2 s r) || same2 x r) := by
  rw [List.take_add_one, h]; simp
theorem qcheck_ref (q : List Rq) (hq : Sm q.length) : Spec Tryz.prog 23 [.d (.sl (q.map rD))] [] (.d (.int .i64 (qcheck q))) [] := by
  unfold Sm at hq
  refine spec_of_ev (fn := Tryz.f23) DX_ok 3000 Tryz.func23 rfl rfl (Nat.le_of_ble_eq_true rfl) ?_
  simp (maxSteps := 4000000) -implicitDefEqProofs only [Tryz.f23, go_sem]
  rcases Nat.lt_or_ge 30 q.length with h0 | h0
  · have d0 : decide (30 < (q.length : Int)) = true := by simp; omega
    simp (maxSteps := 4000000) -implicitDefEqProofs only [go_sem, d0, Option.some.injEq, forall_eq', and_true, true_and, Bool.not_true, Bool.not_false, decide_true, Nat.reduceAdd, Nat.reduceSub, Nat.reduceLT, Nat.reduceLeDiff, Nat.reduceEqDiff, ↓reduceIte]
    exact wk_int (by simp only [qcheck]; rw [if_pos h0])
  have h0' : ¬ 30 < q.length := by omega
  have d0 : decide (30 < (q.length : Int)) = false := by simp; omega
  simp (maxSteps := 4000000) -implicitDefEqProofs only [go_sem, d0, Option.some.injEq, forall_eq', and_true, true_and, Bool.not_true, Bool.not_false, decide_true, Nat.reduceAdd, Nat.reduceSub, Nat.reduceLT, Nat.reduceLeDiff, Nat.reduceEqDiff, ↓reduceIte]
  refine eloop (S := Nat) (fun i => mkE 70 [(0, .d (.sl (q.map rD))), (3, .d (.int .i64 i))]) (fun i => []) (fun i => i ≤ q.length ∧ ∀ j x, q[j]? = some x → j < i → valid x = true) (fun i => q.length - i) 0 ⟨by omega, by omega⟩ (Wk.sub (by (simp only [go_sem]) <;> trivial)) ?_
  rintro i ⟨hi, hj⟩
  rcases Nat.lt_or_ge i q.length with h2 | h2
  · have d2 : decide ((i : Int) < q.length) = true := by simp; omega
    obtain ⟨x, hx⟩ : ∃ x, q[i]? = some x := ⟨q[i]'(by omega), List.getElem?_eq_getElem _⟩
    have n1 : (0 ≤ (i : Int) ∧ (i : Int) < q.length) = True := eq_true (by omega)
    have w1 : IntKind.i64.wrap ((i : Int) + 1) = i + 1 := i64_in _ (by omega)
    have vx := valid_ref x
    simp only [rA] at vx
    simp (maxSteps := 4000000) -implicitDefEqProofs only [go_sem, d2, n1, hx, Option.some.injEq, forall_eq', and_true, true_and, Bool.not_true, Bool.not_false, decide_true, Nat.reduceAdd, Nat.reduceSub, Nat.reduceLT, Nat.reduceLeDiff, Nat.reduceEqDiff, ↓reduceIte]
    refine ecall0 _ vx (by simp only [go_sem]) (by simp only [go_sem]) ?_
    cases h3 : valid x
    · simp (maxSteps := 4000000) -implicitDefEqProofs only [go_sem, h3, Option.some.injEq, forall_eq', and_true, true_and, Bool.not_true, Bool.not_false, decide_true, Nat.reduceAdd, Nat.reduceSub, Nat.reduceLT, Nat.reduceLeDiff, Nat.reduceEqDiff, ↓reduceIte]
      exact wk_int (qcheck_bad h0' (List.mem_of_getElem? hx) h3).symm
    · simp (maxSteps := 4000000) -implicitDefEqProofs only [go_sem, h3, w1, Option.some.injEq, forall_eq', and_true, true_and, Bool.not_true, Bool.not_false, decide_true, Nat.reduceAdd, Nat.reduceSub, Nat.reduceLT, Nat.reduceLeDiff, Nat.reduceEqDiff, ↓reduceIte]
      exact .mk (i + 1) ⟨by omega, upto_succ hx h3 hj⟩ (by omega) (Wk.sub (by (simp only [go_sem]) <;> trivial))
  have d2 : decide ((i : Int) < q.length) = false := by simp; omega
  have hall := all_valid (q := q) fun j x hx hlt => hj j x hx (by omega)
  have fin : ∀ b, qtw q = b → qcheck q = if b = true then 14 else 0 := fun b hb => by simp only [qcheck, hall, hb]; rw [if_neg h0']; simp
  simp (maxSteps := 4000000) -implicitDefEqProofs only [go_sem, d2, Option.some.injEq, forall_eq', and_true, true_and, Bool.not_true, Bool.not_false, decide_true, Nat.reduceAdd, Nat.reduceSub, Nat.reduceLT, Nat.reduceLeDiff, Nat.reduceEqDiff, ↓reduceIte]
  clear hj hi h2 d2
  refine eloop (S := Nat) (fun i => mkE 70 [(0, .d (.sl (q.map rD))), (4, .d (.int .i64 i))]) (fun i => []) (fun i => i ≤ q.length ∧ ∀ j x, q[j]? = some x → j < i → (opn x && (q.take j).any fun s => same2 s x) = false) (fun i => q.length - i) 0 ⟨by omega, by omega⟩ (Wk.sub (by (simp only [go_sem]) <;> trivial)) ?_
  rintro i ⟨hi, hj⟩
  rcases Nat.lt_or_ge i q.length with h2 | h2
  · have d2 : decide ((i : Int) < q.length) = true := by simp; omega
    obtain ⟨x, hx⟩ : ∃ x, q[i]? = some x := ⟨q[i]'(by omega), List.getElem?_eq_getElem _⟩
    have n1 : (0 ≤ (i : Int) ∧ (i : Int) < q.length) = True := eq_true (by omega)
    have n1' : (i < q.length) = True := eq_true (by omega)
    have w1 : IntKind.i64.wrap ((i : Int) + 1) = i + 1 := i64_in _ (by omega)
    have ox := open_ref x
    simp only [rA] at ox
    simp (maxSteps := 4000000) -implicitDefEqProofs only [go_sem, d2, Option.some.injEq, forall_eq', and_true, true_and, Bool.not_true, Bool.not_false, decide_true, Nat.reduceAdd, Nat.reduceSub, Nat.reduceLT, Nat.reduceLeDiff, Nat.reduceEqDiff, ↓reduceIte]
    refine eloop (S := Nat) (fun k => mkE 70 [(0, .d (.sl (q.map rD))), (4, .d (.int .i64 i)), (5, .d (.int .i64 k))]) (fun i => []) (fun k => k ≤ i ∧ (opn x && (q.take k).any fun s => same2 s x) = false) (fun k => i - k) 0 ⟨by omega, by simp⟩ (Wk.sub (by (simp only [go_sem]) <;> trivial)) ?_
    rintro k ⟨hk, hkn⟩
    rcases Nat.lt_or_ge k i with h4 | h4
    · have d3 : decide ((k : Int) < i) = true := by simp; omega
      obtain ⟨y, hy⟩ : ∃ x, q[k]? = some x := ⟨q[k]'(by omega), List.getElem?_eq_getElem _⟩
      have n2 : (0 ≤ (k : Int) ∧ (k : Int) < q.length) = True := eq_true (by omega)
      have n2' : (k < q.length) = True := eq_true (by omega)
      have w2 : IntKind.i64.wrap ((k : Int) + 1) = k + 1 := i64_in _ (by omega)
      have oy := open_ref y
      simp only [rA] at oy
      simp (maxSteps := 4000000) -implicitDefEqProofs only [go_sem, d3, Option.some.injEq, forall_eq', and_true, true_and, Bool.not_true, Bool.not_false, decide_true, Nat.reduceAdd, Nat.reduceSub, Nat.reduceLT, Nat.reduceLeDiff, Nat.reduceEqDiff, ↓reduceIte]
      refine DX.plain (.take 0 false (.take 1 false (.take 2 false (.take 3 false (.take 4 false (.take 5 false (.take 6 false (.take 7 false (.take 8 false (.take 9 false (.take 10 false (.take 11 false (.take 12 false (.take 13 false (.take 14 false (.take 15 false (.take 16 false (.take 17 false (.take 18 false (.take 19 false (.take 20 false (.take 21 false (.take 22 false (.take 23 false (.take 24 false (.take 25 false (.take 26 false (.take 27 false (.take 28 false (.take 29 false (.take 30 false (.take 31 false (.take 32 false (.take 33 false (.take 34 false (.take 35 false (.take 36 false (.take 37 false .done)))))))))))))))))))))))))))))))))))))) (by kernel_rfl) (by kernel_rfl) Ty.mixed ?_
      simp (maxSteps := 4000000) -implicitDefEqProofs only [go_sem, n1, n1', n2, n2', hx, hy, Option.some.injEq, forall_eq', and_true, true_and, Bool.not_true, Bool.not_false, decide_true, Nat.reduceAdd, Nat.reduceSub, Nat.reduceLT, Nat.reduceLeDiff, Nat.reduceEqDiff, ↓reduceIte]
      refine ⟨_, _, ox, rfl, ?_⟩
      cases h5 : opn x
      · simp (maxSteps := 4000000) -implicitDefEqProofs only [go_sem, h5, w2, Option.some.injEq, forall_eq', and_true, true_and, Bool.not_true, Bool.not_false, decide_true, Nat.reduceAdd, Nat.reduceSub, Nat.reduceLT, Nat.reduceLeDiff, Nat.reduceEqDiff, ↓reduceIte]
        exact .mk (k + 1) ⟨by omega, rfl⟩ (by omega) (Wk.sub (by (simp only [go_sem]) <;> trivial))
      rw [h5, Bool.true_and] at hkn
      have nx := (take_any (r := x) hy).trans (by rw [hkn, Bool.false_or])
      simp (maxSteps := 4000000) -implicitDefEqProofs only [go_sem, h5, n1, n1', n2, n2', hx, hy, Option.some.injEq, forall_eq', and_true, true_and, Bool.not_true, Bool.not_false, decide_true, Nat.reduceAdd, Nat.reduceSub, Nat.reduceLT, Nat.reduceLeDiff, Nat.reduceEqDiff, ↓reduceIte]
      refine ⟨_, _, oy, rfl, ?_⟩
      cases h6 : opn y
      · simp (maxSteps := 4000000) -implicitDefEqProofs only [go_sem, h6, w2, Option.some.injEq, forall_eq', and_true, true_and, Bool.not_true, Bool.not_false, decide_true, Nat.reduceAdd, Nat.reduceSub, Nat.reduceLT, Nat.reduceLeDiff, Nat.reduceEqDiff, ↓reduceIte]
        exact .mk (k + 1) ⟨by omega, by rw [nx]; simp [same2, h6]⟩ (by omega) (Wk.sub (by (simp only [go_sem]) <;> trivial))
      have sw1 : decide (x.br = y.br) = decide (y.br = x.br) := by rw [decide_eq_decide]; exact eq_comm
      have sw2 : decide (x.ch = y.ch) = decide (y.ch = x.ch) := by rw [decide_eq_decide]; exact eq_comm
      cases h7 : decide (y.br = x.br)
      · rw [h7] at sw1
        simp (maxSteps := 4000000) -implicitDefEqProofs only [go_sem, h6, sw1, n1, n1', n2, n2', hx, hy, w2, Option.some.injEq, forall_eq', and_true, true_and, Bool.not_true, Bool.not_false, decide_true, Nat.reduceAdd, Nat.reduceSub, Nat.reduceLT, Nat.reduceLeDiff, Nat.reduceEqDiff, ↓reduceIte]
        exact .mk (k + 1) ⟨by omega, by rw [nx]; simp only [same2, h7, Bool.and_false, Bool.false_and]⟩ (by omega) (Wk.sub (by (simp only [go_sem]) <;> trivial))
      rw [h7] at sw1
      cases h8 : decide (y.ch = x.ch)
      · rw [h8] at sw2
        simp (maxSteps := 4000000) -implicitDefEqProofs only [go_sem, h6, sw1, sw2, n1, n1', n2, n2', hx, hy, w2, Option.some.injEq, forall_eq', and_true, true_and, Bool.not_true, Bool.not_false, decide_true, Nat.reduceAdd, Nat.reduceSub, Nat.reduceLT, Nat.reduceLeDiff, Nat.reduceEqDiff, ↓reduceIte]
        exact .mk (k + 1) ⟨by omega, by rw [nx]; simp only [same2, h8, Bool.and_false]⟩ (by omega) (Wk.sub (by (simp only [go_sem]) <;> trivial))
      · rw [h8] at sw2
        simp (maxSteps := 4000000) -implicitDefEqProofs only [go_sem, h6, sw1, sw2, n1, n1', n2, n2', hx, hy, Option.some.injEq, forall_eq', and_true, true_and, Bool.not_true, Bool.not_false, decide_true, Nat.reduceAdd, Nat.reduceSub, Nat.reduceLT, Nat.reduceLeDiff, Nat.reduceEqDiff, ↓reduceIte]
        refine wk_int ?_
        have : qtw q = true := by
          refine anyI_t hx ?_
          rw [h5, Bool.true_and, List.any_eq_true]
          refine ⟨y, ?_, by simp only [same2, h6, h7, h8, Bool.and_true]⟩
          have : (q.take i)[k]? = some y := by rw [List.getElem?_take_of_lt h4]; exact hy
          exact List.mem_of_getElem? this
        rw [fin true this]; rfl
    · have d3 : decide ((k : Int) < i) = false := by simp; omega
      have : k = i := by omega
      subst this
      simp (maxSteps := 4000000) -implicitDefEqProofs only [go_sem, d3, w1, Option.some.injEq, forall_eq', and_true, true_and, Bool.not_true, Bool.not_false, decide_true, Nat.reduceAdd, Nat.reduceSub, Nat.reduceLT, Nat.reduceLeDiff, Nat.reduceEqDiff, ↓reduceIte]
      exact .mk (k + 1) ⟨by omega, upto_succ hx hkn hj⟩ (by omega) (Wk.sub (by (simp only [go_sem]) <;> trivial))
  · have d2 : decide ((i : Int) < q.length) = false := by simp; omega
    simp (maxSteps := 4000000) -implicitDefEqProofs only [go_sem, d2, Option.some.injEq, forall_eq', and_true, true_and, Bool.not_true, Bool.not_false, decide_true, Nat.reduceAdd, Nat.reduceSub, Nat.reduceLT, Nat.reduceLeDiff, Nat.reduceEqDiff, ↓reduceIte]
    refine wk_int ?_
    rw [fin false (anyI_f fun j x hx => hj j x hx (by have := some_lt hx; omega))]; rfl
end Go.AX.Qu
namespace Go.AX.Qu
open Go.Proofs Go.RowKit Go.IntWalk Go.AX.Br
def k2 (k : ByteArray × ByteArray) : List D := [.str k.1, .str k.2]
theorem k2_eq (a b : ByteArray × ByteArray) : deqs (k2 a) (k2 b) = decide (a = b) := by
  cases a; cases b
  simp only [k2, deqs, deq, ba_beq, Bool.and_true]
  rw [Bool.eq_iff_iff]; simp
theorem k2_kind (s : ByteArray × ByteArray) : kindOk true [.str, .str] (k2 s) := ⟨rfl, fun h => by cases h⟩
theorem seen_succ {q : List Rq} {m : List ((ByteArray × ByteArray) × Bool)} {i : Nat} {x : Rq} (hx : q[i]? = some x) (h : ∀ r : Rq, (look (r.br, r.ch) m).getD false = (q.take i).any fun s => same2 s r) :
    ∀ r : Rq, (look (r.br, r.ch) (mput (x.br, x.ch) ((look (x.br, x.ch) m).getD false || opn x) m)).getD false = (q.take (i + 1)).any fun s => same2 s r := fun r => by
  rw [take_any hx, look_put]
  by_cases e : (r.br, r.ch) = (x.br, x.ch)
  · rw [if_pos e]
    simp only [Prod.mk.injEq] at e
    have e2 : same2 x r = opn x := by simp [same2, e.1, e.2]
    have e3 : ((q.take i).any fun s => same2 s x) = (q.take i).any fun s => same2 s r := by
      congr 1; funext s; simp [same2, e.1, e.2]
    rw [Option.getD_some, h x, e2, e3]
  · rw [if_neg e, h r]
    have : same2 x r = false := by
      simp only [Prod.mk.injEq, not_and] at e
      simp only [same2, Bool.and_eq_false_iff, decide_eq_false_iff_not]
      by_cases e1 : x.br = r.br
      · exact .inr fun e2 => e e1.symm e2.symm
      · exact .inl (.inr e1)
    rw [this, Bool.or_false]
theorem qcheck_own (q : List Rq) (hq : Sm q.length) : Spec Tryz.prog 26 [.d (.sl (q.map rD))] [] (.d (.int .i64 (qcheck q))) [] := by
  unfold Sm at hq
  refine spec_of_ev (fn := Tryz.f26) DX_ok 3000 Tryz.func26 rfl rfl (Nat.le_of_ble_eq_true rfl) ?_
  simp (maxSteps := 4000000) -implicitDefEqProofs only [Tryz.f26, go_sem]
  rcases Nat.lt_or_ge 30 q.length with h0 | h0
  · have d0 : decide (30 < (q.length : Int)) = true := by simp; omega
    simp (maxSteps := 4000000) -implicitDefEqProofs only [go_sem, d0, Option.some.injEq, forall_eq', and_true, true_and, Bool.not_true, Bool.not_false, decide_true, Nat.reduceAdd, Nat.reduceSub, Nat.reduceLT, Nat.reduceLeDiff, Nat.reduceEqDiff, ↓reduceIte]
    exact wk_int (by simp only [qcheck]; rw [if_pos h0])
  have h0' : ¬ 30 < q.length := by omega
  have d0 : decide (30 < (q.length : Int)) = false := by simp; omega
  simp (maxSteps := 4000000) -implicitDefEqProofs only [go_sem, d0, Option.some.injEq, forall_eq', and_true, true_and, Bool.not_true, Bool.not_false, decide_true, Nat.reduceAdd, Nat.reduceSub, Nat.reduceLT, Nat.reduceLeDiff, Nat.reduceEqDiff, ↓reduceIte]
  refine eloop (S := Nat) (fun i => mkE 78 [(0, .d (.sl (q.map rD))), (12, .d (.sl (q.map rD))), (13, .d (.int .i64 q.length)), (14, .d (.int .i64 i))]) (fun i => []) (fun i => i ≤ q.length ∧ ∀ j x, q[j]? = some x → j < i → valid x = true) (fun i => q.length - i) 0 ⟨by omega, by omega⟩ (Wk.sub (by (simp only [go_sem]) <;> trivial)) ?_
  rintro i ⟨hi, hj⟩
  rcases Nat.lt_or_ge i q.length with h2 | h2
  · have d2 : decide ((i : Int) < q.length) = true := by simp; omega
    obtain ⟨x, hx⟩ : ∃ x, q[i]? = some x := ⟨q[i]'(by omega), List.getElem?_eq_getElem _⟩
    have n1 : (0 ≤ (i : Int) ∧ (i : Int) < q.length) = True := eq_true (by omega)
    have w1 : IntKind.i64.wrap ((i : Int) + 1) = i + 1 := i64_in _ (by omega)
    have bad : valid x = false → qcheck q = 8 := fun h => qcheck_bad h0' (List.mem_of_getElem? hx) h
    rcases Int.lt_or_le x.st 1 with a1 | a1
    · have f1 := decide_eq_true a1
      simp (maxSteps := 4000000) -implicitDefEqProofs only [go_sem, d2, n1, hx, f1, Option.some.injEq, forall_eq', and_true, true_and, Bool.not_true, Bool.not_false, decide_true, Nat.reduceAdd, Nat.reduceSub, Nat.reduceLT, Nat.reduceLeDiff, Nat.reduceEqDiff, ↓reduceIte]
      exact wk_int (bad (by simp only [valid, Bool.and_eq_false_iff, decide_eq_false_iff_not]; omega)).symm
    have f1 := decide_eq_false (Int.not_lt.2 a1)
    rcases Int.lt_or_le 7 x.st with a2 | a2
    · have f2 := decide_eq_true a2
      simp (maxSteps := 4000000) -implicitDefEqProofs only [go_sem, d2, n1, hx, f1, f2, Option.some.injEq, forall_eq', and_true, true_and, Bool.not_true, Bool.not_false, decide_true, Nat.reduceAdd, Nat.reduceSub, Nat.reduceLT, Nat.reduceLeDiff, Nat.reduceEqDiff, ↓reduceIte]
      exact wk_int (bad (by simp only [valid, Bool.and_eq_false_iff, decide_eq_false_iff_not]; omega)).symm
    have f2 := decide_eq_false (Int.not_lt.2 a2)
    rcases Int.lt_or_le x.tr 0 with a3 | a3
    · have f3 := decide_eq_true a3
      simp (maxSteps := 4000000) -implicitDefEqProofs only [go_sem, d2, n1, hx, f1, f2, f3, Option.some.injEq, forall_eq', and_true, true_and, Bool.not_true, Bool.not_false, decide_true, Nat.reduceAdd, Nat.reduceSub, Nat.reduceLT, Nat.reduceLeDiff, Nat.reduceEqDiff, ↓reduceIte]
      exact wk_int (bad (by simp only [valid, Bool.and_eq_false_iff, decide_eq_false_iff_not]; omega)).symm
    have f3 := decide_eq_false (Int.not_lt.2 a3)
    rcases Int.lt_or_le 5 x.tr with a4 | a4
    · have f4 := decide_eq_true a4
      simp (maxSteps := 4000000) -implicitDefEqProofs only [go_sem, d2, n1, hx, f1, f2, f3, f4, Option.some.injEq, forall_eq', and_true, true_and, Bool.not_true, Bool.not_false, decide_true, Nat.reduceAdd, Nat.reduceSub, Nat.reduceLT, Nat.reduceLeDiff, Nat.reduceEqDiff, ↓reduceIte]
      exact wk_int (bad (by simp only [valid, Bool.and_eq_false_iff, decide_eq_false_iff_not]; omega)).symm
    have f4 := decide_eq_false (Int.not_lt.2 a4)
    simp (maxSteps := 4000000) -implicitDefEqProofs only [go_sem, d2, n1, hx, f1, f2, f3, f4, Option.some.injEq, forall_eq', and_true, true_and, Bool.not_true, Bool.not_false, decide_true, Nat.reduceAdd, Nat.reduceSub, Nat.reduceLT, Nat.reduceLeDiff, Nat.reduceEqDiff, ↓reduceIte]
    refine ecall0 _ (isName_own x.br) (by simp only [go_sem]) (by simp only [go_sem]) ?_
    simp (maxSteps := 4000000) -implicitDefEqProofs only [go_sem, Nat.reduceAdd, Nat.reduceSub, Nat.reduceLT, Nat.reduceLeDiff, Nat.reduceEqDiff, ↓reduceIte]
    cases h5 : isNm x.br
    · simp (maxSteps := 4000000) -implicitDefEqProofs only [go_sem, h5, Option.some.injEq, forall_eq', and_true, true_and, Bool.not_true, Bool.not_false, decide_true, Nat.reduceAdd, Nat.reduceSub, Nat.reduceLT, Nat.reduceLeDiff, Nat.reduceEqDiff, ↓reduceIte]
      exact wk_int (bad (by simp [valid, h5])).symm
    simp (maxSteps := 4000000) -implicitDefEqProofs only [go_sem, h5, Option.some.injEq, forall_eq', and_true, true_and, Bool.not_true, Bool.not_false, decide_true, Nat.reduceAdd, Nat.reduceSub, Nat.reduceLT, Nat.reduceLeDiff, Nat.reduceEqDiff, ↓reduceIte]
    refine ecall0 _ (isName_own x.ch) (by simp only [go_sem]) (by simp only [go_sem]) ?_
    simp (maxSteps := 4000000) -implicitDefEqProofs only [go_sem, Nat.reduceAdd, Nat.reduceSub, Nat.reduceLT, Nat.reduceLeDiff, Nat.reduceEqDiff, ↓reduceIte]
    cases h6 : isNm x.ch
    · simp (maxSteps := 4000000) -implicitDefEqProofs only [go_sem, h6, Option.some.injEq, forall_eq', and_true, true_and, Bool.not_true, Bool.not_false, decide_true, Nat.reduceAdd, Nat.reduceSub, Nat.reduceLT, Nat.reduceLeDiff, Nat.reduceEqDiff, ↓reduceIte]
      exact wk_int (bad (by simp [valid, h6])).symm
    · simp (maxSteps := 4000000) -implicitDefEqProofs only [go_sem, h6, w1, Option.some.injEq, forall_eq', and_true, true_and, Bool.not_true, Bool.not_false, decide_true, Nat.reduceAdd, Nat.reduceSub, Nat.reduceLT, Nat.reduceLeDiff, Nat.reduceEqDiff, ↓reduceIte]
      exact .mk (i + 1) ⟨by omega, upto_succ hx (by simp only [valid, h5, h6, Bool.and_eq_true, decide_eq_true_eq, true_and]; omega) hj⟩ (by omega) (Wk.forget (by (simp only [go_sem]) <;> trivial) (by simp only [go_sem]))
  have d2 : decide ((i : Int) < q.length) = false := by simp; omega
  have hall := all_valid (q := q) fun j x hx hlt => hj j x hx (by omega)
  have fin : ∀ b, qtw q = b → qcheck q = if b = true then 14 else 0 := fun b hb => by simp only [qcheck, hall, hb]; rw [if_neg h0']; simp
  simp (maxSteps := 4000000) -implicitDefEqProofs only [go_sem, d2, Option.some.injEq, forall_eq', and_true, true_and, Bool.not_true, Bool.not_false, decide_true, Nat.reduceAdd, Nat.reduceSub, Nat.reduceLT, Nat.reduceLeDiff, Nat.reduceEqDiff, ↓reduceIte]
  clear hj hi h2 d2
  refine eloop (S := Nat × List ((ByteArray × ByteArray) × Bool)) (fun s => mkE 78 [(0, .d (.sl (q.map rD))), (5, .mp 0), (50, .d (.sl (q.map rD))), (51, .d (.int .i64 q.length)), (52, .d (.int .i64 s.1))]) (fun s => [.map true false (mD k2 boD s.2)])
    (fun s => s.1 ≤ q.length ∧ (∀ j x, q[j]? = some x → j < s.1 → (opn x && (q.take j).any fun s => same2 s x) = false) ∧ ∀ r : Rq, (look (r.br, r.ch) s.2).getD false = (q.take s.1).any fun s => same2 s r) (fun s => q.length - s.1) (0, []) ⟨by omega, by omega, fun r => by simp [look]⟩ (Wk.sub (by (simp only [go_sem]) <;> trivial)) ?_
  rintro ⟨i, m⟩ ⟨hi, hj, hm⟩
  simp only at hi hj hm ⊢
  rcases Nat.lt_or_ge i q.length with h2 | h2
  · have d2 : decide ((i : Int) < q.length) = true := by simp; omega
    obtain ⟨x, hx⟩ : ∃ x, q[i]? = some x := ⟨q[i]'(by omega), List.getElem?_eq_getElem _⟩
    have n1 : (0 ≤ (i : Int) ∧ (i : Int) < q.length) = True := eq_true (by omega)
    have w1 : IntKind.i64.wrap ((i : Int) + 1) = i + 1 := i64_in _ (by omega)
    have ox := open_own x
    simp only [rA] at ox
    have hmx := hm x
    obtain ⟨old, hold⟩ : ∃ b, b = (look (x.br, x.ch) m).getD false := ⟨_, rfl⟩
    have nxt := seen_succ hx hm
    rw [← hold] at hmx nxt
    have nd : (∃ ks, KeyT Tryz.prog 110 true ks ∧ kindOk true ks [D.str x.br, D.str x.ch] ∧ ∀ y ∈ mD k2 boD m, kindOk true ks y.1) = True := mneed (kD := k2) (vD := boD) Ty.keyT_110 k2_kind (x.br, x.ch) m
    have gd : (lkM [D.str x.br, D.str x.ch] (mD k2 boD m)).getD [D.bool false] = [D.bool old] := by
      have := lkM_mD (kD := k2) (vD := boD) k2_eq (x.br, x.ch) m
      simp only [k2] at this
      rw [this, hold]
      cases look (x.br, x.ch) m <;> rfl
    have up : ∀ v : Bool, upM [D.str x.br, D.str x.ch] [.bool v] (mD k2 boD m) = mD k2 boD (mput (x.br, x.ch) v m) := fun v => upM_mD (kD := k2) (vD := boD) k2_eq (x.br, x.ch) v m
    simp (maxSteps := 4000000) -implicitDefEqProofs only [go_sem, d2, n1, hx, Option.some.injEq, forall_eq', and_true, true_and, Bool.not_true, Bool.not_false, decide_true, Nat.reduceAdd, Nat.reduceSub, Nat.reduceLT, Nat.reduceLeDiff, Nat.reduceEqDiff, ↓reduceIte]
    refine ecall0 _ ox (by simp only [go_sem]) (by simp only [go_sem]) ?_
    cases h5 : opn x
    · rw [h5] at ox
      rw [h5, Bool.or_false] at nxt
      have stay : (opn x && (q.take i).any fun s => same2 s x) = false := by rw [h5]; rfl
      cases old
      · simp (maxSteps := 4000000) -implicitDefEqProofs only [go_sem, h5, Option.some.injEq, forall_eq', and_true, true_and, Bool.not_true, Bool.not_false, decide_true, Nat.reduceAdd, Nat.reduceSub, Nat.reduceLT, Nat.reduceLeDiff, Nat.reduceEqDiff, ↓reduceIte]
        refine DX.plain (.take 0 false (.take 1 false (.take 2 false (.take 3 false (.take 4 false (.take 5 false (.take 6 false (.take 7 false (.take 8 false (.run [9] (fun _ => []) fun _ => .done)))))))))) (by kernel_rfl) (by kernel_rfl) Ty.mixed ?_
        simp (maxSteps := 4000000) -implicitDefEqProofs only [go_sem, nd, gd, up, n1, Option.some.injEq, forall_eq', and_true, true_and, Bool.not_true, Bool.not_false, decide_true, Nat.reduceAdd, Nat.reduceSub, Nat.reduceLT, Nat.reduceLeDiff, Nat.reduceEqDiff, ↓reduceIte]
        refine ⟨_, _, ox.lift0 _ (by simp only [go_sem]) (by simp only [go_sem]), rfl, ?_⟩
        simp (maxSteps := 4000000) -implicitDefEqProofs only [go_sem, nd, gd, up, w1, Option.some.injEq, forall_eq', and_true, true_and, Bool.not_true, Bool.not_false, decide_true, Nat.reduceAdd, Nat.reduceSub, Nat.reduceLT, Nat.reduceLeDiff, Nat.reduceEqDiff, ↓reduceIte]
        exact .mk (i + 1, mput (x.br, x.ch) false m) ⟨h2, upto_succ hx stay hj, nxt⟩ (by simp only; omega) (Wk.via [0] (by (simp only [go_sem, ↓reduceIte]) <;> trivial) (by first | (simp (maxSteps := 4000000) -implicitDefEqProofs only [go_sem, Nat.reduceAdd, Nat.reduceSub, Nat.reduceLT, Nat.reduceLeDiff, Nat.reduceEqDiff, ↓reduceIte]; done) | ((simp (maxSteps := 4000000) -implicitDefEqProofs only [go_sem, Nat.reduceAdd, Nat.reduceSub, Nat.reduceLT, Nat.reduceLeDiff, Nat.reduceEqDiff, ↓reduceIte]) <;> omega)) (by simp) (by first | (simp; done) | (simp [so]; done)) (by (simp (maxSteps := 4000000) -implicitDefEqProofs only [go_sem, Nat.reduceAdd, Nat.reduceSub, Nat.reduceLT, Nat.reduceLeDiff, Nat.reduceEqDiff, ↓reduceIte]) <;> trivial) (by first | (simp only [go_sem]; done) | ((simp (maxSteps := 4000000) -implicitDefEqProofs only [go_sem, Nat.reduceAdd, Nat.reduceSub, Nat.reduceLT, Nat.reduceLeDiff, Nat.reduceEqDiff, ↓reduceIte]) <;> omega)) (Nat.zero_le _) (fun i h => absurd h (Nat.not_lt_zero i)))
      · simp (maxSteps := 4000000) -implicitDefEqProofs only [go_sem, h5, Option.some.injEq, forall_eq', and_true, true_and, Bool.not_true, Bool.not_false, decide_true, Nat.reduceAdd, Nat.reduceSub, Nat.reduceLT, Nat.reduceLeDiff, Nat.reduceEqDiff, ↓reduceIte]
        refine DX.plain (.take 0 false (.take 1 false (.take 2 false (.take 3 false (.take 4 false (.take 5 false (.take 6 false (.take 7 false (.take 8 false (.run [9] (fun _ => []) fun _ => .done)))))))))) (by kernel_rfl) (by kernel_rfl) Ty.mixed ?_
        simp (maxSteps := 4000000) -implicitDefEqProofs only [go_sem, nd, gd, up, n1, w1, Option.some.injEq, forall_eq', and_true, true_and, Bool.not_true, Bool.not_false, decide_true, Nat.reduceAdd, Nat.reduceSub, Nat.reduceLT, Nat.reduceLeDiff, Nat.reduceEqDiff, ↓reduceIte]
        exact .mk (i + 1, mput (x.br, x.ch) true m) ⟨h2, upto_succ hx stay hj, nxt⟩ (by simp only; omega) (Wk.via [0] (by (simp only [go_sem, ↓reduceIte]) <;> trivial) (by first | (simp (maxSteps := 4000000) -implicitDefEqProofs only [go_sem, Nat.reduceAdd, Nat.reduceSub, Nat.reduceLT, Nat.reduceLeDiff, Nat.reduceEqDiff, ↓reduceIte]; done) | ((simp (maxSteps := 4000000) -implicitDefEqProofs only [go_sem, Nat.reduceAdd, Nat.reduceSub, Nat.reduceLT, Nat.reduceLeDiff, Nat.reduceEqDiff, ↓reduceIte]) <;> omega)) (by simp) (by first | (simp; done) | (simp [so]; done)) (by (simp (maxSteps := 4000000) -implicitDefEqProofs only [go_sem, Nat.reduceAdd, Nat.reduceSub, Nat.reduceLT, Nat.reduceLeDiff, Nat.reduceEqDiff, ↓reduceIte]) <;> trivial) (by first | (simp only [go_sem]; done) | ((simp (maxSteps := 4000000) -implicitDefEqProofs only [go_sem, Nat.reduceAdd, Nat.reduceSub, Nat.reduceLT, Nat.reduceLeDiff, Nat.reduceEqDiff, ↓reduceIte]) <;> omega)) (Nat.zero_le _) (fun i h => absurd h (Nat.not_lt_zero i)))
    · rw [h5] at ox
      rw [h5, Bool.or_true] at nxt
      cases old
      · have stay : (opn x && (q.take i).any fun s => same2 s x) = false := by rw [h5, ← hmx]; rfl
        simp (maxSteps := 4000000) -implicitDefEqProofs only [go_sem, h5, nd, gd, Option.some.injEq, forall_eq', and_true, true_and, Bool.not_true, Bool.not_false, decide_true, Nat.reduceAdd, Nat.reduceSub, Nat.reduceLT, Nat.reduceLeDiff, Nat.reduceEqDiff, ↓reduceIte]
        refine DX.plain (.take 0 false (.take 1 false (.take 2 false (.take 3 false (.take 4 false (.take 5 false (.take 6 false (.take 7 false (.take 8 false (.run [9] (fun _ => []) fun _ => .done)))))))))) (by kernel_rfl) (by kernel_rfl) Ty.mixed ?_
        simp (maxSteps := 4000000) -implicitDefEqProofs only [go_sem, nd, gd, up, n1, Option.some.injEq, forall_eq', and_true, true_and, Bool.not_true, Bool.not_false, decide_true, Nat.reduceAdd, Nat.reduceSub, Nat.reduceLT, Nat.reduceLeDiff, Nat.reduceEqDiff, ↓reduceIte]
        refine ⟨_, _, ox.lift0 _ (by simp only [go_sem]) (by simp only [go_sem]), rfl, ?_⟩
        simp (maxSteps := 4000000) -implicitDefEqProofs only [go_sem, nd, gd, up, w1, Option.some.injEq, forall_eq', and_true, true_and, Bool.not_true, Bool.not_false, decide_true, Nat.reduceAdd, Nat.reduceSub, Nat.reduceLT, Nat.reduceLeDiff, Nat.reduceEqDiff, ↓reduceIte]
        exact .mk (i + 1, mput (x.br, x.ch) true m) ⟨h2, upto_succ hx stay hj, nxt⟩ (by simp only; omega) (Wk.via [0] (by (simp only [go_sem, ↓reduceIte]) <;> trivial) (by first | (simp (maxSteps := 4000000) -implicitDefEqProofs only [go_sem, Nat.reduceAdd, Nat.reduceSub, Nat.reduceLT, Nat.reduceLeDiff, Nat.reduceEqDiff, ↓reduceIte]; done) | ((simp (maxSteps := 4000000) -implicitDefEqProofs only [go_sem, Nat.reduceAdd, Nat.reduceSub, Nat.reduceLT, Nat.reduceLeDiff, Nat.reduceEqDiff, ↓reduceIte]) <;> omega)) (by simp) (by first | (simp; done) | (simp [so]; done)) (by (simp (maxSteps := 4000000) -implicitDefEqProofs only [go_sem, Nat.reduceAdd, Nat.reduceSub, Nat.reduceLT, Nat.reduceLeDiff, Nat.reduceEqDiff, ↓reduceIte]) <;> trivial) (by first | (simp only [go_sem]; done) | ((simp (maxSteps := 4000000) -implicitDefEqProofs only [go_sem, Nat.reduceAdd, Nat.reduceSub, Nat.reduceLT, Nat.reduceLeDiff, Nat.reduceEqDiff, ↓reduceIte]) <;> omega)) (Nat.zero_le _) (fun i h => absurd h (Nat.not_lt_zero i)))
      · simp (maxSteps := 4000000) -implicitDefEqProofs only [go_sem, h5, nd, gd, Option.some.injEq, forall_eq', and_true, true_and, Bool.not_true, Bool.not_false, decide_true, Nat.reduceAdd, Nat.reduceSub, Nat.reduceLT, Nat.reduceLeDiff, Nat.reduceEqDiff, ↓reduceIte]
        refine wk_int ?_
        have : qtw q = true := anyI_t hx (by rw [h5, ← hmx]; rfl)
        rw [fin true this]; rfl
  · have d2 : decide ((i : Int) < q.length) = false := by simp; omega
    simp (maxSteps := 4000000) -implicitDefEqProofs only [go_sem, d2, Option.some.injEq, forall_eq', and_true, true_and, Bool.not_true, Bool.not_false, decide_true, Nat.reduceAdd, Nat.reduceSub, Nat.reduceLT, Nat.reduceLeDiff, Nat.reduceEqDiff, ↓reduceIte]
    refine wk_int ?_
    rw [fin false (anyI_f fun j x hx => hj j x hx (by have := some_lt hx; omega))]; rfl
end Go.AX.Qu
namespace Go.AX.Qu
open Go.Proofs Go.RowKit Go.IntWalk Go.AX.Br
def askR (q : List Rq) (b c : ByteArray) (o : Bool) : List Rq × Int := if qcheck q ≠ 0 then ([], qcheck q) else if qcheck (q ++ [⟨b, c, 1, o, 0⟩]) ≠ 0 then ([], qcheck (q ++ [⟨b, c, 1, o, 0⟩])) else (q ++ [⟨b, c, 1, o, 0⟩], 0)
def headR (q : List Rq) (b : ByteArray) : Int × Int := if qcheck q ≠ 0 then (0, qcheck q) else if idx (isHead b) q < 0 then (0, 6) else (idx (isHead b) q, 0)
def setSt (r : Rq) (s : Int) : Rq := ⟨r.br, r.ch, s, r.ov, r.tr⟩
def settleR (q : List Rq) (b : ByteArray) (s : Int) : List Rq × Int := if qcheck q ≠ 0 then ([], qcheck q) else if s < 5 ∨ 7 < s then ([], 2) else if idx (isHead b) q < 0 then ([], 6) else (q.modify (idx (isHead b) q).toNat fun r => setSt r s, 0)
def inLine (b : ByteArray) (r : Rq) : Bool := decide (r.br = b) && opn r
def lineL (q : List Rq) (b : ByteArray) : Nat → List Int
  | 0 => []
  | n + 1 => lineL q b n ++ if (q[n]?.map (inLine b)).getD false then [(n : Int)] else []
def qlineR (q : List Rq) (b : ByteArray) : List Int × Int := if qcheck q ≠ 0 then ([], qcheck q) else (lineL q b q.length, 0)
theorem qcheck_len {q : List Rq} (h : qcheck q = 0) : q.length ≤ 30 := by
  simp only [qcheck] at h
  split at h
  · omega
  · omega
theorem lineL_len (q : List Rq) (b : ByteArray) : ∀ n, (lineL q b n).length ≤ n
  | 0 => Nat.le_refl _
  | n + 1 => by
    have := lineL_len q b n
    simp only [lineL, List.length_append]
    split <;> simp <;> omega
theorem headR_own (q : List Rq) (b : ByteArray) (hq : Sm q.length) : Spec Tryz.prog 8 [.d (.sl (q.map rD)), .d (.str b)] [] (.tup [.d (.int .i64 (headR q b).1), .d (.int .i64 (headR q b).2)]) [] := by
  refine spec_of_ev (fn := Tryz.f8) DX_ok 3000 Tryz.func8 rfl rfl (Nat.le_of_ble_eq_true rfl) ?_
  simp (maxSteps := 4000000) -implicitDefEqProofs only [Tryz.f8, go_sem]
  refine ecall0 _ (qcheck_own q hq) (by simp only [go_sem]) (by simp only [go_sem]) ?_
  simp (maxSteps := 4000000) -implicitDefEqProofs only [go_sem, Nat.reduceAdd, Nat.reduceSub, Nat.reduceLT, Nat.reduceLeDiff, Nat.reduceEqDiff, ↓reduceIte]
  by_cases h1 : qcheck q = 0
  case neg =>
    have d1 : (qcheck q != 0) = true := by simp [h1]
    simp (maxSteps := 4000000) -implicitDefEqProofs only [go_sem, d1, Option.some.injEq, forall_eq', and_true, true_and, Bool.not_true, Bool.not_false, decide_true, Nat.reduceAdd, Nat.reduceSub, Nat.reduceLT, Nat.reduceLeDiff, Nat.reduceEqDiff, ↓reduceIte]
    rw [show headR q b = (0, qcheck q) by simp only [headR]; rw [if_pos h1]]
    exact Wk.refl _ _ _
  have d1 : (qcheck q != 0) = false := by simp [h1]
  simp (maxSteps := 4000000) -implicitDefEqProofs only [go_sem, d1, Option.some.injEq, forall_eq', and_true, true_and, Bool.not_true, Bool.not_false, decide_true, Nat.reduceAdd, Nat.reduceSub, Nat.reduceLT, Nat.reduceLeDiff, Nat.reduceEqDiff, ↓reduceIte]
  refine ecall0 _ (head_own q b hq) (by simp only [go_sem]) (by simp only [go_sem]) ?_
  simp (maxSteps := 4000000) -implicitDefEqProofs only [go_sem, Nat.reduceAdd, Nat.reduceSub, Nat.reduceLT, Nat.reduceLeDiff, Nat.reduceEqDiff, ↓reduceIte]
  rcases Int.lt_or_le (idx (isHead b) q) 0 with h2 | h2
  · have d2 := decide_eq_true h2
    simp (maxSteps := 4000000) -implicitDefEqProofs only [go_sem, d2, Option.some.injEq, forall_eq', and_true, true_and, Bool.not_true, Bool.not_false, decide_true, Nat.reduceAdd, Nat.reduceSub, Nat.reduceLT, Nat.reduceLeDiff, Nat.reduceEqDiff, ↓reduceIte]
    rw [show headR q b = (0, 6) by simp only [headR]; rw [if_neg (by omega), if_pos h2]]
    exact Wk.refl _ _ _
  · have d2 := decide_eq_false (Int.not_lt.2 h2)
    simp (maxSteps := 4000000) -implicitDefEqProofs only [go_sem, d2, Option.some.injEq, forall_eq', and_true, true_and, Bool.not_true, Bool.not_false, decide_true, Nat.reduceAdd, Nat.reduceSub, Nat.reduceLT, Nat.reduceLeDiff, Nat.reduceEqDiff, ↓reduceIte]
    rw [show headR q b = (idx (isHead b) q, 0) by simp only [headR]; rw [if_neg (by omega), if_neg (by omega)]]
    exact Wk.refl _ _ _
theorem set_mod {q : List Rq} {i : Nat} {x : Rq} {s : Int} (hx : q[i]? = some x) : (q.map rD).set i [D.str x.br, D.str x.ch, D.int .u8 s, D.bool x.ov, D.int .i64 x.tr] = (q.modify i fun r => setSt r s).map rD := by
  refine List.ext_getElem? fun k => ?_
  rw [List.getElem?_set, List.length_map, List.getElem?_map, List.getElem?_map, List.getElem?_modify]
  have hlt := some_lt hx
  by_cases e : i = k
  · subst e
    rw [if_pos rfl, if_pos hlt, hx]
    simp [rD, setSt]
  · rw [if_neg e]
    simp [e]
theorem settle_own (q : List Rq) (b : ByteArray) (s : Int) (hq : Sm q.length) : Spec Tryz.prog 82 [.d (.sl (q.map rD)), .d (.str b), .d (.int .u8 s)] [] (.tup [.d (.sl ((settleR q b s).1.map rD)), .d (.int .i64 (settleR q b s).2)]) [] := by
  obtain ⟨R, hR⟩ : ∃ R, R = settleR q b s := ⟨_, rfl⟩
  rw [← hR]
  unfold settleR at hR
  refine spec_of_ev (fn := Tryz.f82) DX_ok 3000 Tryz.func82 rfl rfl (Nat.le_of_ble_eq_true rfl) ?_
  simp (maxSteps := 4000000) -implicitDefEqProofs only [Tryz.f82, go_sem]
  refine ecall0 _ (qcheck_own q hq) (by simp only [go_sem]) (by simp only [go_sem]) ?_
  simp (maxSteps := 4000000) -implicitDefEqProofs only [go_sem, Nat.reduceAdd, Nat.reduceSub, Nat.reduceLT, Nat.reduceLeDiff, Nat.reduceEqDiff, ↓reduceIte]
  by_cases h1 : qcheck q = 0
  case neg =>
    have d1 : (qcheck q != 0) = true := by simp [h1]
    rw [if_pos h1] at hR
    simp (maxSteps := 4000000) -implicitDefEqProofs only [go_sem, d1, Option.some.injEq, forall_eq', and_true, true_and, Bool.not_true, Bool.not_false, decide_true, Nat.reduceAdd, Nat.reduceSub, Nat.reduceLT, Nat.reduceLeDiff, Nat.reduceEqDiff, ↓reduceIte]
    rw [hR]
    exact wk_dat (r' := .tup [.d (.sl []), .d (.int .i64 (qcheck q))]) (by simp only [go_sem]; rfl) rfl (by simp only [go_sem])
  have d1 : (qcheck q != 0) = false := by simp [h1]
  have hl := qcheck_len h1
  rw [if_neg (by omega)] at hR
  rcases Int.lt_or_le s 5 with h2 | h2
  · have d2 := decide_eq_true h2
    rw [if_pos (.inl h2)] at hR
    simp (maxSteps := 4000000) -implicitDefEqProofs only [go_sem, d1, d2, Option.some.injEq, forall_eq', and_true, true_and, Bool.not_true, Bool.not_false, decide_true, Nat.reduceAdd, Nat.reduceSub, Nat.reduceLT, Nat.reduceLeDiff, Nat.reduceEqDiff, ↓reduceIte]
    rw [hR]
    exact wk_dat (r' := .tup [.d (.sl []), .d (.int .i64 2)]) (by simp only [go_sem]; rfl) rfl (by simp only [go_sem])
  have d2 := decide_eq_false (Int.not_lt.2 h2)
  rcases Int.lt_or_le 7 s with h3 | h3
  · have d3 := decide_eq_true h3
    rw [if_pos (.inr h3)] at hR
    simp (maxSteps := 4000000) -implicitDefEqProofs only [go_sem, d1, d2, d3, Option.some.injEq, forall_eq', and_true, true_and, Bool.not_true, Bool.not_false, decide_true, Nat.reduceAdd, Nat.reduceSub, Nat.reduceLT, Nat.reduceLeDiff, Nat.reduceEqDiff, ↓reduceIte]
    rw [hR]
    exact wk_dat (r' := .tup [.d (.sl []), .d (.int .i64 2)]) (by simp only [go_sem]; rfl) rfl (by simp only [go_sem])
  have d3 := decide_eq_false (Int.not_lt.2 h3)
  rw [if_neg (by omega)] at hR
  simp (maxSteps := 4000000) -implicitDefEqProofs only [go_sem, d1, d2, d3, Option.some.injEq, forall_eq', and_true, true_and, Bool.not_true, Bool.not_false, decide_true, Nat.reduceAdd, Nat.reduceSub, Nat.reduceLT, Nat.reduceLeDiff, Nat.reduceEqDiff, ↓reduceIte]
  refine ecall0 _ (head_own q b hq) (by simp only [go_sem]) (by simp only [go_sem]) ?_
  simp (maxSteps := 4000000) -implicitDefEqProofs only [go_sem, Nat.reduceAdd, Nat.reduceSub, Nat.reduceLT, Nat.reduceLeDiff, Nat.reduceEqDiff, ↓reduceIte]
  rcases Int.lt_or_le (idx (isHead b) q) 0 with h4 | h4
  · have d4 := decide_eq_true h4
    rw [if_pos h4] at hR
    simp (maxSteps := 4000000) -implicitDefEqProofs only [go_sem, d4, Option.some.injEq, forall_eq', and_true, true_and, Bool.not_true, Bool.not_false, decide_true, Nat.reduceAdd, Nat.reduceSub, Nat.reduceLT, Nat.reduceLeDiff, Nat.reduceEqDiff, ↓reduceIte]
    rw [hR]
    exact wk_dat (r' := .tup [.d (.sl []), .d (.int .i64 6)]) (by simp only [go_sem]; rfl) rfl (by simp only [go_sem])
  have d4 := decide_eq_false (Int.not_lt.2 h4)
  obtain ⟨i, x, k1, k2, k3⟩ := idx_get h4
  have hi := some_lt k2
  have n1 : (0 ≤ (i : Int) ∧ (i : Int) < q.length) = True := eq_true (by omega)
  have n2 : (i < q.length) = True := eq_true (by omega)
  rw [if_neg (by omega), k1, Int.toNat_natCast] at hR
  simp (maxSteps := 4000000) -implicitDefEqProofs only [go_sem, d4, Option.some.injEq, forall_eq', and_true, true_and, Bool.not_true, Bool.not_false, decide_true, Nat.reduceAdd, Nat.reduceSub, Nat.reduceLT, Nat.reduceLeDiff, Nat.reduceEqDiff, ↓reduceIte]
  rw [k1]
  refine ecallN _ _ (clone_rq q (by omega)) (by simp only [go_sem]) ?_
  simp (maxSteps := 4000000) -implicitDefEqProofs only [go_sem, n1, n2, k2, Option.some.injEq, forall_eq', and_true, true_and, Bool.not_true, Bool.not_false, decide_true, Nat.reduceAdd, Nat.reduceSub, Nat.reduceLT, Nat.reduceLeDiff, Nat.reduceEqDiff, ↓reduceIte]
  rw [set_mod k2, hR]
  exact wk_dat (r' := .tup [.d (.sl ((q.modify i fun r => setSt r s).map rD)), .d (.int .i64 0)]) (by simp only [go_sem]; rfl) rfl (by simp only [go_sem])
end Go.AX.Qu

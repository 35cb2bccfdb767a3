/- Deltas: checks. -/
import Derived.Test.YtmffhidhmbncbaaDa
set_option maxHeartbeats 1000000
set_option linter.unusedVariables false
set_option linter.unusedSimpArgs false
set_option maxRecDepth 20000
namespace Go.AX.De
open Go.Proofs Go.RowKit Go.IntWalk
def pA (p : Part) : AV := .agg [.d (.int .i64 p.at'), .d (.int .i64 p.n), .d (.sl (p.data.map bI))]
attribute [go_sem] pA
def copies (p : Part) : Bool := decide (1 ≤ p.n ∧ p.n ≤ 2000 ∧ 0 ≤ p.at' ∧ p.at' ≤ 2000 ∧ p.data.length = 0)
def inserts (p : Part) : Bool := decide (p.n = 0 ∧ p.at' = 0 ∧ 1 ≤ p.data.length ∧ p.data.length ≤ 2000)
theorem copies_ref (p : Part) : Spec Try.prog 28 [pA p] [] (.d (.bool (copies p))) [] := by
  unfold pA
  refine spec_of_ev (fn := Try.f28) DX_ok 3000 Try.func28 rfl rfl (Nat.le_of_ble_eq_true rfl) ?_
  simp only [Try.f28, go_sem]
  repeat' (refine gbs (fun _ => ?_) (fun _ => ?_) <;> simp only [go_sem])
  all_goals
    refine wk_bool ?_
    unfold copies
    simp only [decide_eq_true_eq, decide_eq_false_iff_not] at *
    (rw [Bool.eq_iff_iff]; simp only [Bool.and_eq_true, Bool.or_eq_true, Bool.not_eq_true', decide_eq_true_eq, decide_eq_false_iff_not, beq_iff_eq, bne_iff_ne, ne_eq, true_iff, iff_true, false_iff, iff_false, eq_self, Bool.false_eq_true]; omega)
theorem inserts_ref (p : Part) : Spec Try.prog 46 [pA p] [] (.d (.bool (inserts p))) [] := by
  unfold pA
  refine spec_of_ev (fn := Try.f46) DX_ok 3000 Try.func46 rfl rfl (Nat.le_of_ble_eq_true rfl) ?_
  simp only [Try.f46, go_sem]
  repeat' (refine gbs (fun _ => ?_) (fun _ => ?_) <;> simp only [go_sem])
  all_goals
    refine wk_bool ?_
    unfold inserts
    simp only [decide_eq_true_eq, decide_eq_false_iff_not, beq_iff_eq, beq_eq_false_iff_ne, ne_eq] at *
    (rw [Bool.eq_iff_iff]; simp only [Bool.and_eq_true, Bool.or_eq_true, Bool.not_eq_true', decide_eq_true_eq, decide_eq_false_iff_not, beq_iff_eq, bne_iff_ne, ne_eq, true_iff, iff_true, false_iff, iff_false, eq_self, Bool.false_eq_true]; omega)
theorem copies_own (p : Part) : Spec Try.prog 44 [pA p] [] (.d (.bool (copies p))) [] := by
  unfold pA
  refine spec_of_ev (fn := Try.f44) DX_ok 3000 Try.func44 rfl rfl (Nat.le_of_ble_eq_true rfl) ?_
  simp only [Try.f44, go_sem]
  repeat' (refine gbs (fun _ => ?_) (fun _ => ?_) <;> simp only [go_sem])
  all_goals
    refine wk_bool ?_
    unfold copies
    simp only [decide_eq_true_eq, decide_eq_false_iff_not] at *
    (rw [Bool.eq_iff_iff]; simp only [Bool.and_eq_true, Bool.or_eq_true, Bool.not_eq_true', decide_eq_true_eq, decide_eq_false_iff_not, beq_iff_eq, bne_iff_ne, ne_eq, true_iff, iff_true, false_iff, iff_false, eq_self, Bool.false_eq_true]; omega)
theorem inserts_own (p : Part) : Spec Try.prog 43 [pA p] [] (.d (.bool (inserts p))) [] := by
  unfold pA
  refine spec_of_ev (fn := Try.f43) DX_ok 3000 Try.func43 rfl rfl (Nat.le_of_ble_eq_true rfl) ?_
  simp only [Try.f43, go_sem]
  repeat' (refine gbs (fun _ => ?_) (fun _ => ?_) <;> simp only [go_sem])
  all_goals
    refine wk_bool ?_
    unfold inserts
    simp only [decide_eq_true_eq, decide_eq_false_iff_not, beq_iff_eq, beq_eq_false_iff_ne, ne_eq] at *
    (rw [Bool.eq_iff_iff]; simp only [Bool.and_eq_true, Bool.or_eq_true, Bool.not_eq_true', decide_eq_true_eq, decide_eq_false_iff_not, beq_iff_eq, bne_iff_ne, ne_eq, true_iff, iff_true, false_iff, iff_false, eq_self, Bool.false_eq_true]; omega)
theorem bad_own (p : Part) : Spec Try.prog 48 [pA p] [] (.d (.bool (!copies p && !inserts p))) [] := by
  unfold pA
  refine spec_of_ev (fn := Try.f48) DX_ok 3000 Try.func48 rfl rfl (Nat.le_of_ble_eq_true rfl) ?_
  simp only [Try.f48, go_sem]
  refine ecall0 _ (copies_own p) (by simp only [go_sem]) trivial ?_
  simp only [go_sem, Nat.reduceAdd, Nat.reduceSub, Nat.reduceLT, Nat.reduceLeDiff, Nat.reduceEqDiff, ↓reduceIte]
  repeat' (refine gbs (fun _ => ?_) (fun _ => ?_) <;> simp only [go_sem])
  · refine ecall0 _ (inserts_own p) (by simp only [go_sem]) trivial ?_
    simp only [go_sem, Nat.reduceAdd, Nat.reduceSub, Nat.reduceLT, Nat.reduceLeDiff, Nat.reduceEqDiff, ↓reduceIte]
    refine wk_bool ?_
    simp_all
  · refine wk_bool ?_
    simp_all
/-- the first that has it, or -1 -/
def idx {α : Type} (p : α → Bool) (l : List α) : Int := match l.findIdx? p with
  | some i => i
  | none => -1
theorem idx_found {α : Type} {p : α → Bool} {l : List α} {i : Nat} {x : α} (h : l[i]? = some x) (hp : p x = true) (hj : ∀ (j : Nat) (y : α), l[j]? = some y → j < i → p y = false) : idx p l = i := by
  have : l.findIdx? p = some i := by
    rw [List.findIdx?_eq_some_iff_getElem]
    have hlt := some_lt h
    refine ⟨hlt, ?_, fun j hji => ?_⟩
    · rw [List.getElem?_eq_getElem hlt] at h; simp at h; rw [h]; exact hp
    · have := hj j (l[j]'(by omega)) (List.getElem?_eq_getElem _) hji
      simp [this]
  simp [idx, this]
theorem idx_none {α : Type} {p : α → Bool} {l : List α} (hj : ∀ (j : Nat) (y : α), l[j]? = some y → p y = false) : idx p l = -1 := by
  have : l.findIdx? p = none := by
    rw [List.findIdx?_eq_none_iff]
    intro x hx
    obtain ⟨j, h⟩ := List.mem_iff_getElem?.1 hx
    exact hj j x h
  simp [idx, this]
theorem idx_any {α : Type} (p : α → Bool) (l : List α) : decide (0 ≤ idx p l) = l.any p := by
  unfold idx
  cases h : l.findIdx? p with
  | none =>
    have := List.findIdx?_eq_none_iff.1 h
    have h2 : l.any p = false := by rw [List.any_eq_false]; intro x hx; simp [this x hx]
    simp [h2]
  | some i =>
    obtain ⟨hlt, hp, _⟩ := List.findIdx?_eq_some_iff_getElem.1 h
    have h2 : l.any p = true := List.any_eq_true.2 ⟨l[i], List.getElem_mem _, hp⟩
    simp [h2]
theorem indexFunc_spec (l : List Part) (p : Part → Bool) (f : FuncId) (caps : List AV) (τ : List AObj) (hl : Sm l.length) (h : ∀ x ∈ l, Spec Try.prog f (pA x :: caps) τ (.d (.bool (p x))) τ) :
    Spec Try.prog 49 [.d (.sl (l.map pD)), .fn f caps] τ (.d (.int .i64 (idx p l))) τ := by
  unfold Sm at hl
  refine spec_of_ev (fn := Try.f49) DX_ok 3000 Try.func49 rfl rfl (Nat.le_of_ble_eq_true rfl) ?_
  simp only [Try.f49, go_sem]
  refine eloop (S := Nat) (fun i => mkE 19 [(0, .d (.sl (l.map pD))), (1, .fn f caps), (6, .d (.sl (l.map pD))), (7, .d (.int .i64 l.length)), (8, .d (.int .i64 i))]) (fun i => τ) (fun i => i ≤ l.length ∧ ∀ j x, l[j]? = some x → j < i → p x = false) (fun i => l.length - i) 0 ⟨by omega, by omega⟩ (Wk.sub (by simp only [go_sem]; trivial)) ?_
  rintro i ⟨hi, hj⟩
  simp only [go_sem, Nat.reduceAdd, Nat.reduceSub, Nat.reduceLT, Nat.reduceLeDiff, Nat.reduceEqDiff, ↓reduceIte]
  refine cbs (fun h1 => ?_) (fun h1 => ?_)
  · simp only [go_sem, decide_eq_true_eq] at h1 ⊢
    refine ⟨by omega, fun x hx => .all _ _ (h x (List.mem_of_getElem? hx)) ?_⟩
    simp only [go_sem, Nat.reduceAdd, Nat.reduceSub, Nat.reduceLT, Nat.reduceLeDiff, Nat.reduceEqDiff, ↓reduceIte]
    refine cbs (fun h2 => ?_) (fun h2 => ?_)
    · simp only [go_sem, Nat.reduceAdd, Nat.reduceSub, Nat.reduceLT, Nat.reduceLeDiff, Nat.reduceEqDiff, ↓reduceIte]
      rw [idx_found hx h2 hj]
      exact Wk.refl _ _ _
    · simp only [go_sem, Nat.reduceAdd, Nat.reduceSub, Nat.reduceLT, Nat.reduceLeDiff, Nat.reduceEqDiff, ↓reduceIte]
      rw [i64_in _ (by omega)]
      refine .mk (i + 1) ⟨by omega, fun j y hy hlt => ?_⟩ (by omega) (Wk.sub (by simp only [go_sem]; trivial))
      rcases Nat.lt_or_ge j i with q | q
      · exact hj j y hy q
      · have : j = i := by omega
        subst this; rw [hx] at hy; cases hy; exact h2
  · simp only [go_sem, decide_eq_false_iff_not] at h1 ⊢
    rw [idx_none fun j y hy => hj j y hy (by have := some_lt hy; omega)]
    exact Wk.refl _ _ _
theorem containsFunc_spec (l : List Part) (p : Part → Bool) (f : FuncId) (caps : List AV) (τ : List AObj) (hl : Sm l.length) (h : ∀ x ∈ l, Spec Try.prog f (pA x :: caps) τ (.d (.bool (p x))) τ) :
    Spec Try.prog 29 [.d (.sl (l.map pD)), .fn f caps] τ (.d (.bool (l.any p))) τ := by
  refine spec_of_ev (fn := Try.f29) DX_ok 3000 Try.func29 rfl rfl (Nat.le_of_ble_eq_true rfl) ?_
  simp only [Try.f29, go_sem]
  refine .all _ _ (indexFunc_spec l p f caps τ hl h) ?_
  simp only [go_sem, Nat.reduceAdd, Nat.reduceSub, Nat.reduceLT, Nat.reduceLeDiff, Nat.reduceEqDiff, ↓reduceIte]
  rw [idx_any]
  exact Wk.refl _ _ _
end Go.AX.De

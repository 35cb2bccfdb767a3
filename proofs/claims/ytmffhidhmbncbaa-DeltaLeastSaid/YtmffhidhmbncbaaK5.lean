/- Deltas: what small functions compute. -/
import Derived.Test.YtmffhidhmbncbaaK4
import Derived.IntWalk
set_option maxHeartbeats 8000000
set_option linter.unusedVariables false
set_option linter.unusedSimpArgs false
set_option maxRecDepth 20000
namespace Go.AX.De
open Go.Proofs Go.RowKit Go.IntWalk
structure Part where
  at' : Int
  n : Int
  data : List Int
def bI (b : Int) : List D := [.int .u8 b]
def pD (p : Part) : List D := [.int .i64 p.at', .int .i64 p.n, .sl (p.data.map bI)]
attribute [go_sem] bI pD
theorem bI_len {l : List Int} : (∀ e ∈ l.map bI, e.length = 1) = True := eq_true (map_len (g := bI) fun _ => rfl)
theorem pD_len {l : List Part} : (∀ e ∈ l.map pD, e.length = 3) = True := eq_true (map_len (g := pD) fun _ => rfl)
theorem set_bI {l : List Int} {i : Nat} {v : Int} : (l.map bI).set i [.int .u8 v] = (l.set i v).map bI := by rw [List.map_set]; rfl
attribute [go_sem] bI_len pD_len set_bI
/-- no longer than memory -/
def Sm (n : Nat) : Prop := n ≤ 140737488351232

def great (l : List Part) : Bool := l.any (fun p => decide (2100 < p.data.length)) || (decide (30 < l.length) && decide (l.length ≤ 200)) || decide (300 < l.length)
theorem great_spec (l : List Part) (h : Sm l.length) : Spec Try.prog 9 [.d (.sl (l.map pD))] [] (.d (.bool (great l))) [] := by
  unfold Sm at h
  refine spec_of_ev (fn := Try.f9) DX_ok 3000 Try.func9 rfl rfl (Nat.le_of_ble_eq_true rfl) ?_
  simp (maxSteps := 4000000) -implicitDefEqProofs only [Try.f9, go_sem]
  refine eloop (S := Nat) (fun i => mkE 30 [(0, .d (.sl (l.map pD))), (3, .d (.int .i64 i))]) (fun i => []) (fun i => i ≤ l.length ∧ ∀ j x, l[j]? = some x → j < i → x.data.length ≤ 2100) (fun i => l.length - i) 0 ⟨by omega, by omega⟩ (Wk.sub (by (simp only [go_sem]) <;> trivial)) ?_
  rintro i ⟨hi, hj⟩
  simp (maxSteps := 4000000) -implicitDefEqProofs only [go_sem, Nat.reduceAdd, Nat.reduceSub, Nat.reduceLT, Nat.reduceLeDiff, Nat.reduceEqDiff, ↓reduceIte]
  refine cbs (fun h1 => ?_) (fun h1 => ?_)
  · simp only [go_sem, decide_eq_true_eq] at h1 ⊢
    refine ⟨by omega, fun x hx => cbs (fun h2 => ?_) (fun h2 => ?_)⟩
    · simp (maxSteps := 4000000) -implicitDefEqProofs only [go_sem, Nat.reduceAdd, Nat.reduceSub, Nat.reduceLT, Nat.reduceLeDiff, Nat.reduceEqDiff, ↓reduceIte]
      refine wk_bool ?_
      simp only [go_sem, decide_eq_true_eq] at h2 ⊢
      have : l.any (fun p => decide (2100 < p.data.length)) = true := List.any_eq_true.2 ⟨x, List.mem_of_getElem? hx, by simp; omega⟩
      simp [great, this]
    · simp (maxSteps := 4000000) -implicitDefEqProofs only [go_sem, Nat.reduceAdd, Nat.reduceSub, Nat.reduceLT, Nat.reduceLeDiff, Nat.reduceEqDiff, ↓reduceIte]
      rw [i64_in _ (by omega)]
      simp only [decide_eq_false_iff_not] at h2
      refine .mk (i + 1) ⟨by omega, fun j y hy hlt => ?_⟩ (by omega) (Wk.sub (by (simp only [go_sem]) <;> trivial))
      rcases Nat.lt_or_ge j i with q | q
      · exact hj j y hy q
      · have : j = i := by omega
        subst this; rw [hx] at hy; cases hy; omega
  · simp only [go_sem, decide_eq_false_iff_not] at h1 ⊢
    have hno : l.any (fun p => decide (2100 < p.data.length)) = false := by
      rw [List.any_eq_false]
      intro x hx
      obtain ⟨j, hj'⟩ := List.mem_iff_getElem?.1 hx
      have := hj j x hj' (by have := some_lt hj'; omega)
      simp; omega
    have hg : great l = ((decide (30 < l.length) && decide (l.length ≤ 200)) || decide (300 < l.length)) := by simp [great, hno]
    repeat' (refine gbs (fun _ => ?_) (fun _ => ?_) <;> simp only [go_sem])
    all_goals
      refine wk_bool ?_
      rw [hg]
      simp only [decide_eq_true_eq, decide_eq_false_iff_not] at *
      (rw [Bool.eq_iff_iff]; simp only [Bool.and_eq_true, Bool.or_eq_true, Bool.not_eq_true', decide_eq_true_eq, decide_eq_false_iff_not, beq_iff_eq, bne_iff_ne, ne_eq, true_iff, iff_true, false_iff, iff_false, eq_self, Bool.false_eq_true]; omega)

theorem sameBytes_spec (a b : List Int) (h : Sm a.length) : Spec Try.prog 16 [.d (.sl (a.map bI)), .d (.sl (b.map bI))] [] (.d (.bool (decide (a = b)))) [] := by
  unfold Sm at h
  refine spec_of_ev (fn := Try.f16) DX_ok 3000 Try.func16 rfl rfl (Nat.le_of_ble_eq_true rfl) ?_
  simp (maxSteps := 4000000) -implicitDefEqProofs only [Try.f16, go_sem]
  refine cbs (fun h1 => ?_) (fun h1 => ?_)
  · simp (maxSteps := 4000000) -implicitDefEqProofs only [go_sem, Nat.reduceAdd, Nat.reduceSub, Nat.reduceLT, Nat.reduceLeDiff, Nat.reduceEqDiff, ↓reduceIte]
    refine wk_bool ?_
    simp at h1
    simp; intro q; subst q; exact h1 rfl
  · simp (maxSteps := 4000000) -implicitDefEqProofs only [go_sem, Nat.reduceAdd, Nat.reduceSub, Nat.reduceLT, Nat.reduceLeDiff, Nat.reduceEqDiff, ↓reduceIte]
    have hl : a.length = b.length := by simp at h1; omega
    refine eloop (S := Nat) (fun i => mkE 26 [(0, .d (.sl (a.map bI))), (1, .d (.sl (b.map bI))), (5, .d (.int .i64 i))]) (fun i => []) (fun i => i ≤ a.length ∧ a.take i = b.take i) (fun i => a.length - i) 0 ⟨by omega, by simp⟩ (Wk.sub (by (simp only [go_sem]) <;> trivial)) ?_
    rintro i ⟨hi, hj⟩
    simp (maxSteps := 4000000) -implicitDefEqProofs only [go_sem, Nat.reduceAdd, Nat.reduceSub, Nat.reduceLT, Nat.reduceLeDiff, Nat.reduceEqDiff, ↓reduceIte]
    refine cbs (fun h2 => ?_) (fun h2 => ?_)
    · simp only [go_sem, decide_eq_true_eq] at h2 ⊢
      refine DX.plain (.take 0 false (.take 1 false (.take 2 false (.take 3 false (.take 4 false (.take 5 false (.take 6 false (.take 7 false (.take 8 false .done))))))))) (by kernel_rfl) (by kernel_rfl) Ty.mixed ?_
      simp (maxSteps := 4000000) -implicitDefEqProofs only [go_sem, Nat.reduceAdd, Nat.reduceSub, Nat.reduceLT, Nat.reduceLeDiff, Nat.reduceEqDiff, ↓reduceIte]
      refine ⟨by omega, by omega, fun x hx => ⟨by omega, by omega, fun y hy => cbs (fun h3 => ?_) (fun h3 => ?_)⟩⟩
      · simp (maxSteps := 4000000) -implicitDefEqProofs only [go_sem, Nat.reduceAdd, Nat.reduceSub, Nat.reduceLT, Nat.reduceLeDiff, Nat.reduceEqDiff, ↓reduceIte]
        refine wk_bool ?_
        simp at h3
        simp; intro q; subst q; rw [hx] at hy; cases hy; exact h3 rfl
      · simp (maxSteps := 4000000) -implicitDefEqProofs only [go_sem, Nat.reduceAdd, Nat.reduceSub, Nat.reduceLT, Nat.reduceLeDiff, Nat.reduceEqDiff, ↓reduceIte]
        rw [i64_in _ (by omega)]
        refine .mk (i + 1) ⟨by omega, ?_⟩ (by omega) (Wk.sub (by (simp only [go_sem]) <;> trivial))
        simp at h3
        rw [List.take_add_one, List.take_add_one, hx, hy, hj, h3]
    · simp (maxSteps := 4000000) -implicitDefEqProofs only [go_sem, Nat.reduceAdd, Nat.reduceSub, Nat.reduceLT, Nat.reduceLeDiff, Nat.reduceEqDiff, ↓reduceIte]
      refine wk_bool ?_
      simp at h2
      rw [List.take_of_length_le (by omega), List.take_of_length_le (by omega)] at hj
      simp [hj]
end Go.AX.De
/- Deltas: checks. -/
set_option maxHeartbeats 8000000
set_option linter.unusedVariables false
set_option linter.unusedSimpArgs false
set_option maxRecDepth 20000
namespace Go.AX.De
open Go.Proofs Go.RowKit Go.IntWalk
def pA (p : Part) : AV := .agg [.d (.int .i64 p.at'), .d (.int .i64 p.n), .d (.sl (p.data.map bI))]
attribute [go_sem] pA
def copies (p : Part) : Bool := decide (1 ≤ p.n ∧ p.n ≤ 2000 ∧ 0 ≤ p.at' ∧ p.at' ≤ 2000 ∧ p.data.length = 0)
def inserts (p : Part) : Bool := decide (p.n = 0 ∧ p.at' = 0 ∧ 1 ≤ p.data.length ∧ p.data.length ≤ 2000)
theorem copies_ref (p : Part) : Spec Try.prog 28 [pA p] [] (.d (.bool (copies p))) [] := by
  unfold pA
  refine spec_of_ev (fn := Try.f28) DX_ok 3000 Try.func28 rfl rfl (Nat.le_of_ble_eq_true rfl) ?_
  simp (maxSteps := 4000000) -implicitDefEqProofs only [Try.f28, go_sem]
  repeat' (refine gbs (fun _ => ?_) (fun _ => ?_) <;> simp only [go_sem])
  all_goals
    refine wk_bool ?_
    unfold copies
    simp only [decide_eq_true_eq, decide_eq_false_iff_not] at *
    (rw [Bool.eq_iff_iff]; simp only [Bool.and_eq_true, Bool.or_eq_true, Bool.not_eq_true', decide_eq_true_eq, decide_eq_false_iff_not, beq_iff_eq, bne_iff_ne, ne_eq, true_iff, iff_true, false_iff, iff_false, eq_self, Bool.false_eq_true]; omega)
theorem inserts_ref (p : Part) : Spec Try.prog 46 [pA p] [] (.d (.bool (inserts p))) [] := by
  unfold pA
  refine spec_of_ev (fn := Try.f46) DX_ok 3000 Try.func46 rfl rfl (Nat.le_of_ble_eq_true rfl) ?_
  simp (maxSteps := 4000000) -implicitDefEqProofs only [Try.f46, go_sem]
  repeat' (refine gbs (fun _ => ?_) (fun _ => ?_) <;> simp only [go_sem])
  all_goals
    refine wk_bool ?_
    unfold inserts
    simp only [decide_eq_true_eq, decide_eq_false_iff_not, beq_iff_eq, beq_eq_false_iff_ne, ne_eq] at *
    (rw [Bool.eq_iff_iff]; simp only [Bool.and_eq_true, Bool.or_eq_true, Bool.not_eq_true', decide_eq_true_eq, decide_eq_false_iff_not, beq_iff_eq, bne_iff_ne, ne_eq, true_iff, iff_true, false_iff, iff_false, eq_self, Bool.false_eq_true]; omega)
theorem copies_own (p : Part) : Spec Try.prog 44 [pA p] [] (.d (.bool (copies p))) [] := by
  unfold pA
  refine spec_of_ev (fn := Try.f44) DX_ok 3000 Try.func44 rfl rfl (Nat.le_of_ble_eq_true rfl) ?_
  simp (maxSteps := 4000000) -implicitDefEqProofs only [Try.f44, go_sem]
  repeat' (refine gbs (fun _ => ?_) (fun _ => ?_) <;> simp only [go_sem])
  all_goals
    refine wk_bool ?_
    unfold copies
    simp only [decide_eq_true_eq, decide_eq_false_iff_not] at *
    (rw [Bool.eq_iff_iff]; simp only [Bool.and_eq_true, Bool.or_eq_true, Bool.not_eq_true', decide_eq_true_eq, decide_eq_false_iff_not, beq_iff_eq, bne_iff_ne, ne_eq, true_iff, iff_true, false_iff, iff_false, eq_self, Bool.false_eq_true]; omega)
theorem inserts_own (p : Part) : Spec Try.prog 43 [pA p] [] (.d (.bool (inserts p))) [] := by
  unfold pA
  refine spec_of_ev (fn := Try.f43) DX_ok 3000 Try.func43 rfl rfl (Nat.le_of_ble_eq_true rfl) ?_
  simp (maxSteps := 4000000) -implicitDefEqProofs only [Try.f43, go_sem]
  repeat' (refine gbs (fun _ => ?_) (fun _ => ?_) <;> simp only [go_sem])
  all_goals
    refine wk_bool ?_
    unfold inserts
    simp only [decide_eq_true_eq, decide_eq_false_iff_not, beq_iff_eq, beq_eq_false_iff_ne, ne_eq] at *
    (rw [Bool.eq_iff_iff]; simp only [Bool.and_eq_true, Bool.or_eq_true, Bool.not_eq_true', decide_eq_true_eq, decide_eq_false_iff_not, beq_iff_eq, bne_iff_ne, ne_eq, true_iff, iff_true, false_iff, iff_false, eq_self, Bool.false_eq_true]; omega)
theorem bad_own (p : Part) : Spec Try.prog 48 [pA p] [] (.d (.bool (!copies p && !inserts p))) [] := by
  unfold pA
  refine spec_of_ev (fn := Try.f48) DX_ok 3000 Try.func48 rfl rfl (Nat.le_of_ble_eq_true rfl) ?_
  simp (maxSteps := 4000000) -implicitDefEqProofs only [Try.f48, go_sem]
  refine ecall0 _ (copies_own p) (by simp only [go_sem]) trivial ?_
  simp (maxSteps := 4000000) -implicitDefEqProofs only [go_sem, Nat.reduceAdd, Nat.reduceSub, Nat.reduceLT, Nat.reduceLeDiff, Nat.reduceEqDiff, ↓reduceIte]
  repeat' (refine gbs (fun _ => ?_) (fun _ => ?_) <;> simp only [go_sem])
  · refine ecall0 _ (inserts_own p) (by simp only [go_sem]) trivial ?_
    simp (maxSteps := 4000000) -implicitDefEqProofs only [go_sem, Nat.reduceAdd, Nat.reduceSub, Nat.reduceLT, Nat.reduceLeDiff, Nat.reduceEqDiff, ↓reduceIte]
    refine wk_bool ?_
    simp_all
  · refine wk_bool ?_
    simp_all
/-- the first that has it, or -1 -/
def idx {α : Type} (p : α → Bool) (l : List α) : Int := match l.findIdx? p with
  | some i => i
  | none => -1
theorem idx_found {α : Type} {p : α → Bool} {l : List α} {i : Nat} {x : α} (h : l[i]? = some x) (hp : p x = true) (hj : ∀ (j : Nat) (y : α), l[j]? = some y → j < i → p y = false) : idx p l = i := by
  have : l.findIdx? p = some i := by
    rw [List.findIdx?_eq_some_iff_getElem]
    have hlt := some_lt h
    refine ⟨hlt, ?_, fun j hji => ?_⟩
    · rw [List.getElem?_eq_getElem hlt] at h; simp at h; rw [h]; exact hp
    · have := hj j (l[j]'(by omega)) (List.getElem?_eq_getElem _) hji
      simp [this]
  simp [idx, this]
theorem idx_none {α : Type} {p : α → Bool} {l : List α} (hj : ∀ (j : Nat) (y : α), l[j]? = some y → p y = false) : idx p l = -1 := by
  have : l.findIdx? p = none := by
    rw [List.findIdx?_eq_none_iff]
    intro x hx
    obtain ⟨j, h⟩ := List.mem_iff_getElem?.1 hx
    exact hj j x h
  simp [idx, this]
theorem idx_any {α : Type} (p : α → Bool) (l : List α) : decide (0 ≤ idx p l) = l.any p := by
  unfold idx
  cases h : l.findIdx? p with
  | none =>
    have := List.findIdx?_eq_none_iff.1 h
    have h2 : l.any p = false := by rw [List.any_eq_false]; intro x hx; simp [this x hx]
    simp [h2]
  | some i =>
    obtain ⟨hlt, hp, _⟩ := List.findIdx?_eq_some_iff_getElem.1 h
    have h2 : l.any p = true := List.any_eq_true.2 ⟨l[i], List.getElem_mem _, hp⟩
    simp [h2]
theorem indexFunc_spec (l : List Part) (p : Part → Bool) (f : FuncId) (caps : List AV) (τ : List AObj) (hl : Sm l.length) (h : ∀ x ∈ l, Spec Try.prog f (pA x :: caps) τ (.d (.bool (p x))) τ) :
    Spec Try.prog 49 [.d (.sl (l.map pD)), .fn f caps] τ (.d (.int .i64 (idx p l))) τ := by
  unfold Sm at hl
  refine spec_of_ev (fn := Try.f49) DX_ok 3000 Try.func49 rfl rfl (Nat.le_of_ble_eq_true rfl) ?_
  simp (maxSteps := 4000000) -implicitDefEqProofs only [Try.f49, go_sem]
  refine eloop (S := Nat) (fun i => mkE 19 [(0, .d (.sl (l.map pD))), (1, .fn f caps), (6, .d (.sl (l.map pD))), (7, .d (.int .i64 l.length)), (8, .d (.int .i64 i))]) (fun i => τ) (fun i => i ≤ l.length ∧ ∀ j x, l[j]? = some x → j < i → p x = false) (fun i => l.length - i) 0 ⟨by omega, by omega⟩ (Wk.sub (by (simp only [go_sem]) <;> trivial)) ?_
  rintro i ⟨hi, hj⟩
  simp (maxSteps := 4000000) -implicitDefEqProofs only [go_sem, Nat.reduceAdd, Nat.reduceSub, Nat.reduceLT, Nat.reduceLeDiff, Nat.reduceEqDiff, ↓reduceIte]
  refine cbs (fun h1 => ?_) (fun h1 => ?_)
  · simp only [go_sem, decide_eq_true_eq] at h1 ⊢
    refine ⟨by omega, fun x hx => .all _ _ (h x (List.mem_of_getElem? hx)) ?_⟩
    simp (maxSteps := 4000000) -implicitDefEqProofs only [go_sem, Nat.reduceAdd, Nat.reduceSub, Nat.reduceLT, Nat.reduceLeDiff, Nat.reduceEqDiff, ↓reduceIte]
    refine cbs (fun h2 => ?_) (fun h2 => ?_)
    · simp (maxSteps := 4000000) -implicitDefEqProofs only [go_sem, Nat.reduceAdd, Nat.reduceSub, Nat.reduceLT, Nat.reduceLeDiff, Nat.reduceEqDiff, ↓reduceIte]
      rw [idx_found hx h2 hj]
      exact Wk.refl _ _ _
    · simp (maxSteps := 4000000) -implicitDefEqProofs only [go_sem, Nat.reduceAdd, Nat.reduceSub, Nat.reduceLT, Nat.reduceLeDiff, Nat.reduceEqDiff, ↓reduceIte]
      rw [i64_in _ (by omega)]
      refine .mk (i + 1) ⟨by omega, fun j y hy hlt => ?_⟩ (by omega) (Wk.sub (by (simp only [go_sem]) <;> trivial))
      rcases Nat.lt_or_ge j i with q | q
      · exact hj j y hy q
      · have : j = i := by omega
        subst this; rw [hx] at hy; cases hy; exact h2
  · simp only [go_sem, decide_eq_false_iff_not] at h1 ⊢
    rw [idx_none fun j y hy => hj j y hy (by have := some_lt hy; omega)]
    exact Wk.refl _ _ _
theorem containsFunc_spec (l : List Part) (p : Part → Bool) (f : FuncId) (caps : List AV) (τ : List AObj) (hl : Sm l.length) (h : ∀ x ∈ l, Spec Try.prog f (pA x :: caps) τ (.d (.bool (p x))) τ) :
    Spec Try.prog 29 [.d (.sl (l.map pD)), .fn f caps] τ (.d (.bool (l.any p))) τ := by
  refine spec_of_ev (fn := Try.f29) DX_ok 3000 Try.func29 rfl rfl (Nat.le_of_ble_eq_true rfl) ?_
  simp (maxSteps := 4000000) -implicitDefEqProofs only [Try.f29, go_sem]
  refine .all _ _ (indexFunc_spec l p f caps τ hl h) ?_
  simp (maxSteps := 4000000) -implicitDefEqProofs only [go_sem, Nat.reduceAdd, Nat.reduceSub, Nat.reduceLT, Nat.reduceLeDiff, Nat.reduceEqDiff, ↓reduceIte]
  rw [idx_any]
  exact Wk.refl _ _ _
end Go.AX.De
/- Deltas: checks and costs. -/
set_option maxHeartbeats 8000000
set_option linter.unusedVariables false
set_option linter.unusedSimpArgs false
set_option maxRecDepth 20000
namespace Go.AX.De
open Go.Proofs Go.RowKit Go.IntWalk
def bad (p : Part) : Bool := !copies p && !inserts p
def valid (l : List Part) : Int := if 200 < l.length then 4 else if l.any bad then 8 else 0
theorem valid_own (l : List Part) (hl : Sm l.length) : Spec Try.prog 26 [.d (.sl (l.map pD))] [] (.d (.int .i64 (valid l))) [] := by
  refine spec_of_ev (fn := Try.f26) DX_ok 3000 Try.func26 rfl rfl (Nat.le_of_ble_eq_true rfl) ?_
  simp (maxSteps := 4000000) -implicitDefEqProofs only [Try.f26, go_sem]
  refine cbs (fun h1 => ?_) (fun h1 => ?_)
  · simp (maxSteps := 4000000) -implicitDefEqProofs only [go_sem, Nat.reduceAdd, Nat.reduceSub, Nat.reduceLT, Nat.reduceLeDiff, Nat.reduceEqDiff, ↓reduceIte]
    refine wk_int ?_
    simp only [decide_eq_true_eq] at h1
    simp only [valid]; rw [if_pos (by omega)]
  · simp (maxSteps := 4000000) -implicitDefEqProofs only [go_sem, Nat.reduceAdd, Nat.reduceSub, Nat.reduceLT, Nat.reduceLeDiff, Nat.reduceEqDiff, ↓reduceIte]
    simp only [decide_eq_false_iff_not] at h1
    refine ecall0 _ (containsFunc_spec l bad _ [] [] hl fun x _ => bad_own x) (by simp only [go_sem]) trivial ?_
    simp (maxSteps := 4000000) -implicitDefEqProofs only [go_sem, Nat.reduceAdd, Nat.reduceSub, Nat.reduceLT, Nat.reduceLeDiff, Nat.reduceEqDiff, ↓reduceIte]
    refine cbs (fun h2 => ?_) (fun h2 => ?_)
    all_goals
      simp (maxSteps := 4000000) -implicitDefEqProofs only [go_sem, Nat.reduceAdd, Nat.reduceSub, Nat.reduceLT, Nat.reduceLeDiff, Nat.reduceEqDiff, ↓reduceIte]
      refine wk_int ?_
      simp only [valid]; rw [if_neg (by omega)]; simp [h2]
theorem valid_ref (l : List Part) (hl : Sm l.length) : Spec Try.prog 27 [.d (.sl (l.map pD))] [] (.d (.int .i64 (valid l))) [] := by
  unfold Sm at hl
  refine spec_of_ev (fn := Try.f27) DX_ok 3000 Try.func27 rfl rfl (Nat.le_of_ble_eq_true rfl) ?_
  simp (maxSteps := 4000000) -implicitDefEqProofs only [Try.f27, go_sem]
  refine cbs (fun h1 => ?_) (fun h1 => ?_)
  · simp (maxSteps := 4000000) -implicitDefEqProofs only [go_sem, Nat.reduceAdd, Nat.reduceSub, Nat.reduceLT, Nat.reduceLeDiff, Nat.reduceEqDiff, ↓reduceIte]
    refine wk_int ?_
    simp only [decide_eq_true_eq] at h1
    simp only [valid]; rw [if_pos (by omega)]
  simp (maxSteps := 4000000) -implicitDefEqProofs only [go_sem, Nat.reduceAdd, Nat.reduceSub, Nat.reduceLT, Nat.reduceLeDiff, Nat.reduceEqDiff, ↓reduceIte]
  simp only [decide_eq_false_iff_not] at h1
  refine eloop (S := Nat) (fun i => mkE 27 [(0, .d (.sl (l.map pD))), (3, .d (.int .i64 i))]) (fun i => []) (fun i => i ≤ l.length ∧ ∀ j x, l[j]? = some x → j < i → bad x = false) (fun i => l.length - i) 0 ⟨by omega, by omega⟩ (Wk.sub (by (simp only [go_sem]) <;> trivial)) ?_
  rintro i ⟨hi, hj⟩
  simp (maxSteps := 4000000) -implicitDefEqProofs only [go_sem, Nat.reduceAdd, Nat.reduceSub, Nat.reduceLT, Nat.reduceLeDiff, Nat.reduceEqDiff, ↓reduceIte]
  have step : ∀ x, l[i]? = some x → bad x = false → ∀ j y, l[j]? = some y → j < i + 1 → bad y = false := fun x hx hb j y hy hlt => by
    rcases Nat.lt_or_ge j i with q | q
    · exact hj j y hy q
    · have : j = i := by omega
      subst this; rw [hx] at hy; cases hy; exact hb
  refine cbs (fun h2 => ?_) (fun h2 => ?_)
  · simp only [go_sem, decide_eq_true_eq] at h2 ⊢
    refine ⟨by omega, fun x hx => ?_⟩
    refine ecall0 _ (copies_ref x) (by simp only [go_sem]) trivial ?_
    simp (maxSteps := 4000000) -implicitDefEqProofs only [go_sem, Nat.reduceAdd, Nat.reduceSub, Nat.reduceLT, Nat.reduceLeDiff, Nat.reduceEqDiff, ↓reduceIte]
    refine gbs (fun h3 => ?_) (fun h3 => ?_)
    · simp only [go_sem, hx, Option.some.injEq]
      refine ⟨by omega, ?_⟩
      rintro y rfl
      refine ecall0 _ (inserts_ref x) (by simp only [go_sem]) trivial ?_
      simp (maxSteps := 4000000) -implicitDefEqProofs only [go_sem, Nat.reduceAdd, Nat.reduceSub, Nat.reduceLT, Nat.reduceLeDiff, Nat.reduceEqDiff, ↓reduceIte]
      refine cbs (fun h4 => ?_) (fun h4 => ?_)
      · simp (maxSteps := 4000000) -implicitDefEqProofs only [go_sem, Nat.reduceAdd, Nat.reduceSub, Nat.reduceLT, Nat.reduceLeDiff, Nat.reduceEqDiff, ↓reduceIte]
        refine wk_int ?_
        have : l.any bad = true := List.any_eq_true.2 ⟨x, List.mem_of_getElem? hx, by simp only [bad]; rw [h3, h4]; rfl⟩
        simp only [valid]; rw [if_neg (by omega)]; simp [this]
      · simp (maxSteps := 4000000) -implicitDefEqProofs only [go_sem, Nat.reduceAdd, Nat.reduceSub, Nat.reduceLT, Nat.reduceLeDiff, Nat.reduceEqDiff, ↓reduceIte]
        rw [i64_in _ (by omega)]
        exact .mk (i + 1) ⟨by omega, step x hx (by simp only [bad]; rw [h4]; simp)⟩ (by omega) (Wk.sub (by (simp only [go_sem]) <;> trivial))
    · simp (maxSteps := 4000000) -implicitDefEqProofs only [go_sem, Nat.reduceAdd, Nat.reduceSub, Nat.reduceLT, Nat.reduceLeDiff, Nat.reduceEqDiff, ↓reduceIte]
      rw [i64_in _ (by omega)]
      exact .mk (i + 1) ⟨by omega, step x hx (by simp only [bad]; rw [h3]; simp)⟩ (by omega) (Wk.sub (by (simp only [go_sem]) <;> trivial))
  · simp only [go_sem, decide_eq_false_iff_not] at h2 ⊢
    refine wk_int ?_
    have : l.any bad = false := by
      rw [List.any_eq_false]
      intro x hx
      obtain ⟨j, h⟩ := List.mem_iff_getElem?.1 hx
      simp [hj j x h (by have := some_lt h; omega)]
    simp only [valid]; rw [if_neg (by omega)]; simp [this]
/-- a part that copies from behind the base's end -/
def over (base : Int) (p : Part) : Bool := decide (0 < p.n ∧ base < p.at' + p.n)
def check (l : List Part) (base : Int) : Int := if valid l ≠ 0 then valid l else if l.any (over base) then 16 else 0
theorem valid_parts {l : List Part} (h : valid l = 0) : ∀ p ∈ l, copies p = true ∨ inserts p = true := fun p hp => by
  simp only [valid] at h
  split at h
  · omega
  · split at h
    · omega
    · next h2 =>
      simp only [Bool.not_eq_true, List.any_eq_false] at h2
      have := h2 p hp
      simp only [bad] at this
      cases q : copies p <;> simp_all
theorem part_range {p : Part} (h : copies p = true ∨ inserts p = true) : 0 ≤ p.at' ∧ p.at' ≤ 2000 ∧ 0 ≤ p.n ∧ p.n ≤ 2000 := by
  rcases h with h | h
  · simp only [copies, decide_eq_true_eq] at h; omega
  · simp only [inserts, decide_eq_true_eq] at h; omega
theorem over_own (p : Part) (base : Int) (h : copies p = true ∨ inserts p = true) : Spec Try.prog 30 [pA p, .ptr 0 0] [.cells [.d (.int .i64 base)]] (.d (.bool (over base p))) [.cells [.d (.int .i64 base)]] := by
  have hr := part_range h
  unfold pA
  refine spec_of_ev (fn := Try.f30) DX_ok 3000 Try.func30 rfl rfl (Nat.le_of_ble_eq_true rfl) ?_
  simp (maxSteps := 4000000) -implicitDefEqProofs only [Try.f30, go_sem]
  refine gbs (fun h1 => ?_) (fun h1 => ?_) <;> simp only [go_sem]
  · rw [i64_in _ (by omega)]
    have e : decide (base < p.at' + p.n) = over base p := by simp only [decide_eq_true_eq] at h1; simp [over, h1]
    rw [e]
    exact Wk.keep (σ := [_]) (τ := [_]) (by simp only [go_sem]) (by simp only [go_sem])
  · have e : false = over base p := by simp only [decide_eq_false_iff_not] at h1; simp [over, h1]
    rw [e]
    exact Wk.keep (σ := [_]) (τ := [_]) (by simp only [go_sem]) (by simp only [go_sem])
theorem check_own (l : List Part) (base : Int) (hl : Sm l.length) : Spec Try.prog 14 [.d (.sl (l.map pD)), .d (.int .i64 base)] [] (.d (.int .i64 (check l base))) [] := by
  refine spec_of_ev (fn := Try.f14) DX_ok 3000 Try.func14 rfl rfl (Nat.le_of_ble_eq_true rfl) ?_
  simp (maxSteps := 4000000) -implicitDefEqProofs only [Try.f14, go_sem]
  refine ecall0 _ (valid_own l hl) (by simp only [go_sem]) trivial ?_
  simp (maxSteps := 4000000) -implicitDefEqProofs only [go_sem, Nat.reduceAdd, Nat.reduceSub, Nat.reduceLT, Nat.reduceLeDiff, Nat.reduceEqDiff, ↓reduceIte]
  refine cbs (fun h1 => ?_) (fun h1 => ?_)
  · simp (maxSteps := 4000000) -implicitDefEqProofs only [go_sem, Nat.reduceAdd, Nat.reduceSub, Nat.reduceLT, Nat.reduceLeDiff, Nat.reduceEqDiff, ↓reduceIte]
    refine wk_int ?_
    simp only [bne_iff_ne, ne_eq] at h1
    simp [check, h1]
  · simp (maxSteps := 4000000) -implicitDefEqProofs only [go_sem, Nat.reduceAdd, Nat.reduceSub, Nat.reduceLT, Nat.reduceLeDiff, Nat.reduceEqDiff, ↓reduceIte]
    simp only [bne_eq_false_iff_eq] at h1
    refine .all _ _ (containsFunc_spec l (over base) _ [.ptr 0 0] [_] hl fun x hx => over_own x base (valid_parts h1 x hx)) ?_
    simp (maxSteps := 4000000) -implicitDefEqProofs only [go_sem, Nat.reduceAdd, Nat.reduceSub, Nat.reduceLT, Nat.reduceLeDiff, Nat.reduceEqDiff, ↓reduceIte]
    refine cbs (fun h2 => ?_) (fun h2 => ?_)
    all_goals
      simp (maxSteps := 4000000) -implicitDefEqProofs only [go_sem, Nat.reduceAdd, Nat.reduceSub, Nat.reduceLT, Nat.reduceLeDiff, Nat.reduceEqDiff, ↓reduceIte]
      refine wk_int ?_
      simp [check, h1, h2]
theorem check_ref (l : List Part) (base : Int) (hl : Sm l.length) : Spec Try.prog 15 [.d (.sl (l.map pD)), .d (.int .i64 base)] [] (.d (.int .i64 (check l base))) [] := by
  have hl' := hl
  unfold Sm at hl
  refine spec_of_ev (fn := Try.f15) DX_ok 3000 Try.func15 rfl rfl (Nat.le_of_ble_eq_true rfl) ?_
  simp (maxSteps := 4000000) -implicitDefEqProofs only [Try.f15, go_sem]
  refine ecall0 _ (valid_ref l hl') (by simp only [go_sem]) trivial ?_
  simp (maxSteps := 4000000) -implicitDefEqProofs only [go_sem, Nat.reduceAdd, Nat.reduceSub, Nat.reduceLT, Nat.reduceLeDiff, Nat.reduceEqDiff, ↓reduceIte]
  refine cbs (fun h1 => ?_) (fun h1 => ?_)
  · simp (maxSteps := 4000000) -implicitDefEqProofs only [go_sem, Nat.reduceAdd, Nat.reduceSub, Nat.reduceLT, Nat.reduceLeDiff, Nat.reduceEqDiff, ↓reduceIte]
    refine ecall0 _ (valid_ref l hl') (by simp only [go_sem]) trivial ?_
    simp (maxSteps := 4000000) -implicitDefEqProofs only [go_sem, Nat.reduceAdd, Nat.reduceSub, Nat.reduceLT, Nat.reduceLeDiff, Nat.reduceEqDiff, ↓reduceIte]
    refine wk_int ?_
    simp only [bne_iff_ne, ne_eq] at h1
    simp [check, h1]
  simp (maxSteps := 4000000) -implicitDefEqProofs only [go_sem, Nat.reduceAdd, Nat.reduceSub, Nat.reduceLT, Nat.reduceLeDiff, Nat.reduceEqDiff, ↓reduceIte]
  simp only [bne_eq_false_iff_eq] at h1
  refine eloop (S := Nat) (fun i => mkE 37 [(0, .d (.sl (l.map pD))), (1, .d (.int .i64 base)), (5, .d (.int .i64 i))]) (fun i => []) (fun i => i ≤ l.length ∧ ∀ j x, l[j]? = some x → j < i → over base x = false) (fun i => l.length - i) 0 ⟨by omega, by omega⟩ (Wk.sub (by (simp only [go_sem]) <;> trivial)) ?_
  rintro i ⟨hi, hj⟩
  simp (maxSteps := 4000000) -implicitDefEqProofs only [go_sem, Nat.reduceAdd, Nat.reduceSub, Nat.reduceLT, Nat.reduceLeDiff, Nat.reduceEqDiff, ↓reduceIte]
  have step : ∀ x, l[i]? = some x → over base x = false → ∀ j y, l[j]? = some y → j < i + 1 → over base y = false := fun x hx hb j y hy hlt => by
    rcases Nat.lt_or_ge j i with q | q
    · exact hj j y hy q
    · have : j = i := by omega
      subst this; rw [hx] at hy; cases hy; exact hb
  refine cbs (fun h2 => ?_) (fun h2 => ?_)
  · simp only [go_sem, decide_eq_true_eq] at h2 ⊢
    refine DX.plain (.take 0 false (.take 1 false (.take 2 false (.take 3 false (.take 4 false (.take 5 false (.take 6 false (.take 7 false (.take 8 false (.take 9 false (.take 10 false (.take 11 false (.take 12 false (.take 13 false (.take 14 false (.take 15 false (.take 16 false (.take 17 false (.take 18 false (.take 19 false .done)))))))))))))))))))) (by kernel_rfl) (by kernel_rfl) Ty.mixed ?_
    simp (maxSteps := 4000000) -implicitDefEqProofs only [go_sem, Nat.reduceAdd, Nat.reduceSub, Nat.reduceLT, Nat.reduceLeDiff, Nat.reduceEqDiff, ↓reduceIte]
    refine ⟨by omega, by omega, fun x hx => ?_⟩
    have hv := valid_parts h1 x (List.mem_of_getElem? hx)
    have hr := part_range hv
    have hc := copies_ref x
    cases q : copies x with
    | true =>
      rw [q] at hc
      refine ⟨_, _, hc.lift0 _ (by simp only [go_sem]) trivial, ?_⟩
      simp only [go_sem, hx, Option.some.injEq]
      refine ⟨by omega, by omega, ?_⟩
      rintro y rfl
      refine ⟨by omega, by omega, ?_⟩
      rintro y rfl
      rw [i64_in _ (by omega)]
      have hn : 0 < x.n := by simp only [copies, decide_eq_true_eq] at q; omega
      refine cbs (fun h4 => ?_) (fun h4 => ?_)
      · simp (maxSteps := 4000000) -implicitDefEqProofs only [go_sem, Nat.reduceAdd, Nat.reduceSub, Nat.reduceLT, Nat.reduceLeDiff, Nat.reduceEqDiff, ↓reduceIte]
        refine wk_int ?_
        simp only [decide_eq_true_eq] at h4
        have : l.any (over base) = true := List.any_eq_true.2 ⟨x, List.mem_of_getElem? hx, by simp [over, hn, h4]⟩
        simp [check, h1, this]
      · simp (maxSteps := 4000000) -implicitDefEqProofs only [go_sem, Nat.reduceAdd, Nat.reduceSub, Nat.reduceLT, Nat.reduceLeDiff, Nat.reduceEqDiff, ↓reduceIte]
        rw [i64_in _ (by omega)]
        simp only [decide_eq_false_iff_not] at h4
        exact .mk (i + 1) ⟨by omega, step x hx (by simp [over, h4])⟩ (by omega) (Wk.sub (by (simp only [go_sem]) <;> trivial))
    | false =>
      rw [q] at hc
      refine ⟨_, _, hc.lift0 _ (by simp only [go_sem]) trivial, ?_⟩
      simp (maxSteps := 4000000) -implicitDefEqProofs only [go_sem, Nat.reduceAdd, Nat.reduceSub, Nat.reduceLT, Nat.reduceLeDiff, Nat.reduceEqDiff, ↓reduceIte]
      rw [i64_in _ (by omega)]
      have hn : x.n = 0 := by
        have := hv.resolve_left (by simp [q])
        simp only [inserts, decide_eq_true_eq] at this; omega
      exact .mk (i + 1) ⟨by omega, step x hx (by simp [over, hn])⟩ (by omega) (Wk.sub (by (simp only [go_sem]) <;> trivial))
  · simp only [go_sem, decide_eq_false_iff_not] at h2 ⊢
    refine wk_int ?_
    have : l.any (over base) = false := by
      rw [List.any_eq_false]
      intro x hx
      obtain ⟨j, h⟩ := List.mem_iff_getElem?.1 hx
      simp [hj j x h (by have := some_lt h; omega)]
    simp [check, h1, this]
end Go.AX.De
/- Deltas: costs. -/
set_option maxHeartbeats 8000000
set_option linter.unusedVariables false
set_option linter.unusedSimpArgs false
set_option maxRecDepth 20000
namespace Go.AX.De
open Go.Proofs Go.RowKit Go.IntWalk
def cost (p : Part) : Int := if copies p then 3 else 1 + p.data.length
def csum : List Part → Int
  | [] => 0
  | p :: l => cost p + csum l
theorem csum_snoc (x : Part) : ∀ l : List Part, csum (l ++ [x]) = csum l + cost x
  | [] => by simp [csum]
  | p :: l => by simp only [List.cons_append, csum, csum_snoc x l]; omega
theorem csum_take {l : List Part} {i : Nat} {x : Part} (h : l[i]? = some x) : csum (l.take (i + 1)) = csum (l.take i) + cost x := by
  rw [List.take_add_one, h]; exact csum_snoc x _
theorem cost_bd {p : Part} (h : copies p = true ∨ inserts p = true) : 0 ≤ cost p ∧ cost p ≤ 2001 := by
  unfold cost
  cases q : copies p with
  | true => simp
  | false =>
    have := h.resolve_left (by simp [q])
    simp only [inserts, decide_eq_true_eq] at this
    simp; omega
theorem csum_bd : ∀ {l : List Part}, (∀ p ∈ l, copies p = true ∨ inserts p = true) → 0 ≤ csum l ∧ csum l ≤ 2001 * l.length
  | [], _ => by simp [csum]
  | p :: l, h => by
    have h1 := cost_bd (h p (by simp))
    have h2 := csum_bd (l := l) fun q hq => h q (by simp [hq])
    simp only [csum, List.length_cons]; omega
theorem csum_bdt {l : List Part} (h : valid l = 0) (i : Nat) : 0 ≤ csum (l.take i) ∧ csum (l.take i) ≤ 402000 := by
  have h1 := csum_bd (l := l.take i) fun p hp => valid_parts h p (List.mem_of_mem_take hp)
  have h2 : l.length ≤ 200 := by
    simp only [valid] at h
    split at h
    · omega
    · omega
  have h3 : (l.take i).length ≤ 200 := by rw [List.length_take]; omega
  omega
def costs (l : List Part) : Int × Int := if valid l ≠ 0 then (0, valid l) else (csum l, 0)
theorem cost_own (l : List Part) (hl : Sm l.length) : Spec Try.prog 10 [.d (.sl (l.map pD))] [] (.tup [.d (.int .i64 (costs l).1), .d (.int .i64 (costs l).2)]) [] := by
  have hl' := hl
  unfold Sm at hl
  refine spec_of_ev (fn := Try.f10) DX_ok 3000 Try.func10 rfl rfl (Nat.le_of_ble_eq_true rfl) ?_
  simp (maxSteps := 4000000) -implicitDefEqProofs only [Try.f10, go_sem]
  refine ecall0 _ (valid_own l hl') (by simp only [go_sem]) trivial ?_
  simp (maxSteps := 4000000) -implicitDefEqProofs only [go_sem, Nat.reduceAdd, Nat.reduceSub, Nat.reduceLT, Nat.reduceLeDiff, Nat.reduceEqDiff, ↓reduceIte]
  refine cbs (fun h1 => ?_) (fun h1 => ?_)
  · simp (maxSteps := 4000000) -implicitDefEqProofs only [go_sem, Nat.reduceAdd, Nat.reduceSub, Nat.reduceLT, Nat.reduceLeDiff, Nat.reduceEqDiff, ↓reduceIte]
    simp only [bne_iff_ne, ne_eq] at h1
    refine wk_eq (τ' := []) ?_ (by simp only [go_sem]) (by simp only [go_sem])
    simp [costs, h1]
  · simp (maxSteps := 4000000) -implicitDefEqProofs only [go_sem, Nat.reduceAdd, Nat.reduceSub, Nat.reduceLT, Nat.reduceLeDiff, Nat.reduceEqDiff, ↓reduceIte]
    simp only [bne_eq_false_iff_eq] at h1
    refine eloop (S := Nat) (fun i => mkE 32 [(0, .d (.sl (l.map pD))), (5, .d (.int .i64 (csum (l.take i)))), (13, .d (.sl (l.map pD))), (14, .d (.int .i64 l.length)), (15, .d (.int .i64 i))]) (fun i => []) (fun i => i ≤ l.length) (fun i => l.length - i) 0 (by omega) (Wk.sub (by (simp only [go_sem]) <;> trivial)) ?_
    intro i hi
    simp (maxSteps := 4000000) -implicitDefEqProofs only [go_sem, Nat.reduceAdd, Nat.reduceSub, Nat.reduceLT, Nat.reduceLeDiff, Nat.reduceEqDiff, ↓reduceIte]
    have hb := csum_bdt h1 i
    refine cbs (fun h2 => ?_) (fun h2 => ?_)
    · simp only [go_sem, decide_eq_true_eq, Nat.reduceAdd, Nat.reduceLeDiff, ↓reduceIte] at h2 ⊢
      refine ⟨by omega, fun x hx => ?_⟩
      have hv := valid_parts h1 x (List.mem_of_getElem? hx)
      have hc : cost x = if 0 < x.n then (3 : Int) else 1 + (x.data.length : Int) := by
        unfold cost
        rcases hv with q | q
        · rw [if_pos q]; simp only [copies, decide_eq_true_eq] at q; rw [if_pos (by omega)]
        · have q' := q
          simp only [inserts, decide_eq_true_eq] at q
          rw [if_neg (by simp only [copies, decide_eq_true_eq]; omega), if_neg (by omega)]
      have hcb := cost_bd hv
      have e := csum_take hx
      refine cbs (fun h3 => ?_) (fun h3 => ?_)
      · simp only [decide_eq_true_eq] at h3
        rw [if_pos h3] at hc
        simp (maxSteps := 4000000) -implicitDefEqProofs only [go_sem, Nat.reduceAdd, Nat.reduceSub, Nat.reduceLT, Nat.reduceLeDiff, Nat.reduceEqDiff, ↓reduceIte]
        rw [i64_in _ (by omega), i64_in _ (by omega), ← hc, ← e]
        exact .mk (i + 1) (by omega) (by omega) (Wk.forget (by (simp only [go_sem]) <;> trivial) (by simp only [go_sem]))
      · simp only [decide_eq_false_iff_not] at h3
        rw [if_neg h3] at hc
        simp (maxSteps := 4000000) -implicitDefEqProofs only [go_sem, Nat.reduceAdd, Nat.reduceSub, Nat.reduceLT, Nat.reduceLeDiff, Nat.reduceEqDiff, ↓reduceIte]
        rw [i64_in ((x.data.length : Int) + 1) (by omega), i64_in _ (by omega), i64_in _ (by omega), show csum (l.take i) + ((x.data.length : Int) + 1) = csum (l.take (i + 1)) by omega]
        exact .mk (i + 1) (by omega) (by omega) (Wk.forget (by (simp only [go_sem]) <;> trivial) (by simp only [go_sem]))
    · simp (maxSteps := 4000000) -implicitDefEqProofs only [go_sem, Nat.reduceAdd, Nat.reduceSub, Nat.reduceLT, Nat.reduceLeDiff, Nat.reduceEqDiff, ↓reduceIte]
      simp only [decide_eq_false_iff_not] at h2
      refine wk_eq (τ' := []) ?_ (by simp only [go_sem]) (by simp only [go_sem])
      rw [List.take_of_length_le (by omega)]
      simp [costs, h1]
end Go.AX.De
/- Deltas: what applying one gives. -/
set_option maxHeartbeats 8000000
set_option linter.unusedVariables false
set_option linter.unusedSimpArgs false
set_option maxRecDepth 20000
namespace Go.AX.De
open Go.Proofs Go.RowKit Go.IntWalk
/-- what a part puts out -/
def put (base : List Int) (p : Part) : List Int := if copies p then (base.drop p.at'.toNat).take p.n.toNat else p.data
def outs (base : List Int) : List Part → List Int
  | [] => []
  | p :: l => put base p ++ outs base l
def applied (base : List Int) (l : List Part) : List Int × Int :=
  if 2000 < base.length then ([], 4) else if check l base.length ≠ 0 then ([], check l base.length) else if 2000 < (outs base l).length then ([], 4) else (outs base l, 0)
theorem outs_snoc (base : List Int) (x : Part) : ∀ l : List Part, outs base (l ++ [x]) = outs base l ++ put base x
  | [] => by simp [outs]
  | p :: l => by simp only [List.cons_append, outs, outs_snoc base x l, List.append_assoc]
theorem outs_take {base : List Int} {l : List Part} {i : Nat} {x : Part} (h : l[i]? = some x) : outs base (l.take (i + 1)) = outs base (l.take i) ++ put base x := by
  rw [List.take_add_one, h]; exact outs_snoc base x _
theorem outs_append (base : List Int) : ∀ a b : List Part, outs base (a ++ b) = outs base a ++ outs base b
  | [], b => rfl
  | p :: a, b => by simp only [List.cons_append, outs, outs_append base a b, List.append_assoc]
theorem outs_le (base : List Int) (l : List Part) (i : Nat) : (outs base (l.take i)).length ≤ (outs base l).length := by
  have := outs_append base (l.take i) (l.drop i)
  rw [List.take_append_drop] at this
  rw [this, List.length_append]; omega
theorem check_valid {l : List Part} {b : Int} (h : check l b = 0) : valid l = 0 := by
  simp only [check] at h
  split at h
  · omega
  · next q => simpa using q
theorem check_fits {l : List Part} {b : Int} (h : check l b = 0) : ∀ p ∈ l, p.n = 0 ∨ p.at' + p.n ≤ b := fun p hp => by
  have hv := check_valid h
  have hr := part_range (valid_parts hv p hp)
  simp only [check, hv] at h
  split at h
  · omega
  · split at h
    · omega
    · next q =>
      simp only [Bool.not_eq_true, List.any_eq_false] at q
      have := q p hp
      simp [over] at this
      omega
end Go.AX.De
/- Deltas: what the program's Apply gives. -/
set_option maxHeartbeats 8000000
set_option linter.unusedVariables false
set_option linter.unusedSimpArgs false
set_option maxRecDepth 20000
namespace Go.AX.De
open Go.Proofs Go.RowKit Go.IntWalk
theorem apply_own (base : List Int) (l : List Part) (hb : Sm base.length) (hl : Sm l.length) : Spec Try.prog 12 [.d (.sl (base.map bI)), .d (.sl (l.map pD))] [] (.tup [.own 0, .d (.int .i64 (applied base l).2)]) [.row 1 ((applied base l).1.map bI)] := by
  have hl' := hl
  unfold Sm at hl hb
  refine spec_of_ev (fn := Try.f12) DX_ok 3000 Try.func12 rfl rfl (Nat.le_of_ble_eq_true rfl) ?_
  simp (maxSteps := 4000000) -implicitDefEqProofs only [Try.f12, go_sem]
  refine cbs (fun h0 => ?_) (fun h0 => ?_)
  · simp (maxSteps := 4000000) -implicitDefEqProofs only [go_sem, Nat.reduceAdd, Nat.reduceSub, Nat.reduceLT, Nat.reduceLeDiff, Nat.reduceEqDiff, ↓reduceIte]
    simp only [decide_eq_true_eq] at h0
    have : applied base l = ([], 4) := by simp only [applied]; rw [if_pos (by omega)]
    rw [this]
    exact wk_tup_nil 1 rfl
  simp (maxSteps := 4000000) -implicitDefEqProofs only [go_sem, Nat.reduceAdd, Nat.reduceSub, Nat.reduceLT, Nat.reduceLeDiff, Nat.reduceEqDiff, ↓reduceIte]
  simp only [decide_eq_false_iff_not] at h0
  refine ecall0 _ (check_own l _ hl') (by simp only [go_sem]) trivial ?_
  simp (maxSteps := 4000000) -implicitDefEqProofs only [go_sem, Nat.reduceAdd, Nat.reduceSub, Nat.reduceLT, Nat.reduceLeDiff, Nat.reduceEqDiff, ↓reduceIte]
  refine cbs (fun h1 => ?_) (fun h1 => ?_)
  · simp (maxSteps := 4000000) -implicitDefEqProofs only [go_sem, Nat.reduceAdd, Nat.reduceSub, Nat.reduceLT, Nat.reduceLeDiff, Nat.reduceEqDiff, ↓reduceIte]
    simp only [bne_iff_ne, ne_eq] at h1
    have : applied base l = ([], check l base.length) := by simp only [applied]; rw [if_neg (by omega), if_pos h1]
    rw [this]
    exact wk_tup_nil 1 rfl
  simp (maxSteps := 4000000) -implicitDefEqProofs only [go_sem, Nat.reduceAdd, Nat.reduceSub, Nat.reduceLT, Nat.reduceLeDiff, Nat.reduceEqDiff, ↓reduceIte]
  simp only [bne_eq_false_iff_eq] at h1
  have hv := check_valid h1
  have hf := check_fits h1
  have e0 : applied base l = if 2000 < (outs base l).length then ([], 4) else (outs base l, 0) := by
    simp only [applied]; rw [if_neg (by omega)]; simp [h1]
  refine eloop (S := Nat) (fun i => mkE 45 [(0, .d (.sl (base.map bI))), (1, .d (.sl (l.map pD))), (7, .own 0), (20, .d (.sl (l.map pD))), (21, .d (.int .i64 l.length)), (22, .d (.int .i64 i))]) (fun i => [.row 1 ((outs base (l.take i)).map bI)]) (fun i => i ≤ l.length ∧ (outs base (l.take i)).length ≤ 2000) (fun i => l.length - i) 0 ⟨by omega, by simp [outs]⟩ ?_ ?_
  · refine Wk.trans (Wk.nil 7 1 (by simp only [go_sem])) ?_
    simp (maxSteps := 4000000) -implicitDefEqProofs only [go_sem, Nat.reduceAdd, Nat.reduceSub, Nat.reduceLT, Nat.reduceLeDiff, Nat.reduceEqDiff, ↓reduceIte]
    exact Wk.sub (by simp only [go_sem]; trivial)
  rintro i ⟨hi, ho⟩
  simp (maxSteps := 4000000) -implicitDefEqProofs only [go_sem, Nat.reduceAdd, Nat.reduceSub, Nat.reduceLT, Nat.reduceLeDiff, Nat.reduceEqDiff, ↓reduceIte]
  refine cbs (fun h2 => ?_) (fun h2 => ?_)
  · simp only [decide_eq_true_eq] at h2
    simp (maxSteps := 4000000) -implicitDefEqProofs only [go_sem, Nat.reduceAdd, Nat.reduceSub, Nat.reduceLT, Nat.reduceLeDiff, Nat.reduceEqDiff, ↓reduceIte]
    refine ⟨by omega, fun x hx => ?_⟩
    have hx' := List.mem_of_getElem? hx
    have hr := part_range (valid_parts hv x hx')
    have hfx := hf x hx'
    refine DX.plain (.take 0 false (.take 1 false (.take 2 false (.take 3 false (.take 4 false (.take 5 false (.take 6 false (.take 7 false (.take 8 false (.take 9 false (.take 11 true (.take 12 true (.run [10] (fun _ => [true, true]) fun _ => (.run [13] (fun _ => [false, false]) fun _ => (.take 14 false .done))))))))))))))) (by kernel_rfl) (by kernel_rfl) Ty.mixed ?_
    simp (maxSteps := 4000000) -implicitDefEqProofs only [go_sem, Nat.reduceAdd, Nat.reduceSub, Nat.reduceLT, Nat.reduceLeDiff, Nat.reduceEqDiff, ↓reduceIte]
    have hn : x.at' + x.n ≤ base.length := by
      rcases valid_parts hv x hx' with q | q
      · simp only [copies, decide_eq_true_eq] at q; omega
      · simp only [inserts, decide_eq_true_eq] at q; omega
    have e : put base x = (base.take (x.at' + x.n).toNat).drop x.at'.toNat ++ x.data := by
      rcases valid_parts hv x hx' with q | q
      · simp only [put, q, if_true]
        simp only [copies, decide_eq_true_eq] at q
        rw [List.eq_nil_of_length_eq_zero q.2.2.2.2, List.append_nil, List.drop_take]
        congr 1; omega
      · have q' := q
        simp only [inserts, decide_eq_true_eq] at q
        have hc : copies x = false := by simp only [copies, decide_eq_false_iff_not]; omega
        simp [put, hc, q.1, q.2.1]
    have hd : x.data.length ≤ 2000 := by
      rcases valid_parts hv x hx' with q | q
      · simp only [copies, decide_eq_true_eq] at q; omega
      · simp only [inserts, decide_eq_true_eq] at q; omega
    rw [i64_in (x.at' + x.n) (by omega), List.append_assoc, ← e, ← outs_take hx]
    have hs : ((base.take (x.at' + x.n).toNat).drop x.at'.toNat).length ≤ 2000 := by simp; omega
    have hle := outs_le base l (i + 1)
    refine ⟨⟨by omega, by omega, by omega⟩, ⟨by omega, by omega⟩, ⟨by rw [List.length_append]; omega, by rw [List.length_append]; omega⟩, ?_⟩
    refine cbs (fun h3 => ?_) (fun h3 => ?_)
    · simp (maxSteps := 4000000) -implicitDefEqProofs only [go_sem, Nat.reduceAdd, Nat.reduceSub, Nat.reduceLT, Nat.reduceLeDiff, Nat.reduceEqDiff, ↓reduceIte]
      simp only [decide_eq_true_eq] at h3
      have : applied base l = ([], 4) := by rw [e0, if_pos (by omega)]
      rw [this]
      exact wk_tup_nil 1 rfl
    · simp (maxSteps := 4000000) -implicitDefEqProofs only [go_sem, Nat.reduceAdd, Nat.reduceSub, Nat.reduceLT, Nat.reduceLeDiff, Nat.reduceEqDiff, ↓reduceIte]
      simp only [decide_eq_false_iff_not] at h3
      rw [i64_in _ (by omega)]
      exact .mk (i + 1) ⟨by omega, by omega⟩ (by omega) (Wk.via1 3 (by (simp only [go_sem, ↓reduceIte]) <;> trivial) (by simp (maxSteps := 4000000) -implicitDefEqProofs only [go_sem, Nat.reduceAdd, Nat.reduceSub, Nat.reduceLT, Nat.reduceLeDiff, Nat.reduceEqDiff, ↓reduceIte]) (by simp) (by (simp only [go_sem]) <;> trivial) (by trivial))
  · simp (maxSteps := 4000000) -implicitDefEqProofs only [go_sem, Nat.reduceAdd, Nat.reduceSub, Nat.reduceLT, Nat.reduceLeDiff, Nat.reduceEqDiff, ↓reduceIte]
    simp only [decide_eq_false_iff_not] at h2
    rw [List.take_of_length_le (by omega)] at ho
    have : applied base l = (outs base l, 0) := by rw [e0, if_neg (by omega)]
    rw [this, List.take_of_length_le (by omega)]
    exact Wk.refl _ _ _
end Go.AX.De
/- Deltas: the law DeltaApplies returns true. -/
set_option maxHeartbeats 8000000
set_option linter.unusedVariables false
set_option linter.unusedSimpArgs false
set_option maxRecDepth 20000
namespace Go.AX.De
open Go.Proofs Go.RowKit Go.IntWalk
end Go.AX.De

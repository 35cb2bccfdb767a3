/- Deltas: what small functions compute. -/
import Derived.Test.YtmffhidhmbncbaaK4
import Derived.IntWalk
set_option maxHeartbeats 8000000
set_option linter.unusedVariables false
set_option linter.unusedSimpArgs false
set_option maxRecDepth 20000
namespace Go.AX.De
open Go.Proofs Go.RowKit Go.IntWalk
structure Part where
  at' : Int
  n : Int
  data : List Int
def bI (b : Int) : List D := [.int .u8 b]
def pD (p : Part) : List D := [.int .i64 p.at', .int .i64 p.n, .sl (p.data.map bI)]
attribute [go_sem] bI pD
theorem bI_len {l : List Int} : (∀ e ∈ l.map bI, e.length = 1) = True := eq_true (map_len (g := bI) fun _ => rfl)
theorem pD_len {l : List Part} : (∀ e ∈ l.map pD, e.length = 3) = True := eq_true (map_len (g := pD) fun _ => rfl)
theorem set_bI {l : List Int} {i : Nat} {v : Int} : (l.map bI).set i [.int .u8 v] = (l.set i v).map bI := by rw [List.map_set]; rfl
attribute [go_sem] bI_len pD_len set_bI
/-- no longer than memory -/
def Sm (n : Nat) : Prop := n ≤ 140737488351232

def great (l : List Part) : Bool := l.any (fun p => decide (2100 < p.data.length)) || (decide (30 < l.length) && decide (l.length ≤ 200)) || decide (300 < l.length)
end Go.AX.De
/- Deltas: checks. -/
set_option maxHeartbeats 8000000
set_option linter.unusedVariables false
set_option linter.unusedSimpArgs false
set_option maxRecDepth 20000
namespace Go.AX.De
open Go.Proofs Go.RowKit Go.IntWalk
def pA (p : Part) : AV := .agg [.d (.int .i64 p.at'), .d (.int .i64 p.n), .d (.sl (p.data.map bI))]
attribute [go_sem] pA
def copies (p : Part) : Bool := decide (1 ≤ p.n ∧ p.n ≤ 2000 ∧ 0 ≤ p.at' ∧ p.at' ≤ 2000 ∧ p.data.length = 0)
def inserts (p : Part) : Bool := decide (p.n = 0 ∧ p.at' = 0 ∧ 1 ≤ p.data.length ∧ p.data.length ≤ 2000)
theorem copies_ref (p : Part) : Spec Try.prog 28 [pA p] [] (.d (.bool (copies p))) [] := by
  unfold pA
  refine spec_of_ev (fn := Try.f28) DX_ok 3000 Try.func28 rfl rfl (Nat.le_of_ble_eq_true rfl) ?_
  simp (maxSteps := 4000000) -implicitDefEqProofs only [Try.f28, go_sem]
  repeat' (refine gbs (fun _ => ?_) (fun _ => ?_) <;> simp only [go_sem])
  all_goals
    refine wk_bool ?_
    unfold copies
    simp only [decide_eq_true_eq, decide_eq_false_iff_not] at *
    (rw [Bool.eq_iff_iff]; simp only [Bool.and_eq_true, Bool.or_eq_true, Bool.not_eq_true', decide_eq_true_eq, decide_eq_false_iff_not, beq_iff_eq, bne_iff_ne, ne_eq, true_iff, iff_true, false_iff, iff_false, eq_self, Bool.false_eq_true]; omega)
theorem inserts_ref (p : Part) : Spec Try.prog 46 [pA p] [] (.d (.bool (inserts p))) [] := by
  unfold pA
  refine spec_of_ev (fn := Try.f46) DX_ok 3000 Try.func46 rfl rfl (Nat.le_of_ble_eq_true rfl) ?_
  simp (maxSteps := 4000000) -implicitDefEqProofs only [Try.f46, go_sem]
  repeat' (refine gbs (fun _ => ?_) (fun _ => ?_) <;> simp only [go_sem])
  all_goals
    refine wk_bool ?_
    unfold inserts
    simp only [decide_eq_true_eq, decide_eq_false_iff_not, beq_iff_eq, beq_eq_false_iff_ne, ne_eq] at *
    (rw [Bool.eq_iff_iff]; simp only [Bool.and_eq_true, Bool.or_eq_true, Bool.not_eq_true', decide_eq_true_eq, decide_eq_false_iff_not, beq_iff_eq, bne_iff_ne, ne_eq, true_iff, iff_true, false_iff, iff_false, eq_self, Bool.false_eq_true]; omega)
/-- the first that has it, or -1 -/
def idx {α : Type} (p : α → Bool) (l : List α) : Int := match l.findIdx? p with
  | some i => i
  | none => -1
theorem idx_found {α : Type} {p : α → Bool} {l : List α} {i : Nat} {x : α} (h : l[i]? = some x) (hp : p x = true) (hj : ∀ (j : Nat) (y : α), l[j]? = some y → j < i → p y = false) : idx p l = i := by
  have : l.findIdx? p = some i := by
    rw [List.findIdx?_eq_some_iff_getElem]
    have hlt := some_lt h
    refine ⟨hlt, ?_, fun j hji => ?_⟩
    · rw [List.getElem?_eq_getElem hlt] at h; simp at h; rw [h]; exact hp
    · have := hj j (l[j]'(by omega)) (List.getElem?_eq_getElem _) hji
      simp [this]
  simp [idx, this]
theorem idx_none {α : Type} {p : α → Bool} {l : List α} (hj : ∀ (j : Nat) (y : α), l[j]? = some y → p y = false) : idx p l = -1 := by
  have : l.findIdx? p = none := by
    rw [List.findIdx?_eq_none_iff]
    intro x hx
    obtain ⟨j, h⟩ := List.mem_iff_getElem?.1 hx
    exact hj j x h
  simp [idx, this]
theorem idx_any {α : Type} (p : α → Bool) (l : List α) : decide (0 ≤ idx p l) = l.any p := by
  unfold idx
  cases h : l.findIdx? p with
  | none =>
    have := List.findIdx?_eq_none_iff.1 h
    have h2 : l.any p = false := by rw [List.any_eq_false]; intro x hx; simp [this x hx]
    simp [h2]
  | some i =>
    obtain ⟨hlt, hp, _⟩ := List.findIdx?_eq_some_iff_getElem.1 h
    have h2 : l.any p = true := List.any_eq_true.2 ⟨l[i], List.getElem_mem _, hp⟩
    simp [h2]
end Go.AX.De
/- Deltas: checks and costs. -/
set_option maxHeartbeats 8000000
set_option linter.unusedVariables false
set_option linter.unusedSimpArgs false
set_option maxRecDepth 20000
namespace Go.AX.De
open Go.Proofs Go.RowKit Go.IntWalk
def bad (p : Part) : Bool := !copies p && !inserts p
def valid (l : List Part) : Int := if 200 < l.length then 4 else if l.any bad then 8 else 0
theorem valid_ref (l : List Part) (hl : Sm l.length) : Spec Try.prog 27 [.d (.sl (l.map pD))] [] (.d (.int .i64 (valid l))) [] := by
  unfold Sm at hl
  refine spec_of_ev (fn := Try.f27) DX_ok 3000 Try.func27 rfl rfl (Nat.le_of_ble_eq_true rfl) ?_
  simp (maxSteps := 4000000) -implicitDefEqProofs only [Try.f27, go_sem]
  refine cbs (fun h1 => ?_) (fun h1 => ?_)
  · simp (maxSteps := 4000000) -implicitDefEqProofs only [go_sem, Nat.reduceAdd, Nat.reduceSub, Nat.reduceLT, Nat.reduceLeDiff, Nat.reduceEqDiff, ↓reduceIte]
    refine wk_int ?_
    simp only [decide_eq_true_eq] at h1
    simp only [valid]; rw [if_pos (by omega)]
  simp (maxSteps := 4000000) -implicitDefEqProofs only [go_sem, Nat.reduceAdd, Nat.reduceSub, Nat.reduceLT, Nat.reduceLeDiff, Nat.reduceEqDiff, ↓reduceIte]
  simp only [decide_eq_false_iff_not] at h1
  refine eloop (S := Nat) (fun i => mkE 27 [(0, .d (.sl (l.map pD))), (3, .d (.int .i64 i))]) (fun i => []) (fun i => i ≤ l.length ∧ ∀ j x, l[j]? = some x → j < i → bad x = false) (fun i => l.length - i) 0 ⟨by omega, by omega⟩ (Wk.sub (by (simp only [go_sem]) <;> trivial)) ?_
  rintro i ⟨hi, hj⟩
  simp (maxSteps := 4000000) -implicitDefEqProofs only [go_sem, Nat.reduceAdd, Nat.reduceSub, Nat.reduceLT, Nat.reduceLeDiff, Nat.reduceEqDiff, ↓reduceIte]
  have step : ∀ x, l[i]? = some x → bad x = false → ∀ j y, l[j]? = some y → j < i + 1 → bad y = false := fun x hx hb j y hy hlt => by
    rcases Nat.lt_or_ge j i with q | q
    · exact hj j y hy q
    · have : j = i := by omega
      subst this; rw [hx] at hy; cases hy; exact hb
  refine cbs (fun h2 => ?_) (fun h2 => ?_)
  · simp only [go_sem, decide_eq_true_eq] at h2 ⊢
    refine ⟨by omega, fun x hx => ?_⟩
    refine ecall0 _ (copies_ref x) (by simp only [go_sem]) trivial ?_
    simp (maxSteps := 4000000) -implicitDefEqProofs only [go_sem, Nat.reduceAdd, Nat.reduceSub, Nat.reduceLT, Nat.reduceLeDiff, Nat.reduceEqDiff, ↓reduceIte]
    refine gbs (fun h3 => ?_) (fun h3 => ?_)
    · simp only [go_sem, hx, Option.some.injEq]
      refine ⟨by omega, ?_⟩
      rintro y rfl
      refine ecall0 _ (inserts_ref x) (by simp only [go_sem]) trivial ?_
      simp (maxSteps := 4000000) -implicitDefEqProofs only [go_sem, Nat.reduceAdd, Nat.reduceSub, Nat.reduceLT, Nat.reduceLeDiff, Nat.reduceEqDiff, ↓reduceIte]
      refine cbs (fun h4 => ?_) (fun h4 => ?_)
      · simp (maxSteps := 4000000) -implicitDefEqProofs only [go_sem, Nat.reduceAdd, Nat.reduceSub, Nat.reduceLT, Nat.reduceLeDiff, Nat.reduceEqDiff, ↓reduceIte]
        refine wk_int ?_
        have : l.any bad = true := List.any_eq_true.2 ⟨x, List.mem_of_getElem? hx, by simp only [bad]; rw [h3, h4]; rfl⟩
        simp only [valid]; rw [if_neg (by omega)]; simp [this]
      · simp (maxSteps := 4000000) -implicitDefEqProofs only [go_sem, Nat.reduceAdd, Nat.reduceSub, Nat.reduceLT, Nat.reduceLeDiff, Nat.reduceEqDiff, ↓reduceIte]
        rw [i64_in _ (by omega)]
        exact .mk (i + 1) ⟨by omega, step x hx (by simp only [bad]; rw [h4]; simp)⟩ (by omega) (Wk.sub (by (simp only [go_sem]) <;> trivial))
    · simp (maxSteps := 4000000) -implicitDefEqProofs only [go_sem, Nat.reduceAdd, Nat.reduceSub, Nat.reduceLT, Nat.reduceLeDiff, Nat.reduceEqDiff, ↓reduceIte]
      rw [i64_in _ (by omega)]
      exact .mk (i + 1) ⟨by omega, step x hx (by simp only [bad]; rw [h3]; simp)⟩ (by omega) (Wk.sub (by (simp only [go_sem]) <;> trivial))
  · simp only [go_sem, decide_eq_false_iff_not] at h2 ⊢
    refine wk_int ?_
    have : l.any bad = false := by
      rw [List.any_eq_false]
      intro x hx
      obtain ⟨j, h⟩ := List.mem_iff_getElem?.1 hx
      simp [hj j x h (by have := some_lt h; omega)]
    simp only [valid]; rw [if_neg (by omega)]; simp [this]
/-- a part that copies from behind the base's end -/
def over (base : Int) (p : Part) : Bool := decide (0 < p.n ∧ base < p.at' + p.n)
def check (l : List Part) (base : Int) : Int := if valid l ≠ 0 then valid l else if l.any (over base) then 16 else 0
theorem valid_parts {l : List Part} (h : valid l = 0) : ∀ p ∈ l, copies p = true ∨ inserts p = true := fun p hp => by
  simp only [valid] at h
  split at h
  · omega
  · split at h
    · omega
    · next h2 =>
      simp only [Bool.not_eq_true, List.any_eq_false] at h2
      have := h2 p hp
      simp only [bad] at this
      cases q : copies p <;> simp_all
theorem part_range {p : Part} (h : copies p = true ∨ inserts p = true) : 0 ≤ p.at' ∧ p.at' ≤ 2000 ∧ 0 ≤ p.n ∧ p.n ≤ 2000 := by
  rcases h with h | h
  · simp only [copies, decide_eq_true_eq] at h; omega
  · simp only [inserts, decide_eq_true_eq] at h; omega
theorem check_ref (l : List Part) (base : Int) (hl : Sm l.length) : Spec Try.prog 15 [.d (.sl (l.map pD)), .d (.int .i64 base)] [] (.d (.int .i64 (check l base))) [] := by
  have hl' := hl
  unfold Sm at hl
  refine spec_of_ev (fn := Try.f15) DX_ok 3000 Try.func15 rfl rfl (Nat.le_of_ble_eq_true rfl) ?_
  simp (maxSteps := 4000000) -implicitDefEqProofs only [Try.f15, go_sem]
  refine ecall0 _ (valid_ref l hl') (by simp only [go_sem]) trivial ?_
  simp (maxSteps := 4000000) -implicitDefEqProofs only [go_sem, Nat.reduceAdd, Nat.reduceSub, Nat.reduceLT, Nat.reduceLeDiff, Nat.reduceEqDiff, ↓reduceIte]
  refine cbs (fun h1 => ?_) (fun h1 => ?_)
  · simp (maxSteps := 4000000) -implicitDefEqProofs only [go_sem, Nat.reduceAdd, Nat.reduceSub, Nat.reduceLT, Nat.reduceLeDiff, Nat.reduceEqDiff, ↓reduceIte]
    refine ecall0 _ (valid_ref l hl') (by simp only [go_sem]) trivial ?_
    simp (maxSteps := 4000000) -implicitDefEqProofs only [go_sem, Nat.reduceAdd, Nat.reduceSub, Nat.reduceLT, Nat.reduceLeDiff, Nat.reduceEqDiff, ↓reduceIte]
    refine wk_int ?_
    simp only [bne_iff_ne, ne_eq] at h1
    simp [check, h1]
  simp (maxSteps := 4000000) -implicitDefEqProofs only [go_sem, Nat.reduceAdd, Nat.reduceSub, Nat.reduceLT, Nat.reduceLeDiff, Nat.reduceEqDiff, ↓reduceIte]
  simp only [bne_eq_false_iff_eq] at h1
  refine eloop (S := Nat) (fun i => mkE 37 [(0, .d (.sl (l.map pD))), (1, .d (.int .i64 base)), (5, .d (.int .i64 i))]) (fun i => []) (fun i => i ≤ l.length ∧ ∀ j x, l[j]? = some x → j < i → over base x = false) (fun i => l.length - i) 0 ⟨by omega, by omega⟩ (Wk.sub (by (simp only [go_sem]) <;> trivial)) ?_
  rintro i ⟨hi, hj⟩
  simp (maxSteps := 4000000) -implicitDefEqProofs only [go_sem, Nat.reduceAdd, Nat.reduceSub, Nat.reduceLT, Nat.reduceLeDiff, Nat.reduceEqDiff, ↓reduceIte]
  have step : ∀ x, l[i]? = some x → over base x = false → ∀ j y, l[j]? = some y → j < i + 1 → over base y = false := fun x hx hb j y hy hlt => by
    rcases Nat.lt_or_ge j i with q | q
    · exact hj j y hy q
    · have : j = i := by omega
      subst this; rw [hx] at hy; cases hy; exact hb
  refine cbs (fun h2 => ?_) (fun h2 => ?_)
  · simp only [go_sem, decide_eq_true_eq] at h2 ⊢
    refine DX.plain (.take 0 false (.take 1 false (.take 2 false (.take 3 false (.take 4 false (.take 5 false (.take 6 false (.take 7 false (.take 8 false (.take 9 false (.take 10 false (.take 11 false (.take 12 false (.take 13 false (.take 14 false (.take 15 false (.take 16 false (.take 17 false (.take 18 false (.take 19 false .done)))))))))))))))))))) (by kernel_rfl) (by kernel_rfl) Ty.mixed ?_
    simp (maxSteps := 4000000) -implicitDefEqProofs only [go_sem, Nat.reduceAdd, Nat.reduceSub, Nat.reduceLT, Nat.reduceLeDiff, Nat.reduceEqDiff, ↓reduceIte]
    refine ⟨by omega, by omega, fun x hx => ?_⟩
    have hv := valid_parts h1 x (List.mem_of_getElem? hx)
    have hr := part_range hv
    have hc := copies_ref x
    cases q : copies x with
    | true =>
      rw [q] at hc
      refine ⟨_, _, hc.lift0 _ (by simp only [go_sem]) trivial, ?_⟩
      simp only [go_sem, hx, Option.some.injEq]
      refine ⟨by omega, by omega, ?_⟩
      rintro y rfl
      refine ⟨by omega, by omega, ?_⟩
      rintro y rfl
      rw [i64_in _ (by omega)]
      have hn : 0 < x.n := by simp only [copies, decide_eq_true_eq] at q; omega
      refine cbs (fun h4 => ?_) (fun h4 => ?_)
      · simp (maxSteps := 4000000) -implicitDefEqProofs only [go_sem, Nat.reduceAdd, Nat.reduceSub, Nat.reduceLT, Nat.reduceLeDiff, Nat.reduceEqDiff, ↓reduceIte]
        refine wk_int ?_
        simp only [decide_eq_true_eq] at h4
        have : l.any (over base) = true := List.any_eq_true.2 ⟨x, List.mem_of_getElem? hx, by simp [over, hn, h4]⟩
        simp [check, h1, this]
      · simp (maxSteps := 4000000) -implicitDefEqProofs only [go_sem, Nat.reduceAdd, Nat.reduceSub, Nat.reduceLT, Nat.reduceLeDiff, Nat.reduceEqDiff, ↓reduceIte]
        rw [i64_in _ (by omega)]
        simp only [decide_eq_false_iff_not] at h4
        exact .mk (i + 1) ⟨by omega, step x hx (by simp [over, h4])⟩ (by omega) (Wk.sub (by (simp only [go_sem]) <;> trivial))
    | false =>
      rw [q] at hc
      refine ⟨_, _, hc.lift0 _ (by simp only [go_sem]) trivial, ?_⟩
      simp (maxSteps := 4000000) -implicitDefEqProofs only [go_sem, Nat.reduceAdd, Nat.reduceSub, Nat.reduceLT, Nat.reduceLeDiff, Nat.reduceEqDiff, ↓reduceIte]
      rw [i64_in _ (by omega)]
      have hn : x.n = 0 := by
        have := hv.resolve_left (by simp [q])
        simp only [inserts, decide_eq_true_eq] at this; omega
      exact .mk (i + 1) ⟨by omega, step x hx (by simp [over, hn])⟩ (by omega) (Wk.sub (by (simp only [go_sem]) <;> trivial))
  · simp only [go_sem, decide_eq_false_iff_not] at h2 ⊢
    refine wk_int ?_
    have : l.any (over base) = false := by
      rw [List.any_eq_false]
      intro x hx
      obtain ⟨j, h⟩ := List.mem_iff_getElem?.1 hx
      simp [hj j x h (by have := some_lt h; omega)]
    simp [check, h1, this]
end Go.AX.De
/- Deltas: costs. -/
set_option maxHeartbeats 8000000
set_option linter.unusedVariables false
set_option linter.unusedSimpArgs false
set_option maxRecDepth 20000
namespace Go.AX.De
open Go.Proofs Go.RowKit Go.IntWalk
def cost (p : Part) : Int := if copies p then 3 else 1 + p.data.length
def csum : List Part → Int
  | [] => 0
  | p :: l => cost p + csum l
def costs (l : List Part) : Int × Int := if valid l ≠ 0 then (0, valid l) else (csum l, 0)
end Go.AX.De
/- Deltas: what applying one gives. -/
set_option maxHeartbeats 8000000
set_option linter.unusedVariables false
set_option linter.unusedSimpArgs false
set_option maxRecDepth 20000
namespace Go.AX.De
open Go.Proofs Go.RowKit Go.IntWalk
/-- what a part puts out -/
def put (base : List Int) (p : Part) : List Int := if copies p then (base.drop p.at'.toNat).take p.n.toNat else p.data
def outs (base : List Int) : List Part → List Int
  | [] => []
  | p :: l => put base p ++ outs base l
def applied (base : List Int) (l : List Part) : List Int × Int :=
  if 2000 < base.length then ([], 4) else if check l base.length ≠ 0 then ([], check l base.length) else if 2000 < (outs base l).length then ([], 4) else (outs base l, 0)
end Go.AX.De
/- Deltas: what the program's Apply gives. -/
set_option maxHeartbeats 8000000
set_option linter.unusedVariables false
set_option linter.unusedSimpArgs false
set_option maxRecDepth 20000
namespace Go.AX.De
open Go.Proofs Go.RowKit Go.IntWalk
end Go.AX.De
/- Deltas: the law DeltaApplies returns true. -/
set_option maxHeartbeats 8000000
set_option linter.unusedVariables false
set_option linter.unusedSimpArgs false
set_option maxRecDepth 20000
namespace Go.AX.De
open Go.Proofs Go.RowKit Go.IntWalk
end Go.AX.De

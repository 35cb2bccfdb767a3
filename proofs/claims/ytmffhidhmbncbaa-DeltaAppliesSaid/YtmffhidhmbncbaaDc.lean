/- Deltas: checks and costs. -/
import Derived.Test.YtmffhidhmbncbaaDb
set_option maxHeartbeats 1000000
set_option linter.unusedVariables false
set_option linter.unusedSimpArgs false
set_option maxRecDepth 20000
namespace Go.AX.De
open Go.Proofs Go.RowKit Go.IntWalk
def bad (p : Part) : Bool := !copies p && !inserts p
def valid (l : List Part) : Int := if 200 < l.length then 4 else if l.any bad then 8 else 0
theorem valid_own (l : List Part) (hl : Sm l.length) : Spec Try.prog 26 [.d (.sl (l.map pD))] [] (.d (.int .i64 (valid l))) [] := by
  refine spec_of_ev (fn := Try.f26) DX_ok 3000 Try.func26 rfl rfl (Nat.le_of_ble_eq_true rfl) ?_
  simp only [Try.f26, go_sem]
  refine cbs (fun h1 => ?_) (fun h1 => ?_)
  · simp only [go_sem, Nat.reduceAdd, Nat.reduceSub, Nat.reduceLT, Nat.reduceLeDiff, Nat.reduceEqDiff, ↓reduceIte]
    refine wk_int ?_
    simp only [decide_eq_true_eq] at h1
    simp only [valid]; rw [if_pos (by omega)]
  · simp only [go_sem, Nat.reduceAdd, Nat.reduceSub, Nat.reduceLT, Nat.reduceLeDiff, Nat.reduceEqDiff, ↓reduceIte]
    simp only [decide_eq_false_iff_not] at h1
    refine ecall0 _ (containsFunc_spec l bad _ [] [] hl fun x _ => bad_own x) (by simp only [go_sem]) trivial ?_
    simp only [go_sem, Nat.reduceAdd, Nat.reduceSub, Nat.reduceLT, Nat.reduceLeDiff, Nat.reduceEqDiff, ↓reduceIte]
    refine cbs (fun h2 => ?_) (fun h2 => ?_)
    all_goals
      simp only [go_sem, Nat.reduceAdd, Nat.reduceSub, Nat.reduceLT, Nat.reduceLeDiff, Nat.reduceEqDiff, ↓reduceIte]
      refine wk_int ?_
      simp only [valid]; rw [if_neg (by omega)]; simp [h2]
theorem valid_ref (l : List Part) (hl : Sm l.length) : Spec Try.prog 27 [.d (.sl (l.map pD))] [] (.d (.int .i64 (valid l))) [] := by
  unfold Sm at hl
  refine spec_of_ev (fn := Try.f27) DX_ok 3000 Try.func27 rfl rfl (Nat.le_of_ble_eq_true rfl) ?_
  simp only [Try.f27, go_sem]
  refine cbs (fun h1 => ?_) (fun h1 => ?_)
  · simp only [go_sem, Nat.reduceAdd, Nat.reduceSub, Nat.reduceLT, Nat.reduceLeDiff, Nat.reduceEqDiff, ↓reduceIte]
    refine wk_int ?_
    simp only [decide_eq_true_eq] at h1
    simp only [valid]; rw [if_pos (by omega)]
  simp only [go_sem, Nat.reduceAdd, Nat.reduceSub, Nat.reduceLT, Nat.reduceLeDiff, Nat.reduceEqDiff, ↓reduceIte]
  simp only [decide_eq_false_iff_not] at h1
  refine eloop (S := Nat) (fun i => mkE 27 [(0, .d (.sl (l.map pD))), (3, .d (.int .i64 i))]) (fun i => []) (fun i => i ≤ l.length ∧ ∀ j x, l[j]? = some x → j < i → bad x = false) (fun i => l.length - i) 0 ⟨by omega, by omega⟩ (Wk.sub (by simp only [go_sem]; trivial)) ?_
  rintro i ⟨hi, hj⟩
  simp only [go_sem, Nat.reduceAdd, Nat.reduceSub, Nat.reduceLT, Nat.reduceLeDiff, Nat.reduceEqDiff, ↓reduceIte]
  have step : ∀ x, l[i]? = some x → bad x = false → ∀ j y, l[j]? = some y → j < i + 1 → bad y = false := fun x hx hb j y hy hlt => by
    rcases Nat.lt_or_ge j i with q | q
    · exact hj j y hy q
    · have : j = i := by omega
      subst this; rw [hx] at hy; cases hy; exact hb
  refine cbs (fun h2 => ?_) (fun h2 => ?_)
  · simp only [go_sem, decide_eq_true_eq] at h2 ⊢
    refine ⟨by omega, fun x hx => ?_⟩
    refine ecall0 _ (copies_ref x) (by simp only [go_sem]) trivial ?_
    simp only [go_sem, Nat.reduceAdd, Nat.reduceSub, Nat.reduceLT, Nat.reduceLeDiff, Nat.reduceEqDiff, ↓reduceIte]
    refine gbs (fun h3 => ?_) (fun h3 => ?_)
    · simp only [go_sem, hx, Option.some.injEq]
      refine ⟨by omega, ?_⟩
      rintro y rfl
      refine ecall0 _ (inserts_ref x) (by simp only [go_sem]) trivial ?_
      simp only [go_sem, Nat.reduceAdd, Nat.reduceSub, Nat.reduceLT, Nat.reduceLeDiff, Nat.reduceEqDiff, ↓reduceIte]
      refine cbs (fun h4 => ?_) (fun h4 => ?_)
      · simp only [go_sem, Nat.reduceAdd, Nat.reduceSub, Nat.reduceLT, Nat.reduceLeDiff, Nat.reduceEqDiff, ↓reduceIte]
        refine wk_int ?_
        have : l.any bad = true := List.any_eq_true.2 ⟨x, List.mem_of_getElem? hx, by simp only [bad]; rw [h3, h4]; rfl⟩
        simp only [valid]; rw [if_neg (by omega)]; simp [this]
      · simp only [go_sem, Nat.reduceAdd, Nat.reduceSub, Nat.reduceLT, Nat.reduceLeDiff, Nat.reduceEqDiff, ↓reduceIte]
        rw [i64_in _ (by omega)]
        exact .mk (i + 1) ⟨by omega, step x hx (by simp only [bad]; rw [h4]; simp)⟩ (by omega) (Wk.sub (by simp only [go_sem]; trivial))
    · simp only [go_sem, Nat.reduceAdd, Nat.reduceSub, Nat.reduceLT, Nat.reduceLeDiff, Nat.reduceEqDiff, ↓reduceIte]
      rw [i64_in _ (by omega)]
      exact .mk (i + 1) ⟨by omega, step x hx (by simp only [bad]; rw [h3]; simp)⟩ (by omega) (Wk.sub (by simp only [go_sem]; trivial))
  · simp only [go_sem, decide_eq_false_iff_not] at h2 ⊢
    refine wk_int ?_
    have : l.any bad = false := by
      rw [List.any_eq_false]
      intro x hx
      obtain ⟨j, h⟩ := List.mem_iff_getElem?.1 hx
      simp [hj j x h (by have := some_lt h; omega)]
    simp only [valid]; rw [if_neg (by omega)]; simp [this]
/-- a part that copies from behind the base's end -/
def over (base : Int) (p : Part) : Bool := decide (0 < p.n ∧ base < p.at' + p.n)
def check (l : List Part) (base : Int) : Int := if valid l ≠ 0 then valid l else if l.any (over base) then 16 else 0
theorem valid_parts {l : List Part} (h : valid l = 0) : ∀ p ∈ l, copies p = true ∨ inserts p = true := fun p hp => by
  simp only [valid] at h
  split at h
  · omega
  · split at h
    · omega
    · next h2 =>
      simp only [Bool.not_eq_true, List.any_eq_false] at h2
      have := h2 p hp
      simp only [bad] at this
      cases q : copies p <;> simp_all
theorem part_range {p : Part} (h : copies p = true ∨ inserts p = true) : 0 ≤ p.at' ∧ p.at' ≤ 2000 ∧ 0 ≤ p.n ∧ p.n ≤ 2000 := by
  rcases h with h | h
  · simp only [copies, decide_eq_true_eq] at h; omega
  · simp only [inserts, decide_eq_true_eq] at h; omega
theorem over_own (p : Part) (base : Int) (h : copies p = true ∨ inserts p = true) : Spec Try.prog 30 [pA p, .ptr 0 0] [.cells [.d (.int .i64 base)]] (.d (.bool (over base p))) [.cells [.d (.int .i64 base)]] := by
  have hr := part_range h
  unfold pA
  refine spec_of_ev (fn := Try.f30) DX_ok 3000 Try.func30 rfl rfl (Nat.le_of_ble_eq_true rfl) ?_
  simp only [Try.f30, go_sem]
  refine gbs (fun h1 => ?_) (fun h1 => ?_) <;> simp only [go_sem]
  · rw [i64_in _ (by omega)]
    have e : decide (base < p.at' + p.n) = over base p := by simp only [decide_eq_true_eq] at h1; simp [over, h1]
    rw [e]
    exact Wk.keep (σ := [_]) (τ := [_]) (by simp only [go_sem]) (by simp only [go_sem])
  · have e : false = over base p := by simp only [decide_eq_false_iff_not] at h1; simp [over, h1]
    rw [e]
    exact Wk.keep (σ := [_]) (τ := [_]) (by simp only [go_sem]) (by simp only [go_sem])
theorem check_own (l : List Part) (base : Int) (hl : Sm l.length) : Spec Try.prog 14 [.d (.sl (l.map pD)), .d (.int .i64 base)] [] (.d (.int .i64 (check l base))) [] := by
  refine spec_of_ev (fn := Try.f14) DX_ok 3000 Try.func14 rfl rfl (Nat.le_of_ble_eq_true rfl) ?_
  simp only [Try.f14, go_sem]
  refine ecall0 _ (valid_own l hl) (by simp only [go_sem]) trivial ?_
  simp only [go_sem, Nat.reduceAdd, Nat.reduceSub, Nat.reduceLT, Nat.reduceLeDiff, Nat.reduceEqDiff, ↓reduceIte]
  refine cbs (fun h1 => ?_) (fun h1 => ?_)
  · simp only [go_sem, Nat.reduceAdd, Nat.reduceSub, Nat.reduceLT, Nat.reduceLeDiff, Nat.reduceEqDiff, ↓reduceIte]
    refine wk_int ?_
    simp only [bne_iff_ne, ne_eq] at h1
    simp [check, h1]
  · simp only [go_sem, Nat.reduceAdd, Nat.reduceSub, Nat.reduceLT, Nat.reduceLeDiff, Nat.reduceEqDiff, ↓reduceIte]
    simp only [bne_eq_false_iff_eq] at h1
    refine .all _ _ (containsFunc_spec l (over base) _ [.ptr 0 0] [_] hl fun x hx => over_own x base (valid_parts h1 x hx)) ?_
    simp only [go_sem, Nat.reduceAdd, Nat.reduceSub, Nat.reduceLT, Nat.reduceLeDiff, Nat.reduceEqDiff, ↓reduceIte]
    refine cbs (fun h2 => ?_) (fun h2 => ?_)
    all_goals
      simp only [go_sem, Nat.reduceAdd, Nat.reduceSub, Nat.reduceLT, Nat.reduceLeDiff, Nat.reduceEqDiff, ↓reduceIte]
      refine wk_int ?_
      simp [check, h1, h2]
theorem check_ref (l : List Part) (base : Int) (hl : Sm l.length) : Spec Try.prog 15 [.d (.sl (l.map pD)), .d (.int .i64 base)] [] (.d (.int .i64 (check l base))) [] := by
  have hl' := hl
  unfold Sm at hl
  refine spec_of_ev (fn := Try.f15) DX_ok 3000 Try.func15 rfl rfl (Nat.le_of_ble_eq_true rfl) ?_
  simp only [Try.f15, go_sem]
  refine ecall0 _ (valid_ref l hl') (by simp only [go_sem]) trivial ?_
  simp only [go_sem, Nat.reduceAdd, Nat.reduceSub, Nat.reduceLT, Nat.reduceLeDiff, Nat.reduceEqDiff, ↓reduceIte]
  refine cbs (fun h1 => ?_) (fun h1 => ?_)
  · simp only [go_sem, Nat.reduceAdd, Nat.reduceSub, Nat.reduceLT, Nat.reduceLeDiff, Nat.reduceEqDiff, ↓reduceIte]
    refine ecall0 _ (valid_ref l hl') (by simp only [go_sem]) trivial ?_
    simp only [go_sem, Nat.reduceAdd, Nat.reduceSub, Nat.reduceLT, Nat.reduceLeDiff, Nat.reduceEqDiff, ↓reduceIte]
    refine wk_int ?_
    simp only [bne_iff_ne, ne_eq] at h1
    simp [check, h1]
  simp only [go_sem, Nat.reduceAdd, Nat.reduceSub, Nat.reduceLT, Nat.reduceLeDiff, Nat.reduceEqDiff, ↓reduceIte]
  simp only [bne_eq_false_iff_eq] at h1
  refine eloop (S := Nat) (fun i => mkE 37 [(0, .d (.sl (l.map pD))), (1, .d (.int .i64 base)), (5, .d (.int .i64 i))]) (fun i => []) (fun i => i ≤ l.length ∧ ∀ j x, l[j]? = some x → j < i → over base x = false) (fun i => l.length - i) 0 ⟨by omega, by omega⟩ (Wk.sub (by simp only [go_sem]; trivial)) ?_
  rintro i ⟨hi, hj⟩
  simp only [go_sem, Nat.reduceAdd, Nat.reduceSub, Nat.reduceLT, Nat.reduceLeDiff, Nat.reduceEqDiff, ↓reduceIte]
  have step : ∀ x, l[i]? = some x → over base x = false → ∀ j y, l[j]? = some y → j < i + 1 → over base y = false := fun x hx hb j y hy hlt => by
    rcases Nat.lt_or_ge j i with q | q
    · exact hj j y hy q
    · have : j = i := by omega
      subst this; rw [hx] at hy; cases hy; exact hb
  refine cbs (fun h2 => ?_) (fun h2 => ?_)
  · simp only [go_sem, decide_eq_true_eq] at h2 ⊢
    refine DX.plain (.take 0 false (.take 1 false (.take 2 false (.take 3 false (.take 4 false (.take 5 false (.take 6 false (.take 7 false (.take 8 false (.take 9 false (.take 10 false (.take 11 false (.take 12 false (.take 13 false (.take 14 false (.take 15 false (.take 16 false (.take 17 false (.take 18 false (.take 19 false .done)))))))))))))))))))) (by kernel_rfl) (by kernel_rfl) Ty.mixed ?_
    simp only [go_sem, Nat.reduceAdd, Nat.reduceSub, Nat.reduceLT, Nat.reduceLeDiff, Nat.reduceEqDiff, ↓reduceIte]
    refine ⟨by omega, by omega, fun x hx => ?_⟩
    have hv := valid_parts h1 x (List.mem_of_getElem? hx)
    have hr := part_range hv
    have hc := copies_ref x
    cases q : copies x with
    | true =>
      rw [q] at hc
      refine ⟨_, _, hc.lift0 _ (by simp only [go_sem]) trivial, ?_⟩
      simp only [go_sem, hx, Option.some.injEq]
      refine ⟨by omega, by omega, ?_⟩
      rintro y rfl
      refine ⟨by omega, by omega, ?_⟩
      rintro y rfl
      rw [i64_in _ (by omega)]
      have hn : 0 < x.n := by simp only [copies, decide_eq_true_eq] at q; omega
      refine cbs (fun h4 => ?_) (fun h4 => ?_)
      · simp only [go_sem, Nat.reduceAdd, Nat.reduceSub, Nat.reduceLT, Nat.reduceLeDiff, Nat.reduceEqDiff, ↓reduceIte]
        refine wk_int ?_
        simp only [decide_eq_true_eq] at h4
        have : l.any (over base) = true := List.any_eq_true.2 ⟨x, List.mem_of_getElem? hx, by simp [over, hn, h4]⟩
        simp [check, h1, this]
      · simp only [go_sem, Nat.reduceAdd, Nat.reduceSub, Nat.reduceLT, Nat.reduceLeDiff, Nat.reduceEqDiff, ↓reduceIte]
        rw [i64_in _ (by omega)]
        simp only [decide_eq_false_iff_not] at h4
        exact .mk (i + 1) ⟨by omega, step x hx (by simp [over, h4])⟩ (by omega) (Wk.sub (by simp only [go_sem]; trivial))
    | false =>
      rw [q] at hc
      refine ⟨_, _, hc.lift0 _ (by simp only [go_sem]) trivial, ?_⟩
      simp only [go_sem, Nat.reduceAdd, Nat.reduceSub, Nat.reduceLT, Nat.reduceLeDiff, Nat.reduceEqDiff, ↓reduceIte]
      rw [i64_in _ (by omega)]
      have hn : x.n = 0 := by
        have := hv.resolve_left (by simp [q])
        simp only [inserts, decide_eq_true_eq] at this; omega
      exact .mk (i + 1) ⟨by omega, step x hx (by simp [over, hn])⟩ (by omega) (Wk.sub (by simp only [go_sem]; trivial))
  · simp only [go_sem, decide_eq_false_iff_not] at h2 ⊢
    refine wk_int ?_
    have : l.any (over base) = false := by
      rw [List.any_eq_false]
      intro x hx
      obtain ⟨j, h⟩ := List.mem_iff_getElem?.1 hx
      simp [hj j x h (by have := some_lt h; omega)]
    simp [check, h1, this]
end Go.AX.De

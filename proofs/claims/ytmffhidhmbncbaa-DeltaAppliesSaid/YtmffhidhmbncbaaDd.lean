/- Deltas: costs. -/
import Derived.Test.YtmffhidhmbncbaaDc
set_option maxHeartbeats 1000000
set_option linter.unusedVariables false
set_option linter.unusedSimpArgs false
set_option maxRecDepth 20000
namespace Go.AX.De
open Go.Proofs Go.RowKit Go.IntWalk
def cost (p : Part) : Int := if copies p then 3 else 1 + p.data.length
def csum : List Part → Int
  | [] => 0
  | p :: l => cost p + csum l
theorem csum_snoc (x : Part) : ∀ l : List Part, csum (l ++ [x]) = csum l + cost x
  | [] => by simp [csum]
  | p :: l => by simp only [List.cons_append, csum, csum_snoc x l]; omega
theorem csum_take {l : List Part} {i : Nat} {x : Part} (h : l[i]? = some x) : csum (l.take (i + 1)) = csum (l.take i) + cost x := by
  rw [List.take_add_one, h]; exact csum_snoc x _
theorem cost_bd {p : Part} (h : copies p = true ∨ inserts p = true) : 0 ≤ cost p ∧ cost p ≤ 2001 := by
  unfold cost
  cases q : copies p with
  | true => simp
  | false =>
    have := h.resolve_left (by simp [q])
    simp only [inserts, decide_eq_true_eq] at this
    simp; omega
theorem csum_bd : ∀ {l : List Part}, (∀ p ∈ l, copies p = true ∨ inserts p = true) → 0 ≤ csum l ∧ csum l ≤ 2001 * l.length
  | [], _ => by simp [csum]
  | p :: l, h => by
    have h1 := cost_bd (h p (by simp))
    have h2 := csum_bd (l := l) fun q hq => h q (by simp [hq])
    simp only [csum, List.length_cons]; omega
theorem csum_bdt {l : List Part} (h : valid l = 0) (i : Nat) : 0 ≤ csum (l.take i) ∧ csum (l.take i) ≤ 402000 := by
  have h1 := csum_bd (l := l.take i) fun p hp => valid_parts h p (List.mem_of_mem_take hp)
  have h2 : l.length ≤ 200 := by
    simp only [valid] at h
    split at h
    · omega
    · omega
  have h3 : (l.take i).length ≤ 200 := by rw [List.length_take]; omega
  omega
def costs (l : List Part) : Int × Int := if valid l ≠ 0 then (0, valid l) else (csum l, 0)
theorem cost_own (l : List Part) (hl : Sm l.length) : Spec Try.prog 10 [.d (.sl (l.map pD))] [] (.tup [.d (.int .i64 (costs l).1), .d (.int .i64 (costs l).2)]) [] := by
  have hl' := hl
  unfold Sm at hl
  refine spec_of_ev (fn := Try.f10) DX_ok 3000 Try.func10 rfl rfl (Nat.le_of_ble_eq_true rfl) ?_
  simp only [Try.f10, go_sem]
  refine ecall0 _ (valid_own l hl') (by simp only [go_sem]) trivial ?_
  simp only [go_sem, Nat.reduceAdd, Nat.reduceSub, Nat.reduceLT, Nat.reduceLeDiff, Nat.reduceEqDiff, ↓reduceIte]
  refine cbs (fun h1 => ?_) (fun h1 => ?_)
  · simp only [go_sem, Nat.reduceAdd, Nat.reduceSub, Nat.reduceLT, Nat.reduceLeDiff, Nat.reduceEqDiff, ↓reduceIte]
    simp only [bne_iff_ne, ne_eq] at h1
    refine wk_eq (τ' := []) ?_ (by simp only [go_sem]) (by simp only [go_sem])
    simp [costs, h1]
  · simp only [go_sem, Nat.reduceAdd, Nat.reduceSub, Nat.reduceLT, Nat.reduceLeDiff, Nat.reduceEqDiff, ↓reduceIte]
    simp only [bne_eq_false_iff_eq] at h1
    refine eloop (S := Nat) (fun i => mkE 32 [(0, .d (.sl (l.map pD))), (5, .d (.int .i64 (csum (l.take i)))), (13, .d (.sl (l.map pD))), (14, .d (.int .i64 l.length)), (15, .d (.int .i64 i))]) (fun i => []) (fun i => i ≤ l.length) (fun i => l.length - i) 0 (by omega) (Wk.sub (by simp only [go_sem]; trivial)) ?_
    intro i hi
    simp only [go_sem, Nat.reduceAdd, Nat.reduceSub, Nat.reduceLT, Nat.reduceLeDiff, Nat.reduceEqDiff, ↓reduceIte]
    have hb := csum_bdt h1 i
    refine cbs (fun h2 => ?_) (fun h2 => ?_)
    · simp only [go_sem, decide_eq_true_eq, Nat.reduceAdd, Nat.reduceLeDiff, ↓reduceIte] at h2 ⊢
      refine ⟨by omega, fun x hx => ?_⟩
      have hv := valid_parts h1 x (List.mem_of_getElem? hx)
      have hc : cost x = if 0 < x.n then (3 : Int) else 1 + (x.data.length : Int) := by
        unfold cost
        rcases hv with q | q
        · rw [if_pos q]; simp only [copies, decide_eq_true_eq] at q; rw [if_pos (by omega)]
        · have q' := q
          simp only [inserts, decide_eq_true_eq] at q
          rw [if_neg (by simp only [copies, decide_eq_true_eq]; omega), if_neg (by omega)]
      have hcb := cost_bd hv
      have e := csum_take hx
      refine cbs (fun h3 => ?_) (fun h3 => ?_)
      · simp only [decide_eq_true_eq] at h3
        rw [if_pos h3] at hc
        simp only [go_sem, Nat.reduceAdd, Nat.reduceSub, Nat.reduceLT, Nat.reduceLeDiff, Nat.reduceEqDiff, ↓reduceIte]
        rw [i64_in _ (by omega), i64_in _ (by omega), ← hc, ← e]
        exact .mk (i + 1) (by omega) (by omega) (Wk.forget (by simp only [go_sem]; trivial) (by simp only [go_sem]))
      · simp only [decide_eq_false_iff_not] at h3
        rw [if_neg h3] at hc
        simp only [go_sem, Nat.reduceAdd, Nat.reduceSub, Nat.reduceLT, Nat.reduceLeDiff, Nat.reduceEqDiff, ↓reduceIte]
        rw [i64_in ((x.data.length : Int) + 1) (by omega), i64_in _ (by omega), i64_in _ (by omega), show csum (l.take i) + ((x.data.length : Int) + 1) = csum (l.take (i + 1)) by omega]
        exact .mk (i + 1) (by omega) (by omega) (Wk.forget (by simp only [go_sem]; trivial) (by simp only [go_sem]))
    · simp only [go_sem, Nat.reduceAdd, Nat.reduceSub, Nat.reduceLT, Nat.reduceLeDiff, Nat.reduceEqDiff, ↓reduceIte]
      simp only [decide_eq_false_iff_not] at h2
      refine wk_eq (τ' := []) ?_ (by simp only [go_sem]) (by simp only [go_sem])
      rw [List.take_of_length_le (by omega)]
      simp [costs, h1]
theorem cost_ref (l : List Part) (hl : Sm l.length) : Spec Try.prog 11 [.d (.sl (l.map pD))] [] (.tup [.d (.int .i64 (costs l).1), .d (.int .i64 (costs l).2)]) [] := by
  have hl' := hl
  unfold Sm at hl
  refine spec_of_ev (fn := Try.f11) DX_ok 3000 Try.func11 rfl rfl (Nat.le_of_ble_eq_true rfl) ?_
  simp only [Try.f11, go_sem]
  refine ecall0 _ (valid_ref l hl') (by simp only [go_sem]) trivial ?_
  simp only [go_sem, Nat.reduceAdd, Nat.reduceSub, Nat.reduceLT, Nat.reduceLeDiff, Nat.reduceEqDiff, ↓reduceIte]
  refine cbs (fun h1 => ?_) (fun h1 => ?_)
  · simp only [go_sem, Nat.reduceAdd, Nat.reduceSub, Nat.reduceLT, Nat.reduceLeDiff, Nat.reduceEqDiff, ↓reduceIte]
    refine ecall0 _ (valid_ref l hl') (by simp only [go_sem]) trivial ?_
    simp only [go_sem, Nat.reduceAdd, Nat.reduceSub, Nat.reduceLT, Nat.reduceLeDiff, Nat.reduceEqDiff, ↓reduceIte]
    simp only [bne_iff_ne, ne_eq] at h1
    refine wk_eq (τ' := []) ?_ (by simp only [go_sem]) (by simp only [go_sem])
    simp [costs, h1]
  · simp only [go_sem, Nat.reduceAdd, Nat.reduceSub, Nat.reduceLT, Nat.reduceLeDiff, Nat.reduceEqDiff, ↓reduceIte]
    simp only [bne_eq_false_iff_eq] at h1
    refine eloop (S := Nat) (fun i => mkE 34 [(0, .d (.sl (l.map pD))), (4, .d (.int .i64 (csum (l.take i)))), (5, .d (.int .i64 i))]) (fun i => []) (fun i => i ≤ l.length) (fun i => l.length - i) 0 (by omega) (Wk.sub (by simp only [go_sem]; trivial)) ?_
    intro i hi
    simp only [go_sem, Nat.reduceAdd, Nat.reduceSub, Nat.reduceLT, Nat.reduceLeDiff, Nat.reduceEqDiff, ↓reduceIte]
    have hb := csum_bdt h1 i
    refine cbs (fun h2 => ?_) (fun h2 => ?_)
    · simp only [go_sem, decide_eq_true_eq, Nat.reduceAdd, Nat.reduceLeDiff, ↓reduceIte] at h2 ⊢
      refine ⟨by omega, fun x hx => ?_⟩
      have hv := valid_parts h1 x (List.mem_of_getElem? hx)
      have hcb := cost_bd hv
      have e := csum_take hx
      refine ecall0 _ (copies_ref x) (by simp only [go_sem]) trivial ?_
      simp only [go_sem, Nat.reduceAdd, Nat.reduceSub, Nat.reduceLT, Nat.reduceLeDiff, Nat.reduceEqDiff, ↓reduceIte]
      refine cbs (fun h3 => ?_) (fun h3 => ?_)
      · have hc : cost x = 3 := by simp [cost, h3]
        simp only [go_sem, Nat.reduceAdd, Nat.reduceSub, Nat.reduceLT, Nat.reduceLeDiff, Nat.reduceEqDiff, ↓reduceIte]
        rw [i64_in _ (by omega), i64_in _ (by omega), ← hc, ← e]
        exact .mk (i + 1) (by omega) (by omega) (Wk.sub (by simp only [go_sem]; trivial))
      · have hc : cost x = 1 + x.data.length := by simp [cost, h3]
        simp only [go_sem, hx, Option.some.injEq]
        refine ⟨by omega, ?_⟩
        rintro y rfl
        rw [i64_in (1 + (x.data.length : Int)) (by omega), i64_in _ (by omega), i64_in _ (by omega), show csum (l.take i) + (1 + (x.data.length : Int)) = csum (l.take (i + 1)) by omega]
        exact .mk (i + 1) (by omega) (by omega) (Wk.sub (by simp only [go_sem]; trivial))
    · simp only [go_sem, Nat.reduceAdd, Nat.reduceSub, Nat.reduceLT, Nat.reduceLeDiff, Nat.reduceEqDiff, ↓reduceIte]
      simp only [decide_eq_false_iff_not] at h2
      refine wk_eq (τ' := []) ?_ (by simp only [go_sem]) (by simp only [go_sem])
      rw [List.take_of_length_le (by omega)]
      simp [costs, h1]
end Go.AX.De

/- Deltas: what the program's Apply gives. -/
import Derived.Test.YtmffhidhmbncbaaDe
set_option maxHeartbeats 1000000
set_option linter.unusedVariables false
set_option linter.unusedSimpArgs false
set_option maxRecDepth 20000
namespace Go.AX.De
open Go.Proofs Go.RowKit Go.IntWalk
theorem apply_own (base : List Int) (l : List Part) (hb : Sm base.length) (hl : Sm l.length) : Spec Try.prog 12 [.d (.sl (base.map bI)), .d (.sl (l.map pD))] [] (.tup [.own 0, .d (.int .i64 (applied base l).2)]) [.row 1 ((applied base l).1.map bI)] := by
  have hl' := hl
  unfold Sm at hl hb
  refine spec_of_ev (fn := Try.f12) DX_ok 3000 Try.func12 rfl rfl (Nat.le_of_ble_eq_true rfl) ?_
  simp only [Try.f12, go_sem]
  refine cbs (fun h0 => ?_) (fun h0 => ?_)
  · simp only [go_sem, Nat.reduceAdd, Nat.reduceSub, Nat.reduceLT, Nat.reduceLeDiff, Nat.reduceEqDiff, ↓reduceIte]
    simp only [decide_eq_true_eq] at h0
    have : applied base l = ([], 4) := by simp only [applied]; rw [if_pos (by omega)]
    rw [this]
    exact wk_tup_nil 1 rfl
  simp only [go_sem, Nat.reduceAdd, Nat.reduceSub, Nat.reduceLT, Nat.reduceLeDiff, Nat.reduceEqDiff, ↓reduceIte]
  simp only [decide_eq_false_iff_not] at h0
  refine ecall0 _ (check_own l _ hl') (by simp only [go_sem]) trivial ?_
  simp only [go_sem, Nat.reduceAdd, Nat.reduceSub, Nat.reduceLT, Nat.reduceLeDiff, Nat.reduceEqDiff, ↓reduceIte]
  refine cbs (fun h1 => ?_) (fun h1 => ?_)
  · simp only [go_sem, Nat.reduceAdd, Nat.reduceSub, Nat.reduceLT, Nat.reduceLeDiff, Nat.reduceEqDiff, ↓reduceIte]
    simp only [bne_iff_ne, ne_eq] at h1
    have : applied base l = ([], check l base.length) := by simp only [applied]; rw [if_neg (by omega), if_pos h1]
    rw [this]
    exact wk_tup_nil 1 rfl
  simp only [go_sem, Nat.reduceAdd, Nat.reduceSub, Nat.reduceLT, Nat.reduceLeDiff, Nat.reduceEqDiff, ↓reduceIte]
  simp only [bne_eq_false_iff_eq] at h1
  have hv := check_valid h1
  have hf := check_fits h1
  have e0 : applied base l = if 2000 < (outs base l).length then ([], 4) else (outs base l, 0) := by
    simp only [applied]; rw [if_neg (by omega)]; simp [h1]
  refine eloop (S := Nat) (fun i => mkE 45 [(0, .d (.sl (base.map bI))), (1, .d (.sl (l.map pD))), (7, .own 0), (20, .d (.sl (l.map pD))), (21, .d (.int .i64 l.length)), (22, .d (.int .i64 i))]) (fun i => [.row 1 ((outs base (l.take i)).map bI)]) (fun i => i ≤ l.length ∧ (outs base (l.take i)).length ≤ 2000) (fun i => l.length - i) 0 ⟨by omega, by simp [outs]⟩ ?_ ?_
  · refine Wk.trans (Wk.nil 7 1 (by simp only [go_sem])) ?_
    simp only [go_sem, Nat.reduceAdd, Nat.reduceSub, Nat.reduceLT, Nat.reduceLeDiff, Nat.reduceEqDiff, ↓reduceIte]
    exact Wk.sub (by simp only [go_sem]; trivial)
  rintro i ⟨hi, ho⟩
  simp only [go_sem, Nat.reduceAdd, Nat.reduceSub, Nat.reduceLT, Nat.reduceLeDiff, Nat.reduceEqDiff, ↓reduceIte]
  refine cbs (fun h2 => ?_) (fun h2 => ?_)
  · simp only [decide_eq_true_eq] at h2
    simp only [go_sem, Nat.reduceAdd, Nat.reduceSub, Nat.reduceLT, Nat.reduceLeDiff, Nat.reduceEqDiff, ↓reduceIte]
    refine ⟨by omega, fun x hx => ?_⟩
    have hx' := List.mem_of_getElem? hx
    have hr := part_range (valid_parts hv x hx')
    have hfx := hf x hx'
    refine DX.plain (.take 0 false (.take 1 false (.take 2 false (.take 3 false (.take 4 false (.take 5 false (.take 6 false (.take 7 false (.take 8 false (.take 9 false (.take 11 true (.take 12 true (.run [10] (fun _ => [true, true]) fun _ => (.run [13] (fun _ => [false, false]) fun _ => (.take 14 false .done))))))))))))))) (by kernel_rfl) (by kernel_rfl) Ty.mixed ?_
    simp only [go_sem, Nat.reduceAdd, Nat.reduceSub, Nat.reduceLT, Nat.reduceLeDiff, Nat.reduceEqDiff, ↓reduceIte]
    have hn : x.at' + x.n ≤ base.length := by
      rcases valid_parts hv x hx' with q | q
      · simp only [copies, decide_eq_true_eq] at q; omega
      · simp only [inserts, decide_eq_true_eq] at q; omega
    have e : put base x = (base.take (x.at' + x.n).toNat).drop x.at'.toNat ++ x.data := by
      rcases valid_parts hv x hx' with q | q
      · simp only [put, q, if_true]
        simp only [copies, decide_eq_true_eq] at q
        rw [List.eq_nil_of_length_eq_zero q.2.2.2.2, List.append_nil, List.drop_take]
        congr 1; omega
      · have q' := q
        simp only [inserts, decide_eq_true_eq] at q
        have hc : copies x = false := by simp only [copies, decide_eq_false_iff_not]; omega
        simp [put, hc, q.1, q.2.1]
    have hd : x.data.length ≤ 2000 := by
      rcases valid_parts hv x hx' with q | q
      · simp only [copies, decide_eq_true_eq] at q; omega
      · simp only [inserts, decide_eq_true_eq] at q; omega
    rw [i64_in (x.at' + x.n) (by omega), List.append_assoc, ← e, ← outs_take hx]
    have hs : ((base.take (x.at' + x.n).toNat).drop x.at'.toNat).length ≤ 2000 := by simp; omega
    have hle := outs_le base l (i + 1)
    refine ⟨⟨by omega, by omega, by omega⟩, ⟨by omega, by omega⟩, ⟨by rw [List.length_append]; omega, by rw [List.length_append]; omega⟩, ?_⟩
    refine cbs (fun h3 => ?_) (fun h3 => ?_)
    · simp only [go_sem, Nat.reduceAdd, Nat.reduceSub, Nat.reduceLT, Nat.reduceLeDiff, Nat.reduceEqDiff, ↓reduceIte]
      simp only [decide_eq_true_eq] at h3
      have : applied base l = ([], 4) := by rw [e0, if_pos (by omega)]
      rw [this]
      exact wk_tup_nil 1 rfl
    · simp only [go_sem, Nat.reduceAdd, Nat.reduceSub, Nat.reduceLT, Nat.reduceLeDiff, Nat.reduceEqDiff, ↓reduceIte]
      simp only [decide_eq_false_iff_not] at h3
      rw [i64_in _ (by omega)]
      exact .mk (i + 1) ⟨by omega, by omega⟩ (by omega) (Wk.via1 3 (by simp only [go_sem, ↓reduceIte]; trivial) (by simp only [go_sem, Nat.reduceAdd, Nat.reduceSub, Nat.reduceLT, Nat.reduceLeDiff, Nat.reduceEqDiff, ↓reduceIte]) (by simp) (by simp only [go_sem]) (by trivial))
  · simp only [go_sem, Nat.reduceAdd, Nat.reduceSub, Nat.reduceLT, Nat.reduceLeDiff, Nat.reduceEqDiff, ↓reduceIte]
    simp only [decide_eq_false_iff_not] at h2
    rw [List.take_of_length_le (by omega)] at ho
    have : applied base l = (outs base l, 0) := by rw [e0, if_neg (by omega)]
    rw [this, List.take_of_length_le (by omega)]
    exact Wk.refl _ _ _
end Go.AX.De

/- Branches: Cut, both sides. -/
import Derived.Test.YtebkafjebnjcoaaBt
set_option maxHeartbeats 8000000
set_option linter.unusedVariables false
set_option linter.unusedSimpArgs false
set_option maxRecDepth 20000
namespace Go.AX.Br
open Go.Proofs Go.RowKit Go.IntWalk
def cutR (l : List Br) (cs : List Int) (frm nm : ByteArray) (at' : Int) : List Br × Int :=
  if (viewR l cs frm).2 ≠ 0 then ([], (viewR l cs frm).2) else if at' < 0 ∨ ((viewR l cs frm).1.length : Int) < at' then ([], 2)
  else if check (l ++ [⟨nm, frm, at'⟩]) ≠ 0 then ([], check (l ++ [⟨nm, frm, at'⟩])) else (l ++ [⟨nm, frm, at'⟩], 0)
theorem viewR_ok {l : List Br} {cs : List Int} {nm : ByteArray} (h : (viewR l cs nm).2 = 0) : fits l cs = 0 ∧ 0 ≤ idx (has nm) l := by
  simp only [viewR] at h
  split at h
  · next h1 => exact absurd h h1
  · next h1 =>
    split at h
    · simp at h
    · omega
theorem cut_own (l : List Br) (cs : List Int) (frm nm : ByteArray) (at' : Int) (hl : Sm l.length) (hc : Sm cs.length) : Spec Try.prog 23 [.d (.sl (l.map bD)), .d (.sl (cs.map iD)), .d (.str frm), .d (.str nm), .d (.int .i64 at')] [] (.tup [.d (.sl ((cutR l cs frm nm at').1.map bD)), .d (.int .i64 (cutR l cs frm nm at').2)]) [] := by
  have vx := View_own l cs frm hl hc
  have vl := viewR_len l cs frm
  obtain ⟨R, hR⟩ : ∃ R, R = cutR l cs frm nm at' := ⟨_, rfl⟩
  rw [← hR]
  unfold cutR at hR
  have ok := viewR_ok (l := l) (cs := cs) (nm := frm)
  generalize viewR l cs frm = V at *
  obtain ⟨v, e⟩ := V
  simp only at hR vx vl ok
  refine spec_of_ev (fn := Try.f23) DX_ok 3000 Try.func23 rfl rfl (Nat.le_of_ble_eq_true rfl) ?_
  simp (maxSteps := 4000000) only [Try.f23, go_sem]
  refine ecallN _ _ vx (by simp only [go_sem]) ?_
  by_cases h1 : e = 0
  case neg =>
    have d1 : (e != 0) = true := by simp [h1]
    rw [if_pos h1] at hR
    simp (maxSteps := 4000000) only [go_sem, d1, Option.some.injEq, forall_eq', and_true, true_and, Bool.not_true, Bool.not_false, decide_true, Nat.reduceAdd, Nat.reduceSub, Nat.reduceLT, Nat.reduceLeDiff, Nat.reduceEqDiff, ↓reduceIte]
    rw [hR]
    exact wk_dat (r' := .tup [.d (.sl []), .d (.int .i64 e)]) (by simp only [go_sem]; rfl) rfl (by simp only [go_sem])
  have d1 : (e != 0) = false := by simp [h1]
  have g := good_of (ok h1).1
  have hl8 := g.ok.len
  rw [if_neg (by omega)] at hR
  rcases Int.lt_or_le at' 0 with h2 | h2
  · have d2 := decide_eq_true h2
    rw [if_pos (.inl h2)] at hR
    simp (maxSteps := 4000000) only [go_sem, d1, d2, Option.some.injEq, forall_eq', and_true, true_and, Bool.not_true, Bool.not_false, decide_true, Nat.reduceAdd, Nat.reduceSub, Nat.reduceLT, Nat.reduceLeDiff, Nat.reduceEqDiff, ↓reduceIte]
    rw [hR]
    exact wk_dat (r' := .tup [.d (.sl []), .d (.int .i64 2)]) (by simp only [go_sem]; rfl) rfl (by simp only [go_sem])
  have d2 := decide_eq_false (Int.not_lt.2 h2)
  rcases Int.lt_or_le v.length at' with h3 | h3
  · have d3 := decide_eq_true h3
    rw [if_pos (.inr h3)] at hR
    simp (maxSteps := 4000000) only [go_sem, d1, d2, d3, Option.some.injEq, forall_eq', and_true, true_and, Bool.not_true, Bool.not_false, decide_true, Nat.reduceAdd, Nat.reduceSub, Nat.reduceLT, Nat.reduceLeDiff, Nat.reduceEqDiff, ↓reduceIte]
    rw [hR]
    exact wk_dat (r' := .tup [.d (.sl []), .d (.int .i64 2)]) (by simp only [go_sem]; rfl) rfl (by simp only [go_sem])
  have d3 := decide_eq_false (Int.not_lt.2 h3)
  rw [if_neg (by omega)] at hR
  simp (maxSteps := 4000000) only [go_sem, d1, d2, d3, Option.some.injEq, forall_eq', and_true, true_and, Bool.not_true, Bool.not_false, decide_true, Nat.reduceAdd, Nat.reduceSub, Nat.reduceLT, Nat.reduceLeDiff, Nat.reduceEqDiff, ↓reduceIte]
  refine ecallN _ _ (clone_br l (by omega)) (by simp only [go_sem]) ?_
  simp (maxSteps := 4000000) only [go_sem, Nat.reduceAdd, Nat.reduceSub, Nat.reduceLT, Nat.reduceLeDiff, Nat.reduceEqDiff, ↓reduceIte]
  refine ⟨by omega, ⟨by simp, by omega, by omega⟩, ?_⟩
  have ea : l.map bD ++ [[D.str nm, D.str frm, D.int .i64 at']] = (l ++ [(⟨nm, frm, at'⟩ : Br)]).map bD := by simp [bD]
  rw [ea]
  obtain ⟨t, ht⟩ : ∃ t, t = l ++ [(⟨nm, frm, at'⟩ : Br)] := ⟨_, rfl⟩
  rw [← ht] at hR ⊢
  have htl : t.length ≤ 9 := by rw [ht, List.length_append]; simp; omega
  refine ECall.frz 3 rfl ?_
  simp (maxSteps := 4000000) only [go_sem, Nat.reduceAdd, Nat.reduceSub, Nat.reduceLT, Nat.reduceLeDiff, Nat.reduceEqDiff, ↓reduceIte]
  refine ecall0 _ (check_own t (by unfold Sm; omega)) (by simp only [go_sem]) (by simp only [go_sem]) ?_
  simp (maxSteps := 4000000) only [go_sem, Nat.reduceAdd, Nat.reduceSub, Nat.reduceLT, Nat.reduceLeDiff, Nat.reduceEqDiff, ↓reduceIte]
  by_cases h4 : check t = 0
  · have d4 : (check t != 0) = false := by simp [h4]
    rw [if_neg (by omega)] at hR
    simp (maxSteps := 4000000) only [go_sem, d4, Option.some.injEq, forall_eq', and_true, true_and, Bool.not_true, Bool.not_false, decide_true, Nat.reduceAdd, Nat.reduceSub, Nat.reduceLT, Nat.reduceLeDiff, Nat.reduceEqDiff, ↓reduceIte]
    rw [hR]
    exact wk_dat (r' := .tup [.d (.sl (t.map bD)), .d (.int .i64 0)]) (by simp only [go_sem]; rfl) rfl (by simp only [go_sem])
  · have d4 : (check t != 0) = true := by simp [h4]
    rw [if_pos h4] at hR
    simp (maxSteps := 4000000) only [go_sem, d4, Option.some.injEq, forall_eq', and_true, true_and, Bool.not_true, Bool.not_false, decide_true, Nat.reduceAdd, Nat.reduceSub, Nat.reduceLT, Nat.reduceLeDiff, Nat.reduceEqDiff, ↓reduceIte]
    rw [hR]
    exact wk_dat (r' := .tup [.d (.sl []), .d (.int .i64 (check t))]) (by simp only [go_sem]; rfl) rfl (by simp only [go_sem])
theorem cut_ref (l : List Br) (cs : List Int) (frm nm : ByteArray) (at' : Int) (hl : Sm l.length) (hc : Sm cs.length) : Spec Try.prog 25 [.d (.sl (l.map bD)), .d (.sl (cs.map iD)), .d (.str frm), .d (.str nm), .d (.int .i64 at')] [] (.tup [.d (.sl ((cutR l cs frm nm at').1.map bD)), .d (.int .i64 (cutR l cs frm nm at').2)]) [] := by
  have vx := View_ref l cs frm hl hc
  have vl := viewR_len l cs frm
  obtain ⟨R, hR⟩ : ∃ R, R = cutR l cs frm nm at' := ⟨_, rfl⟩
  rw [← hR]
  unfold cutR at hR
  have ok := viewR_ok (l := l) (cs := cs) (nm := frm)
  generalize viewR l cs frm = V at *
  obtain ⟨v, e⟩ := V
  simp only at hR vx vl ok
  refine spec_of_ev (fn := Try.f25) DX_ok 3000 Try.func25 rfl rfl (Nat.le_of_ble_eq_true rfl) ?_
  simp (maxSteps := 4000000) only [Try.f25, go_sem]
  refine ecall0 _ vx (by simp only [go_sem]) (by simp only [go_sem]) ?_
  by_cases h1 : e = 0
  case neg =>
    have d1 : (e != 0) = true := by simp [h1]
    rw [if_pos h1] at hR
    simp (maxSteps := 4000000) only [go_sem, d1, Option.some.injEq, forall_eq', and_true, true_and, Bool.not_true, Bool.not_false, decide_true, Nat.reduceAdd, Nat.reduceSub, Nat.reduceLT, Nat.reduceLeDiff, Nat.reduceEqDiff, ↓reduceIte]
    rw [hR]
    exact wk_dat (r' := .tup [.d (.sl []), .d (.int .i64 e)]) (by simp only [go_sem]; rfl) rfl (by simp only [go_sem])
  have d1 : (e != 0) = false := by simp [h1]
  have g := good_of (ok h1).1
  have hl8 := g.ok.len
  rw [if_neg (by omega)] at hR
  rcases Int.lt_or_le at' 0 with h2 | h2
  · have d2 := decide_eq_true h2
    rw [if_pos (.inl h2)] at hR
    simp (maxSteps := 4000000) only [go_sem, d1, d2, Option.some.injEq, forall_eq', and_true, true_and, Bool.not_true, Bool.not_false, decide_true, Nat.reduceAdd, Nat.reduceSub, Nat.reduceLT, Nat.reduceLeDiff, Nat.reduceEqDiff, ↓reduceIte]
    rw [hR]
    exact wk_dat (r' := .tup [.d (.sl []), .d (.int .i64 2)]) (by simp only [go_sem]; rfl) rfl (by simp only [go_sem])
  have d2 := decide_eq_false (Int.not_lt.2 h2)
  rcases Int.lt_or_le v.length at' with h3 | h3
  · have d3 := decide_eq_true h3
    rw [if_pos (.inr h3)] at hR
    simp (maxSteps := 4000000) only [go_sem, d1, d2, d3, Option.some.injEq, forall_eq', and_true, true_and, Bool.not_true, Bool.not_false, decide_true, Nat.reduceAdd, Nat.reduceSub, Nat.reduceLT, Nat.reduceLeDiff, Nat.reduceEqDiff, ↓reduceIte]
    rw [hR]
    exact wk_dat (r' := .tup [.d (.sl []), .d (.int .i64 2)]) (by simp only [go_sem]; rfl) rfl (by simp only [go_sem])
  have d3 := decide_eq_false (Int.not_lt.2 h3)
  rw [if_neg (by omega)] at hR
  simp (maxSteps := 4000000) only [go_sem, d1, d2, d3, Option.some.injEq, forall_eq', and_true, true_and, Bool.not_true, Bool.not_false, decide_true, Nat.reduceAdd, Nat.reduceSub, Nat.reduceLT, Nat.reduceLeDiff, Nat.reduceEqDiff, ↓reduceIte]
  refine ⟨by omega, ⟨by omega, by omega⟩, by omega, ⟨by simp, by omega, by omega⟩, ?_⟩
  have ea : l.map bD ++ [[D.str nm, D.str frm, D.int .i64 at']] = (l ++ [(⟨nm, frm, at'⟩ : Br)]).map bD := by simp [bD]
  rw [ea]
  obtain ⟨t, ht⟩ : ∃ t, t = l ++ [(⟨nm, frm, at'⟩ : Br)] := ⟨_, rfl⟩
  rw [← ht] at hR ⊢
  have htl : t.length ≤ 9 := by rw [ht, List.length_append]; simp; omega
  refine ECall.frz 3 rfl ?_
  simp (maxSteps := 4000000) only [go_sem, Nat.reduceAdd, Nat.reduceSub, Nat.reduceLT, Nat.reduceLeDiff, Nat.reduceEqDiff, ↓reduceIte]
  refine ecall0 _ (check_ref t (by unfold Sm; omega)) (by simp only [go_sem]) (by simp only [go_sem]) ?_
  simp (maxSteps := 4000000) only [go_sem, Nat.reduceAdd, Nat.reduceSub, Nat.reduceLT, Nat.reduceLeDiff, Nat.reduceEqDiff, ↓reduceIte]
  by_cases h4 : check t = 0
  · have d4 : (check t != 0) = false := by simp [h4]
    rw [if_neg (by omega)] at hR
    simp (maxSteps := 4000000) only [go_sem, d4, Option.some.injEq, forall_eq', and_true, true_and, Bool.not_true, Bool.not_false, decide_true, Nat.reduceAdd, Nat.reduceSub, Nat.reduceLT, Nat.reduceLeDiff, Nat.reduceEqDiff, ↓reduceIte]
    rw [hR]
    exact wk_dat (r' := .tup [.d (.sl (t.map bD)), .d (.int .i64 0)]) (by simp only [go_sem]; rfl) rfl (by simp only [go_sem])
  · have d4 : (check t != 0) = true := by simp [h4]
    rw [if_pos h4] at hR
    simp (maxSteps := 4000000) only [go_sem, d4, Option.some.injEq, forall_eq', and_true, true_and, Bool.not_true, Bool.not_false, decide_true, Nat.reduceAdd, Nat.reduceSub, Nat.reduceLT, Nat.reduceLeDiff, Nat.reduceEqDiff, ↓reduceIte]
    refine ecall0 _ (check_ref t (by unfold Sm; omega)) (by simp only [go_sem]) (by simp only [go_sem]) ?_
    simp (maxSteps := 4000000) only [go_sem, Nat.reduceAdd, Nat.reduceSub, Nat.reduceLT, Nat.reduceLeDiff, Nat.reduceEqDiff, ↓reduceIte]
    rw [hR]
    exact wk_dat (r' := .tup [.d (.sl []), .d (.int .i64 (check t))]) (by simp only [go_sem]; rfl) rfl (by simp only [go_sem])
end Go.AX.Br

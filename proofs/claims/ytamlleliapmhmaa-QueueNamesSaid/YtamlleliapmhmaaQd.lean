/- Queues: Ask, Head, Settle and Line, both sides. -/
import Derived.Test.YtamlleliapmhmaaQc
set_option maxHeartbeats 8000000
set_option linter.unusedVariables false
set_option linter.unusedSimpArgs false
set_option maxRecDepth 20000
namespace Go.AX.Qu
open Go.Proofs Go.RowKit Go.IntWalk Go.AX.Br
def askR (q : List Rq) (b c : ByteArray) (o : Bool) : List Rq × Int := if qcheck q ≠ 0 then ([], qcheck q) else if qcheck (q ++ [⟨b, c, 1, o, 0⟩]) ≠ 0 then ([], qcheck (q ++ [⟨b, c, 1, o, 0⟩])) else (q ++ [⟨b, c, 1, o, 0⟩], 0)
def headR (q : List Rq) (b : ByteArray) : Int × Int := if qcheck q ≠ 0 then (0, qcheck q) else if idx (isHead b) q < 0 then (0, 6) else (idx (isHead b) q, 0)
def setSt (r : Rq) (s : Int) : Rq := ⟨r.br, r.ch, s, r.ov, r.tr⟩
def settleR (q : List Rq) (b : ByteArray) (s : Int) : List Rq × Int := if qcheck q ≠ 0 then ([], qcheck q) else if s < 5 ∨ 7 < s then ([], 2) else if idx (isHead b) q < 0 then ([], 6) else (q.modify (idx (isHead b) q).toNat fun r => setSt r s, 0)
def inLine (b : ByteArray) (r : Rq) : Bool := decide (r.br = b) && opn r
def lineL (q : List Rq) (b : ByteArray) : Nat → List Int
  | 0 => []
  | n + 1 => lineL q b n ++ if (q[n]?.map (inLine b)).getD false then [(n : Int)] else []
def qlineR (q : List Rq) (b : ByteArray) : List Int × Int := if qcheck q ≠ 0 then ([], qcheck q) else (lineL q b q.length, 0)
theorem qcheck_len {q : List Rq} (h : qcheck q = 0) : q.length ≤ 30 := by
  simp only [qcheck] at h
  split at h
  · omega
  · omega
theorem lineL_len (q : List Rq) (b : ByteArray) : ∀ n, (lineL q b n).length ≤ n
  | 0 => Nat.le_refl _
  | n + 1 => by
    have := lineL_len q b n
    simp only [lineL, List.length_append]
    split <;> simp <;> omega
theorem ask_own (q : List Rq) (b c : ByteArray) (o : Bool) (hq : Sm q.length) : Spec Try.prog 12 [.d (.sl (q.map rD)), .d (.str b), .d (.str c), .d (.bool o)] [] (.tup [.d (.sl ((askR q b c o).1.map rD)), .d (.int .i64 (askR q b c o).2)]) [] := by
  obtain ⟨R, hR⟩ : ∃ R, R = askR q b c o := ⟨_, rfl⟩
  rw [← hR]
  unfold askR at hR
  refine spec_of_ev (fn := Try.f12) DX_ok 3000 Try.func12 rfl rfl (Nat.le_of_ble_eq_true rfl) ?_
  simp (maxSteps := 4000000) -implicitDefEqProofs only [Try.f12, go_sem]
  refine ecall0 _ (qcheck_own q hq) (by simp only [go_sem]) (by simp only [go_sem]) ?_
  simp (maxSteps := 4000000) -implicitDefEqProofs only [go_sem, Nat.reduceAdd, Nat.reduceSub, Nat.reduceLT, Nat.reduceLeDiff, Nat.reduceEqDiff, ↓reduceIte]
  by_cases h1 : qcheck q = 0
  case neg =>
    have d1 : (qcheck q != 0) = true := by simp [h1]
    rw [if_pos h1] at hR
    simp (maxSteps := 4000000) -implicitDefEqProofs only [go_sem, d1, Option.some.injEq, forall_eq', and_true, true_and, Bool.not_true, Bool.not_false, decide_true, Nat.reduceAdd, Nat.reduceSub, Nat.reduceLT, Nat.reduceLeDiff, Nat.reduceEqDiff, ↓reduceIte]
    rw [hR]
    exact wk_dat (r' := .tup [.d (.sl []), .d (.int .i64 (qcheck q))]) (by simp only [go_sem]; rfl) rfl (by simp only [go_sem])
  have d1 : (qcheck q != 0) = false := by simp [h1]
  have hl := qcheck_len h1
  rw [if_neg (by omega)] at hR
  simp (maxSteps := 4000000) -implicitDefEqProofs only [go_sem, d1, Option.some.injEq, forall_eq', and_true, true_and, Bool.not_true, Bool.not_false, decide_true, Nat.reduceAdd, Nat.reduceSub, Nat.reduceLT, Nat.reduceLeDiff, Nat.reduceEqDiff, ↓reduceIte]
  refine ecallN _ _ (clone_rq q (by omega)) (by simp only [go_sem]) ?_
  simp (maxSteps := 4000000) -implicitDefEqProofs only [go_sem, Nat.reduceAdd, Nat.reduceSub, Nat.reduceLT, Nat.reduceLeDiff, Nat.reduceEqDiff, ↓reduceIte]
  refine ⟨by omega, ⟨by simp, by omega, by omega⟩, ?_⟩
  have ea : q.map rD ++ [[D.str b, D.str c, D.int .u8 1, D.bool o, D.int .i64 0]] = (q ++ [(⟨b, c, 1, o, 0⟩ : Rq)]).map rD := by simp [rD]
  rw [ea]
  obtain ⟨t, ht⟩ : ∃ t, t = q ++ [(⟨b, c, 1, o, 0⟩ : Rq)] := ⟨_, rfl⟩
  rw [← ht] at hR ⊢
  have htl : t.length ≤ 31 := by rw [ht, List.length_append]; simp; omega
  refine ECall.frz 2 rfl ?_
  simp (maxSteps := 4000000) -implicitDefEqProofs only [go_sem, Nat.reduceAdd, Nat.reduceSub, Nat.reduceLT, Nat.reduceLeDiff, Nat.reduceEqDiff, ↓reduceIte]
  refine ecall0 _ (qcheck_own t (by unfold Sm; omega)) (by simp only [go_sem]) (by simp only [go_sem]) ?_
  simp (maxSteps := 4000000) -implicitDefEqProofs only [go_sem, Nat.reduceAdd, Nat.reduceSub, Nat.reduceLT, Nat.reduceLeDiff, Nat.reduceEqDiff, ↓reduceIte]
  by_cases h4 : qcheck t = 0
  · have d4 : (qcheck t != 0) = false := by simp [h4]
    rw [if_neg (by omega)] at hR
    simp (maxSteps := 4000000) -implicitDefEqProofs only [go_sem, d4, Option.some.injEq, forall_eq', and_true, true_and, Bool.not_true, Bool.not_false, decide_true, Nat.reduceAdd, Nat.reduceSub, Nat.reduceLT, Nat.reduceLeDiff, Nat.reduceEqDiff, ↓reduceIte]
    rw [hR]
    exact wk_dat (r' := .tup [.d (.sl (t.map rD)), .d (.int .i64 0)]) (by simp only [go_sem]; rfl) rfl (by simp only [go_sem])
  · have d4 : (qcheck t != 0) = true := by simp [h4]
    rw [if_pos h4] at hR
    simp (maxSteps := 4000000) -implicitDefEqProofs only [go_sem, d4, Option.some.injEq, forall_eq', and_true, true_and, Bool.not_true, Bool.not_false, decide_true, Nat.reduceAdd, Nat.reduceSub, Nat.reduceLT, Nat.reduceLeDiff, Nat.reduceEqDiff, ↓reduceIte]
    rw [hR]
    exact wk_dat (r' := .tup [.d (.sl []), .d (.int .i64 (qcheck t))]) (by simp only [go_sem]; rfl) rfl (by simp only [go_sem])
theorem ask_ref (q : List Rq) (b c : ByteArray) (o : Bool) (hq : Sm q.length) : Spec Try.prog 13 [.d (.sl (q.map rD)), .d (.str b), .d (.str c), .d (.bool o)] [] (.tup [.d (.sl ((askR q b c o).1.map rD)), .d (.int .i64 (askR q b c o).2)]) [] := by
  obtain ⟨R, hR⟩ : ∃ R, R = askR q b c o := ⟨_, rfl⟩
  rw [← hR]
  unfold askR at hR
  refine spec_of_ev (fn := Try.f13) DX_ok 3000 Try.func13 rfl rfl (Nat.le_of_ble_eq_true rfl) ?_
  simp (maxSteps := 4000000) -implicitDefEqProofs only [Try.f13, go_sem]
  refine ecall0 _ (qcheck_ref q hq) (by simp only [go_sem]) (by simp only [go_sem]) ?_
  simp (maxSteps := 4000000) -implicitDefEqProofs only [go_sem, Nat.reduceAdd, Nat.reduceSub, Nat.reduceLT, Nat.reduceLeDiff, Nat.reduceEqDiff, ↓reduceIte]
  by_cases h1 : qcheck q = 0
  case neg =>
    have d1 : (qcheck q != 0) = true := by simp [h1]
    rw [if_pos h1] at hR
    simp (maxSteps := 4000000) -implicitDefEqProofs only [go_sem, d1, Option.some.injEq, forall_eq', and_true, true_and, Bool.not_true, Bool.not_false, decide_true, Nat.reduceAdd, Nat.reduceSub, Nat.reduceLT, Nat.reduceLeDiff, Nat.reduceEqDiff, ↓reduceIte]
    refine ecall0 _ (qcheck_ref q hq) (by simp only [go_sem]) (by simp only [go_sem]) ?_
    simp (maxSteps := 4000000) -implicitDefEqProofs only [go_sem, Nat.reduceAdd, Nat.reduceSub, Nat.reduceLT, Nat.reduceLeDiff, Nat.reduceEqDiff, ↓reduceIte]
    rw [hR]
    exact wk_dat (r' := .tup [.d (.sl []), .d (.int .i64 (qcheck q))]) (by simp only [go_sem]; rfl) rfl (by simp only [go_sem])
  have d1 : (qcheck q != 0) = false := by simp [h1]
  have hl := qcheck_len h1
  rw [if_neg (by omega)] at hR
  simp (maxSteps := 4000000) -implicitDefEqProofs only [go_sem, d1, Option.some.injEq, forall_eq', and_true, true_and, Bool.not_true, Bool.not_false, decide_true, Nat.reduceAdd, Nat.reduceSub, Nat.reduceLT, Nat.reduceLeDiff, Nat.reduceEqDiff, ↓reduceIte]
  refine ecallN _ _ (twin_ref q (by omega)) (by simp only [go_sem]) ?_
  simp (maxSteps := 4000000) -implicitDefEqProofs only [go_sem, Nat.reduceAdd, Nat.reduceSub, Nat.reduceLT, Nat.reduceLeDiff, Nat.reduceEqDiff, ↓reduceIte]
  refine ⟨by omega, ⟨by simp, by omega, by omega⟩, ?_⟩
  have ea : q.map rD ++ [[D.str b, D.str c, D.int .u8 1, D.bool o, D.int .i64 0]] = (q ++ [(⟨b, c, 1, o, 0⟩ : Rq)]).map rD := by simp [rD]
  rw [ea]
  obtain ⟨t, ht⟩ : ∃ t, t = q ++ [(⟨b, c, 1, o, 0⟩ : Rq)] := ⟨_, rfl⟩
  rw [← ht] at hR ⊢
  have htl : t.length ≤ 31 := by rw [ht, List.length_append]; simp; omega
  refine ECall.frz 2 rfl ?_
  simp (maxSteps := 4000000) -implicitDefEqProofs only [go_sem, Nat.reduceAdd, Nat.reduceSub, Nat.reduceLT, Nat.reduceLeDiff, Nat.reduceEqDiff, ↓reduceIte]
  refine ecall0 _ (qcheck_ref t (by unfold Sm; omega)) (by simp only [go_sem]) (by simp only [go_sem]) ?_
  simp (maxSteps := 4000000) -implicitDefEqProofs only [go_sem, Nat.reduceAdd, Nat.reduceSub, Nat.reduceLT, Nat.reduceLeDiff, Nat.reduceEqDiff, ↓reduceIte]
  by_cases h4 : qcheck t = 0
  · have d4 : (qcheck t != 0) = false := by simp [h4]
    rw [if_neg (by omega)] at hR
    simp (maxSteps := 4000000) -implicitDefEqProofs only [go_sem, d4, Option.some.injEq, forall_eq', and_true, true_and, Bool.not_true, Bool.not_false, decide_true, Nat.reduceAdd, Nat.reduceSub, Nat.reduceLT, Nat.reduceLeDiff, Nat.reduceEqDiff, ↓reduceIte]
    rw [hR]
    exact wk_dat (r' := .tup [.d (.sl (t.map rD)), .d (.int .i64 0)]) (by simp only [go_sem]; rfl) rfl (by simp only [go_sem])
  · have d4 : (qcheck t != 0) = true := by simp [h4]
    rw [if_pos h4] at hR
    simp (maxSteps := 4000000) -implicitDefEqProofs only [go_sem, d4, Option.some.injEq, forall_eq', and_true, true_and, Bool.not_true, Bool.not_false, decide_true, Nat.reduceAdd, Nat.reduceSub, Nat.reduceLT, Nat.reduceLeDiff, Nat.reduceEqDiff, ↓reduceIte]
    refine ecall0 _ (qcheck_ref t (by unfold Sm; omega)) (by simp only [go_sem]) (by simp only [go_sem]) ?_
    simp (maxSteps := 4000000) -implicitDefEqProofs only [go_sem, Nat.reduceAdd, Nat.reduceSub, Nat.reduceLT, Nat.reduceLeDiff, Nat.reduceEqDiff, ↓reduceIte]
    rw [hR]
    exact wk_dat (r' := .tup [.d (.sl []), .d (.int .i64 (qcheck t))]) (by simp only [go_sem]; rfl) rfl (by simp only [go_sem])
theorem headR_own (q : List Rq) (b : ByteArray) (hq : Sm q.length) : Spec Try.prog 14 [.d (.sl (q.map rD)), .d (.str b)] [] (.tup [.d (.int .i64 (headR q b).1), .d (.int .i64 (headR q b).2)]) [] := by
  refine spec_of_ev (fn := Try.f14) DX_ok 3000 Try.func14 rfl rfl (Nat.le_of_ble_eq_true rfl) ?_
  simp (maxSteps := 4000000) -implicitDefEqProofs only [Try.f14, go_sem]
  refine ecall0 _ (qcheck_own q hq) (by simp only [go_sem]) (by simp only [go_sem]) ?_
  simp (maxSteps := 4000000) -implicitDefEqProofs only [go_sem, Nat.reduceAdd, Nat.reduceSub, Nat.reduceLT, Nat.reduceLeDiff, Nat.reduceEqDiff, ↓reduceIte]
  by_cases h1 : qcheck q = 0
  case neg =>
    have d1 : (qcheck q != 0) = true := by simp [h1]
    simp (maxSteps := 4000000) -implicitDefEqProofs only [go_sem, d1, Option.some.injEq, forall_eq', and_true, true_and, Bool.not_true, Bool.not_false, decide_true, Nat.reduceAdd, Nat.reduceSub, Nat.reduceLT, Nat.reduceLeDiff, Nat.reduceEqDiff, ↓reduceIte]
    rw [show headR q b = (0, qcheck q) by simp only [headR]; rw [if_pos h1]]
    exact Wk.refl _ _ _
  have d1 : (qcheck q != 0) = false := by simp [h1]
  simp (maxSteps := 4000000) -implicitDefEqProofs only [go_sem, d1, Option.some.injEq, forall_eq', and_true, true_and, Bool.not_true, Bool.not_false, decide_true, Nat.reduceAdd, Nat.reduceSub, Nat.reduceLT, Nat.reduceLeDiff, Nat.reduceEqDiff, ↓reduceIte]
  refine ecall0 _ (head_own q b hq) (by simp only [go_sem]) (by simp only [go_sem]) ?_
  simp (maxSteps := 4000000) -implicitDefEqProofs only [go_sem, Nat.reduceAdd, Nat.reduceSub, Nat.reduceLT, Nat.reduceLeDiff, Nat.reduceEqDiff, ↓reduceIte]
  rcases Int.lt_or_le (idx (isHead b) q) 0 with h2 | h2
  · have d2 := decide_eq_true h2
    simp (maxSteps := 4000000) -implicitDefEqProofs only [go_sem, d2, Option.some.injEq, forall_eq', and_true, true_and, Bool.not_true, Bool.not_false, decide_true, Nat.reduceAdd, Nat.reduceSub, Nat.reduceLT, Nat.reduceLeDiff, Nat.reduceEqDiff, ↓reduceIte]
    rw [show headR q b = (0, 6) by simp only [headR]; rw [if_neg (by omega), if_pos h2]]
    exact Wk.refl _ _ _
  · have d2 := decide_eq_false (Int.not_lt.2 h2)
    simp (maxSteps := 4000000) -implicitDefEqProofs only [go_sem, d2, Option.some.injEq, forall_eq', and_true, true_and, Bool.not_true, Bool.not_false, decide_true, Nat.reduceAdd, Nat.reduceSub, Nat.reduceLT, Nat.reduceLeDiff, Nat.reduceEqDiff, ↓reduceIte]
    rw [show headR q b = (idx (isHead b) q, 0) by simp only [headR]; rw [if_neg (by omega), if_neg (by omega)]]
    exact Wk.refl _ _ _
theorem headR_ref (q : List Rq) (b : ByteArray) (hq : Sm q.length) : Spec Try.prog 15 [.d (.sl (q.map rD)), .d (.str b)] [] (.tup [.d (.int .i64 (headR q b).1), .d (.int .i64 (headR q b).2)]) [] := by
  refine spec_of_ev (fn := Try.f15) DX_ok 3000 Try.func15 rfl rfl (Nat.le_of_ble_eq_true rfl) ?_
  simp (maxSteps := 4000000) -implicitDefEqProofs only [Try.f15, go_sem]
  refine ecall0 _ (qcheck_ref q hq) (by simp only [go_sem]) (by simp only [go_sem]) ?_
  simp (maxSteps := 4000000) -implicitDefEqProofs only [go_sem, Nat.reduceAdd, Nat.reduceSub, Nat.reduceLT, Nat.reduceLeDiff, Nat.reduceEqDiff, ↓reduceIte]
  by_cases h1 : qcheck q = 0
  case neg =>
    have d1 : (qcheck q != 0) = true := by simp [h1]
    simp (maxSteps := 4000000) -implicitDefEqProofs only [go_sem, d1, Option.some.injEq, forall_eq', and_true, true_and, Bool.not_true, Bool.not_false, decide_true, Nat.reduceAdd, Nat.reduceSub, Nat.reduceLT, Nat.reduceLeDiff, Nat.reduceEqDiff, ↓reduceIte]
    refine ecall0 _ (qcheck_ref q hq) (by simp only [go_sem]) (by simp only [go_sem]) ?_
    simp (maxSteps := 4000000) -implicitDefEqProofs only [go_sem, Nat.reduceAdd, Nat.reduceSub, Nat.reduceLT, Nat.reduceLeDiff, Nat.reduceEqDiff, ↓reduceIte]
    rw [show headR q b = (0, qcheck q) by simp only [headR]; rw [if_pos h1]]
    exact Wk.refl _ _ _
  have d1 : (qcheck q != 0) = false := by simp [h1]
  simp (maxSteps := 4000000) -implicitDefEqProofs only [go_sem, d1, Option.some.injEq, forall_eq', and_true, true_and, Bool.not_true, Bool.not_false, decide_true, Nat.reduceAdd, Nat.reduceSub, Nat.reduceLT, Nat.reduceLeDiff, Nat.reduceEqDiff, ↓reduceIte]
  refine ecall0 _ (first_ref q b hq) (by simp only [go_sem]) (by simp only [go_sem]) ?_
  simp (maxSteps := 4000000) -implicitDefEqProofs only [go_sem, Nat.reduceAdd, Nat.reduceSub, Nat.reduceLT, Nat.reduceLeDiff, Nat.reduceEqDiff, ↓reduceIte]
  rcases Int.lt_or_le (idx (isHead b) q) 0 with h2 | h2
  · have d2 := decide_eq_true h2
    simp (maxSteps := 4000000) -implicitDefEqProofs only [go_sem, d2, Option.some.injEq, forall_eq', and_true, true_and, Bool.not_true, Bool.not_false, decide_true, Nat.reduceAdd, Nat.reduceSub, Nat.reduceLT, Nat.reduceLeDiff, Nat.reduceEqDiff, ↓reduceIte]
    rw [show headR q b = (0, 6) by simp only [headR]; rw [if_neg (by omega), if_pos h2]]
    exact Wk.refl _ _ _
  · have d2 := decide_eq_false (Int.not_lt.2 h2)
    simp (maxSteps := 4000000) -implicitDefEqProofs only [go_sem, d2, Option.some.injEq, forall_eq', and_true, true_and, Bool.not_true, Bool.not_false, decide_true, Nat.reduceAdd, Nat.reduceSub, Nat.reduceLT, Nat.reduceLeDiff, Nat.reduceEqDiff, ↓reduceIte]
    rw [show headR q b = (idx (isHead b) q, 0) by simp only [headR]; rw [if_neg (by omega), if_neg (by omega)]]
    exact Wk.refl _ _ _
theorem set_mod {q : List Rq} {i : Nat} {x : Rq} {s : Int} (hx : q[i]? = some x) : (q.map rD).set i [D.str x.br, D.str x.ch, D.int .u8 s, D.bool x.ov, D.int .i64 x.tr] = (q.modify i fun r => setSt r s).map rD := by
  refine List.ext_getElem? fun k => ?_
  rw [List.getElem?_set, List.length_map, List.getElem?_map, List.getElem?_map, List.getElem?_modify]
  have hlt := some_lt hx
  by_cases e : i = k
  · subst e
    rw [if_pos rfl, if_pos hlt, hx]
    simp [rD, setSt]
  · rw [if_neg e]
    simp [e]
theorem settle_own (q : List Rq) (b : ByteArray) (s : Int) (hq : Sm q.length) : Spec Try.prog 16 [.d (.sl (q.map rD)), .d (.str b), .d (.int .u8 s)] [] (.tup [.d (.sl ((settleR q b s).1.map rD)), .d (.int .i64 (settleR q b s).2)]) [] := by
  obtain ⟨R, hR⟩ : ∃ R, R = settleR q b s := ⟨_, rfl⟩
  rw [← hR]
  unfold settleR at hR
  refine spec_of_ev (fn := Try.f16) DX_ok 3000 Try.func16 rfl rfl (Nat.le_of_ble_eq_true rfl) ?_
  simp (maxSteps := 4000000) -implicitDefEqProofs only [Try.f16, go_sem]
  refine ecall0 _ (qcheck_own q hq) (by simp only [go_sem]) (by simp only [go_sem]) ?_
  simp (maxSteps := 4000000) -implicitDefEqProofs only [go_sem, Nat.reduceAdd, Nat.reduceSub, Nat.reduceLT, Nat.reduceLeDiff, Nat.reduceEqDiff, ↓reduceIte]
  by_cases h1 : qcheck q = 0
  case neg =>
    have d1 : (qcheck q != 0) = true := by simp [h1]
    rw [if_pos h1] at hR
    simp (maxSteps := 4000000) -implicitDefEqProofs only [go_sem, d1, Option.some.injEq, forall_eq', and_true, true_and, Bool.not_true, Bool.not_false, decide_true, Nat.reduceAdd, Nat.reduceSub, Nat.reduceLT, Nat.reduceLeDiff, Nat.reduceEqDiff, ↓reduceIte]
    rw [hR]
    exact wk_dat (r' := .tup [.d (.sl []), .d (.int .i64 (qcheck q))]) (by simp only [go_sem]; rfl) rfl (by simp only [go_sem])
  have d1 : (qcheck q != 0) = false := by simp [h1]
  have hl := qcheck_len h1
  rw [if_neg (by omega)] at hR
  rcases Int.lt_or_le s 5 with h2 | h2
  · have d2 := decide_eq_true h2
    rw [if_pos (.inl h2)] at hR
    simp (maxSteps := 4000000) -implicitDefEqProofs only [go_sem, d1, d2, Option.some.injEq, forall_eq', and_true, true_and, Bool.not_true, Bool.not_false, decide_true, Nat.reduceAdd, Nat.reduceSub, Nat.reduceLT, Nat.reduceLeDiff, Nat.reduceEqDiff, ↓reduceIte]
    rw [hR]
    exact wk_dat (r' := .tup [.d (.sl []), .d (.int .i64 2)]) (by simp only [go_sem]; rfl) rfl (by simp only [go_sem])
  have d2 := decide_eq_false (Int.not_lt.2 h2)
  rcases Int.lt_or_le 7 s with h3 | h3
  · have d3 := decide_eq_true h3
    rw [if_pos (.inr h3)] at hR
    simp (maxSteps := 4000000) -implicitDefEqProofs only [go_sem, d1, d2, d3, Option.some.injEq, forall_eq', and_true, true_and, Bool.not_true, Bool.not_false, decide_true, Nat.reduceAdd, Nat.reduceSub, Nat.reduceLT, Nat.reduceLeDiff, Nat.reduceEqDiff, ↓reduceIte]
    rw [hR]
    exact wk_dat (r' := .tup [.d (.sl []), .d (.int .i64 2)]) (by simp only [go_sem]; rfl) rfl (by simp only [go_sem])
  have d3 := decide_eq_false (Int.not_lt.2 h3)
  rw [if_neg (by omega)] at hR
  simp (maxSteps := 4000000) -implicitDefEqProofs only [go_sem, d1, d2, d3, Option.some.injEq, forall_eq', and_true, true_and, Bool.not_true, Bool.not_false, decide_true, Nat.reduceAdd, Nat.reduceSub, Nat.reduceLT, Nat.reduceLeDiff, Nat.reduceEqDiff, ↓reduceIte]
  refine ecall0 _ (head_own q b hq) (by simp only [go_sem]) (by simp only [go_sem]) ?_
  simp (maxSteps := 4000000) -implicitDefEqProofs only [go_sem, Nat.reduceAdd, Nat.reduceSub, Nat.reduceLT, Nat.reduceLeDiff, Nat.reduceEqDiff, ↓reduceIte]
  rcases Int.lt_or_le (idx (isHead b) q) 0 with h4 | h4
  · have d4 := decide_eq_true h4
    rw [if_pos h4] at hR
    simp (maxSteps := 4000000) -implicitDefEqProofs only [go_sem, d4, Option.some.injEq, forall_eq', and_true, true_and, Bool.not_true, Bool.not_false, decide_true, Nat.reduceAdd, Nat.reduceSub, Nat.reduceLT, Nat.reduceLeDiff, Nat.reduceEqDiff, ↓reduceIte]
    rw [hR]
    exact wk_dat (r' := .tup [.d (.sl []), .d (.int .i64 6)]) (by simp only [go_sem]; rfl) rfl (by simp only [go_sem])
  have d4 := decide_eq_false (Int.not_lt.2 h4)
  obtain ⟨i, x, k1, k2, k3⟩ := idx_get h4
  have hi := some_lt k2
  have n1 : (0 ≤ (i : Int) ∧ (i : Int) < q.length) = True := eq_true (by omega)
  have n2 : (i < q.length) = True := eq_true (by omega)
  rw [if_neg (by omega), k1, Int.toNat_natCast] at hR
  simp (maxSteps := 4000000) -implicitDefEqProofs only [go_sem, d4, Option.some.injEq, forall_eq', and_true, true_and, Bool.not_true, Bool.not_false, decide_true, Nat.reduceAdd, Nat.reduceSub, Nat.reduceLT, Nat.reduceLeDiff, Nat.reduceEqDiff, ↓reduceIte]
  rw [k1]
  refine ecallN _ _ (clone_rq q (by omega)) (by simp only [go_sem]) ?_
  simp (maxSteps := 4000000) -implicitDefEqProofs only [go_sem, n1, n2, k2, Option.some.injEq, forall_eq', and_true, true_and, Bool.not_true, Bool.not_false, decide_true, Nat.reduceAdd, Nat.reduceSub, Nat.reduceLT, Nat.reduceLeDiff, Nat.reduceEqDiff, ↓reduceIte]
  rw [set_mod k2, hR]
  exact wk_dat (r' := .tup [.d (.sl ((q.modify i fun r => setSt r s).map rD)), .d (.int .i64 0)]) (by simp only [go_sem]; rfl) rfl (by simp only [go_sem])
theorem settle_ref (q : List Rq) (b : ByteArray) (s : Int) (hq : Sm q.length) : Spec Try.prog 17 [.d (.sl (q.map rD)), .d (.str b), .d (.int .u8 s)] [] (.tup [.d (.sl ((settleR q b s).1.map rD)), .d (.int .i64 (settleR q b s).2)]) [] := by
  obtain ⟨R, hR⟩ : ∃ R, R = settleR q b s := ⟨_, rfl⟩
  rw [← hR]
  unfold settleR at hR
  refine spec_of_ev (fn := Try.f17) DX_ok 3000 Try.func17 rfl rfl (Nat.le_of_ble_eq_true rfl) ?_
  simp (maxSteps := 4000000) -implicitDefEqProofs only [Try.f17, go_sem]
  refine ecall0 _ (qcheck_ref q hq) (by simp only [go_sem]) (by simp only [go_sem]) ?_
  simp (maxSteps := 4000000) -implicitDefEqProofs only [go_sem, Nat.reduceAdd, Nat.reduceSub, Nat.reduceLT, Nat.reduceLeDiff, Nat.reduceEqDiff, ↓reduceIte]
  by_cases h1 : qcheck q = 0
  case neg =>
    have d1 : (qcheck q != 0) = true := by simp [h1]
    rw [if_pos h1] at hR
    simp (maxSteps := 4000000) -implicitDefEqProofs only [go_sem, d1, Option.some.injEq, forall_eq', and_true, true_and, Bool.not_true, Bool.not_false, decide_true, Nat.reduceAdd, Nat.reduceSub, Nat.reduceLT, Nat.reduceLeDiff, Nat.reduceEqDiff, ↓reduceIte]
    refine ecall0 _ (qcheck_ref q hq) (by simp only [go_sem]) (by simp only [go_sem]) ?_
    simp (maxSteps := 4000000) -implicitDefEqProofs only [go_sem, Nat.reduceAdd, Nat.reduceSub, Nat.reduceLT, Nat.reduceLeDiff, Nat.reduceEqDiff, ↓reduceIte]
    rw [hR]
    exact wk_dat (r' := .tup [.d (.sl []), .d (.int .i64 (qcheck q))]) (by simp only [go_sem]; rfl) rfl (by simp only [go_sem])
  have d1 : (qcheck q != 0) = false := by simp [h1]
  have hl := qcheck_len h1
  rw [if_neg (by omega)] at hR
  by_cases h2 : s < 5 ∨ 7 < s
  · have d2 : (s != 5) = true := by simp; omega
    have d3 : (s != 6) = true := by simp; omega
    have d4 : (s != 7) = true := by simp; omega
    rw [if_pos h2] at hR
    simp (maxSteps := 4000000) -implicitDefEqProofs only [go_sem, d1, d2, d3, d4, Option.some.injEq, forall_eq', and_true, true_and, Bool.not_true, Bool.not_false, decide_true, Nat.reduceAdd, Nat.reduceSub, Nat.reduceLT, Nat.reduceLeDiff, Nat.reduceEqDiff, ↓reduceIte]
    rw [hR]
    exact wk_dat (r' := .tup [.d (.sl []), .d (.int .i64 2)]) (by simp only [go_sem]; rfl) rfl (by simp only [go_sem])
  rw [if_neg h2] at hR
  have tail : ∀ (n m k : Bool), (s != 5) = n → (s != 6) = m → (s != 7) = k → (n && m && k) = false := fun n m k e1 e2 e3 => by
    subst e1; subst e2; subst e3
    rw [Bool.eq_false_iff]
    simp only [ne_eq, Bool.and_eq_true, bne_iff_ne]
    omega
  cases e5 : (s != 5) <;> cases e6 : (s != 6) <;> cases e7 : (s != 7)
  case true.true.true => have := tail _ _ _ e5 e6 e7; simp at this
  all_goals
    simp (maxSteps := 4000000) -implicitDefEqProofs only [go_sem, d1, e5, e6, e7, Option.some.injEq, forall_eq', and_true, true_and, Bool.not_true, Bool.not_false, decide_true, Nat.reduceAdd, Nat.reduceSub, Nat.reduceLT, Nat.reduceLeDiff, Nat.reduceEqDiff, ↓reduceIte]
    refine ecall0 _ (first_ref q b hq) (by simp only [go_sem]) (by simp only [go_sem]) ?_
    rcases Int.lt_or_le (idx (isHead b) q) 0 with h4 | h4
    · have d4 := decide_eq_true h4
      rw [if_pos h4] at hR
      simp (maxSteps := 4000000) -implicitDefEqProofs only [go_sem, d4, Option.some.injEq, forall_eq', and_true, true_and, Bool.not_true, Bool.not_false, decide_true, Nat.reduceAdd, Nat.reduceSub, Nat.reduceLT, Nat.reduceLeDiff, Nat.reduceEqDiff, ↓reduceIte]
      rw [hR]
      exact wk_dat (r' := .tup [.d (.sl []), .d (.int .i64 6)]) (by simp only [go_sem]; rfl) rfl (by simp only [go_sem])
    have d4 := decide_eq_false (Int.not_lt.2 h4)
    obtain ⟨i, x, k1, k2, k3⟩ := idx_get h4
    have hi := some_lt k2
    have n1 : (0 ≤ (i : Int) ∧ (i : Int) < q.length) = True := eq_true (by omega)
    have n2 : (i < q.length) = True := eq_true (by omega)
    rw [if_neg (by omega), k1, Int.toNat_natCast] at hR
    simp (maxSteps := 4000000) -implicitDefEqProofs only [go_sem, d4, Option.some.injEq, forall_eq', and_true, true_and, Bool.not_true, Bool.not_false, decide_true, Nat.reduceAdd, Nat.reduceSub, Nat.reduceLT, Nat.reduceLeDiff, Nat.reduceEqDiff, ↓reduceIte]
    rw [k1]
    refine ecallN _ _ (twin_ref q (by omega)) (by simp only [go_sem]) ?_
    simp (maxSteps := 4000000) -implicitDefEqProofs only [go_sem, n1, n2, k2, Option.some.injEq, forall_eq', and_true, true_and, Bool.not_true, Bool.not_false, decide_true, Nat.reduceAdd, Nat.reduceSub, Nat.reduceLT, Nat.reduceLeDiff, Nat.reduceEqDiff, ↓reduceIte]
    rw [set_mod k2, hR]
    exact wk_dat (r' := .tup [.d (.sl ((q.modify i fun r => setSt r s).map rD)), .d (.int .i64 0)]) (by simp only [go_sem]; rfl) rfl (by simp only [go_sem])
end Go.AX.Qu

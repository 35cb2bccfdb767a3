/- Queues: Retry of the reference; QueueMoves. -/
import Derived.Test.YtamlleliapmhmaaQi
import Derived.Test.YtamlleliapmhmaaRows
set_option maxHeartbeats 8000000
set_option linter.unusedVariables false
set_option linter.unusedSimpArgs false
set_option maxRecDepth 20000
namespace Go.AX.Qu
open Go.Proofs Go.RowKit Go.IntWalk Go.AX.Br
theorem mod_take {q : List Rq} {i : Nat} {f : Rq → Rq} : (q.modify i f).take i = q.take i := by
  apply List.ext_getElem?; intro j
  rw [List.getElem?_take, List.getElem?_take]
  split
  · next hj =>
    have : i ≠ j := by omega
    rw [List.getElem?_modify]; simp [this]
  · rfl
theorem mod_drop {q : List Rq} {i : Nat} {f : Rq → Rq} : (q.modify i f).drop (i + 1) = q.drop (i + 1) := by
  apply List.ext_getElem?; intro j
  have : i ≠ i + 1 + j := by omega
  rw [List.getElem?_drop, List.getElem?_drop, List.getElem?_modify]; simp [this]
theorem more_len {q : List Rq} {i : Nat} {x : Rq} (hx : q[i]? = some x) : (moreR q i x).length = q.length := by
  have := some_lt hx
  simp [moreR]; omega
theorem more_14 {q : List Rq} {i : Nat} {x : Rq} (h : qcheck q = 0) (hx : q[i]? = some x) (ht : x.tr ≠ 5) : qcheck (moreR q i x) = 0 ∨ qcheck (moreR q i x) = 14 := by
  have hl := qcheck_len h
  have hv := qcheck_valid h
  have hxv := hv x (List.mem_of_getElem? hx)
  have hal : (moreR q i x).any (fun r => !valid r) = false := by
    rw [List.any_eq_false]
    intro r hr
    simp only [moreR, List.mem_append, List.mem_singleton] at hr
    rcases hr with (hr | hr) | rfl
    · simp [hv r (List.mem_of_mem_take hr)]
    · simp [hv r (List.mem_of_mem_drop hr)]
    · simp only [valid, Bool.and_eq_true, decide_eq_true_eq] at hxv
      have hg : ∀ s, 1 ≤ s → s ≤ 7 → valid (more (setSt x s)) = true := fun s q1 q2 => by
        simp only [valid, more, setSt, Bool.and_eq_true, decide_eq_true_eq]
        exact ⟨⟨⟨⟨⟨hxv.1.1.1.1.1, hxv.1.1.1.1.2⟩, decide_eq_true q1⟩, decide_eq_true q2⟩, decide_eq_true (by omega)⟩, decide_eq_true (by omega)⟩
      have := hg (if x.st = 3 then 1 else 2) (by split <;> omega) (by split <;> omega)
      simp [this]
  simp only [qcheck]
  rw [more_len hx, if_neg (by omega), hal]
  simp only [Bool.false_eq_true, if_false]
  split
  · exact .inr rfl
  · exact .inl rfl
theorem ret_eq (q : List Rq) (i : Int) : retR q i = movR againR q i sTr := by
  unfold retR movR
  split
  · rfl
  next h0 =>
  have h0 : qcheck q = 0 := by omega
  split
  · rfl
  obtain ⟨n, hn⟩ : ∃ n, n = i.toNat := ⟨_, rfl⟩
  rw [← hn]
  cases hx : q[n]? with
  | none => rfl
  | some x =>
    have key : ∀ s, (x.st = 3 ∧ s = 1) ∨ (x.st = 7 ∧ s = 2) → (if x.tr = 5 then (([], 4) : List Rq × Int) else if qcheck (moreR q n x) ≠ 0 then ([], 14) else (moreR q n x, 0)) = againR (q.modify n fun y => setSt y s) n := by
      intro s hs
      have e : (q.modify n fun y => setSt y s)[n]? = some (setSt x s) := by rw [List.getElem?_modify, hx]; simp
      unfold againR
      rw [e, mod_take, mod_drop]
      have e2 : q.take n ++ q.drop (n + 1) ++ [more (setSt x s)] = moreR q n x := by
        unfold moreR
        rcases hs with ⟨h1, rfl⟩ | ⟨h1, rfl⟩ <;> simp [h1]
      simp only [e2]
      show _ = if x.tr = 5 then _ else _
      split
      · rfl
      next h5 =>
      rcases more_14 h0 hx h5 with h | h <;> simp [h]
    have hs1 : ruL.find? (ruFit sTr 3) = some (sTr, 3, 1) := by simp [ruL, ruFit, List.find?_cons, names_ne]
    have hs2 : ruL.find? (ruFit sTr 7) = some (sTr, 7, 2) := by simp [ruL, ruFit, List.find?_cons, names_ne]
    simp only
    by_cases e3 : x.st = 3
    · rw [if_pos (.inl e3), key 1 (.inl ⟨e3, rfl⟩), e3, hs1]
    by_cases e7 : x.st = 7
    · rw [if_pos (.inr e7), key 2 (.inr ⟨e7, rfl⟩), e7, hs2]
    · have : ruL.find? (ruFit sTr x.st) = none := by simp [ruL, ruFit, List.find?_cons, names_ne, Ne.symm e3, Ne.symm e7]
      rw [this, if_neg (by omega)]
theorem retry_ref (q : List Rq) (i : Int) (hq : Sm q.length) : Spec Try.prog 31 [.d (.sl (q.map rD)), .d (.int .i64 i)] [] (.tup [.d (.sl ((movR againR q i sTr).1.map rD)), .d (.int .i64 (movR againR q i sTr).2)]) [] := by
  rw [← ret_eq]
  obtain ⟨R, hR⟩ : ∃ R, R = retR q i := ⟨_, rfl⟩
  rw [← hR]
  unfold retR at hR
  refine spec_of_ev (fn := Try.f31) DX_ok 3000 Try.func31 rfl rfl (Nat.le_of_ble_eq_true rfl) ?_
  simp (maxSteps := 4000000) -implicitDefEqProofs only [Try.f31, go_sem]
  refine ecall0 _ (qcheck_ref q hq) (by simp only [go_sem]) (by simp only [go_sem]) ?_
  simp (maxSteps := 4000000) -implicitDefEqProofs only [go_sem, Nat.reduceAdd, Nat.reduceSub, Nat.reduceLT, Nat.reduceLeDiff, Nat.reduceEqDiff, ↓reduceIte]
  by_cases h1 : qcheck q = 0
  case neg =>
    have d1 : (qcheck q != 0) = true := by simp [h1]
    rw [if_pos h1] at hR
    simp (maxSteps := 4000000) -implicitDefEqProofs only [go_sem, d1, Option.some.injEq, forall_eq', and_true, true_and, Bool.not_true, Bool.not_false, decide_true, Nat.reduceAdd, Nat.reduceSub, Nat.reduceLT, Nat.reduceLeDiff, Nat.reduceEqDiff, ↓reduceIte]
    refine ecall0 _ (qcheck_ref q hq) (by simp only [go_sem]) (by simp only [go_sem]) ?_
    simp (maxSteps := 4000000) -implicitDefEqProofs only [go_sem, Nat.reduceAdd, Nat.reduceSub, Nat.reduceLT, Nat.reduceLeDiff, Nat.reduceEqDiff, ↓reduceIte]
    rw [hR]
    exact wk_dat (r' := .tup [.d (.sl []), .d (.int .i64 (qcheck q))]) (by simp only [go_sem]; rfl) rfl (by simp only [go_sem])
  have d1 : (qcheck q != 0) = false := by simp [h1]
  have hl := qcheck_len h1
  rw [if_neg (by omega)] at hR
  rcases Int.lt_or_le i 0 with h2 | h2
  · have d2 := decide_eq_true h2
    rw [if_pos (.inl h2)] at hR
    simp (maxSteps := 4000000) -implicitDefEqProofs only [go_sem, d1, d2, Option.some.injEq, forall_eq', and_true, true_and, Bool.not_true, Bool.not_false, decide_true, Nat.reduceAdd, Nat.reduceSub, Nat.reduceLT, Nat.reduceLeDiff, Nat.reduceEqDiff, ↓reduceIte]
    rw [hR]
    exact wk_dat (r' := .tup [.d (.sl []), .d (.int .i64 2)]) (by simp only [go_sem]; rfl) rfl (by simp only [go_sem])
  have d2 := decide_eq_false (Int.not_lt.2 h2)
  rcases Int.lt_or_le i q.length with h3 | h3
  case inr =>
    have d3 := decide_eq_true h3
    rw [if_pos (.inr h3)] at hR
    simp (maxSteps := 4000000) -implicitDefEqProofs only [go_sem, d1, d2, d3, Option.some.injEq, forall_eq', and_true, true_and, Bool.not_true, Bool.not_false, decide_true, Nat.reduceAdd, Nat.reduceSub, Nat.reduceLT, Nat.reduceLeDiff, Nat.reduceEqDiff, ↓reduceIte]
    rw [hR]
    exact wk_dat (r' := .tup [.d (.sl []), .d (.int .i64 2)]) (by simp only [go_sem]; rfl) rfl (by simp only [go_sem])
  have d3 := decide_eq_false (Int.not_le.2 h3)
  rw [if_neg (by omega)] at hR
  obtain ⟨i, rfl⟩ : ∃ n : Nat, i = n := ⟨i.toNat, by omega⟩
  simp only [Int.toNat_natCast] at hR
  have h3' : i < q.length := by omega
  obtain ⟨x, hx⟩ : ∃ x, q[i]? = some x := ⟨q[i]'h3', List.getElem?_eq_getElem _⟩
  rw [hx] at hR
  simp only at hR
  have n1 : (0 ≤ (i : Int) ∧ (i : Int) < q.length) = True := eq_true (by omega)
  have n2 : (i < q.length) = True := eq_true (by omega)
  have hxt := valid_tr (qcheck_valid h1 x (List.mem_of_getElem? hx))
  have w1 : IntKind.i64.wrap (x.tr + 1) = x.tr + 1 := i64_in _ (by omega)
  have w2 : IntKind.i64.wrap ((i : Int) + 1) = ((i + 1 : Nat) : Int) := by rw [i64_in _ (by omega)]; simp
  obtain ⟨X, hX⟩ : ∃ X, X = moreR q i x := ⟨_, rfl⟩
  rw [← hX] at hR
  have hXl : X.length = q.length := by rw [hX]; exact more_len hx
  by_cases h5 : x.tr = 5
  · have d5 : (x.tr == 5) = true := by simp [h5]
    rw [if_pos h5] at hR
    by_cases h7 : x.st = 3
    · have d7 : (x.st == 3) = true := by simp [h7]
      rw [if_pos (.inl h7)] at hR
      simp (maxSteps := 4000000) -implicitDefEqProofs only [go_sem, d1, d2, d3, n1, n2, hx, d5, d7, Option.some.injEq, forall_eq', and_true, true_and, Bool.not_true, Bool.not_false, decide_true, Nat.reduceAdd, Nat.reduceSub, Nat.reduceLT, Nat.reduceLeDiff, Nat.reduceEqDiff, ↓reduceIte]
      rw [hR]
      exact wk_dat (r' := .tup [.d (.sl []), .d (.int .i64 4)]) (by simp only [go_sem]; rfl) rfl (by simp only [go_sem])
    have d7 : (x.st == 3) = false := by simp [h7]
    by_cases h8 : x.st = 7
    · have d8 : (x.st == 7) = true := by simp [h8]
      rw [if_pos (.inr h8)] at hR
      simp (maxSteps := 4000000) -implicitDefEqProofs only [go_sem, d1, d2, d3, n1, n2, hx, d5, d7, d8, Option.some.injEq, forall_eq', and_true, true_and, Bool.not_true, Bool.not_false, decide_true, Nat.reduceAdd, Nat.reduceSub, Nat.reduceLT, Nat.reduceLeDiff, Nat.reduceEqDiff, ↓reduceIte]
      rw [hR]
      exact wk_dat (r' := .tup [.d (.sl []), .d (.int .i64 4)]) (by simp only [go_sem]; rfl) rfl (by simp only [go_sem])
    have d8 : (x.st == 7) = false := by simp [h8]
    rw [if_neg (by omega)] at hR
    simp (maxSteps := 4000000) -implicitDefEqProofs only [go_sem, d1, d2, d3, n1, n2, hx, d5, d7, d8, Option.some.injEq, forall_eq', and_true, true_and, Bool.not_true, Bool.not_false, decide_true, Nat.reduceAdd, Nat.reduceSub, Nat.reduceLT, Nat.reduceLeDiff, Nat.reduceEqDiff, ↓reduceIte]
    rw [hR]
    exact wk_dat (r' := .tup [.d (.sl []), .d (.int .i64 36)]) (by simp only [go_sem]; rfl) rfl (by simp only [go_sem])
  have d5 : (x.tr == 5) = false := by simp [h5]
  rw [if_neg h5] at hR
  have fin : ∀ s, (x.st = 3 ∧ s = 1) ∨ (x.st = 7 ∧ s = 2) → (q.take i ++ q.drop (i + 1)).map rD ++ [[D.str x.br, D.str x.ch, D.int .u8 s, D.bool x.ov, D.int .i64 (x.tr + 1)]] = X.map rD := fun s hs => by
    rw [hX, moreR]
    rcases hs with ⟨h1, rfl⟩ | ⟨h1, rfl⟩ <;> simp [h1, rD, more, setSt]
  have l0 : q.take q.length = q := List.take_length
  have l1 : (q.take i).length = i := by simp; omega
  have l2 : (q.drop (i + 1)).length = q.length - (i + 1) := by simp
  have l3 : (q.take i ++ q.drop (i + 1)).length = q.length - 1 := by rw [List.length_append, l1, l2]; omega
  have split6 : qcheck X = 0 ∨ qcheck X ≠ 0 := by omega
  by_cases h7 : x.st = 3
  · have d7 : (x.st == 3) = true := by simp [h7]
    rw [if_pos (.inl h7)] at hR
    simp (maxSteps := 4000000) -implicitDefEqProofs only [go_sem, d1, d2, d3, n1, n2, hx, d5, d7, w1, Option.some.injEq, forall_eq', and_true, true_and, Bool.not_true, Bool.not_false, decide_true, Nat.reduceAdd, Nat.reduceSub, Nat.reduceLT, Nat.reduceLeDiff, Nat.reduceEqDiff, ↓reduceIte]
    refine DX.plain (.take 1 true (.take 2 true (.take 3 true (.take 5 true (.take 6 true (.take 7 true (.take 8 true (.run [0] (fun _ => [true, true, true, true, true, true, true]) fun _ => (.run [4] (fun _ => [true, true, true, true, false, false, false]) fun _ => (.run [9] (fun _ => [false, false, false, false]) fun _ => (.take 10 false .done))))))))))) (by kernel_rfl) (by kernel_rfl) Ty.mixed ?_
    simp (maxSteps := 4000000) -implicitDefEqProofs only [go_sem, w2, l0, l1, l2, l3, Option.some.injEq, forall_eq', and_true, true_and, Bool.not_true, Bool.not_false, decide_true, Nat.reduceAdd, Nat.reduceSub, Nat.reduceLT, Nat.reduceLeDiff, Nat.reduceEqDiff, ↓reduceIte]
    refine ⟨by omega, by omega, by omega, by omega, by omega, by omega, by omega, by omega, ⟨by simp, by omega, by omega⟩, ?_⟩
    rw [fin 1 (.inl ⟨h7, rfl⟩)]
    refine ECall.frz 5 rfl ?_
    simp (maxSteps := 4000000) -implicitDefEqProofs only [go_sem, Nat.reduceAdd, Nat.reduceSub, Nat.reduceLT, Nat.reduceLeDiff, Nat.reduceEqDiff, ↓reduceIte]
    refine ecall0 _ (qcheck_ref X (by unfold Sm; omega)) (by simp only [go_sem]) (by simp only [go_sem]) ?_
    simp (maxSteps := 4000000) -implicitDefEqProofs only [go_sem, Nat.reduceAdd, Nat.reduceSub, Nat.reduceLT, Nat.reduceLeDiff, Nat.reduceEqDiff, ↓reduceIte]
    rcases split6 with h6 | h6
    · have d6 : (qcheck X != 0) = false := by simp [h6]
      rw [if_neg (by omega)] at hR
      simp (maxSteps := 4000000) -implicitDefEqProofs only [go_sem, d6, Option.some.injEq, forall_eq', and_true, true_and, Bool.not_true, Bool.not_false, decide_true, Nat.reduceAdd, Nat.reduceSub, Nat.reduceLT, Nat.reduceLeDiff, Nat.reduceEqDiff, ↓reduceIte]
      rw [hR]
      exact wk_dat (r' := .tup [.d (.sl (X.map rD)), .d (.int .i64 0)]) (by simp only [go_sem]; rfl) rfl (by simp only [go_sem])
    · have d6 : (qcheck X != 0) = true := by simp [h6]
      rw [if_pos h6] at hR
      simp (maxSteps := 4000000) -implicitDefEqProofs only [go_sem, d6, Option.some.injEq, forall_eq', and_true, true_and, Bool.not_true, Bool.not_false, decide_true, Nat.reduceAdd, Nat.reduceSub, Nat.reduceLT, Nat.reduceLeDiff, Nat.reduceEqDiff, ↓reduceIte]
      rw [hR]
      exact wk_dat (r' := .tup [.d (.sl []), .d (.int .i64 14)]) (by simp only [go_sem]; rfl) rfl (by simp only [go_sem])
  have d7 : (x.st == 3) = false := by simp [h7]
  by_cases h8 : x.st = 7
  · have d8 : (x.st == 7) = true := by simp [h8]
    rw [if_pos (.inr h8)] at hR
    simp (maxSteps := 4000000) -implicitDefEqProofs only [go_sem, d1, d2, d3, n1, n2, hx, d5, d7, d8, w1, Option.some.injEq, forall_eq', and_true, true_and, Bool.not_true, Bool.not_false, decide_true, Nat.reduceAdd, Nat.reduceSub, Nat.reduceLT, Nat.reduceLeDiff, Nat.reduceEqDiff, ↓reduceIte]
    refine DX.plain (.take 1 true (.take 2 true (.take 3 true (.take 5 true (.take 6 true (.take 7 true (.take 8 true (.run [0] (fun _ => [true, true, true, true, true, true, true]) fun _ => (.run [4] (fun _ => [true, true, true, true, false, false, false]) fun _ => (.run [9] (fun _ => [false, false, false, false]) fun _ => (.take 10 false .done))))))))))) (by kernel_rfl) (by kernel_rfl) Ty.mixed ?_
    simp (maxSteps := 4000000) -implicitDefEqProofs only [go_sem, w2, l0, l1, l2, l3, Option.some.injEq, forall_eq', and_true, true_and, Bool.not_true, Bool.not_false, decide_true, Nat.reduceAdd, Nat.reduceSub, Nat.reduceLT, Nat.reduceLeDiff, Nat.reduceEqDiff, ↓reduceIte]
    refine ⟨by omega, by omega, by omega, by omega, by omega, by omega, by omega, by omega, ⟨by simp, by omega, by omega⟩, ?_⟩
    rw [fin 2 (.inr ⟨h8, rfl⟩)]
    refine ECall.frz 5 rfl ?_
    simp (maxSteps := 4000000) -implicitDefEqProofs only [go_sem, Nat.reduceAdd, Nat.reduceSub, Nat.reduceLT, Nat.reduceLeDiff, Nat.reduceEqDiff, ↓reduceIte]
    refine ecall0 _ (qcheck_ref X (by unfold Sm; omega)) (by simp only [go_sem]) (by simp only [go_sem]) ?_
    simp (maxSteps := 4000000) -implicitDefEqProofs only [go_sem, Nat.reduceAdd, Nat.reduceSub, Nat.reduceLT, Nat.reduceLeDiff, Nat.reduceEqDiff, ↓reduceIte]
    rcases split6 with h6 | h6
    · have d6 : (qcheck X != 0) = false := by simp [h6]
      rw [if_neg (by omega)] at hR
      simp (maxSteps := 4000000) -implicitDefEqProofs only [go_sem, d6, Option.some.injEq, forall_eq', and_true, true_and, Bool.not_true, Bool.not_false, decide_true, Nat.reduceAdd, Nat.reduceSub, Nat.reduceLT, Nat.reduceLeDiff, Nat.reduceEqDiff, ↓reduceIte]
      rw [hR]
      exact wk_dat (r' := .tup [.d (.sl (X.map rD)), .d (.int .i64 0)]) (by simp only [go_sem]; rfl) rfl (by simp only [go_sem])
    · have d6 : (qcheck X != 0) = true := by simp [h6]
      rw [if_pos h6] at hR
      simp (maxSteps := 4000000) -implicitDefEqProofs only [go_sem, d6, Option.some.injEq, forall_eq', and_true, true_and, Bool.not_true, Bool.not_false, decide_true, Nat.reduceAdd, Nat.reduceSub, Nat.reduceLT, Nat.reduceLeDiff, Nat.reduceEqDiff, ↓reduceIte]
      rw [hR]
      exact wk_dat (r' := .tup [.d (.sl []), .d (.int .i64 14)]) (by simp only [go_sem]; rfl) rfl (by simp only [go_sem])
  have d8 : (x.st == 7) = false := by simp [h8]
  rw [if_neg (by omega)] at hR
  simp (maxSteps := 4000000) -implicitDefEqProofs only [go_sem, d1, d2, d3, n1, n2, hx, d5, d7, d8, Option.some.injEq, forall_eq', and_true, true_and, Bool.not_true, Bool.not_false, decide_true, Nat.reduceAdd, Nat.reduceSub, Nat.reduceLT, Nat.reduceLeDiff, Nat.reduceEqDiff, ↓reduceIte]
  rw [hR]
  exact wk_dat (r' := .tup [.d (.sl []), .d (.int .i64 36)]) (by simp only [go_sem]; rfl) rfl (by simp only [go_sem])
theorem movR_len {T : List Rq → Nat → List Rq × Int} (hT : ∀ l i, (T l i).1.length ≤ l.length) (q : List Rq) (i : Int) (mv : ByteArray) : (movR T q i mv).1.length ≤ q.length := by
  unfold movR
  split
  · simp
  split
  · simp
  cases q[i.toNat]? with
  | none => simp
  | some x =>
    cases hf : ruL.find? (ruFit mv x.st) with
    | none => simp [hf]
    | some r =>
      have := hT (q.modify i.toNat fun y => setSt y r.2.2) i.toNat
      rw [mod_len] at this
      simpa [hf] using this
theorem again_len (l : List Rq) (i : Nat) : (againR l i).1.length ≤ l.length := by
  unfold againR
  cases h : l[i]? with
  | none => simp
  | some x =>
    have := some_lt h
    simp only
    split
    · simp
    split
    · simp
    · simp; omega
end Go.AX.Qu

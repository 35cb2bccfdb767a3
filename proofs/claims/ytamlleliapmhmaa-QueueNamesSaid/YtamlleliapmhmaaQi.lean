/- Queues: moves, the reference's side. -/
import Derived.Test.YtamlleliapmhmaaQh
set_option maxHeartbeats 8000000
set_option linter.unusedVariables false
set_option linter.unusedSimpArgs false
set_option maxRecDepth 20000
namespace Go.AX.Qu
open Go.Proofs Go.RowKit Go.IntWalk Go.AX.Br
def uD (n : Int) : List D := [.int .u8 n]
attribute [go_sem] uD
theorem uD_len {l : List Int} : (∀ e ∈ l.map uD, e.length = 1) = True := eq_true (map_len (g := uD) fun _ => rfl)
attribute [go_sem] uD_len
def refR (q : List Rq) (i : Int) (fr : List Int) (to : Int) : List Rq × Int :=
  if qcheck q ≠ 0 then ([], qcheck q) else if i < 0 ∨ (q.length : Int) ≤ i then ([], 2) else
    match q[i.toNat]? with
    | none => ([], 2)
    | some x => if x.st ∈ fr then (q.modify i.toNat fun y => setSt y to, 0) else ([], 36)
theorem moved_ref (q : List Rq) (i : Int) (fr : List Int) (to : Int) (hq : Sm q.length) (hf : fr.length ≤ 100) : Spec Try.prog 42 [.d (.sl (q.map rD)), .d (.int .i64 i), .d (.sl (fr.map uD)), .d (.int .u8 to)] [] (.tup [.d (.sl ((refR q i fr to).1.map rD)), .d (.int .i64 (refR q i fr to).2)]) [] := by
  obtain ⟨R, hR⟩ : ∃ R, R = refR q i fr to := ⟨_, rfl⟩
  rw [← hR]
  unfold refR at hR
  refine spec_of_ev (fn := Try.f42) DX_ok 3000 Try.func42 rfl rfl (Nat.le_of_ble_eq_true rfl) ?_
  simp (maxSteps := 4000000) -implicitDefEqProofs only [Try.f42, go_sem]
  refine ecall0 _ (qcheck_ref q hq) (by simp only [go_sem]) (by simp only [go_sem]) ?_
  simp (maxSteps := 4000000) -implicitDefEqProofs only [go_sem, Nat.reduceAdd, Nat.reduceSub, Nat.reduceLT, Nat.reduceLeDiff, Nat.reduceEqDiff, ↓reduceIte]
  by_cases h1 : qcheck q = 0
  case neg =>
    have d1 : (qcheck q != 0) = true := by simp [h1]
    rw [if_pos h1] at hR
    simp (maxSteps := 4000000) -implicitDefEqProofs only [go_sem, d1, Option.some.injEq, forall_eq', and_true, true_and, Bool.not_true, Bool.not_false, decide_true, Nat.reduceAdd, Nat.reduceSub, Nat.reduceLT, Nat.reduceLeDiff, Nat.reduceEqDiff, ↓reduceIte]
    refine ecall0 _ (qcheck_ref q hq) (by simp only [go_sem]) (by simp only [go_sem]) ?_
    simp (maxSteps := 4000000) -implicitDefEqProofs only [go_sem, Nat.reduceAdd, Nat.reduceSub, Nat.reduceLT, Nat.reduceLeDiff, Nat.reduceEqDiff, ↓reduceIte]
    rw [hR]
    exact wk_dat (r' := .tup [.d (.sl []), .d (.int .i64 (qcheck q))]) (by simp only [go_sem]; rfl) rfl (by simp only [go_sem])
  have d1 : (qcheck q != 0) = false := by simp [h1]
  have hl := qcheck_len h1
  rw [if_neg (by omega)] at hR
  rcases Int.lt_or_le i 0 with h2 | h2
  · have d2 := decide_eq_true h2
    rw [if_pos (.inl h2)] at hR
    simp (maxSteps := 4000000) -implicitDefEqProofs only [go_sem, d1, d2, Option.some.injEq, forall_eq', and_true, true_and, Bool.not_true, Bool.not_false, decide_true, Nat.reduceAdd, Nat.reduceSub, Nat.reduceLT, Nat.reduceLeDiff, Nat.reduceEqDiff, ↓reduceIte]
    rw [hR]
    exact wk_dat (r' := .tup [.d (.sl []), .d (.int .i64 2)]) (by simp only [go_sem]; rfl) rfl (by simp only [go_sem])
  have d2 := decide_eq_false (Int.not_lt.2 h2)
  rcases Int.lt_or_le i q.length with h3 | h3
  case inr =>
    have d3 := decide_eq_true h3
    rw [if_pos (.inr h3)] at hR
    simp (maxSteps := 4000000) -implicitDefEqProofs only [go_sem, d1, d2, d3, Option.some.injEq, forall_eq', and_true, true_and, Bool.not_true, Bool.not_false, decide_true, Nat.reduceAdd, Nat.reduceSub, Nat.reduceLT, Nat.reduceLeDiff, Nat.reduceEqDiff, ↓reduceIte]
    rw [hR]
    exact wk_dat (r' := .tup [.d (.sl []), .d (.int .i64 2)]) (by simp only [go_sem]; rfl) rfl (by simp only [go_sem])
  have d3 := decide_eq_false (Int.not_le.2 h3)
  rw [if_neg (by omega)] at hR
  obtain ⟨i, rfl⟩ : ∃ n : Nat, i = n := ⟨i.toNat, by omega⟩
  simp only [Int.toNat_natCast] at hR
  have h3' : i < q.length := by omega
  obtain ⟨x, hx⟩ : ∃ x, q[i]? = some x := ⟨q[i]'h3', List.getElem?_eq_getElem _⟩
  rw [hx] at hR
  simp only at hR
  have n1 : (0 ≤ (i : Int) ∧ (i : Int) < q.length) = True := eq_true (by omega)
  have n2 : (i < q.length) = True := eq_true (by omega)
  simp (maxSteps := 4000000) -implicitDefEqProofs only [go_sem, d1, d2, d3, Option.some.injEq, forall_eq', and_true, true_and, Bool.not_true, Bool.not_false, decide_true, Nat.reduceAdd, Nat.reduceSub, Nat.reduceLT, Nat.reduceLeDiff, Nat.reduceEqDiff, ↓reduceIte]
  refine eloop (S := Nat) (fun k => mkE 49 [(0, .d (.sl (q.map rD))), (1, .d (.int .i64 i)), (2, .d (.sl (fr.map uD))), (3, .d (.int .u8 to)), (10, .d (.int .i64 k))]) (fun k => []) (fun k => k ≤ fr.length ∧ x.st ∉ fr.take k) (fun k => fr.length - k) 0 ⟨by omega, by simp⟩ (Wk.sub (by (simp only [go_sem]) <;> trivial)) ?_
  rintro k ⟨hk, hj⟩
  rcases Nat.lt_or_ge k fr.length with k2 | k2
  case inr =>
    have d4 : decide ((k : Int) < fr.length) = false := by simp; omega
    simp (maxSteps := 4000000) -implicitDefEqProofs only [go_sem, d4, Option.some.injEq, forall_eq', and_true, true_and, Bool.not_true, Bool.not_false, decide_true, Nat.reduceAdd, Nat.reduceSub, Nat.reduceLT, Nat.reduceLeDiff, Nat.reduceEqDiff, ↓reduceIte]
    rw [List.take_of_length_le k2] at hj
    rw [if_neg hj] at hR
    rw [hR]
    exact wk_dat (r' := .tup [.d (.sl []), .d (.int .i64 36)]) (by simp only [go_sem]; rfl) rfl (by simp only [go_sem])
  have d4 : decide ((k : Int) < fr.length) = true := by simp; omega
  obtain ⟨r, hr⟩ : ∃ r, fr[k]? = some r := ⟨fr[k]'k2, List.getElem?_eq_getElem _⟩
  have n3 : (0 ≤ (k : Int) ∧ (k : Int) < fr.length) = True := eq_true (by omega)
  have n4 : (k < fr.length) = True := eq_true k2
  have w1 : IntKind.i64.wrap ((k : Int) + 1) = k + 1 := i64_in _ (by omega)
  by_cases e1 : x.st = r
  case neg =>
    have f1 : (x.st == r) = false := by simp [e1]
    simp (maxSteps := 4000000) -implicitDefEqProofs only [go_sem, d4, n1, n2, n3, n4, hr, hx, Option.some.injEq, forall_eq', and_true, true_and, Bool.not_true, Bool.not_false, decide_true, Nat.reduceAdd, Nat.reduceSub, Nat.reduceLT, Nat.reduceLeDiff, Nat.reduceEqDiff, ↓reduceIte]
    refine DX.plain (.take 0 false (.take 1 false (.take 2 false (.take 3 false (.take 4 false (.take 5 false (.take 6 false (.take 7 false (.take 8 false (.take 9 false .done)))))))))) (by kernel_rfl) (by kernel_rfl) Ty.mixed ?_
    simp (maxSteps := 4000000) -implicitDefEqProofs only [go_sem, f1, n1, n2, hx, n3, n4, hr, Option.some.injEq, forall_eq', and_true, true_and, Bool.not_true, Bool.not_false, decide_true, Nat.reduceAdd, Nat.reduceSub, Nat.reduceLT, Nat.reduceLeDiff, Nat.reduceEqDiff, ↓reduceIte]
    simp (maxSteps := 4000000) -implicitDefEqProofs only [go_sem, w1, Option.some.injEq, forall_eq', and_true, true_and, Bool.not_true, Bool.not_false, decide_true, Nat.reduceAdd, Nat.reduceSub, Nat.reduceLT, Nat.reduceLeDiff, Nat.reduceEqDiff, ↓reduceIte]
    exact .mk (k + 1) ⟨k2, by rw [List.take_add_one, hr]; simp [hj, e1]⟩ (by omega) (Wk.sub (by (simp only [go_sem]) <;> trivial))
  have f1 : (x.st == r) = true := by simp [e1]
  rw [if_pos (by rw [e1]; exact List.mem_of_getElem? hr)] at hR
  simp (maxSteps := 4000000) -implicitDefEqProofs only [go_sem, d4, n1, n2, n3, n4, hr, hx, Option.some.injEq, forall_eq', and_true, true_and, Bool.not_true, Bool.not_false, decide_true, Nat.reduceAdd, Nat.reduceSub, Nat.reduceLT, Nat.reduceLeDiff, Nat.reduceEqDiff, ↓reduceIte]
  refine DX.plain (.take 0 false (.take 1 false (.take 2 false (.take 3 false (.take 4 false (.take 5 false (.take 6 false (.take 7 false (.take 8 false (.take 9 false .done)))))))))) (by kernel_rfl) (by kernel_rfl) Ty.mixed ?_
  simp (maxSteps := 4000000) -implicitDefEqProofs only [go_sem, f1, n1, n2, hx, n3, n4, hr, Option.some.injEq, forall_eq', and_true, true_and, Bool.not_true, Bool.not_false, decide_true, Nat.reduceAdd, Nat.reduceSub, Nat.reduceLT, Nat.reduceLeDiff, Nat.reduceEqDiff, ↓reduceIte]
  refine ecallN _ _ (twin_ref q (by omega)) (by simp only [go_sem]) ?_
  simp (maxSteps := 4000000) -implicitDefEqProofs only [go_sem, n1, n2, hx, Option.some.injEq, forall_eq', and_true, true_and, Bool.not_true, Bool.not_false, decide_true, Nat.reduceAdd, Nat.reduceSub, Nat.reduceLT, Nat.reduceLeDiff, Nat.reduceEqDiff, ↓reduceIte]
  rw [set_mod hx, hR]
  exact wk_dat (r' := .tup [.d (.sl ((q.modify i fun y => setSt y to).map rD)), .d (.int .i64 0)]) (by simp only [go_sem]; rfl) rfl (by simp only [go_sem])
theorem names_ne : (sAp = sRe) = False ∧ (sAp = sCa) = False ∧ (sAp = sTr) = False ∧ (sRe = sAp) = False ∧ (sRe = sCa) = False ∧ (sRe = sTr) = False ∧ (sCa = sAp) = False ∧ (sCa = sRe) = False ∧ (sCa = sTr) = False ∧ (sTr = sAp) = False ∧ (sTr = sRe) = False ∧ (sTr = sCa) = False := by
  refine ⟨?_, ?_, ?_, ?_, ?_, ?_, ?_, ?_, ?_, ?_, ?_, ?_⟩ <;> exact eq_false (by decide)
theorem ref_approve (q : List Rq) (i : Int) : refR q i [1] 2 = movR stayR q i sAp := by
  unfold refR movR
  split
  · rfl
  split
  · rfl
  cases q[i.toNat]? with
  | none => rfl
  | some x =>
    simp only [ruL, ruFit, List.find?_cons, List.find?_nil, names_ne, stayR, Bool.true_and, Bool.false_and, decide_true, decide_false, List.mem_cons, List.not_mem_nil, or_false]
    rcases Int.lt_or_le x.st 8 with g | g
    · rcases Int.lt_or_le x.st 0 with g0 | g0
      · have e1 : x.st ≠ 1 := by omega
        have e2 : x.st ≠ 2 := by omega
        have e3 : x.st ≠ 7 := by omega
        simp [e1, e2, e3, e1.symm, e2.symm, e3.symm]
      · have : x.st = 0 ∨ x.st = 1 ∨ x.st = 2 ∨ x.st = 3 ∨ x.st = 4 ∨ x.st = 5 ∨ x.st = 6 ∨ x.st = 7 := by omega
        rcases this with e | e | e | e | e | e | e | e <;> simp [e]
    · have e1 : x.st ≠ 1 := by omega
      have e2 : x.st ≠ 2 := by omega
      have e3 : x.st ≠ 7 := by omega
      simp [e1, e2, e3, e1.symm, e2.symm, e3.symm]
theorem approve_ref (q : List Rq) (i : Int) (hq : Sm q.length) : Spec Try.prog 25 [.d (.sl (q.map rD)), .d (.int .i64 i)] [] (.tup [.d (.sl ((movR stayR q i sAp).1.map rD)), .d (.int .i64 (movR stayR q i sAp).2)]) [] := by
  obtain ⟨R, hR⟩ : ∃ R, R = movR stayR q i sAp := ⟨_, rfl⟩
  have h := moved_ref q i [1] 2 hq (by simp)
  rw [ref_approve, ← hR] at h
  rw [← hR]
  simp only [List.map_cons, List.map_nil, uD] at h
  refine spec_of_ev (fn := Try.f25) DX_ok 3000 Try.func25 rfl rfl (Nat.le_of_ble_eq_true rfl) ?_
  simp (maxSteps := 4000000) -implicitDefEqProofs only [Try.f25, go_sem]
  simp (maxSteps := 4000000) -implicitDefEqProofs only [go_sem, Nat.reduceAdd, Nat.reduceSub, Nat.reduceLT, Nat.reduceLeDiff, Nat.reduceEqDiff, ↓reduceIte]
  try refine ⟨by omega, ?_⟩
  refine ECall.dat (by simp only [go_sem]; rfl) (by rfl) ?_
  refine ecall0 _ h (by simp only [go_sem]) (by simp only [go_sem]) ?_
  simp (maxSteps := 4000000) -implicitDefEqProofs only [go_sem, Nat.reduceAdd, Nat.reduceSub, Nat.reduceLT, Nat.reduceLeDiff, Nat.reduceEqDiff, ↓reduceIte]
  exact wk_dat (r' := .tup [.d (.sl (R.1.map rD)), .d (.int .i64 R.2)]) (by simp only [go_sem]; rfl) rfl (by simp only [go_sem])
theorem ref_reject (q : List Rq) (i : Int) : refR q i [1, 2] 3 = movR stayR q i sRe := by
  unfold refR movR
  split
  · rfl
  split
  · rfl
  cases q[i.toNat]? with
  | none => rfl
  | some x =>
    simp only [ruL, ruFit, List.find?_cons, List.find?_nil, names_ne, stayR, Bool.true_and, Bool.false_and, decide_true, decide_false, List.mem_cons, List.not_mem_nil, or_false]
    rcases Int.lt_or_le x.st 8 with g | g
    · rcases Int.lt_or_le x.st 0 with g0 | g0
      · have e1 : x.st ≠ 1 := by omega
        have e2 : x.st ≠ 2 := by omega
        have e3 : x.st ≠ 7 := by omega
        simp [e1, e2, e3, e1.symm, e2.symm, e3.symm]
      · have : x.st = 0 ∨ x.st = 1 ∨ x.st = 2 ∨ x.st = 3 ∨ x.st = 4 ∨ x.st = 5 ∨ x.st = 6 ∨ x.st = 7 := by omega
        rcases this with e | e | e | e | e | e | e | e <;> simp [e]
    · have e1 : x.st ≠ 1 := by omega
      have e2 : x.st ≠ 2 := by omega
      have e3 : x.st ≠ 7 := by omega
      simp [e1, e2, e3, e1.symm, e2.symm, e3.symm]
theorem reject_ref (q : List Rq) (i : Int) (hq : Sm q.length) : Spec Try.prog 27 [.d (.sl (q.map rD)), .d (.int .i64 i)] [] (.tup [.d (.sl ((movR stayR q i sRe).1.map rD)), .d (.int .i64 (movR stayR q i sRe).2)]) [] := by
  obtain ⟨R, hR⟩ : ∃ R, R = movR stayR q i sRe := ⟨_, rfl⟩
  have h := moved_ref q i [1, 2] 3 hq (by simp)
  rw [ref_reject, ← hR] at h
  rw [← hR]
  simp only [List.map_cons, List.map_nil, uD] at h
  refine spec_of_ev (fn := Try.f27) DX_ok 3000 Try.func27 rfl rfl (Nat.le_of_ble_eq_true rfl) ?_
  simp (maxSteps := 4000000) -implicitDefEqProofs only [Try.f27, go_sem]
  simp (maxSteps := 4000000) -implicitDefEqProofs only [go_sem, Nat.reduceAdd, Nat.reduceSub, Nat.reduceLT, Nat.reduceLeDiff, Nat.reduceEqDiff, ↓reduceIte]
  try refine ⟨by omega, ?_⟩
  refine ECall.dat (by simp only [go_sem]; rfl) (by rfl) ?_
  refine ecall0 _ h (by simp only [go_sem]) (by simp only [go_sem]) ?_
  simp (maxSteps := 4000000) -implicitDefEqProofs only [go_sem, Nat.reduceAdd, Nat.reduceSub, Nat.reduceLT, Nat.reduceLeDiff, Nat.reduceEqDiff, ↓reduceIte]
  exact wk_dat (r' := .tup [.d (.sl (R.1.map rD)), .d (.int .i64 R.2)]) (by simp only [go_sem]; rfl) rfl (by simp only [go_sem])
theorem ref_cancel (q : List Rq) (i : Int) : refR q i [1, 2, 7] 4 = movR stayR q i sCa := by
  unfold refR movR
  split
  · rfl
  split
  · rfl
  cases q[i.toNat]? with
  | none => rfl
  | some x =>
    simp only [ruL, ruFit, List.find?_cons, List.find?_nil, names_ne, stayR, Bool.true_and, Bool.false_and, decide_true, decide_false, List.mem_cons, List.not_mem_nil, or_false]
    rcases Int.lt_or_le x.st 8 with g | g
    · rcases Int.lt_or_le x.st 0 with g0 | g0
      · have e1 : x.st ≠ 1 := by omega
        have e2 : x.st ≠ 2 := by omega
        have e3 : x.st ≠ 7 := by omega
        simp [e1, e2, e3, e1.symm, e2.symm, e3.symm]
      · have : x.st = 0 ∨ x.st = 1 ∨ x.st = 2 ∨ x.st = 3 ∨ x.st = 4 ∨ x.st = 5 ∨ x.st = 6 ∨ x.st = 7 := by omega
        rcases this with e | e | e | e | e | e | e | e <;> simp [e]
    · have e1 : x.st ≠ 1 := by omega
      have e2 : x.st ≠ 2 := by omega
      have e3 : x.st ≠ 7 := by omega
      simp [e1, e2, e3, e1.symm, e2.symm, e3.symm]
theorem cancel_ref (q : List Rq) (i : Int) (hq : Sm q.length) : Spec Try.prog 29 [.d (.sl (q.map rD)), .d (.int .i64 i)] [] (.tup [.d (.sl ((movR stayR q i sCa).1.map rD)), .d (.int .i64 (movR stayR q i sCa).2)]) [] := by
  obtain ⟨R, hR⟩ : ∃ R, R = movR stayR q i sCa := ⟨_, rfl⟩
  have h := moved_ref q i [1, 2, 7] 4 hq (by simp)
  rw [ref_cancel, ← hR] at h
  rw [← hR]
  simp only [List.map_cons, List.map_nil, uD] at h
  refine spec_of_ev (fn := Try.f29) DX_ok 3000 Try.func29 rfl rfl (Nat.le_of_ble_eq_true rfl) ?_
  simp (maxSteps := 4000000) -implicitDefEqProofs only [Try.f29, go_sem]
  simp (maxSteps := 4000000) -implicitDefEqProofs only [go_sem, Nat.reduceAdd, Nat.reduceSub, Nat.reduceLT, Nat.reduceLeDiff, Nat.reduceEqDiff, ↓reduceIte]
  try refine ⟨by omega, ?_⟩
  refine ECall.dat (by simp only [go_sem]; rfl) (by rfl) ?_
  refine ecall0 _ h (by simp only [go_sem]) (by simp only [go_sem]) ?_
  simp (maxSteps := 4000000) -implicitDefEqProofs only [go_sem, Nat.reduceAdd, Nat.reduceSub, Nat.reduceLT, Nat.reduceLeDiff, Nat.reduceEqDiff, ↓reduceIte]
  exact wk_dat (r' := .tup [.d (.sl (R.1.map rD)), .d (.int .i64 R.2)]) (by simp only [go_sem]; rfl) rfl (by simp only [go_sem])
def moreR (q : List Rq) (i : Nat) (x : Rq) : List Rq := q.take i ++ q.drop (i + 1) ++ [more (setSt x (if x.st = 3 then 1 else 2))]
def retR (q : List Rq) (i : Int) : List Rq × Int :=
  if qcheck q ≠ 0 then ([], qcheck q) else if i < 0 ∨ (q.length : Int) ≤ i then ([], 2) else
    match q[i.toNat]? with
    | none => ([], 2)
    | some x => if x.st = 3 ∨ x.st = 7 then
        if x.tr = 5 then ([], 4) else if qcheck (moreR q i.toNat x) ≠ 0 then ([], 14) else (moreR q i.toNat x, 0)
      else ([], 36)
end Go.AX.Qu

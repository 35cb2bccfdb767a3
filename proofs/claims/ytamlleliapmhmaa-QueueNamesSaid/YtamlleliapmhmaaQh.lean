/- Queues: moves: rules, moved, Approve, Reject, Cancel, own side. -/
import Derived.Test.YtamlleliapmhmaaQg
set_option maxHeartbeats 8000000
set_option linter.unusedVariables false
set_option linter.unusedSimpArgs false
set_option maxRecDepth 20000
namespace Go.AX.Qu
open Go.Proofs Go.RowKit Go.IntWalk Go.AX.Br
abbrev Ru := ByteArray × Int × Int
def sAp : ByteArray := ⟨#[97, 112, 112, 114, 111, 118, 101]⟩
def sRe : ByteArray := ⟨#[114, 101, 106, 101, 99, 116]⟩
def sCa : ByteArray := ⟨#[99, 97, 110, 99, 101, 108]⟩
def sTr : ByteArray := ⟨#[114, 101, 116, 114, 121]⟩
def ruL : List Ru := [(sAp, 1, 2), (sRe, 1, 3), (sRe, 2, 3), (sCa, 1, 4), (sCa, 2, 4), (sCa, 7, 4), (sTr, 3, 1), (sTr, 7, 2)]
def ruD (r : Ru) : List D := [.str r.1, .int .u8 r.2.1, .int .u8 r.2.2]
attribute [go_sem] ruD
theorem ruD_len {l : List Ru} : (∀ e ∈ l.map ruD, e.length = 3) = True := eq_true (map_len (g := ruD) fun _ => rfl)
attribute [go_sem] ruD_len
def ruFit (mv : ByteArray) (st : Int) (r : Ru) : Bool := decide (r.1 = mv) && decide (r.2.1 = st)
def movR (T : List Rq → Nat → List Rq × Int) (q : List Rq) (i : Int) (mv : ByteArray) : List Rq × Int :=
  if qcheck q ≠ 0 then ([], qcheck q) else if i < 0 ∨ (q.length : Int) ≤ i then ([], 2) else
    match q[i.toNat]? with
    | none => ([], 2)
    | some x => match ruL.find? (ruFit mv x.st) with
      | none => ([], 36)
      | some r => T (q.modify i.toNat fun y => setSt y r.2.2) i.toNat
theorem find_at {α : Type} {p : α → Bool} : ∀ {l : List α} {k : Nat} {x : α}, (∀ (j : Nat) (y : α), l[j]? = some y → j < k → p y = false) → l[k]? = some x → p x = true → l.find? p = some x
  | [], k, x, _, h, _ => by simp at h
  | y :: ys, 0, x, _, h, hp => by simp at h; subst h; simp [hp]
  | y :: ys, k + 1, x, hj, h, hp => by
    have h0 := hj 0 y rfl (by omega)
    rw [List.find?_cons, h0]
    exact find_at (k := k) (fun j z hz hlt => hj (j + 1) z (by simpa using hz) (Nat.succ_lt_succ hlt)) (by simpa using h) hp
theorem find_no {α : Type} {p : α → Bool} {l : List α} (h : ∀ (j : Nat) (y : α), l[j]? = some y → j < l.length → p y = false) : l.find? p = none := by
  rw [List.find?_eq_none]
  intro x hx
  obtain ⟨j, hj⟩ := List.mem_iff_getElem?.1 hx
  simp [h j x hj (some_lt hj)]
theorem rules_own : Spec Try.prog 49 [] [] (.own 0) [.row 3 (ruL.map ruD)] := by
  refine spec_of_ev (fn := Try.f49) DX_ok 3000 Try.func49 rfl rfl (Nat.le_of_ble_eq_true rfl) ?_
  simp (maxSteps := 4000000) -implicitDefEqProofs only [Try.f49, go_sem]
  simp (maxSteps := 4000000) -implicitDefEqProofs only [go_sem, Nat.reduceAdd, Nat.reduceSub, Nat.reduceLT, Nat.reduceLeDiff, Nat.reduceEqDiff, ↓reduceIte]
  try refine ⟨by omega, ?_⟩
  exact Wk.refl _ _ _
theorem qcheck_valid {q : List Rq} (h : qcheck q = 0) : ∀ x ∈ q, valid x = true := fun x hx => by
  simp only [qcheck] at h
  split at h
  · omega
  split at h
  · omega
  · next _ h2 =>
    cases hv : valid x with
    | true => rfl
    | false => exact absurd (List.any_eq_true.2 ⟨x, hx, by simp [hv]⟩) h2
theorem valid_tr {x : Rq} (h : valid x = true) : 0 ≤ x.tr ∧ x.tr ≤ 5 := by
  simp only [valid, Bool.and_eq_true, decide_eq_true_eq] at h
  exact ⟨h.1.2, h.2⟩
theorem mod_tr {q : List Rq} {i : Nat} {s : Int} (h : qcheck q = 0) : ∀ x ∈ q.modify i (fun y => setSt y s), 0 ≤ x.tr ∧ x.tr ≤ 5 := fun x hx => by
  obtain ⟨j, hj⟩ := List.mem_iff_getElem?.1 hx
  rw [List.getElem?_modify] at hj
  cases hq : q[j]? with
  | none => simp [hq] at hj
  | some y =>
    have hy := valid_tr (qcheck_valid h y (List.mem_of_getElem? hq))
    rw [hq] at hj
    by_cases e : i = j
    · simp [e] at hj; subst hj; exact hy
    · simp [e] at hj; subst hj; exact hy
theorem mod_len {q : List Rq} {i : Nat} {f : Rq → Rq} : (q.modify i f).length = q.length := List.length_modify ..
theorem moved_own (T : List Rq → Nat → List Rq × Int) (g : Nat) (hth : ∀ (l : List Rq) (i : Nat), l.length ≤ 30 → i < l.length → (∀ x ∈ l, 0 ≤ x.tr ∧ x.tr ≤ 5) → Spec Try.prog g [.own 0, .d (.int .i64 i)] [.row 5 (l.map rD)] (.tup [.d (.sl ((T l i).1.map rD)), .d (.int .i64 (T l i).2)]) [.gone])
    (q : List Rq) (i : Int) (mv : ByteArray) (hq : Sm q.length) : Spec Try.prog 40 [.d (.sl (q.map rD)), .d (.int .i64 i), .d (.str mv), .fn g []] [] (.tup [.d (.sl ((movR T q i mv).1.map rD)), .d (.int .i64 (movR T q i mv).2)]) [] := by
  obtain ⟨R, hR⟩ : ∃ R, R = movR T q i mv := ⟨_, rfl⟩
  rw [← hR]
  unfold movR at hR
  refine spec_of_ev (fn := Try.f40) DX_ok 3000 Try.func40 rfl rfl (Nat.le_of_ble_eq_true rfl) ?_
  simp (maxSteps := 4000000) -implicitDefEqProofs only [Try.f40, go_sem]
  refine ecall0 _ (qcheck_own q hq) (by simp only [go_sem]) (by simp only [go_sem]) ?_
  simp (maxSteps := 4000000) -implicitDefEqProofs only [go_sem, Nat.reduceAdd, Nat.reduceSub, Nat.reduceLT, Nat.reduceLeDiff, Nat.reduceEqDiff, ↓reduceIte]
  by_cases h1 : qcheck q = 0
  case neg =>
    have d1 : (qcheck q != 0) = true := by simp [h1]
    rw [if_pos h1] at hR
    simp (maxSteps := 4000000) -implicitDefEqProofs only [go_sem, d1, Option.some.injEq, forall_eq', and_true, true_and, Bool.not_true, Bool.not_false, decide_true, Nat.reduceAdd, Nat.reduceSub, Nat.reduceLT, Nat.reduceLeDiff, Nat.reduceEqDiff, ↓reduceIte]
    rw [hR]
    exact wk_dat (r' := .tup [.d (.sl []), .d (.int .i64 (qcheck q))]) (by simp only [go_sem]; rfl) rfl (by simp only [go_sem])
  have d1 : (qcheck q != 0) = false := by simp [h1]
  have hl := qcheck_len h1
  rw [if_neg (by omega)] at hR
  rcases Int.lt_or_le i 0 with h2 | h2
  · have d2 := decide_eq_true h2
    rw [if_pos (.inl h2)] at hR
    simp (maxSteps := 4000000) -implicitDefEqProofs only [go_sem, d1, d2, Option.some.injEq, forall_eq', and_true, true_and, Bool.not_true, Bool.not_false, decide_true, Nat.reduceAdd, Nat.reduceSub, Nat.reduceLT, Nat.reduceLeDiff, Nat.reduceEqDiff, ↓reduceIte]
    rw [hR]
    exact wk_dat (r' := .tup [.d (.sl []), .d (.int .i64 2)]) (by simp only [go_sem]; rfl) rfl (by simp only [go_sem])
  have d2 := decide_eq_false (Int.not_lt.2 h2)
  rcases Int.lt_or_le i q.length with h3 | h3
  case inr =>
    have d3 := decide_eq_true h3
    rw [if_pos (.inr h3)] at hR
    simp (maxSteps := 4000000) -implicitDefEqProofs only [go_sem, d1, d2, d3, Option.some.injEq, forall_eq', and_true, true_and, Bool.not_true, Bool.not_false, decide_true, Nat.reduceAdd, Nat.reduceSub, Nat.reduceLT, Nat.reduceLeDiff, Nat.reduceEqDiff, ↓reduceIte]
    rw [hR]
    exact wk_dat (r' := .tup [.d (.sl []), .d (.int .i64 2)]) (by simp only [go_sem]; rfl) rfl (by simp only [go_sem])
  have d3 := decide_eq_false (Int.not_le.2 h3)
  rw [if_neg (by omega)] at hR
  obtain ⟨i, rfl⟩ : ∃ n : Nat, i = n := ⟨i.toNat, by omega⟩
  simp only [Int.toNat_natCast] at hR
  have h3' : i < q.length := by omega
  obtain ⟨x, hx⟩ : ∃ x, q[i]? = some x := ⟨q[i]'h3', List.getElem?_eq_getElem _⟩
  rw [hx] at hR
  simp only at hR
  have n1 : (0 ≤ (i : Int) ∧ (i : Int) < q.length) = True := eq_true (by omega)
  have n2 : (i < q.length) = True := eq_true (by omega)
  simp (maxSteps := 4000000) -implicitDefEqProofs only [go_sem, d1, d2, d3, Option.some.injEq, forall_eq', and_true, true_and, Bool.not_true, Bool.not_false, decide_true, Nat.reduceAdd, Nat.reduceSub, Nat.reduceLT, Nat.reduceLeDiff, Nat.reduceEqDiff, ↓reduceIte]
  refine ecallN _ _ rules_own (by simp only [go_sem]) ?_
  simp (maxSteps := 4000000) -implicitDefEqProofs only [go_sem, Nat.reduceAdd, Nat.reduceSub, Nat.reduceLT, Nat.reduceLeDiff, Nat.reduceEqDiff, ↓reduceIte]
  refine eloop (S := Nat) (fun k => mkE 62 [(0, .d (.sl (q.map rD))), (1, .d (.int .i64 i)), (2, .d (.str mv)), (3, .fn g []), (27, .own 0), (28, .d (.int .i64 (ruL.length : Nat))), (29, .d (.int .i64 k))]) (fun k => [.row 3 (ruL.map ruD)]) (fun k => k ≤ ruL.length ∧ ∀ (j : Nat) (y : Ru), ruL[j]? = some y → j < k → ruFit mv x.st y = false) (fun k => ruL.length - k) 0 ⟨by omega, by omega⟩ (Wk.sub (by (simp only [go_sem]) <;> trivial)) ?_
  rintro k ⟨hk, hj⟩
  have hll : ruL.length = 8 := rfl
  rcases Nat.lt_or_ge k ruL.length with k2 | k2
  case inr =>
    have d4 : decide ((k : Int) < ruL.length) = false := by simp; omega
    simp (maxSteps := 4000000) -implicitDefEqProofs only [go_sem, d4, Option.some.injEq, forall_eq', and_true, true_and, Bool.not_true, Bool.not_false, decide_true, Nat.reduceAdd, Nat.reduceSub, Nat.reduceLT, Nat.reduceLeDiff, Nat.reduceEqDiff, ↓reduceIte]
    have hk8 : k = ruL.length := by omega
    subst hk8
    rw [find_no hj] at hR
    rw [hR]
    exact wk_dat (r' := .tup [.d (.sl []), .d (.int .i64 36)]) (by simp only [go_sem]; rfl) rfl (by simp only [go_sem])
  have d4 : decide ((k : Int) < ruL.length) = true := by simp; omega
  obtain ⟨r, hr⟩ : ∃ r, ruL[k]? = some r := ⟨ruL[k]'k2, List.getElem?_eq_getElem _⟩
  have n3 : (0 ≤ (k : Int) ∧ (k : Int) < ruL.length) = True := eq_true (by omega)
  have n4 : (k < ruL.length) = True := eq_true k2
  have w1 : IntKind.i64.wrap ((k : Int) + 1) = k + 1 := i64_in _ (by omega)
  have step : ruFit mv x.st r = false → (k + 1 ≤ ruL.length ∧ ∀ (j : Nat) (y : Ru), ruL[j]? = some y → j < k + 1 → ruFit mv x.st y = false) := fun hf => ⟨k2, fun j y hy hlt => by
    rcases Nat.lt_or_ge j k with q1 | q1
    · exact hj j y hy q1
    · have : j = k := by omega
      subst this
      rw [hr] at hy; cases hy; exact hf⟩
  by_cases e1 : r.1 = mv
  case neg =>
    have f1 : decide (r.1 = mv) = false := decide_eq_false e1
    simp (maxSteps := 4000000) -implicitDefEqProofs only [go_sem, d4, n3, n4, hr, Option.some.injEq, forall_eq', and_true, true_and, Bool.not_true, Bool.not_false, decide_true, Nat.reduceAdd, Nat.reduceSub, Nat.reduceLT, Nat.reduceLeDiff, Nat.reduceEqDiff, ↓reduceIte]
    refine DX.plain (.take 0 false (.take 1 false (.take 2 false (.take 3 false (.take 4 false (.take 5 false (.take 6 false (.take 7 false (.take 8 false (.take 9 false (.take 10 false (.take 11 false (.take 12 false (.take 13 false .done)))))))))))))) (by kernel_rfl) (by kernel_rfl) Ty.mixed ?_
    simp (maxSteps := 4000000) -implicitDefEqProofs only [go_sem, f1, Option.some.injEq, forall_eq', and_true, true_and, Bool.not_true, Bool.not_false, decide_true, Nat.reduceAdd, Nat.reduceSub, Nat.reduceLT, Nat.reduceLeDiff, Nat.reduceEqDiff, ↓reduceIte]
    simp (maxSteps := 4000000) -implicitDefEqProofs only [go_sem, w1, Option.some.injEq, forall_eq', and_true, true_and, Bool.not_true, Bool.not_false, decide_true, Nat.reduceAdd, Nat.reduceSub, Nat.reduceLT, Nat.reduceLeDiff, Nat.reduceEqDiff, ↓reduceIte]
    exact .mk (k + 1) (step (by simp [ruFit, e1])) (by omega) (Wk.via [0] (by (simp only [go_sem, ↓reduceIte]) <;> trivial) (by simp (maxSteps := 4000000) -implicitDefEqProofs only [go_sem, Nat.reduceAdd, Nat.reduceSub, Nat.reduceLT, Nat.reduceLeDiff, Nat.reduceEqDiff, ↓reduceIte]) (by simp) (by simp) (by (simp (maxSteps := 4000000) -implicitDefEqProofs only [go_sem, Nat.reduceAdd, Nat.reduceSub, Nat.reduceLT, Nat.reduceLeDiff, Nat.reduceEqDiff, ↓reduceIte]) <;> trivial) (by simp only [go_sem]) (Nat.zero_le _) (fun i h => absurd h (Nat.not_lt_zero i)))
  have f1 : decide (r.1 = mv) = true := decide_eq_true e1
  by_cases e2 : r.2.1 = x.st
  case neg =>
    have f2 : (r.2.1 == x.st) = false := by simp [e2]
    simp (maxSteps := 4000000) -implicitDefEqProofs only [go_sem, d4, n3, n4, hr, Option.some.injEq, forall_eq', and_true, true_and, Bool.not_true, Bool.not_false, decide_true, Nat.reduceAdd, Nat.reduceSub, Nat.reduceLT, Nat.reduceLeDiff, Nat.reduceEqDiff, ↓reduceIte]
    refine DX.plain (.take 0 false (.take 1 false (.take 2 false (.take 3 false (.take 4 false (.take 5 false (.take 6 false (.take 7 false (.take 8 false (.take 9 false (.take 10 false (.take 11 false (.take 12 false (.take 13 false .done)))))))))))))) (by kernel_rfl) (by kernel_rfl) Ty.mixed ?_
    simp (maxSteps := 4000000) -implicitDefEqProofs only [go_sem, f1, f2, n1, n2, hx, Option.some.injEq, forall_eq', and_true, true_and, Bool.not_true, Bool.not_false, decide_true, Nat.reduceAdd, Nat.reduceSub, Nat.reduceLT, Nat.reduceLeDiff, Nat.reduceEqDiff, ↓reduceIte]
    simp (maxSteps := 4000000) -implicitDefEqProofs only [go_sem, w1, Option.some.injEq, forall_eq', and_true, true_and, Bool.not_true, Bool.not_false, decide_true, Nat.reduceAdd, Nat.reduceSub, Nat.reduceLT, Nat.reduceLeDiff, Nat.reduceEqDiff, ↓reduceIte]
    exact .mk (k + 1) (step (by simp [ruFit, e2])) (by omega) (Wk.via [0] (by (simp only [go_sem, ↓reduceIte]) <;> trivial) (by simp (maxSteps := 4000000) -implicitDefEqProofs only [go_sem, Nat.reduceAdd, Nat.reduceSub, Nat.reduceLT, Nat.reduceLeDiff, Nat.reduceEqDiff, ↓reduceIte]) (by simp) (by simp) (by (simp (maxSteps := 4000000) -implicitDefEqProofs only [go_sem, Nat.reduceAdd, Nat.reduceSub, Nat.reduceLT, Nat.reduceLeDiff, Nat.reduceEqDiff, ↓reduceIte]) <;> trivial) (by simp only [go_sem]) (Nat.zero_le _) (fun i h => absurd h (Nat.not_lt_zero i)))
  have f2 : (r.2.1 == x.st) = true := by simp [e2]
  rw [find_at hj hr (by simp [ruFit, e1, e2])] at hR
  simp only at hR
  simp (maxSteps := 4000000) -implicitDefEqProofs only [go_sem, d4, n3, n4, hr, Option.some.injEq, forall_eq', and_true, true_and, Bool.not_true, Bool.not_false, decide_true, Nat.reduceAdd, Nat.reduceSub, Nat.reduceLT, Nat.reduceLeDiff, Nat.reduceEqDiff, ↓reduceIte]
  refine DX.plain (.take 0 false (.take 1 false (.take 2 false (.take 3 false (.take 4 false (.take 5 false (.take 6 false (.take 7 false (.take 8 false (.take 9 false (.take 10 false (.take 11 false (.take 12 false (.take 13 false .done)))))))))))))) (by kernel_rfl) (by kernel_rfl) Ty.mixed ?_
  simp (maxSteps := 4000000) -implicitDefEqProofs only [go_sem, f1, f2, n1, n2, hx, Option.some.injEq, forall_eq', and_true, true_and, Bool.not_true, Bool.not_false, decide_true, Nat.reduceAdd, Nat.reduceSub, Nat.reduceLT, Nat.reduceLeDiff, Nat.reduceEqDiff, ↓reduceIte]
  refine ecallN _ _ (clone_rq q (by omega)) (by simp only [go_sem]) ?_
  simp (maxSteps := 4000000) -implicitDefEqProofs only [go_sem, n1, n2, hx, Option.some.injEq, forall_eq', and_true, true_and, Bool.not_true, Bool.not_false, decide_true, Nat.reduceAdd, Nat.reduceSub, Nat.reduceLT, Nat.reduceLeDiff, Nat.reduceEqDiff, ↓reduceIte]
  rw [set_mod hx]
  refine .mk [2] [.own 0, .d (.int .i64 i)] [.row 5 ((q.modify i fun y => setSt y r.2.2).map rD)] _ _ rfl (by simp [bds, bd]) (by simp) (by simp) rfl (by simp [bdOs, bdO]) (hth _ i (by rw [mod_len]; omega) (by rw [mod_len]; omega) (mod_tr h1)) ?_
  simp (maxSteps := 4000000) -implicitDefEqProofs only [go_sem, Nat.reduceAdd, Nat.reduceSub, Nat.reduceLT, Nat.reduceLeDiff, Nat.reduceEqDiff, ↓reduceIte]
  rw [hR]
  exact wk_dat (r' := .tup [.d (.sl ((T (q.modify i fun y => setSt y r.2.2) i).1.map rD)), .d (.int .i64 (T (q.modify i fun y => setSt y r.2.2) i).2)]) (by simp only [go_sem]; rfl) rfl (by simp only [go_sem])
def stayR (l : List Rq) (_ : Nat) : List Rq × Int := (l, 0)
theorem stay_own (l : List Rq) (i : Nat) (hl : l.length ≤ 30) (hi : i < l.length) (_ : ∀ x ∈ l, 0 ≤ x.tr ∧ x.tr ≤ 5) : Spec Try.prog 41 [.own 0, .d (.int .i64 i)] [.row 5 (l.map rD)] (.tup [.d (.sl ((stayR l i).1.map rD)), .d (.int .i64 (stayR l i).2)]) [.gone] := by
  refine Spec.frz 0 rfl ?_
  simp only [go_sem]
  refine Spec.lift0 ?_ _ (by simp only [go_sem]) (by simp only [go_sem])
  refine spec_of_ev (fn := Try.f41) DX_ok 3000 Try.func41 rfl rfl (Nat.le_of_ble_eq_true rfl) ?_
  simp (maxSteps := 4000000) -implicitDefEqProofs only [Try.f41, go_sem]
  exact wk_dat (r' := .tup [.d (.sl (l.map rD)), .d (.int .i64 0)]) (by simp only [go_sem]; rfl) rfl (by simp only [go_sem])
theorem approve_own (q : List Rq) (i : Int) (hq : Sm q.length) : Spec Try.prog 24 [.d (.sl (q.map rD)), .d (.int .i64 i)] [] (.tup [.d (.sl ((movR stayR q i sAp).1.map rD)), .d (.int .i64 (movR stayR q i sAp).2)]) [] := by
  obtain ⟨R, hR⟩ : ∃ R, R = movR stayR q i sAp := ⟨_, rfl⟩
  have h := moved_own stayR _ stay_own q i sAp hq
  rw [← hR] at h ⊢
  refine spec_of_ev (fn := Try.f24) DX_ok 3000 Try.func24 rfl rfl (Nat.le_of_ble_eq_true rfl) ?_
  simp (maxSteps := 4000000) -implicitDefEqProofs only [Try.f24, go_sem]
  refine ecall0 _ h (by simp only [go_sem]) (by simp only [go_sem]) ?_
  simp (maxSteps := 4000000) -implicitDefEqProofs only [go_sem, Nat.reduceAdd, Nat.reduceSub, Nat.reduceLT, Nat.reduceLeDiff, Nat.reduceEqDiff, ↓reduceIte]
  exact wk_dat (r' := .tup [.d (.sl (R.1.map rD)), .d (.int .i64 R.2)]) (by simp only [go_sem]; rfl) rfl (by simp only [go_sem])
theorem reject_own (q : List Rq) (i : Int) (hq : Sm q.length) : Spec Try.prog 26 [.d (.sl (q.map rD)), .d (.int .i64 i)] [] (.tup [.d (.sl ((movR stayR q i sRe).1.map rD)), .d (.int .i64 (movR stayR q i sRe).2)]) [] := by
  obtain ⟨R, hR⟩ : ∃ R, R = movR stayR q i sRe := ⟨_, rfl⟩
  have h := moved_own stayR _ stay_own q i sRe hq
  rw [← hR] at h ⊢
  refine spec_of_ev (fn := Try.f26) DX_ok 3000 Try.func26 rfl rfl (Nat.le_of_ble_eq_true rfl) ?_
  simp (maxSteps := 4000000) -implicitDefEqProofs only [Try.f26, go_sem]
  refine ecall0 _ h (by simp only [go_sem]) (by simp only [go_sem]) ?_
  simp (maxSteps := 4000000) -implicitDefEqProofs only [go_sem, Nat.reduceAdd, Nat.reduceSub, Nat.reduceLT, Nat.reduceLeDiff, Nat.reduceEqDiff, ↓reduceIte]
  exact wk_dat (r' := .tup [.d (.sl (R.1.map rD)), .d (.int .i64 R.2)]) (by simp only [go_sem]; rfl) rfl (by simp only [go_sem])
theorem cancel_own (q : List Rq) (i : Int) (hq : Sm q.length) : Spec Try.prog 28 [.d (.sl (q.map rD)), .d (.int .i64 i)] [] (.tup [.d (.sl ((movR stayR q i sCa).1.map rD)), .d (.int .i64 (movR stayR q i sCa).2)]) [] := by
  obtain ⟨R, hR⟩ : ∃ R, R = movR stayR q i sCa := ⟨_, rfl⟩
  have h := moved_own stayR _ stay_own q i sCa hq
  rw [← hR] at h ⊢
  refine spec_of_ev (fn := Try.f28) DX_ok 3000 Try.func28 rfl rfl (Nat.le_of_ble_eq_true rfl) ?_
  simp (maxSteps := 4000000) -implicitDefEqProofs only [Try.f28, go_sem]
  refine ecall0 _ h (by simp only [go_sem]) (by simp only [go_sem]) ?_
  simp (maxSteps := 4000000) -implicitDefEqProofs only [go_sem, Nat.reduceAdd, Nat.reduceSub, Nat.reduceLT, Nat.reduceLeDiff, Nat.reduceEqDiff, ↓reduceIte]
  exact wk_dat (r' := .tup [.d (.sl (R.1.map rD)), .d (.int .i64 R.2)]) (by simp only [go_sem]; rfl) rfl (by simp only [go_sem])
mutual
theorem bd_mono {k m : Nat} (h : k ≤ m) : ∀ x : AV, bd k x → bd m x
  | .agg cs, e => bds_mono h cs (by simpa [bd] using e)
  | .tup cs, e => bds_mono h cs (by simpa [bd] using e)
  | .own l, e => by simp only [bd] at e ⊢; omega
  | .ptr l _, e => by simp only [bd] at e ⊢; omega
  | .rptr l _ _ _, e => by simp only [bd] at e ⊢; omega
  | .mp l, e => by simp only [bd] at e ⊢; omega
  | .fn _ caps, e => bds_mono h caps (by simpa [bd] using e)
  | .any, _ => trivial
  | .d _, _ => trivial
  | .eptr _, _ => trivial
  | .nil, _ => trivial
  | .raw _, _ => trivial
theorem bds_mono {k m : Nat} (h : k ≤ m) : ∀ xs : List AV, bds k xs → bds m xs
  | [], _ => trivial
  | x :: xs, e => ⟨bd_mono h x e.1, bds_mono h xs e.2⟩
end
/-- with one block of the caller's, that has been given away -/
theorem wk_dat1 {r r' r'' : AV} {τ τ' : List AObj} (h : dat τ r = some (r', τ')) (he : r' = r'') (hb : bd 0 r'') (hl : 0 < τ'.length) : Wk 1 [r] τ [r''] [.gone] := by
  subst he
  refine Wk.trans (dat_sound r h 1) (Wk.via [0] ?_ ⟨bd_mono (Nat.zero_le _) _ hb, trivial⟩ (by simp) (by simpa using hl) ?_ (by simp [bdOs, bdO]) (by simp) ?_)
  · have : rens (at0 [0]) [r'] = [r'] := by simp [rens, ren_id hb]
    rw [this]; exact wkE_refl _
  · simp [obs, mapO, renO, wkOs, wkO]
  · intro i hi
    have : i = 0 := by omega
    subst this; rfl
/-- the moved request, tried once more, behind all others -/
def more (r : Rq) : Rq := ⟨r.br, r.ch, r.st, r.ov, r.tr + 1⟩
def againR (l : List Rq) (i : Nat) : List Rq × Int :=
  match l[i]? with
  | none => ([], 2)
  | some x => if x.tr = 5 then ([], 4) else
    if qcheck (l.take i ++ l.drop (i + 1) ++ [more x]) ≠ 0 then ([], qcheck (l.take i ++ l.drop (i + 1) ++ [more x])) else (l.take i ++ l.drop (i + 1) ++ [more x], 0)
theorem again_own (l : List Rq) (i : Nat) (hl : l.length ≤ 30) (hi : i < l.length) (ht : ∀ x ∈ l, 0 ≤ x.tr ∧ x.tr ≤ 5) : Spec Try.prog 43 [.own 0, .d (.int .i64 i)] [.row 5 (l.map rD)] (.tup [.d (.sl ((againR l i).1.map rD)), .d (.int .i64 (againR l i).2)]) [.gone] := by
  obtain ⟨R, hR⟩ : ∃ R, R = againR l i := ⟨_, rfl⟩
  rw [← hR]
  unfold againR at hR
  obtain ⟨x, hx⟩ : ∃ x, l[i]? = some x := ⟨l[i]'hi, List.getElem?_eq_getElem _⟩
  rw [hx] at hR
  simp only at hR
  have n1 : (0 ≤ (i : Int) ∧ (i : Int) < l.length) = True := eq_true (by omega)
  have n2 : (i < l.length) = True := eq_true (by omega)
  refine spec_of_ev (fn := Try.f43) DX_ok 3000 Try.func43 rfl rfl (Nat.le_of_ble_eq_true rfl) ?_
  simp (maxSteps := 4000000) -implicitDefEqProofs only [Try.f43, go_sem]
  have hxt := ht x (List.mem_of_getElem? hx)
  by_cases h5 : x.tr = 5
  · have d5 : (x.tr == 5) = true := by simp [h5]
    rw [if_pos h5] at hR
    simp (maxSteps := 4000000) -implicitDefEqProofs only [go_sem, n1, n2, hx, d5, Option.some.injEq, forall_eq', and_true, true_and, Bool.not_true, Bool.not_false, decide_true, Nat.reduceAdd, Nat.reduceSub, Nat.reduceLT, Nat.reduceLeDiff, Nat.reduceEqDiff, ↓reduceIte]
    rw [hR]
    exact wk_dat1 (r' := .tup [.d (.sl []), .d (.int .i64 4)]) (by simp only [go_sem]; rfl) rfl (by simp only [go_sem]) (by simp)
  have d5 : (x.tr == 5) = false := by simp [h5]
  rw [if_neg h5] at hR
  have w1 : IntKind.i64.wrap (x.tr + 1) = x.tr + 1 := i64_in _ (by omega)
  have w2 : IntKind.i64.wrap ((i : Int) + 1) = ((i + 1 : Nat) : Int) := by rw [i64_in _ (by omega)]; simp
  simp (maxSteps := 4000000) -implicitDefEqProofs only [go_sem, n1, n2, hx, d5, w1, w2, Option.some.injEq, forall_eq', and_true, true_and, Bool.not_true, Bool.not_false, decide_true, Nat.reduceAdd, Nat.reduceSub, Nat.reduceLT, Nat.reduceLeDiff, Nat.reduceEqDiff, ↓reduceIte]
  have hdel := fun σ => Spec.frame (σ := .row 5 (l.map rD) :: σ) [0] (delete_rq (l.map rD) i (i + 1) (by omega) (by simp; omega) (by simp; omega)) (by simp [bds, bd]) (by simp) (by simp) rfl (by simp [bdOs, bdO])
  simp only [go_sem, Nat.lt_irrefl, ↓reduceIte, Nat.sub_self, Nat.add_zero] at hdel
  refine DX.plain (.take 0 true (.take 1 true (.take 2 true (.take 3 true (.take 5 true (.run [4, 6] (fun i => if i = 4 then [true, false, false, false, false] else [false, true, true, true, true]) (fun i => if i = 4 then .run [6] (fun _ => [false]) (fun _ => .run [7] (fun _ => []) (fun _ => .take 8 false .done)) else .run [4] (fun _ => [false, false, false, false]) (fun _ => .run [7] (fun _ => []) (fun _ => .take 8 false .done))))))))) (by kernel_rfl) (by kernel_rfl) Ty.mixed ?_
  simp (maxSteps := 4000000) -implicitDefEqProofs only [go_sem, w1, w2, Option.some.injEq, forall_eq', and_true, true_and, Bool.not_true, Bool.not_false, decide_true, Nat.reduceAdd, Nat.reduceSub, Nat.reduceLT, Nat.reduceLeDiff, Nat.reduceEqDiff, ↓reduceIte]
  obtain ⟨L, hL⟩ : ∃ L, L = l.take i ++ l.drop (i + 1) := ⟨_, rfl⟩
  rw [← hL] at hdel hR
  have hLl : L.length + 1 = l.length := by rw [hL]; simp; omega
  have ea : L.map rD ++ [[D.str x.br, D.str x.ch, D.int .u8 x.st, D.bool x.ov, D.int .i64 (x.tr + 1)]] = (L ++ [more x]).map rD := by simp [rD, more]
  obtain ⟨X, hX⟩ : ∃ X, X = L ++ [more x] := ⟨_, rfl⟩
  have hXl : X.length = l.length := by rw [hX]; simp; omega
  refine ⟨⟨_, _, hdel _, ?_⟩, ⟨by omega, _, _, hdel _, ?_⟩⟩
  · simp (maxSteps := 4000000) -implicitDefEqProofs only [go_sem, Nat.reduceAdd, Nat.reduceSub, Nat.reduceLT, Nat.reduceLeDiff, Nat.reduceEqDiff, ↓reduceIte]
    refine ⟨by omega, ⟨by simp, by omega, by omega⟩, ?_⟩
    rw [ea]
    refine ECall.frz 4 rfl ?_
    rw [← hX] at hR ⊢
    simp (maxSteps := 4000000) -implicitDefEqProofs only [go_sem, Nat.reduceAdd, Nat.reduceSub, Nat.reduceLT, Nat.reduceLeDiff, Nat.reduceEqDiff, ↓reduceIte]
    refine ecall0 _ (qcheck_own X (by unfold Sm; omega)) (by simp only [go_sem]) (by simp only [go_sem]) ?_
    simp (maxSteps := 4000000) -implicitDefEqProofs only [go_sem, Nat.reduceAdd, Nat.reduceSub, Nat.reduceLT, Nat.reduceLeDiff, Nat.reduceEqDiff, ↓reduceIte]
    by_cases h6 : qcheck X = 0
    · have d6 : (qcheck X != 0) = false := by simp [h6]
      rw [if_neg (by omega)] at hR
      simp (maxSteps := 4000000) -implicitDefEqProofs only [go_sem, d6, Option.some.injEq, forall_eq', and_true, true_and, Bool.not_true, Bool.not_false, decide_true, Nat.reduceAdd, Nat.reduceSub, Nat.reduceLT, Nat.reduceLeDiff, Nat.reduceEqDiff, ↓reduceIte]
      rw [hR]
      exact wk_dat1 (r' := .tup [.d (.sl (X.map rD)), .d (.int .i64 0)]) (by simp only [go_sem]; rfl) rfl (by simp only [go_sem]) (by simp)
    · have d6 : (qcheck X != 0) = true := by simp [h6]
      rw [if_pos h6] at hR
      simp (maxSteps := 4000000) -implicitDefEqProofs only [go_sem, d6, Option.some.injEq, forall_eq', and_true, true_and, Bool.not_true, Bool.not_false, decide_true, Nat.reduceAdd, Nat.reduceSub, Nat.reduceLT, Nat.reduceLeDiff, Nat.reduceEqDiff, ↓reduceIte]
      rw [hR]
      exact wk_dat1 (r' := .tup [.d (.sl []), .d (.int .i64 (qcheck X))]) (by simp only [go_sem]; rfl) rfl (by simp only [go_sem]) (by simp)
  · simp (maxSteps := 4000000) -implicitDefEqProofs only [go_sem, Nat.reduceAdd, Nat.reduceSub, Nat.reduceLT, Nat.reduceLeDiff, Nat.reduceEqDiff, ↓reduceIte]
    refine ⟨⟨by simp, by omega, by omega⟩, ?_⟩
    rw [ea]
    refine ECall.frz 4 rfl ?_
    rw [← hX] at hR ⊢
    simp (maxSteps := 4000000) -implicitDefEqProofs only [go_sem, Nat.reduceAdd, Nat.reduceSub, Nat.reduceLT, Nat.reduceLeDiff, Nat.reduceEqDiff, ↓reduceIte]
    refine ecall0 _ (qcheck_own X (by unfold Sm; omega)) (by simp only [go_sem]) (by simp only [go_sem]) ?_
    simp (maxSteps := 4000000) -implicitDefEqProofs only [go_sem, Nat.reduceAdd, Nat.reduceSub, Nat.reduceLT, Nat.reduceLeDiff, Nat.reduceEqDiff, ↓reduceIte]
    by_cases h6 : qcheck X = 0
    · have d6 : (qcheck X != 0) = false := by simp [h6]
      rw [if_neg (by omega)] at hR
      simp (maxSteps := 4000000) -implicitDefEqProofs only [go_sem, d6, Option.some.injEq, forall_eq', and_true, true_and, Bool.not_true, Bool.not_false, decide_true, Nat.reduceAdd, Nat.reduceSub, Nat.reduceLT, Nat.reduceLeDiff, Nat.reduceEqDiff, ↓reduceIte]
      rw [hR]
      exact wk_dat1 (r' := .tup [.d (.sl (X.map rD)), .d (.int .i64 0)]) (by simp only [go_sem]; rfl) rfl (by simp only [go_sem]) (by simp)
    · have d6 : (qcheck X != 0) = true := by simp [h6]
      rw [if_pos h6] at hR
      simp (maxSteps := 4000000) -implicitDefEqProofs only [go_sem, d6, Option.some.injEq, forall_eq', and_true, true_and, Bool.not_true, Bool.not_false, decide_true, Nat.reduceAdd, Nat.reduceSub, Nat.reduceLT, Nat.reduceLeDiff, Nat.reduceEqDiff, ↓reduceIte]
      rw [hR]
      exact wk_dat1 (r' := .tup [.d (.sl []), .d (.int .i64 (qcheck X))]) (by simp only [go_sem]; rfl) rfl (by simp only [go_sem]) (by simp)
theorem retry_own (q : List Rq) (i : Int) (hq : Sm q.length) : Spec Try.prog 30 [.d (.sl (q.map rD)), .d (.int .i64 i)] [] (.tup [.d (.sl ((movR againR q i sTr).1.map rD)), .d (.int .i64 (movR againR q i sTr).2)]) [] := by
  obtain ⟨R, hR⟩ : ∃ R, R = movR againR q i sTr := ⟨_, rfl⟩
  have h := moved_own againR _ again_own q i sTr hq
  rw [← hR] at h ⊢
  refine spec_of_ev (fn := Try.f30) DX_ok 3000 Try.func30 rfl rfl (Nat.le_of_ble_eq_true rfl) ?_
  simp (maxSteps := 4000000) -implicitDefEqProofs only [Try.f30, go_sem]
  refine ecall0 _ h (by simp only [go_sem]) (by simp only [go_sem]) ?_
  simp (maxSteps := 4000000) -implicitDefEqProofs only [go_sem, Nat.reduceAdd, Nat.reduceSub, Nat.reduceLT, Nat.reduceLeDiff, Nat.reduceEqDiff, ↓reduceIte]
  exact wk_dat (r' := .tup [.d (.sl (R.1.map rD)), .d (.int .i64 R.2)]) (by simp only [go_sem]; rfl) rfl (by simp only [go_sem])
end Go.AX.Qu

/- QueueRetries: the law returns true. No condition but the law's own guard. -/
import Derived.Test.YtamlleliapmhmaaQl
set_option maxHeartbeats 8000000
set_option linter.unusedVariables false
set_option linter.unusedSimpArgs false
set_option maxRecDepth 20000
namespace Go.AX.Qu
open Go.Proofs Go.RowKit Go.IntWalk Go.AX.Br
theorem more_lt {q : List Rq} {i k : Nat} {x : Rq} (hi : i < q.length) (h : k < i) : (moreR q i x)[k]? = q[k]? := by
  unfold moreR
  rw [List.append_assoc, List.getElem?_append_left (by simp; omega), List.getElem?_take_of_lt h]
theorem more_ge {q : List Rq} {i k : Nat} {x : Rq} (hi : i < q.length) (h : i ≤ k) (h2 : k + 1 < q.length) : (moreR q i x)[k]? = q[k + 1]? := by
  have l1 : (q.take i).length = i := by simp; omega
  unfold moreR
  rw [List.append_assoc, List.getElem?_append_right (by omega), l1, List.getElem?_append_left (by simp; omega), List.getElem?_drop]
  congr 1; omega
theorem more_last {q : List Rq} {i : Nat} {x : Rq} (hi : i < q.length) : (moreR q i x)[q.length - 1]? = some (more (setSt x (if x.st = 3 then 1 else 2))) := by
  have l1 : (q.take i ++ q.drop (i + 1)).length = q.length - 1 := by simp; omega
  unfold moreR
  rw [List.getElem?_append_right (by omega), l1, Nat.sub_self]; rfl
theorem eq_self_rq (x : Rq) : (decide (x.br = x.br) && (decide (x.ch = x.ch) && ((x.st == x.st) && ((x.ov == x.ov) && (x.tr == x.tr))))) = true := by simp
theorem retries_law (q : List Rq) (i : Int) (hq : Sm q.length) : Spec Try.prog 6 [.d (.sl (q.map rD)), .d (.int .i64 i)] [] (.d (.bool true)) [] := by
  have hR := ret_eq q i
  have a7 := retry_own q i hq
  rw [← hR] at a7
  obtain ⟨E, hE⟩ : ∃ E, E = retR q i := ⟨_, rfl⟩
  rw [← hE] at a7
  unfold retR at hE
  refine spec_of_ev (fn := Try.f6) DX_ok 3000 Try.func6 rfl rfl (Nat.le_of_ble_eq_true rfl) ?_
  simp (maxSteps := 4000000) -implicitDefEqProofs only [Try.f6, go_sem]
  refine ecall0 _ alive_spec (by simp only [go_sem]) (by simp only [go_sem]) ?_
  simp (maxSteps := 4000000) -implicitDefEqProofs only [go_sem, Nat.reduceAdd, Nat.reduceSub, Nat.reduceLT, Nat.reduceLeDiff, Nat.reduceEqDiff, ↓reduceIte]
  refine ecall0 _ (qcheck_ref q hq) (by simp only [go_sem]) (by simp only [go_sem]) ?_
  simp (maxSteps := 4000000) -implicitDefEqProofs only [go_sem, Nat.reduceAdd, Nat.reduceSub, Nat.reduceLT, Nat.reduceLeDiff, Nat.reduceEqDiff, ↓reduceIte]
  by_cases h1 : qcheck q = 0
  case neg =>
    have d1 : (qcheck q != 0) = true := by simp [h1]
    simp (maxSteps := 4000000) -implicitDefEqProofs only [go_sem, d1, Option.some.injEq, forall_eq', and_true, true_and, Bool.not_true, Bool.not_false, decide_true, Nat.reduceAdd, Nat.reduceSub, Nat.reduceLT, Nat.reduceLeDiff, Nat.reduceEqDiff, ↓reduceIte]
    with_reducible exact wk_bool rfl
  have d1 : (qcheck q != 0) = false := by simp [h1]
  have hl := qcheck_len h1
  rw [if_neg (by omega)] at hE
  rcases Int.lt_or_le i 0 with h2 | h2
  · have d2 := decide_eq_true h2
    simp (maxSteps := 4000000) -implicitDefEqProofs only [go_sem, d1, d2, Option.some.injEq, forall_eq', and_true, true_and, Bool.not_true, Bool.not_false, decide_true, Nat.reduceAdd, Nat.reduceSub, Nat.reduceLT, Nat.reduceLeDiff, Nat.reduceEqDiff, ↓reduceIte]
    with_reducible exact wk_bool rfl
  have d2 := decide_eq_false (Int.not_lt.2 h2)
  rcases Int.lt_or_le i q.length with h3 | h3
  case inr =>
    have d3 := decide_eq_true h3
    simp (maxSteps := 4000000) -implicitDefEqProofs only [go_sem, d1, d2, d3, Option.some.injEq, forall_eq', and_true, true_and, Bool.not_true, Bool.not_false, decide_true, Nat.reduceAdd, Nat.reduceSub, Nat.reduceLT, Nat.reduceLeDiff, Nat.reduceEqDiff, ↓reduceIte]
    with_reducible exact wk_bool rfl
  have d3 := decide_eq_false (Int.not_le.2 h3)
  rw [if_neg (by omega)] at hE
  obtain ⟨i, rfl⟩ : ∃ n : Nat, i = n := ⟨i.toNat, by omega⟩
  simp only [Int.toNat_natCast] at hE
  have h3' : i < q.length := by omega
  obtain ⟨x, hx⟩ : ∃ x, q[i]? = some x := ⟨q[i]'h3', List.getElem?_eq_getElem _⟩
  rw [hx] at hE
  simp only at hE
  have n1 : (0 ≤ (i : Int) ∧ (i : Int) < q.length) = True := eq_true (by omega)
  have n2 : (i < q.length) = True := eq_true (by omega)
  have hxt := valid_tr (qcheck_valid h1 x (List.mem_of_getElem? hx))
  have w1 : IntKind.i64.wrap (x.tr + 1) = x.tr + 1 := i64_in _ (by omega)
  simp (maxSteps := 4000000) -implicitDefEqProofs only [go_sem, d1, d2, d3, Option.some.injEq, forall_eq', and_true, true_and, Bool.not_true, Bool.not_false, decide_true, Nat.reduceAdd, Nat.reduceSub, Nat.reduceLT, Nat.reduceLeDiff, Nat.reduceEqDiff, ↓reduceIte]
  refine ecall0 _ a7 (by simp only [go_sem]) (by simp only [go_sem]) ?_
  have c1 : ((36 : Int) != 0) = true := rfl
  have c2 : ((36 : Int) == 36) = true := rfl
  have c3 : ((4 : Int) != 0) = true := rfl
  have c4 : ((4 : Int) == 36) = false := rfl
  have c5 : ((14 : Int) != 0) = true := rfl
  have c6 : ((14 : Int) == 36) = false := rfl
  have c7 : ((0 : Int) != 0) = false := rfl
  by_cases h7 : x.st = 3 ∨ x.st = 7
  case neg =>
    have d7 : (x.st == 3) = false := by simp; omega
    have d8 : (x.st == 7) = false := by simp; omega
    rw [if_neg h7] at hE
    subst hE
    simp (maxSteps := 4000000) -implicitDefEqProofs only [go_sem, n1, n2, hx, d7, d8, c1, c2, Option.some.injEq, forall_eq', and_true, true_and, Bool.not_true, Bool.not_false, decide_true, Nat.reduceAdd, Nat.reduceSub, Nat.reduceLT, Nat.reduceLeDiff, Nat.reduceEqDiff, ↓reduceIte]
    with_reducible exact wk_bool rfl
  rw [if_pos h7] at hE
  obtain ⟨b7, hb7⟩ : ∃ b, (x.st == 3) = b := ⟨_, rfl⟩
  have hb8 : b7 = false → (x.st == 7) = true := fun e => by
    rw [e] at hb7; simp at hb7; simp; omega
  by_cases h5 : x.tr = 5
  · rw [if_pos h5] at hE
    subst hE
    cases b7 with
    | true =>
      simp (maxSteps := 4000000) -implicitDefEqProofs only [go_sem, n1, n2, hx, hb7, c3, c4, Option.some.injEq, forall_eq', and_true, true_and, Bool.not_true, Bool.not_false, decide_true, Nat.reduceAdd, Nat.reduceSub, Nat.reduceLT, Nat.reduceLeDiff, Nat.reduceEqDiff, ↓reduceIte]
      with_reducible exact wk_bool rfl
    | false =>
      have d8 := hb8 rfl
      simp (maxSteps := 4000000) -implicitDefEqProofs only [go_sem, n1, n2, hx, hb7, d8, c3, c4, Option.some.injEq, forall_eq', and_true, true_and, Bool.not_true, Bool.not_false, decide_true, Nat.reduceAdd, Nat.reduceSub, Nat.reduceLT, Nat.reduceLeDiff, Nat.reduceEqDiff, ↓reduceIte]
      with_reducible exact wk_bool rfl
  rw [if_neg h5] at hE
  obtain ⟨X, hX⟩ : ∃ X, X = moreR q i x := ⟨_, rfl⟩
  rw [← hX] at hE
  by_cases h6 : qcheck X = 0
  case neg =>
    rw [if_pos h6] at hE
    subst hE
    cases b7 with
    | true =>
      simp (maxSteps := 4000000) -implicitDefEqProofs only [go_sem, n1, n2, hx, hb7, c5, c6, Option.some.injEq, forall_eq', and_true, true_and, Bool.not_true, Bool.not_false, decide_true, Nat.reduceAdd, Nat.reduceSub, Nat.reduceLT, Nat.reduceLeDiff, Nat.reduceEqDiff, ↓reduceIte]
      with_reducible exact wk_bool rfl
    | false =>
      have d8 := hb8 rfl
      simp (maxSteps := 4000000) -implicitDefEqProofs only [go_sem, n1, n2, hx, hb7, d8, c5, c6, Option.some.injEq, forall_eq', and_true, true_and, Bool.not_true, Bool.not_false, decide_true, Nat.reduceAdd, Nat.reduceSub, Nat.reduceLT, Nat.reduceLeDiff, Nat.reduceEqDiff, ↓reduceIte]
      with_reducible exact wk_bool rfl
  rw [if_neg (by omega)] at hE
  subst hE
  have d6 : (qcheck X != 0) = false := by simp [h6]
  have hXl : X.length = q.length := by rw [hX]; exact more_len hx
  have xl : ((X.length : Int) != q.length) = false := by simp [hXl]
  have w2 : IntKind.i64.wrap ((X.length : Int) - 1) = ((q.length - 1 : Nat) : Int) := by rw [i64_in _ (by omega)]; omega
  have n5 : (0 ≤ ((q.length - 1 : Nat) : Int) ∧ ((q.length - 1 : Nat) : Int) < X.length) = True := eq_true (by omega)
  have n6 : (q.length - 1 < X.length) = True := eq_true (by omega)
  have hlast : X[q.length - 1]? = some (more (setSt x (if x.st = 3 then 1 else 2))) := by rw [hX]; exact more_last h3'
  obtain ⟨m, hm⟩ : ∃ m, m = more (setSt x (if x.st = 3 then 1 else 2)) := ⟨_, rfl⟩
  rw [← hm] at hlast
  have m1 : (m.tr != x.tr + 1) = false := by rw [hm]; simp [more, setSt]
  have m2 : decide (m.br = x.br) = true := by rw [hm]; simp [more, setSt]
  have m3 : decide (m.ch = x.ch) = true := by rw [hm]; simp [more, setSt]
  have m4 : (m.ov == x.ov) = true := by rw [hm]; simp [more, setSt]
  have m5 : (m.st == 1) = b7 := by
    rw [hm, ← hb7]; simp only [more, setSt]
    by_cases e : x.st = 3 <;> simp [e]
  have m6 : opn m = true := by
    rw [hm]; simp only [opn, more, setSt]
    split <;> rfl
  have c8 : (true != true) = false := rfl
  have c9 : (false != false) = false := rfl
  cases b7
  case' true => simp (maxSteps := 4000000) -implicitDefEqProofs only [go_sem, n1, n2, hx, hb7, c7, Option.some.injEq, forall_eq', and_true, true_and, Bool.not_true, Bool.not_false, decide_true, Nat.reduceAdd, Nat.reduceSub, Nat.reduceLT, Nat.reduceLeDiff, Nat.reduceEqDiff, ↓reduceIte]
  case' false =>
    have d8 := hb8 rfl
    simp (maxSteps := 4000000) -implicitDefEqProofs only [go_sem, n1, n2, hx, hb7, d8, c7, Option.some.injEq, forall_eq', and_true, true_and, Bool.not_true, Bool.not_false, decide_true, Nat.reduceAdd, Nat.reduceSub, Nat.reduceLT, Nat.reduceLeDiff, Nat.reduceEqDiff, ↓reduceIte]
  all_goals
    refine ecall0 _ (qcheck_ref X (by unfold Sm; omega)) (by simp only [go_sem]) (by simp only [go_sem]) ?_
    simp (maxSteps := 4000000) -implicitDefEqProofs only [go_sem, Nat.reduceAdd, Nat.reduceSub, Nat.reduceLT, Nat.reduceLeDiff, Nat.reduceEqDiff, ↓reduceIte]
    simp (maxSteps := 4000000) -implicitDefEqProofs only [go_sem, d6, xl, Option.some.injEq, forall_eq', and_true, true_and, Bool.not_true, Bool.not_false, decide_true, Nat.reduceAdd, Nat.reduceSub, Nat.reduceLT, Nat.reduceLeDiff, Nat.reduceEqDiff, ↓reduceIte]
    simp (maxSteps := 4000000) -implicitDefEqProofs only [go_sem, w2, n5, n6, hlast, Option.some.injEq, forall_eq', and_true, true_and, Bool.not_true, Bool.not_false, decide_true, Nat.reduceAdd, Nat.reduceSub, Nat.reduceLT, Nat.reduceLeDiff, Nat.reduceEqDiff, ↓reduceIte]
    refine DX.plain (.take 0 false (.take 1 false (.take 2 false (.take 3 false (.take 4 false (.take 5 false (.take 6 false (.take 7 false (.take 8 false (.take 9 false (.take 10 false (.take 11 false (.take 12 false (.take 13 false (.take 14 false (.take 15 false (.take 16 false (.take 17 false (.take 18 false (.take 19 false (.take 20 false (.take 21 false (.take 22 false (.take 23 false (.take 24 false (.take 25 false (.take 26 false (.take 27 false (.take 28 false (.take 29 false (.take 30 false (.take 31 false (.take 32 false (.take 33 false (.take 34 false (.take 35 false (.take 36 false (.take 37 false (.take 38 false (.take 39 false (.take 40 false (.take 41 false (.take 42 false (.take 43 false (.take 44 false (.take 45 false (.take 46 false (.take 47 false (.take 48 false (.take 49 false (.take 50 false (.take 51 false (.take 52 false (.take 53 false (.take 54 false (.take 55 false .done)))))))))))))))))))))))))))))))))))))))))))))))))))))))) (by kernel_rfl) (by kernel_rfl) Ty.mixed ?_
    simp (maxSteps := 4000000) -implicitDefEqProofs only [go_sem, n1, n2, hx, hb7, hlast, w1, m1, m2, m3, m4, m5, c8, c9, Option.some.injEq, forall_eq', and_true, true_and, Bool.not_true, Bool.not_false, decide_true, Nat.reduceAdd, Nat.reduceSub, Nat.reduceLT, Nat.reduceLeDiff, Nat.reduceEqDiff, ↓reduceIte]
    refine ⟨_, _, Spec.lift0 (open_ref m) _ (by simp only [go_sem]) (by simp only [go_sem]), rfl, ?_⟩
    simp (maxSteps := 4000000) -implicitDefEqProofs only [go_sem, m6, Option.some.injEq, forall_eq', and_true, true_and, Bool.not_true, Bool.not_false, decide_true, Nat.reduceAdd, Nat.reduceSub, Nat.reduceLT, Nat.reduceLeDiff, Nat.reduceEqDiff, ↓reduceIte]
    refine eloop (S := Nat) (fun k => mkE 160 [(0, .d (.sl (q.map rD))), (1, .d (.int .i64 i)), (5, .d (.bool true)), (6, .d (.sl (X.map rD))), (10, .d (.int .i64 k))]) (fun k => []) (fun k => k ≤ q.length - 1) (fun k => q.length - 1 - k) 0 (by omega) (Wk.forget (by (simp only [go_sem]) <;> trivial) (by simp only [go_sem])) ?_
    intro k hk
    rcases Nat.lt_or_ge k (q.length - 1) with k2 | k2
    case inr =>
      have f1 : decide ((k : Int) < ((q.length - 1 : Nat) : Int)) = false := by simp; omega
      simp (maxSteps := 4000000) -implicitDefEqProofs only [go_sem, w2, f1, Option.some.injEq, forall_eq', and_true, true_and, Bool.not_true, Bool.not_false, decide_true, Nat.reduceAdd, Nat.reduceSub, Nat.reduceLT, Nat.reduceLeDiff, Nat.reduceEqDiff, ↓reduceIte]
      with_reducible exact wk_bool rfl
    have f1 : decide ((k : Int) < ((q.length - 1 : Nat) : Int)) = true := by simp; omega
    have w3 : IntKind.i64.wrap ((k : Int) + 1) = ((k + 1 : Nat) : Int) := by rw [i64_in _ (by omega)]; simp
    have n7 : (0 ≤ (k : Int) ∧ (k : Int) < X.length) = True := eq_true (by omega)
    have n8 : (k < X.length) = True := eq_true (by omega)
    rcases Nat.lt_or_ge k i with k3 | k3
    · have f2 : decide ((i : Int) ≤ k) = false := by simp; omega
      obtain ⟨y, hy⟩ : ∃ y, q[k]? = some y := ⟨q[k]'(by omega), List.getElem?_eq_getElem _⟩
      have hXk : X[k]? = some y := by rw [hX, more_lt h3' k3]; exact hy
      have n9 : (0 ≤ (k : Int) ∧ (k : Int) < q.length) = True := eq_true (by omega)
      have n10 : (k < q.length) = True := eq_true (by omega)
      have ey := eq_self_rq y
      simp (maxSteps := 4000000) -implicitDefEqProofs only [go_sem, w2, f1, f2, Option.some.injEq, forall_eq', and_true, true_and, Bool.not_true, Bool.not_false, decide_true, Nat.reduceAdd, Nat.reduceSub, Nat.reduceLT, Nat.reduceLeDiff, Nat.reduceEqDiff, ↓reduceIte]
      refine DX.plain (.take 0 false (.take 1 false (.take 2 false (.take 3 false (.take 4 false (.take 5 false (.take 6 false (.take 7 false (.take 8 false .done))))))))) (by kernel_rfl) (by kernel_rfl) Ty.mixed ?_
      simp (maxSteps := 4000000) -implicitDefEqProofs only [go_sem, n7, n8, n9, n10, hy, hXk, ey, Option.some.injEq, forall_eq', and_true, true_and, Bool.not_true, Bool.not_false, decide_true, Nat.reduceAdd, Nat.reduceSub, Nat.reduceLT, Nat.reduceLeDiff, Nat.reduceEqDiff, ↓reduceIte]
      simp (maxSteps := 4000000) -implicitDefEqProofs only [go_sem, w3, Option.some.injEq, forall_eq', and_true, true_and, Bool.not_true, Bool.not_false, decide_true, Nat.reduceAdd, Nat.reduceSub, Nat.reduceLT, Nat.reduceLeDiff, Nat.reduceEqDiff, ↓reduceIte]
      exact .mk (k + 1) (by omega) (by omega) (Wk.sub (by (simp only [go_sem]) <;> trivial))
    · have f2 : decide ((i : Int) ≤ k) = true := by simp; omega
      obtain ⟨y, hy⟩ : ∃ y, q[k + 1]? = some y := ⟨q[k + 1]'(by omega), List.getElem?_eq_getElem _⟩
      have hXk : X[k]? = some y := by rw [hX, more_ge h3' k3 (by omega)]; exact hy
      have n9 : (0 ≤ ((k + 1 : Nat) : Int) ∧ ((k + 1 : Nat) : Int) < q.length) = True := eq_true (by omega)
      have n10 : (k + 1 < q.length) = True := eq_true (by omega)
      have ey := eq_self_rq y
      simp (maxSteps := 4000000) -implicitDefEqProofs only [go_sem, w2, f1, f2, w3, Option.some.injEq, forall_eq', and_true, true_and, Bool.not_true, Bool.not_false, decide_true, Nat.reduceAdd, Nat.reduceSub, Nat.reduceLT, Nat.reduceLeDiff, Nat.reduceEqDiff, ↓reduceIte]
      refine DX.plain (.take 0 false (.take 1 false (.take 2 false (.take 3 false (.take 4 false (.take 5 false (.take 6 false (.take 7 false (.take 8 false .done))))))))) (by kernel_rfl) (by kernel_rfl) Ty.mixed ?_
      simp (maxSteps := 4000000) -implicitDefEqProofs only [go_sem, n7, n8, n9, n10, hy, hXk, ey, w3, Option.some.injEq, forall_eq', and_true, true_and, Bool.not_true, Bool.not_false, decide_true, Nat.reduceAdd, Nat.reduceSub, Nat.reduceLT, Nat.reduceLeDiff, Nat.reduceEqDiff, ↓reduceIte]
      exact .mk (k + 1) (by omega) (by omega) (Wk.sub (by (simp only [go_sem]) <;> trivial))
end Go.AX.Qu
namespace Go.Proofs.Ytamlleliapmhmaa
open Go.AX Go.AX.Qu Go.RowKit
set_option maxRecDepth 100000 in
theorem queueRetries_lifted (os : Os) (started : os.Started) (H : Type) (enc : TypeId × Value → H) :
    ReturnsInHanded {} Try.checked os 6 .any (Rows.queueRetriesSpec.pre6 enc Try.prog Try.f6 Rows.queueRetriesRow.domain false) (Rows.queueRetriesSpec.post enc Try.prog Try.f6 false true false false) := by
  refine Go.AX.lifted (C := Try.checked) (f := 6) (fn := Try.f6) (s := Rows.queueRetriesSpec) (rt := 4) (n := 8) (by kernel_rfl) (by kernel_rfl) Try.func6 rfl ?_ rfl (by kernel_rfl) (by kernel_rfl) (by kernel_rfl) (by kernel_rfl) os started H enc
    (ChangeSpec.witness6 (enc := enc) (C := Try.checked) false ⟨#[], #[.slice none 0 0, .int .i64 0], []⟩ 8 (by kernel_rfl) (by kernel_rfl) (by kernel_rfl) (by kernel_rfl)) ?_
  · intro H ds h
    match ds, h with
    | [a0, a1], _ => rfl
  · intro xs hx
    have hp : Try.f6.params.toList = [22, 3] := rfl
    rw [hp] at hx ⊢
    have i0 : isA Try.prog 22 = false := by kernel_rfl
    have i1 : isA Try.prog 3 = false := by kernel_rfl
    rcases xs with _ | ⟨d0, _ | ⟨d1, _ | ⟨d2, xs⟩⟩⟩ <;> simp only [Tyds, and_false] at hx
    obtain ⟨k0, k1, _⟩ := hx
    obtain ⟨q, rfl, hq, wq⟩ := requests_of k0
    obtain ⟨i, rfl, hi⟩ := int_of k1
    simp only [avs, i0, i1, dv, Bool.false_eq_true, if_false, if_true, List.headD_cons, List.map_cons, List.map_nil]
    exact retries_law q i hq
theorem queueRetries_over : Rows.queueRetriesRow.holds Try.pinned (OpenSpec.ofChange Rows.queueRetriesSpec) :=
  OpenClaim.holds_of_wide 6 Try.f6 rfl rfl rfl rfl rfl rfl rfl ⟨rfl, rfl, rfl, rfl, rfl⟩ rfl rfl rfl rfl rfl (by kernel_rfl) Try.func6 (by kernel_rfl)
    (of_decide_eq_true (by kernel_rfl)) (by unfold Func.isWrapper; first | (rw [if_pos (by decide +kernel)]; kernel_rfl) | (rw [if_neg (by decide +kernel)]; exact ⟨rfl, rfl⟩))
    (fun os started H enc _ => queueRetries_lifted os started H enc)
/-- The row, under a short name, for the claim. -/
theorem queueRetries_holds : Rows.QueueRetriesSaid := queueRetries_over
#print axioms queueRetries_holds
end Go.Proofs.Ytamlleliapmhmaa

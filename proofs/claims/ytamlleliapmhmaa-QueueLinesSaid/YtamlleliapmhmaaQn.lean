/- QueueLines: the law returns true. No condition but the law's own guard. -/
import Derived.Test.YtamlleliapmhmaaQl
set_option maxHeartbeats 8000000
set_option linter.unusedVariables false
set_option linter.unusedSimpArgs false
set_option maxRecDepth 20000
namespace Go.AX.Qu
open Go.Proofs Go.RowKit Go.IntWalk Go.AX.Br
theorem lineL_pre (q : List Rq) (b : ByteArray) {i : Nat} : ∀ {n : Nat}, i ≤ n → ∃ r, lineL q b n = lineL q b i ++ r
  | 0, h => by
    have : i = 0 := by omega
    subst this; exact ⟨[], by simp⟩
  | n + 1, h => by
    by_cases e : i = n + 1
    · subst e; exact ⟨[], by simp⟩
    · obtain ⟨r, hr⟩ := lineL_pre q b (n := n) (i := i) (by omega)
      exact ⟨_, by rw [lineL, hr, List.append_assoc]⟩
theorem lineL_in {q : List Rq} {b : ByteArray} {i : Nat} {x : Rq} (hx : q[i]? = some x) (h : inLine b x = true) : lineL q b (i + 1) = lineL q b i ++ [(i : Int)] := by
  simp [lineL, hx, h]
theorem lineL_out {q : List Rq} {b : ByteArray} {i : Nat} {x : Rq} (hx : q[i]? = some x) (h : inLine b x = false) : lineL q b (i + 1) = lineL q b i := by
  simp [lineL, hx, h]
theorem lineL_at {q : List Rq} {b : ByteArray} {i n : Nat} {x : Rq} (hx : q[i]? = some x) (h : inLine b x = true) (hn : i < n) : (lineL q b n)[(lineL q b i).length]? = some (i : Int) := by
  obtain ⟨r, hr⟩ := lineL_pre q b (i := i + 1) (n := n) hn
  rw [hr, lineL_in hx h]
  simp
theorem lineL_app (q : List Rq) (y : Rq) (b : ByteArray) : ∀ n, n ≤ q.length → lineL (q ++ [y]) b n = lineL q b n
  | 0, _ => rfl
  | n + 1, h => by
    rw [lineL, lineL, lineL_app q y b n (by omega), List.getElem?_append_left (by omega)]
theorem idx_take_in {p : Rq → Bool} {l : List Rq} {i : Nat} {x : Rq} (hx : l[i]? = some x) : idx p (l.take (i + 1)) = if 0 ≤ idx p (l.take i) then idx p (l.take i) else if p x then (i : Int) else -1 := by
  have ht : l.take (i + 1) = l.take i ++ [x] := by rw [List.take_add_one, hx]; rfl
  have hlt := some_lt hx
  have hl : (l.take i).length = i := by simp; omega
  rw [ht]
  by_cases h : 0 ≤ idx p (l.take i)
  · rw [if_pos h]
    unfold idx at h ⊢
    cases q : (l.take i).findIdx? p with
    | none => rw [q] at h; simp at h
    | some k => rw [List.findIdx?_append, q]; rfl
  · rw [if_neg h]
    unfold idx at h ⊢
    cases q : (l.take i).findIdx? p with
    | some k => rw [q] at h; simp at h
    | none =>
      rw [List.findIdx?_append, q]
      cases hp : p x <;> simp [List.findIdx?_cons, hp, hl]
theorem idx_app_no {p : Rq → Bool} {l : List Rq} {y : Rq} (h : p y = false) : idx p (l ++ [y]) = idx p l := by
  unfold idx
  rw [List.findIdx?_append]
  cases q : l.findIdx? p <;> simp [List.findIdx?_cons, h]
theorem qcheck_vals (q : List Rq) : qcheck q = 0 ∨ qcheck q = 4 ∨ qcheck q = 8 ∨ qcheck q = 14 := by
  unfold qcheck
  split
  · simp
  split
  · simp
  split <;> simp
theorem head_in {b : ByteArray} {x : Rq} (h : isHead b x = true) : inLine b x = true := by
  simp only [isHead, inLine, opn, Bool.and_eq_true, Bool.or_eq_true] at h ⊢
  exact ⟨h.1, .inr h.2⟩
theorem idx_ge (p : Rq → Bool) (l : List Rq) : -1 ≤ idx p l ∧ idx p l < l.length := by
  unfold idx
  cases q : l.findIdx? p with
  | none => exact ⟨by simp, by show (-1 : Int) < l.length; omega⟩
  | some k =>
    have := (List.findIdx?_eq_some_iff_getElem.1 q).1
    exact ⟨by show (-1 : Int) ≤ (k : Int); omega, by show (k : Int) < l.length; omega⟩
theorem lines_law (q : List Rq) (b c : ByteArray) (hq : Sm q.length) : Spec Try.prog 8 [.d (.sl (q.map rD)), .d (.str b), .d (.str c)] [] (.d (.bool true)) [] := by
  have a1 := qline_own q b hq
  have a2 := headR_own q b hq
  have a3 := ask_own q b c false hq
  obtain ⟨A, hA⟩ : ∃ A, A = askR q b c false := ⟨_, rfl⟩
  rw [← hA] at a3
  refine spec_of_ev (fn := Try.f8) DX_ok 3000 Try.func8 rfl rfl (Nat.le_of_ble_eq_true rfl) ?_
  simp (maxSteps := 4000000) -implicitDefEqProofs only [Try.f8, go_sem]
  refine ecall0 _ alive_spec (by simp only [go_sem]) (by simp only [go_sem]) ?_
  simp (maxSteps := 4000000) -implicitDefEqProofs only [go_sem, Nat.reduceAdd, Nat.reduceSub, Nat.reduceLT, Nat.reduceLeDiff, Nat.reduceEqDiff, ↓reduceIte]
  refine ecall0 _ (qcheck_ref q hq) (by simp only [go_sem]) (by simp only [go_sem]) ?_
  simp (maxSteps := 4000000) -implicitDefEqProofs only [go_sem, Nat.reduceAdd, Nat.reduceSub, Nat.reduceLT, Nat.reduceLeDiff, Nat.reduceEqDiff, ↓reduceIte]
  by_cases h1 : qcheck q = 0
  case neg =>
    have d1 : (qcheck q != 0) = true := by simp [h1]
    simp (maxSteps := 4000000) -implicitDefEqProofs only [go_sem, d1, Option.some.injEq, forall_eq', and_true, true_and, Bool.not_true, Bool.not_false, decide_true, Nat.reduceAdd, Nat.reduceSub, Nat.reduceLT, Nat.reduceLeDiff, Nat.reduceEqDiff, ↓reduceIte]
    with_reducible exact wk_bool rfl
  have d1 : (qcheck q != 0) = false := by simp [h1]
  have hl := qcheck_len h1
  cases d2 : decide (100 < (b.size : Int))
  case true =>
    simp (maxSteps := 4000000) -implicitDefEqProofs only [go_sem, d1, d2, Option.some.injEq, forall_eq', and_true, true_and, Bool.not_true, Bool.not_false, decide_true, Nat.reduceAdd, Nat.reduceSub, Nat.reduceLT, Nat.reduceLeDiff, Nat.reduceEqDiff, ↓reduceIte]
    with_reducible exact wk_bool rfl
  cases d3 : decide (100 < (c.size : Int))
  case true =>
    simp (maxSteps := 4000000) -implicitDefEqProofs only [go_sem, d1, d2, d3, Option.some.injEq, forall_eq', and_true, true_and, Bool.not_true, Bool.not_false, decide_true, Nat.reduceAdd, Nat.reduceSub, Nat.reduceLT, Nat.reduceLeDiff, Nat.reduceEqDiff, ↓reduceIte]
    with_reducible exact wk_bool rfl
  obtain ⟨L, hL⟩ : ∃ L, L = lineL q b q.length := ⟨_, rfl⟩
  have e1 : qlineR q b = (L, 0) := by rw [qlineR, if_neg (by omega), hL]
  have hLl : L.length ≤ q.length := by rw [hL]; exact lineL_len q b _
  rw [e1] at a1
  obtain ⟨h, f, hhf⟩ : ∃ h f, headR q b = (h, f) := ⟨_, _, rfl⟩
  rw [hhf] at a2
  have hh : (idx (isHead b) q < 0 ∧ h = 0 ∧ f = 6) ∨ (0 ≤ idx (isHead b) q ∧ h = idx (isHead b) q ∧ f = 0) := by
    unfold headR at hhf
    rw [if_neg (by omega)] at hhf
    split at hhf
    · next g => simp only [Prod.mk.injEq] at hhf; exact .inl ⟨g, hhf.1.symm, hhf.2.symm⟩
    · next g => simp only [Prod.mk.injEq] at hhf; exact .inr ⟨by omega, hhf.1.symm, hhf.2.symm⟩
  have c0 : ((0 : Int) != 0) = false := rfl
  simp (maxSteps := 4000000) -implicitDefEqProofs only [go_sem, d1, d2, d3, Option.some.injEq, forall_eq', and_true, true_and, Bool.not_true, Bool.not_false, decide_true, Nat.reduceAdd, Nat.reduceSub, Nat.reduceLT, Nat.reduceLeDiff, Nat.reduceEqDiff, ↓reduceIte]
  refine ecall0 _ a1 (by simp only [go_sem]) (by simp only [go_sem]) ?_
  simp (maxSteps := 4000000) -implicitDefEqProofs only [go_sem, Nat.reduceAdd, Nat.reduceSub, Nat.reduceLT, Nat.reduceLeDiff, Nat.reduceEqDiff, ↓reduceIte]
  refine ecall0 _ a2 (by simp only [go_sem]) (by simp only [go_sem]) ?_
  simp (maxSteps := 4000000) -implicitDefEqProofs only [go_sem, c0, Option.some.injEq, forall_eq', and_true, true_and, Bool.not_true, Bool.not_false, decide_true, Nat.reduceAdd, Nat.reduceSub, Nat.reduceLT, Nat.reduceLeDiff, Nat.reduceEqDiff, ↓reduceIte]
  refine eloop (S := Nat) (fun i => mkE 180 [(0, .d (.sl (q.map rD))), (1, .d (.str b)), (2, .d (.str c)), (7, .d (.bool true)), (8, .d (.sl (L.map iD))), (10, .d (.int .i64 h)), (11, .d (.int .i64 f)), (12, .d (.int .i64 (lineL q b i).length)), (13, .d (.int .i64 (idx (isHead b) (q.take i)))), (14, .d (.int .i64 i))]) (fun i => []) (fun i => i ≤ q.length) (fun i => q.length - i) 0 (Nat.zero_le _) ?_ ?_
  · exact (Wk.forget (by (simp only [go_sem]) <;> trivial) (by simp only [go_sem]))
  intro i hi
  rcases Nat.lt_or_ge i q.length with h2 | h2
  · have f1 : decide ((i : Int) < q.length) = true := by simp; omega
    obtain ⟨x, hx⟩ : ∃ x, q[i]? = some x := ⟨q[i]'h2, List.getElem?_eq_getElem _⟩
    have n1 : (0 ≤ (i : Int) ∧ (i : Int) < q.length) = True := eq_true (by omega)
    have n2 : (i < q.length) = True := eq_true (by omega)
    have w1 : IntKind.i64.wrap ((i : Int) + 1) = ((i + 1 : Nat) : Int) := by rw [i64_in _ (by omega)]; simp
    have it := idx_take_in (p := isHead b) hx
    have ige := idx_ge (isHead b) (q.take i)
    by_cases e2 : x.br = b
    case neg =>
      have g1 : decide (x.br = b) = false := decide_eq_false e2
      have hin : inLine b x = false := by simp [inLine, e2]
      have hhd : isHead b x = false := by simp [isHead, e2]
      have k1 := lineL_out hx hin
      have k2 : idx (isHead b) (q.take (i + 1)) = idx (isHead b) (q.take i) := by
        rw [it, hhd]; split
        · rfl
        · simp; omega
      simp (maxSteps := 4000000) -implicitDefEqProofs only [go_sem, f1, n1, n2, hx, g1, w1, Option.some.injEq, forall_eq', and_true, true_and, Bool.not_true, Bool.not_false, decide_true, Nat.reduceAdd, Nat.reduceSub, Nat.reduceLT, Nat.reduceLeDiff, Nat.reduceEqDiff, ↓reduceIte]
      exact .mk (i + 1) h2 (by omega) (by rw [k1, k2]; exact (Wk.forget (by (simp only [go_sem]) <;> trivial) (by simp only [go_sem])))
    have g1 : decide (x.br = b) = true := decide_eq_true e2
    simp (maxSteps := 4000000) -implicitDefEqProofs only [go_sem, f1, n1, n2, hx, g1, Option.some.injEq, forall_eq', and_true, true_and, Bool.not_true, Bool.not_false, decide_true, Nat.reduceAdd, Nat.reduceSub, Nat.reduceLT, Nat.reduceLeDiff, Nat.reduceEqDiff, ↓reduceIte]
    refine ecall0 _ (open_ref x) (by simp only [go_sem]) (by simp only [go_sem]) ?_
    simp (maxSteps := 4000000) -implicitDefEqProofs only [go_sem, Nat.reduceAdd, Nat.reduceSub, Nat.reduceLT, Nat.reduceLeDiff, Nat.reduceEqDiff, ↓reduceIte]
    cases e3 : opn x
    case false =>
      have hin : inLine b x = false := by simp [inLine, e3]
      have hhd : isHead b x = false := by
        cases q1 : isHead b x with
        | false => rfl
        | true => rw [head_in q1] at hin; cases hin
      have k1 := lineL_out hx hin
      have k2 : idx (isHead b) (q.take (i + 1)) = idx (isHead b) (q.take i) := by
        rw [it, hhd]; split
        · rfl
        · simp; omega
      simp (maxSteps := 4000000) -implicitDefEqProofs only [go_sem, e3, w1, Option.some.injEq, forall_eq', and_true, true_and, Bool.not_true, Bool.not_false, decide_true, Nat.reduceAdd, Nat.reduceSub, Nat.reduceLT, Nat.reduceLeDiff, Nat.reduceEqDiff, ↓reduceIte]
      exact .mk (i + 1) h2 (by omega) (by rw [k1, k2]; exact (Wk.forget (by (simp only [go_sem]) <;> trivial) (by simp only [go_sem])))
    have hin : inLine b x = true := by simp [inLine, e2, e3]
    have k1 := lineL_in hx hin
    have k3 : L[(lineL q b i).length]? = some (i : Int) := by rw [hL]; exact lineL_at hx hin h2
    have k4 := some_lt k3
    obtain ⟨a, ha⟩ : ∃ a, a = (lineL q b i).length := ⟨_, rfl⟩
    have ha1 : (lineL q b (i + 1)).length = a + 1 := by rw [k1, List.length_append, ha]; rfl
    rw [← ha] at k3 k4
    obtain ⟨z, hz⟩ : ∃ z, z = idx (isHead b) (q.take i) := ⟨_, rfl⟩
    rw [← hz] at it ige
    have n3 : (0 ≤ (a : Int) ∧ (a : Int) < L.length) = True := eq_true (by omega)
    have n4 : (a < L.length) = True := eq_true (by omega)
    have f2 : decide ((L.length : Int) ≤ a) = false := by simp; omega
    have f3 : ((i : Int) != i) = false := by simp
    have w2 : IntKind.i64.wrap ((a : Int) + 1) = ((a + 1 : Nat) : Int) := by rw [i64_in _ (by omega)]; simp
    rw [← ha, ← hz]
    rcases Int.lt_or_le z 0 with z0 | z0
    · have f4 : decide (z < 0) = true := decide_eq_true z0
      cases f5 : (x.st == 2)
      case false =>
        have hhd : isHead b x = false := by simp only [isHead, f5, Bool.and_false]
        have k2 : idx (isHead b) (q.take (i + 1)) = z := by
          rw [it, hhd, if_neg (by omega)]; simp; omega
        simp (maxSteps := 4000000) -implicitDefEqProofs only [go_sem, e3, f2, n1, n2, n3, n4, hx, k3, f3, w2, f4, f5, w1, Option.some.injEq, forall_eq', and_true, true_and, Bool.not_true, Bool.not_false, decide_true, Nat.reduceAdd, Nat.reduceSub, Nat.reduceLT, Nat.reduceLeDiff, Nat.reduceEqDiff, ↓reduceIte]
        exact .mk (i + 1) h2 (by omega) (by rw [ha1, k2]; exact (Wk.forget (by (simp only [go_sem]) <;> trivial) (by simp only [go_sem])))
      case true =>
        have hhd : isHead b x = true := by simp only [isHead, f5, g1, Bool.and_true]
        have k2 : idx (isHead b) (q.take (i + 1)) = i := by
          rw [it, hhd, if_neg (by omega)]; simp
        simp (maxSteps := 4000000) -implicitDefEqProofs only [go_sem, e3, f2, n1, n2, n3, n4, hx, k3, f3, w2, f4, f5, w1, Option.some.injEq, forall_eq', and_true, true_and, Bool.not_true, Bool.not_false, decide_true, Nat.reduceAdd, Nat.reduceSub, Nat.reduceLT, Nat.reduceLeDiff, Nat.reduceEqDiff, ↓reduceIte]
        exact .mk (i + 1) h2 (by omega) (by rw [ha1, k2]; exact (Wk.forget (by (simp only [go_sem]) <;> trivial) (by simp only [go_sem])))
    · have f4 : decide (z < 0) = false := decide_eq_false (by omega)
      have k2 : idx (isHead b) (q.take (i + 1)) = z := by rw [it, if_pos z0]
      simp (maxSteps := 4000000) -implicitDefEqProofs only [go_sem, e3, f2, n1, n2, n3, n4, hx, k3, f3, w2, f4, w1, Option.some.injEq, forall_eq', and_true, true_and, Bool.not_true, Bool.not_false, decide_true, Nat.reduceAdd, Nat.reduceSub, Nat.reduceLT, Nat.reduceLeDiff, Nat.reduceEqDiff, ↓reduceIte]
      exact .mk (i + 1) h2 (by omega) (by rw [ha1, k2]; exact (Wk.forget (by (simp only [go_sem]) <;> trivial) (by simp only [go_sem])))
  have f1 : decide ((i : Int) < q.length) = false := by simp; omega
  have hi2 : i = q.length := by omega
  subst hi2
  rw [← hL, List.take_length]
  have f2 : ((L.length : Int) != L.length) = false := by simp
  obtain ⟨z, hz⟩ : ∃ z, z = idx (isHead b) q := ⟨_, rfl⟩
  rw [← hz] at hh ⊢
  have c8 : (true != true) = false := rfl
  have c9 : (false != false) = false := rfl
  have c10 : ((6 : Int) == 0) = false := rfl
  have c11 : ((0 : Int) == 0) = true := rfl
  have c12 : ((0 : Int) != 0) = false := rfl
  have c13 : ((6 : Int) == 6) = true := rfl
  have c14 : ((4 : Int) != 0) = true := rfl
  have c15 : ((8 : Int) != 0) = true := rfl
  have c16 : ((14 : Int) != 0) = true := rfl
  have c17 : ((4 : Int) == 4) = true := rfl
  have c18 : ((8 : Int) == 4) = false := rfl
  have c19 : ((14 : Int) == 4) = false := rfl
  have c20 : ((8 : Int) == 8) = true := rfl
  have c21 : ((14 : Int) == 8) = false := rfl
  have c22 : ((14 : Int) == 14) = true := rfl
  have hAv := qcheck_vals (q ++ [⟨b, c, 1, false, 0⟩])
  obtain ⟨Y, hY⟩ : ∃ Y, Y = q ++ [(⟨b, c, 1, false, 0⟩ : Rq)] := ⟨_, rfl⟩
  have hYl : Y.length = q.length + 1 := by rw [hY]; simp
  have hYs : Sm Y.length := by unfold Sm; omega
  have b1 := qline_own Y b hYs
  have b2 := headR_own Y b hYs
  have hA2 := hA
  rw [askR, if_neg (by omega), ← hY] at hA2
  rw [← hY] at hAv
  have hhd : isHead b (⟨b, c, 1, false, 0⟩ : Rq) = false := by simp [isHead]
  have y1 : lineL Y b Y.length = L ++ [(q.length : Int)] := by
    have hin : inLine b (⟨b, c, 1, false, 0⟩ : Rq) = true := by simp [inLine, opn]
    have hx : Y[q.length]? = some (⟨b, c, 1, false, 0⟩ : Rq) := by rw [hY]; simp
    rw [hYl, lineL_in hx hin, hY, lineL_app _ _ _ _ (Nat.le_refl _), ← hL]
  have y2 : idx (isHead b) Y = z := by rw [hY, idx_app_no hhd, hz]
  have tail : (f == 0) = decide (0 ≤ z) ∧ (0 ≤ z → h = z) := by
    rcases hh with ⟨g1, g2, g3⟩ | ⟨g1, g2, g3⟩
    · subst g3; refine ⟨?_, by omega⟩; simp; omega
    · subst g3; refine ⟨?_, fun _ => g2⟩; simp; omega
  have g5 : ((f == 0) != decide (0 ≤ z)) = false := by rw [tail.1]; simp
  have g6 : decide (0 ≤ z) = true → (h != z) = false := fun e => by simp at e; simp [tail.2 e]
  obtain ⟨bz, hbz⟩ : ∃ v, decide (0 ≤ z) = v := ⟨_, rfl⟩
  rw [hbz] at g5 g6
  have d5 : (f == 0) = bz := by rw [tail.1, hbz]
  cases bz
  case' false => simp (maxSteps := 4000000) -implicitDefEqProofs only [go_sem, f1, f2, d5, hbz, c9, Option.some.injEq, forall_eq', and_true, true_and, Bool.not_true, Bool.not_false, decide_true, Nat.reduceAdd, Nat.reduceSub, Nat.reduceLT, Nat.reduceLeDiff, Nat.reduceEqDiff, ↓reduceIte]
  case' true =>
    have g7 := g6 rfl
    simp (maxSteps := 4000000) -implicitDefEqProofs only [go_sem, f1, f2, d5, hbz, c8, g7, Option.some.injEq, forall_eq', and_true, true_and, Bool.not_true, Bool.not_false, decide_true, Nat.reduceAdd, Nat.reduceSub, Nat.reduceLT, Nat.reduceLeDiff, Nat.reduceEqDiff, ↓reduceIte]
  all_goals
    refine ecall0 _ a3 (by simp only [go_sem]) (by simp only [go_sem]) ?_
    by_cases h6 : qcheck Y = 0
    case neg =>
      rw [if_pos h6] at hA2
      rcases hAv with e | e | e | e
      · exact absurd e h6
      all_goals
        rw [e] at hA2
        subst hA2
        simp (maxSteps := 4000000) -implicitDefEqProofs only [go_sem, c14, c15, c16, c17, c18, c19, c20, c21, c22, Option.some.injEq, forall_eq', and_true, true_and, Bool.not_true, Bool.not_false, decide_true, Nat.reduceAdd, Nat.reduceSub, Nat.reduceLT, Nat.reduceLeDiff, Nat.reduceEqDiff, ↓reduceIte]
        with_reducible exact wk_bool rfl
    rw [if_neg (by omega)] at hA2
    rw [hA2]
    have e3 : qlineR Y b = (L ++ [(q.length : Int)], 0) := by rw [qlineR, if_neg (by omega), y1]
    have e4 : headR Y b = (h, f) := by
      unfold headR at hhf
      rw [if_neg (by omega), ← hz] at hhf
      unfold headR
      rw [if_neg (by omega), y2]; exact hhf
    rw [e3] at b1
    rw [e4] at b2
    have s1 := sameInts_ref (L ++ [(q.length : Int)]) (L ++ [(q.length : Int)]) (by unfold Sm; simp; omega)
    rw [show decide (L ++ [(q.length : Int)] = L ++ [(q.length : Int)]) = true from decide_eq_true rfl] at s1
    have ea : L.map iD ++ [[D.int .i64 (q.length : Int)]] = (L ++ [(q.length : Int)]).map iD := by simp [iD]
    simp (maxSteps := 4000000) -implicitDefEqProofs only [go_sem, c12, Option.some.injEq, forall_eq', and_true, true_and, Bool.not_true, Bool.not_false, decide_true, Nat.reduceAdd, Nat.reduceSub, Nat.reduceLT, Nat.reduceLeDiff, Nat.reduceEqDiff, ↓reduceIte]
    refine ecall0 _ b1 (by simp only [go_sem]) (by simp only [go_sem]) ?_
    simp (maxSteps := 4000000) -implicitDefEqProofs only [go_sem, Nat.reduceAdd, Nat.reduceSub, Nat.reduceLT, Nat.reduceLeDiff, Nat.reduceEqDiff, ↓reduceIte]
    refine ecall0 _ b2 (by simp only [go_sem]) (by simp only [go_sem]) ?_
    simp (maxSteps := 4000000) -implicitDefEqProofs only [go_sem, c11, Option.some.injEq, forall_eq', and_true, true_and, Bool.not_true, Bool.not_false, decide_true, Nat.reduceAdd, Nat.reduceSub, Nat.reduceLT, Nat.reduceLeDiff, Nat.reduceEqDiff, ↓reduceIte]
    refine ⟨⟨by omega, by omega⟩, ⟨fun e he => by simp at he; subst he; rfl, by omega, by omega⟩, ?_⟩
    refine ECall.dat (by simp only [go_sem]; rfl) (by rfl) ?_
    rw [ea]
    refine ecall0 _ s1 (by simp only [go_sem]) (by simp only [go_sem]) ?_
    simp (maxSteps := 4000000) -implicitDefEqProofs only [go_sem, c8, Option.some.injEq, forall_eq', and_true, true_and, Bool.not_true, Bool.not_false, decide_true, Nat.reduceAdd, Nat.reduceSub, Nat.reduceLT, Nat.reduceLeDiff, Nat.reduceEqDiff, ↓reduceIte]
    with_reducible exact wk_bool rfl
end Go.AX.Qu
namespace Go.Proofs.Ytamlleliapmhmaa
open Go.AX Go.AX.Qu Go.RowKit
set_option maxRecDepth 100000 in
theorem queueLines_lifted (os : Os) (started : os.Started) (H : Type) (enc : TypeId × Value → H) :
    ReturnsInHanded {} Try.checked os 8 .any (Rows.queueLinesSpec.pre6 enc Try.prog Try.f8 Rows.queueLinesRow.domain false) (Rows.queueLinesSpec.post enc Try.prog Try.f8 false true false false) := by
  refine Go.AX.lifted (C := Try.checked) (f := 8) (fn := Try.f8) (s := Rows.queueLinesSpec) (rt := 4) (n := 8) (by kernel_rfl) (by kernel_rfl) Try.func8 rfl ?_ rfl (by kernel_rfl) (by kernel_rfl) (by kernel_rfl) (by kernel_rfl) os started H enc
    (ChangeSpec.witness6 (enc := enc) (C := Try.checked) false ⟨#[], #[.slice none 0 0, .string ByteArray.empty, .string ByteArray.empty], []⟩ 8 (by kernel_rfl) (by kernel_rfl) (by kernel_rfl) (by kernel_rfl)) ?_
  · intro H ds h
    match ds, h with
    | [a0, a1, a2], _ => rfl
  · intro xs hx
    have hp : Try.f8.params.toList = [22, 9, 9] := rfl
    rw [hp] at hx ⊢
    have i0 : isA Try.prog 22 = false := by kernel_rfl
    have i1 : isA Try.prog 9 = false := by kernel_rfl
    have i2 : isA Try.prog 9 = false := by kernel_rfl
    rcases xs with _ | ⟨d0, _ | ⟨d1, _ | ⟨d2, _ | ⟨d3, xs⟩⟩⟩⟩ <;> simp only [Tyds, and_false] at hx
    obtain ⟨k0, k1, k2, _⟩ := hx
    obtain ⟨q, rfl, hq, wq⟩ := requests_of k0
    obtain ⟨b, rfl, hb⟩ := str_of k1
    obtain ⟨c, rfl, hc⟩ := str_of k2
    simp only [avs, i0, i1, i2, dv, Bool.false_eq_true, if_false, if_true, List.headD_cons, List.map_cons, List.map_nil]
    exact lines_law q b c hq
theorem queueLines_over : Rows.queueLinesRow.holds Try.pinned (OpenSpec.ofChange Rows.queueLinesSpec) :=
  OpenClaim.holds_of_wide 8 Try.f8 rfl rfl rfl rfl rfl rfl rfl ⟨rfl, rfl, rfl, rfl, rfl⟩ rfl rfl rfl rfl rfl (by kernel_rfl) Try.func8 (by kernel_rfl)
    (of_decide_eq_true (by kernel_rfl)) (by unfold Func.isWrapper; first | (rw [if_pos (by decide +kernel)]; kernel_rfl) | (rw [if_neg (by decide +kernel)]; exact ⟨rfl, rfl⟩))
    (fun os started H enc _ => queueLines_lifted os started H enc)
/-- The row, under a short name, for the claim. -/
theorem queueLines_holds : Rows.QueueLinesSaid := queueLines_over
#print axioms queueLines_holds
end Go.Proofs.Ytamlleliapmhmaa

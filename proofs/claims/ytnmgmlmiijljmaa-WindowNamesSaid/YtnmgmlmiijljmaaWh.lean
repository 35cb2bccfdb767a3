/- Windows: the reference's functions. -/
import Derived.Test.YtnmgmlmiijljmaaWg
set_option maxHeartbeats 8000000
set_option linter.unusedVariables false
set_option linter.unusedSimpArgs false
set_option maxRecDepth 20000
namespace Go.AX.Wn
open Go.Proofs Go.RowKit Go.IntWalk Go.AX.Br
theorem asked2 (l : List Hd) (t : Int) : asked l [t, t] = asked l [t] := by
  simp [asked]
theorem frozen_ref (l : List Hd) (b : ByteArray) (t : Int) (hl : Sm l.length) : Spec Try.prog 12 [.d (.sl (l.map hD)), .d (.str b), .d (.int .i64 t)] [] (.tup [.d (.bool (frozenR l b t).1), .d (.int .i64 (frozenR l b t).2)]) [] := by
  have a1 := asked_ref l t t hl
  rw [asked2] at a1
  have a2 := held_ref l b t hl
  refine spec_of_ev (fn := Try.f12) DX_ok 3000 Try.func12 rfl rfl (Nat.le_of_ble_eq_true rfl) ?_
  simp (maxSteps := 4000000) -implicitDefEqProofs only [Try.f12, go_sem]
  refine ecall0 _ a1 (by simp only [go_sem]) (by simp only [go_sem]) ?_
  by_cases h1 : asked l [t] = 0
  case neg =>
    have d1 : (asked l [t] != 0) = true := by simp [h1]
    have e : frozenR l b t = (false, asked l [t]) := by rw [frozenR, if_pos h1]
    simp (maxSteps := 4000000) -implicitDefEqProofs only [go_sem, d1, Option.some.injEq, forall_eq', and_true, true_and, Bool.not_true, Bool.not_false, decide_true, Nat.reduceAdd, Nat.reduceSub, Nat.reduceLT, Nat.reduceLeDiff, Nat.reduceEqDiff, ↓reduceIte]
    refine ecall0 _ a1 (by simp only [go_sem]) (by simp only [go_sem]) ?_
    simp (maxSteps := 4000000) -implicitDefEqProofs only [go_sem, Nat.reduceAdd, Nat.reduceSub, Nat.reduceLT, Nat.reduceLeDiff, Nat.reduceEqDiff, ↓reduceIte]
    rw [e]
    exact wk_dat (r' := .tup [.d (.bool false), .d (.int .i64 (asked l [t]))]) (by simp only [go_sem]; rfl) rfl (by simp only [go_sem])
  have d1 : (asked l [t] != 0) = false := by simp [h1]
  have e : frozenR l b t = (held l b t, 0) := by rw [frozenR, if_neg (by omega)]
  simp (maxSteps := 4000000) -implicitDefEqProofs only [go_sem, d1, Option.some.injEq, forall_eq', and_true, true_and, Bool.not_true, Bool.not_false, decide_true, Nat.reduceAdd, Nat.reduceSub, Nat.reduceLT, Nat.reduceLeDiff, Nat.reduceEqDiff, ↓reduceIte]
  refine ecall0 _ a2 (by simp only [go_sem]) (by simp only [go_sem]) ?_
  simp (maxSteps := 4000000) -implicitDefEqProofs only [go_sem, Nat.reduceAdd, Nat.reduceSub, Nat.reduceLT, Nat.reduceLeDiff, Nat.reduceEqDiff, ↓reduceIte]
  rw [e]
  exact wk_dat (r' := .tup [.d (.bool (held l b t)), .d (.int .i64 0)]) (by simp only [go_sem]; rfl) rfl (by simp only [go_sem])
theorem why_ref (l : List Hd) (b : ByteArray) (t : Int) (hl : Sm l.length) : Spec Try.prog 14 [.d (.sl (l.map hD)), .d (.str b), .d (.int .i64 t)] [] (.tup [.d (.sl ((whyR l b t).1.map sD)), .d (.int .i64 (whyR l b t).2)]) [] := by
  have a1 := asked_ref l t t hl
  rw [asked2] at a1
  refine spec_of_ev (fn := Try.f14) DX_ok 3000 Try.func14 rfl rfl (Nat.le_of_ble_eq_true rfl) ?_
  simp (maxSteps := 4000000) -implicitDefEqProofs only [Try.f14, go_sem]
  refine ecall0 _ a1 (by simp only [go_sem]) (by simp only [go_sem]) ?_
  by_cases h1 : asked l [t] = 0
  case neg =>
    have d1 : (asked l [t] != 0) = true := by simp [h1]
    have e : whyR l b t = ([], asked l [t]) := by rw [whyR, if_pos h1]
    simp (maxSteps := 4000000) -implicitDefEqProofs only [go_sem, d1, Option.some.injEq, forall_eq', and_true, true_and, Bool.not_true, Bool.not_false, decide_true, Nat.reduceAdd, Nat.reduceSub, Nat.reduceLT, Nat.reduceLeDiff, Nat.reduceEqDiff, ↓reduceIte]
    refine ecall0 _ a1 (by simp only [go_sem]) (by simp only [go_sem]) ?_
    simp (maxSteps := 4000000) -implicitDefEqProofs only [go_sem, Nat.reduceAdd, Nat.reduceSub, Nat.reduceLT, Nat.reduceLeDiff, Nat.reduceEqDiff, ↓reduceIte]
    rw [e]
    exact wk_dat (r' := .tup [.d (.sl []), .d (.int .i64 (asked l [t]))]) (by simp only [go_sem]; rfl) rfl (by simp only [go_sem])
  have d1 : (asked l [t] != 0) = false := by simp [h1]
  have ol := (okw b (asked_ok h1).1).len
  have e : whyR l b t = (whyL b t l, 0) := by rw [whyR, if_neg (by omega)]
  simp (maxSteps := 4000000) -implicitDefEqProofs only [go_sem, d1, Option.some.injEq, forall_eq', and_true, true_and, Bool.not_true, Bool.not_false, decide_true, Nat.reduceAdd, Nat.reduceSub, Nat.reduceLT, Nat.reduceLeDiff, Nat.reduceEqDiff, ↓reduceIte]
  rw [e]
  refine eloop (S := Nat) (fun i => mkE 41 [(0, .d (.sl (l.map hD))), (1, .d (.str b)), (2, .d (.int .i64 t)), (8, .own 0), (9, .d (.int .i64 i))]) (fun i => [.row 1 ((whyL b t (l.take i)).map sD)]) (fun i => i ≤ l.length) (fun i => l.length - i) 0 (by omega) (Wk.trans (Wk.nil 8 1 rfl) (Wk.via1 0 (by (simp only [go_sem, ↓reduceIte]) <;> trivial) (by simp (maxSteps := 4000000) -implicitDefEqProofs only [go_sem, Nat.reduceAdd, Nat.reduceSub, Nat.reduceLT, Nat.reduceLeDiff, Nat.reduceEqDiff, ↓reduceIte]) (by simp) (by (simp only [go_sem]) <;> trivial) (by trivial))) ?_
  intro i hi
  rcases Nat.lt_or_ge i l.length with h2 | h2
  · have f1 : decide ((i : Int) < l.length) = true := by simp; omega
    obtain ⟨x, hx⟩ : ∃ x, l[i]? = some x := ⟨l[i]'h2, List.getElem?_eq_getElem _⟩
    have n1 : (0 ≤ (i : Int) ∧ (i : Int) < l.length) = True := eq_true (by omega)
    have n2 : (i < l.length) = True := eq_true (by omega)
    have w1 : IntKind.i64.wrap ((i : Int) + 1) = ((i + 1 : Nat) : Int) := by rw [i64_in _ (by omega)]; simp
    have ml := why_len b t (l.take i)
    rw [List.length_take] at ml
    have hh := holding_ref x b t
    simp only [hA] at hh
    simp (maxSteps := 4000000) -implicitDefEqProofs only [go_sem, f1, n1, n2, hx, Option.some.injEq, forall_eq', and_true, true_and, Bool.not_true, Bool.not_false, decide_true, Nat.reduceAdd, Nat.reduceSub, Nat.reduceLT, Nat.reduceLeDiff, Nat.reduceEqDiff, ↓reduceIte]
    refine ecall0 _ hh (by simp only [go_sem]) (by simp only [go_sem]) ?_
    cases g1 : holds b t x
    case false =>
      have e2 := why_no hx g1
      simp (maxSteps := 4000000) -implicitDefEqProofs only [go_sem, g1, w1, Option.some.injEq, forall_eq', and_true, true_and, Bool.not_true, Bool.not_false, decide_true, Nat.reduceAdd, Nat.reduceSub, Nat.reduceLT, Nat.reduceLeDiff, Nat.reduceEqDiff, ↓reduceIte]
      exact .mk (i + 1) h2 (by omega) (by rw [e2]; exact (Wk.via1 0 (by (simp only [go_sem, ↓reduceIte]) <;> trivial) (by simp (maxSteps := 4000000) -implicitDefEqProofs only [go_sem, Nat.reduceAdd, Nat.reduceSub, Nat.reduceLT, Nat.reduceLeDiff, Nat.reduceEqDiff, ↓reduceIte]) (by simp) (by (simp only [go_sem]) <;> trivial) (by trivial)))
    have e2 := why_yes hx g1
    have e3 : (whyL b t (l.take i)).map sD ++ [[D.str x.rs]] = (whyL b t (l.take i) ++ [x.rs]).map sD := by simp [sD]
    simp (maxSteps := 4000000) -implicitDefEqProofs only [go_sem, g1, n1, n2, hx, w1, Option.some.injEq, forall_eq', and_true, true_and, Bool.not_true, Bool.not_false, decide_true, Nat.reduceAdd, Nat.reduceSub, Nat.reduceLT, Nat.reduceLeDiff, Nat.reduceEqDiff, ↓reduceIte]
    refine ⟨⟨fun e he => by simp at he; subst he; rfl, by omega, by omega⟩, ?_⟩
    rw [e3]
    exact .mk (i + 1) h2 (by omega) (by rw [e2]; exact (Wk.via1 2 (by (simp only [go_sem, ↓reduceIte]) <;> trivial) (by simp (maxSteps := 4000000) -implicitDefEqProofs only [go_sem, Nat.reduceAdd, Nat.reduceSub, Nat.reduceLT, Nat.reduceLeDiff, Nat.reduceEqDiff, ↓reduceIte]) (by simp) (by (simp only [go_sem]) <;> trivial) (by trivial)))
  have f1 : decide ((i : Int) < l.length) = false := by simp; omega
  simp (maxSteps := 4000000) -implicitDefEqProofs only [go_sem, f1, Option.some.injEq, forall_eq', and_true, true_and, Bool.not_true, Bool.not_false, decide_true, Nat.reduceAdd, Nat.reduceSub, Nat.reduceLT, Nat.reduceLeDiff, Nat.reduceEqDiff, ↓reduceIte]
  rw [List.take_of_length_le h2]
  exact wk_dat (r' := .tup [.d (.sl ((whyL b t l).map sD)), .d (.int .i64 0)]) (by simp only [go_sem]; rfl) rfl (by simp only [go_sem])
theorem next1_ref (l : List Hd) (b : ByteArray) (t : Int) (O : Okw l b) (ht : 0 ≤ t ∧ t ≤ 1000000) : Spec Try.prog 35 [.d (.sl (l.map hD)), .d (.str b), .d (.int .i64 t)] [] (.d (.int .i64 (nextW (winL l b) t))) [] := by
  have ol := O.len
  have hl : Sm l.length := by unfold Sm; omega
  obtain ⟨N, hN⟩ : ∃ N, N = nextW (winL l b) t := ⟨_, rfl⟩
  rw [← hN]
  -- what is known of it
  have key : (held l b t = false ∧ N = t) ∨ (held l b t = true ∧ t < N ∧ N ≤ 1000000 ∧ held l b N = false ∧ (∃ x ∈ l, x.br = b ∧ x.to = N) ∧ ∀ x ∈ l, t ≤ x.to → held l b x.to = false → N ≤ x.to) := by
    unfold nextW at hN
    cases h : look (winL l b) t with
    | none =>
      rw [h] at hN
      exact .inl ⟨(O.nheld t).2 (none_cov h), hN⟩
    | some w =>
      rw [h] at hN
      obtain ⟨_, _, _, _, q, _, _, _, hm⟩ := look_some O.can h
      simp only at hN
      by_cases hw : w.fr ≤ t
      · rw [if_pos hw] at hN
        have wb := O.bounds hm
        refine .inr ⟨(O.heldC t).2 ((look_cov O.can h).2 hw), by omega, by omega, ?_, ?_, fun x hx h1 h2 => ?_⟩
        · rw [hN]; exact (O.nheld _).2 (O.can.end_open hm)
        · rw [hN]
          obtain ⟨x, x1, x2, x3⟩ := O.last hm
          exact ⟨x, x1, x2, x3⟩
        · rw [hN]; exact O.next_cand h hw h1 h2
      · rw [if_neg hw] at hN
        exact .inl ⟨(O.nheld t).2 fun hc => hw ((look_cov O.can h).1 hc), hN⟩
  clear hN
  obtain ⟨B0, hB0⟩ : ∃ B0 : Int, B0 = if held l b t then 1000000 else t := ⟨_, rfl⟩
  refine spec_of_ev (fn := Try.f35) DX_ok 3000 Try.func35 rfl rfl (Nat.le_of_ble_eq_true rfl) ?_
  simp (maxSteps := 4000000) -implicitDefEqProofs only [Try.f35, go_sem]
  refine ecall0 _ (held_ref l b t hl) (by simp only [go_sem]) (by simp only [go_sem]) ?_
  have hgo : ∀ (best : Int), best = B0 → N ≤ best ∧ best ≤ 1000000 ∧ (held l b t = false → best = t) ∧ (held l b t = true → ∀ j x, l[j]? = some x → j < 0 → x.br = b → x.to = N → best ≤ N) := fun best e => by
    rcases key with ⟨k1, k2⟩ | ⟨k1, k2, k3, _⟩
    · rw [k1] at hB0; simp at hB0
      refine ⟨by omega, by omega, fun _ => by omega, fun h => by rw [k1] at h; cases h⟩
    · rw [k1] at hB0; simp at hB0
      refine ⟨by omega, by omega, fun h => (by rw [k1] at h; cases h), fun _ => by omega⟩
  cases hh : held l b t
  case' true =>
    rw [hh] at hB0
    simp (maxSteps := 4000000) -implicitDefEqProofs only [go_sem, hh, Option.some.injEq, forall_eq', and_true, true_and, Bool.not_true, Bool.not_false, decide_true, Nat.reduceAdd, Nat.reduceSub, Nat.reduceLT, Nat.reduceLeDiff, Nat.reduceEqDiff, ↓reduceIte]
  case' false =>
    rw [hh] at hB0
    simp (maxSteps := 4000000) -implicitDefEqProofs only [go_sem, hh, Option.some.injEq, forall_eq', and_true, true_and, Bool.not_true, Bool.not_false, decide_true, Nat.reduceAdd, Nat.reduceSub, Nat.reduceLT, Nat.reduceLeDiff, Nat.reduceEqDiff, ↓reduceIte]
  all_goals
    simp only [if_true, Bool.false_eq_true, if_false] at hB0
    refine eloop (S := Nat × Int) (fun s => mkE 63 [(0, .d (.sl (l.map hD))), (1, .d (.str b)), (2, .d (.int .i64 t)), (7, .d (.int .i64 s.2)), (8, .d (.int .i64 s.1))]) (fun _ => []) (fun s => s.1 ≤ l.length ∧ N ≤ s.2 ∧ s.2 ≤ 1000000 ∧ (held l b t = false → s.2 = t) ∧ (held l b t = true → ∀ j x, l[j]? = some x → j < s.1 → x.br = b → x.to = N → s.2 ≤ N)) (fun s => l.length - s.1) (0, B0) ⟨by simp, hgo _ rfl⟩ (by rw [hB0]; exact (Wk.forget (by (simp only [go_sem]) <;> trivial) (by simp only [go_sem]))) ?_
    intro s hs
    obtain ⟨s1, s2, s3, s4, s5⟩ := hs
    rcases Nat.lt_or_ge s.1 l.length with h2 | h2
    case inr =>
      have f1 : decide ((s.1 : Int) < l.length) = false := by simp; omega
      have fin : s.2 = N := by
        rcases key with ⟨k1, k2⟩ | ⟨k1, k2, k3, k4, ⟨x, x1, x2, x3⟩, k6⟩
        · rw [s4 k1, k2]
        · obtain ⟨j, hj⟩ := List.mem_iff_getElem?.1 x1
          have := s5 k1 j x hj (by have := some_lt hj; omega) x2 x3
          omega
      simp (maxSteps := 4000000) -implicitDefEqProofs only [go_sem, f1, Option.some.injEq, forall_eq', and_true, true_and, Bool.not_true, Bool.not_false, decide_true, Nat.reduceAdd, Nat.reduceSub, Nat.reduceLT, Nat.reduceLeDiff, Nat.reduceEqDiff, ↓reduceIte]
      rw [fin]
      exact wk_int rfl
    have f1 : decide ((s.1 : Int) < l.length) = true := by simp; omega
    obtain ⟨x, hx⟩ : ∃ x, l[s.1]? = some x := ⟨l[s.1]'h2, List.getElem?_eq_getElem _⟩
    have hxm := List.mem_of_getElem? hx
    have n1 : (0 ≤ (s.1 : Int) ∧ (s.1 : Int) < l.length) = True := eq_true (by omega)
    have n2 : (s.1 < l.length) = True := eq_true (by omega)
    have w1 : IntKind.i64.wrap ((s.1 : Int) + 1) = ((s.1 + 1 : Nat) : Int) := by rw [i64_in _ (by omega)]; simp
    -- one that is passed over
    have pass : ¬ (x.br = b ∧ t ≤ x.to ∧ x.to < s.2 ∧ held l b x.to = false) → (held l b t = true → ∀ j x, l[j]? = some x → j < s.1 + 1 → x.br = b → x.to = N → s.2 ≤ N) := fun hn ht2 => by
      refine upto_succ hx (fun e1 e2 => ?_) (s5 ht2)
      rcases key with ⟨k1, _⟩ | ⟨k1, k2, k3, k4, _, k6⟩
      · rw [k1] at ht2; cases ht2
      · rcases Int.lt_or_le N s.2 with q | q
        · exact absurd ⟨e1, by omega, by omega, by rw [e2]; exact k4⟩ hn
        · exact q
    cases g1 : decide (x.br = b)
    case false =>
      simp (maxSteps := 4000000) -implicitDefEqProofs only [go_sem, f1, n1, n2, hx, g1, w1, Option.some.injEq, forall_eq', and_true, true_and, Bool.not_true, Bool.not_false, decide_true, Nat.reduceAdd, Nat.reduceSub, Nat.reduceLT, Nat.reduceLeDiff, Nat.reduceEqDiff, ↓reduceIte]
      exact .mk (s.1 + 1, s.2) ⟨by simp only; omega, s2, s3, s4, pass fun h => by simp [h.1] at g1⟩ (by simp only; omega) (Wk.forget (by (simp only [go_sem]) <;> trivial) (by simp only [go_sem]))
    cases g2 : decide (t ≤ x.to)
    case false =>
      simp (maxSteps := 4000000) -implicitDefEqProofs only [go_sem, f1, n1, n2, hx, g1, g2, w1, Option.some.injEq, forall_eq', and_true, true_and, Bool.not_true, Bool.not_false, decide_true, Nat.reduceAdd, Nat.reduceSub, Nat.reduceLT, Nat.reduceLeDiff, Nat.reduceEqDiff, ↓reduceIte]
      exact .mk (s.1 + 1, s.2) ⟨by simp only; omega, s2, s3, s4, pass fun h => by simp [h.2.1] at g2⟩ (by simp only; omega) (Wk.forget (by (simp only [go_sem]) <;> trivial) (by simp only [go_sem]))
    cases g3 : decide (x.to < s.2)
    case false =>
      simp (maxSteps := 4000000) -implicitDefEqProofs only [go_sem, f1, n1, n2, hx, g1, g2, g3, w1, Option.some.injEq, forall_eq', and_true, true_and, Bool.not_true, Bool.not_false, decide_true, Nat.reduceAdd, Nat.reduceSub, Nat.reduceLT, Nat.reduceLeDiff, Nat.reduceEqDiff, ↓reduceIte]
      exact .mk (s.1 + 1, s.2) ⟨by simp only; omega, s2, s3, s4, pass fun h => by simp [h.2.2.1] at g3⟩ (by simp only; omega) (Wk.forget (by (simp only [go_sem]) <;> trivial) (by simp only [go_sem]))
    simp (maxSteps := 4000000) -implicitDefEqProofs only [go_sem, f1, n1, n2, hx, g1, g2, g3, Option.some.injEq, forall_eq', and_true, true_and, Bool.not_true, Bool.not_false, decide_true, Nat.reduceAdd, Nat.reduceSub, Nat.reduceLT, Nat.reduceLeDiff, Nat.reduceEqDiff, ↓reduceIte]
    refine ecall0 _ (held_ref l b x.to hl) (by simp only [go_sem]) (by simp only [go_sem]) ?_
    cases g4 : held l b x.to
    case true =>
      simp (maxSteps := 4000000) -implicitDefEqProofs only [go_sem, g4, w1, Option.some.injEq, forall_eq', and_true, true_and, Bool.not_true, Bool.not_false, decide_true, Nat.reduceAdd, Nat.reduceSub, Nat.reduceLT, Nat.reduceLeDiff, Nat.reduceEqDiff, ↓reduceIte]
      exact .mk (s.1 + 1, s.2) ⟨by simp only; omega, s2, s3, s4, pass fun h => by simp [h.2.2.2] at g4⟩ (by simp only; omega) (Wk.forget (by (simp only [go_sem]) <;> trivial) (by simp only [go_sem]))
    have g1' := of_decide_eq_true g1
    have g2' := of_decide_eq_true g2
    have g3' := of_decide_eq_true g3
    rcases key with ⟨k1, k2⟩ | ⟨k1, k2, k3, k4, k5, k6⟩
    · exact absurd (s4 k1) (by omega)
    have cand := k6 x hxm g2' g4
    simp (maxSteps := 4000000) -implicitDefEqProofs only [go_sem, g4, n1, n2, hx, w1, Option.some.injEq, forall_eq', and_true, true_and, Bool.not_true, Bool.not_false, decide_true, Nat.reduceAdd, Nat.reduceSub, Nat.reduceLT, Nat.reduceLeDiff, Nat.reduceEqDiff, ↓reduceIte]
    refine .mk (s.1 + 1, x.to) ⟨by simp only; omega, cand, by simp only; omega, fun h => (by rw [k1] at h; cases h), fun ht2 => upto_succ hx (fun e1 e2 => by omega) fun j y hy hj e1 e2 => ?_⟩ (by simp only; omega) (Wk.forget (by (simp only [go_sem]) <;> trivial) (by simp only [go_sem]))
    have := s5 k1 j y hy hj e1 e2
    omega
theorem stop_ref (l : List Hd) (b : ByteArray) (t : Int) (O : Okw l b) (ht : 0 ≤ t ∧ t ≤ 1000001) : Spec Try.prog 41 [.d (.sl (l.map hD)), .d (.str b), .d (.int .i64 t)] [] (.d (.int .i64 (stopW (winL l b) t))) [] := by
  have ol := O.len
  have hl : Sm l.length := by unfold Sm; omega
  obtain ⟨N, hN⟩ : ∃ N, N = stopW (winL l b) t := ⟨_, rfl⟩
  rw [← hN]
  have key : (held l b t = true ∧ N = t) ∨ (held l b t = false ∧ N ≤ 1000001 ∧ (∀ x ∈ l, x.br = b → t ≤ x.fr → N ≤ x.fr) ∧ (N = 1000001 ∨ ∃ x ∈ l, x.br = b ∧ t ≤ x.fr ∧ x.fr = N)) := by
    unfold stopW at hN
    cases h : look (winL l b) t with
    | none =>
      rw [h] at hN
      refine .inr ⟨(O.nheld t).2 (none_cov h), by simp only at hN; omega, fun x hx hb hf => ?_, .inl hN⟩
      obtain ⟨w, hw, _⟩ := O.stop_cand hx hb hf
      rw [h] at hw; cases hw
    | some w =>
      rw [h] at hN
      obtain ⟨_, _, _, _, q, _, _, _, hm⟩ := look_some O.can h
      have wb := O.bounds hm
      simp only at hN
      by_cases hw : w.fr ≤ t
      · exact .inl ⟨(O.heldC t).2 ((look_cov O.can h).2 hw), by omega⟩
      · refine .inr ⟨(O.nheld t).2 fun hc => hw ((look_cov O.can h).1 hc), by omega, fun x hx hb hf => ?_, .inr ?_⟩
        · obtain ⟨w', hw', h2⟩ := O.stop_cand hx hb hf
          rw [h] at hw'; cases hw'; omega
        · obtain ⟨x, x1, x2, x3, _⟩ := O.first hm
          exact ⟨x, x1, x2, by omega, by omega⟩
  clear hN
  refine spec_of_ev (fn := Try.f41) DX_ok 3000 Try.func41 rfl rfl (Nat.le_of_ble_eq_true rfl) ?_
  simp (maxSteps := 4000000) -implicitDefEqProofs only [Try.f41, go_sem]
  refine ecall0 _ (held_ref l b t hl) (by simp only [go_sem]) (by simp only [go_sem]) ?_
  rcases key with ⟨k1, k2⟩ | ⟨k1, k2, k3, k4⟩
  · simp (maxSteps := 4000000) -implicitDefEqProofs only [go_sem, k1, Option.some.injEq, forall_eq', and_true, true_and, Bool.not_true, Bool.not_false, decide_true, Nat.reduceAdd, Nat.reduceSub, Nat.reduceLT, Nat.reduceLeDiff, Nat.reduceEqDiff, ↓reduceIte]
    rw [k2]; exact wk_int rfl
  simp (maxSteps := 4000000) -implicitDefEqProofs only [go_sem, k1, Option.some.injEq, forall_eq', and_true, true_and, Bool.not_true, Bool.not_false, decide_true, Nat.reduceAdd, Nat.reduceSub, Nat.reduceLT, Nat.reduceLeDiff, Nat.reduceEqDiff, ↓reduceIte]
  refine eloop (S := Nat × Int) (fun s => mkE 44 [(0, .d (.sl (l.map hD))), (1, .d (.str b)), (2, .d (.int .i64 t)), (7, .d (.int .i64 s.2)), (8, .d (.int .i64 s.1))]) (fun _ => []) (fun s => s.1 ≤ l.length ∧ N ≤ s.2 ∧ s.2 ≤ 1000001 ∧ ∀ j x, l[j]? = some x → j < s.1 → x.br = b → t ≤ x.fr → s.2 ≤ x.fr) (fun s => l.length - s.1) (0, 1000001) ⟨by simp, k2, by simp, by simp⟩ (Wk.forget (by (simp only [go_sem]) <;> trivial) (by simp only [go_sem])) ?_
  intro s hs
  obtain ⟨s1, s2, s3, s5⟩ := hs
  rcases Nat.lt_or_ge s.1 l.length with h2 | h2
  case inr =>
    have f1 : decide ((s.1 : Int) < l.length) = false := by simp; omega
    have fin : s.2 = N := by
      rcases k4 with k4 | ⟨x, x1, x2, x3, x4⟩
      · omega
      · obtain ⟨j, hj⟩ := List.mem_iff_getElem?.1 x1
        have := s5 j x hj (by have := some_lt hj; omega) x2 x3
        omega
    simp (maxSteps := 4000000) -implicitDefEqProofs only [go_sem, f1, Option.some.injEq, forall_eq', and_true, true_and, Bool.not_true, Bool.not_false, decide_true, Nat.reduceAdd, Nat.reduceSub, Nat.reduceLT, Nat.reduceLeDiff, Nat.reduceEqDiff, ↓reduceIte]
    rw [fin]
    exact wk_int rfl
  have f1 : decide ((s.1 : Int) < l.length) = true := by simp; omega
  obtain ⟨x, hx⟩ : ∃ x, l[s.1]? = some x := ⟨l[s.1]'h2, List.getElem?_eq_getElem _⟩
  have hxm := List.mem_of_getElem? hx
  have n1 : (0 ≤ (s.1 : Int) ∧ (s.1 : Int) < l.length) = True := eq_true (by omega)
  have n2 : (s.1 < l.length) = True := eq_true (by omega)
  have w1 : IntKind.i64.wrap ((s.1 : Int) + 1) = ((s.1 + 1 : Nat) : Int) := by rw [i64_in _ (by omega)]; simp
  cases g1 : decide (x.br = b)
  case false =>
    simp (maxSteps := 4000000) -implicitDefEqProofs only [go_sem, f1, n1, n2, hx, g1, w1, Option.some.injEq, forall_eq', and_true, true_and, Bool.not_true, Bool.not_false, decide_true, Nat.reduceAdd, Nat.reduceSub, Nat.reduceLT, Nat.reduceLeDiff, Nat.reduceEqDiff, ↓reduceIte]
    exact .mk (s.1 + 1, s.2) ⟨by simp only; omega, s2, s3, upto_succ hx (fun e => by simp [e] at g1) s5⟩ (by simp only; omega) (Wk.forget (by (simp only [go_sem]) <;> trivial) (by simp only [go_sem]))
  cases g2 : decide (t ≤ x.fr)
  case false =>
    simp (maxSteps := 4000000) -implicitDefEqProofs only [go_sem, f1, n1, n2, hx, g1, g2, w1, Option.some.injEq, forall_eq', and_true, true_and, Bool.not_true, Bool.not_false, decide_true, Nat.reduceAdd, Nat.reduceSub, Nat.reduceLT, Nat.reduceLeDiff, Nat.reduceEqDiff, ↓reduceIte]
    exact .mk (s.1 + 1, s.2) ⟨by simp only; omega, s2, s3, upto_succ hx (fun _ e => by simp [e] at g2) s5⟩ (by simp only; omega) (Wk.forget (by (simp only [go_sem]) <;> trivial) (by simp only [go_sem]))
  have g1' := of_decide_eq_true g1
  have g2' := of_decide_eq_true g2
  have cand := k3 x hxm g1' g2'
  have mn : (if x.fr < s.2 then x.fr else s.2) = min s.2 x.fr := by split <;> omega
  simp (maxSteps := 4000000) -implicitDefEqProofs only [go_sem, f1, n1, n2, hx, g1, g2, w1, mn, Option.some.injEq, forall_eq', and_true, true_and, Bool.not_true, Bool.not_false, decide_true, Nat.reduceAdd, Nat.reduceSub, Nat.reduceLT, Nat.reduceLeDiff, Nat.reduceEqDiff, ↓reduceIte]
  exact .mk (s.1 + 1, min s.2 x.fr) ⟨by simp only; omega, by simp only; omega, by simp only; omega, upto_succ hx (fun _ _ => by simp only; omega) fun j y hy hj e1 e2 => by have := s5 j y hy hj e1 e2; simp only; omega⟩ (by simp only; omega) (Wk.forget (by (simp only [go_sem]) <;> trivial) (by simp only [go_sem]))
end Go.AX.Wn

/- QueueServed: the law returns true. No condition but the law's own guard. -/
import Derived.Test.YtamlleliapmhmaaQo
set_option maxHeartbeats 8000000
set_option linter.unusedVariables false
set_option linter.unusedSimpArgs false
set_option maxRecDepth 20000
namespace Go.AX.Qu
open Go.Proofs Go.RowKit Go.IntWalk Go.AX.Br
/-- the copy of a row that the caller keeps -/
theorem clone_own (q : List Rq) (hq : q.length ≤ 1000) : Spec Try.prog 34 [.own 0] [.row 5 (q.map rD)] (.own 1) [.row 5 (q.map rD), .row 5 (q.map rD)] := by
  refine spec_of_ev (fn := Try.f34) DX_ok 3000 Try.func34 rfl rfl (Nat.le_of_ble_eq_true rfl) ?_
  simp (maxSteps := 4000000) -implicitDefEqProofs only [Try.f34, go_sem]
  intro b hb
  cases b with
  | true =>
    simp (maxSteps := 4000000) -implicitDefEqProofs only [go_sem, Nat.reduceAdd, Nat.reduceSub, Nat.reduceLT, Nat.reduceLeDiff, Nat.reduceEqDiff, ↓reduceIte]
    have e := hb rfl
    rw [e]
    refine Wk.trans (Wk.nil 0 5 rfl) ?_
    simp only [go_sem]
    exact Wk.refl _ _ _
  | false =>
    simp (maxSteps := 4000000) -implicitDefEqProofs only [go_sem, Nat.reduceAdd, Nat.reduceSub, Nat.reduceLT, Nat.reduceLeDiff, Nat.reduceEqDiff, ↓reduceIte]
    exact ⟨by omega, ⟨by omega, by omega⟩, (Wk.via [0, 2] (by (simp only [go_sem, ↓reduceIte]) <;> trivial) (by (simp (maxSteps := 4000000) -implicitDefEqProofs only [go_sem, Nat.reduceAdd, Nat.reduceSub, Nat.reduceLT, Nat.reduceLeDiff, Nat.reduceEqDiff, ↓reduceIte]) <;> omega) (by simp) (by simp) (by (simp (maxSteps := 4000000) -implicitDefEqProofs only [go_sem, Nat.reduceAdd, Nat.reduceSub, Nat.reduceLT, Nat.reduceLeDiff, Nat.reduceEqDiff, ↓reduceIte]) <;> trivial) (by (simp (maxSteps := 4000000) -implicitDefEqProofs only [go_sem, Nat.reduceAdd, Nat.reduceSub, Nat.reduceLT, Nat.reduceLeDiff, Nat.reduceEqDiff, ↓reduceIte]) <;> omega) (by decide) (at0_pre (by decide)))⟩
theorem settle_keep (q : List Rq) (b : ByteArray) (s : Int) (i : Nat) (hq : q.length ≤ 30) (h0 : qcheck q = 0) (h1 : 5 ≤ s) (h2 : s ≤ 7) (hi : idx (isHead b) q = i) :
    Spec Try.prog 16 [.own 0, .d (.str b), .d (.int .u8 s)] [.row 5 (q.map rD)] (.tup [.own 1, .d (.int .i64 0)]) [.row 5 (q.map rD), .row 5 ((q.modify i fun r => setSt r s).map rD)] := by
  have hs : Sm q.length := by unfold Sm; omega
  obtain ⟨i', x, e1, hx, _⟩ := idx_get (p := isHead b) (l := q) (by omega)
  have : i' = i := by omega
  subst this
  have a1 := qcheck_own q hs
  have a2 := head_own q b hs
  rw [h0] at a1
  rw [hi] at a2
  have c0 : ((0 : Int) != 0) = false := rfl
  have d1 : decide (s < 5) = false := decide_eq_false (by omega)
  have d2 : decide (7 < s) = false := decide_eq_false (by omega)
  have d3 : decide ((i' : Int) < 0) = false := decide_eq_false (by omega)
  have hlt := some_lt hx
  have n1 : (0 ≤ (i' : Int) ∧ (i' : Int) < q.length) = True := eq_true (by omega)
  have n2 : (i' < q.length) = True := eq_true (by omega)
  refine spec_of_ev (fn := Try.f16) DX_ok 3000 Try.func16 rfl rfl (Nat.le_of_ble_eq_true rfl) ?_
  simp (maxSteps := 4000000) -implicitDefEqProofs only [Try.f16, go_sem]
  refine ecallK 0 (args0 := [.own 0]) _ a1 rfl (by simp only [go_sem, ↓reduceIte]) (by simp only [go_sem]; omega) (by simp only [go_sem]) trivial rfl (by simp) rfl ?_
  simp (maxSteps := 4000000) -implicitDefEqProofs only [go_sem, c0, d1, d2, Option.some.injEq, forall_eq', and_true, true_and, Bool.not_true, Bool.not_false, decide_true, Nat.reduceAdd, Nat.reduceSub, Nat.reduceLT, Nat.reduceLeDiff, Nat.reduceEqDiff, ↓reduceIte]
  refine ecallK 0 (args0 := [.own 0, .d (.str b)]) _ a2 rfl (by simp only [go_sem, ↓reduceIte]) (by simp only [go_sem]; omega) (by simp only [go_sem]) trivial rfl (by simp) rfl ?_
  simp (maxSteps := 4000000) -implicitDefEqProofs only [go_sem, d3, Option.some.injEq, forall_eq', and_true, true_and, Bool.not_true, Bool.not_false, decide_true, Nat.reduceAdd, Nat.reduceSub, Nat.reduceLT, Nat.reduceLeDiff, Nat.reduceEqDiff, ↓reduceIte]
  refine .all _ _ (clone_own q (by omega)) ?_
  simp (maxSteps := 4000000) -implicitDefEqProofs only [go_sem, n1, n2, hx, Option.some.injEq, forall_eq', and_true, true_and, Bool.not_true, Bool.not_false, decide_true, Nat.reduceAdd, Nat.reduceSub, Nat.reduceLT, Nat.reduceLeDiff, Nat.reduceEqDiff, ↓reduceIte]
  rw [set_mod hx]
  exact Wk.refl _ _ _
theorem idx_none_lt {p : Rq → Bool} {l : List Rq} (h : ∀ (j : Nat) (y : Rq), l[j]? = some y → p y = false) : idx p l < 0 := by rw [idx_none h]; decide
theorem served_law (q : List Rq) (b : ByteArray) (st : List Int) (hq : Sm q.length) (hst : Sm st.length) (hs8 : ∀ z ∈ st, 0 ≤ z ∧ z ≤ 255) : Spec Try.prog 5 [.d (.sl (q.map rD)), .d (.str b), .d (.sl (st.map uD))] [] (.d (.bool true)) [] := by
  refine spec_of_ev (fn := Try.f5) DX_ok 3000 Try.func5 rfl rfl (Nat.le_of_ble_eq_true rfl) ?_
  simp (maxSteps := 4000000) -implicitDefEqProofs only [Try.f5, go_sem]
  refine ecall0 _ alive_spec (by simp only [go_sem]) (by simp only [go_sem]) ?_
  simp (maxSteps := 4000000) -implicitDefEqProofs only [go_sem, Nat.reduceAdd, Nat.reduceSub, Nat.reduceLT, Nat.reduceLeDiff, Nat.reduceEqDiff, ↓reduceIte]
  refine ecall0 _ (qcheck_ref q hq) (by simp only [go_sem]) (by simp only [go_sem]) ?_
  simp (maxSteps := 4000000) -implicitDefEqProofs only [go_sem, Nat.reduceAdd, Nat.reduceSub, Nat.reduceLT, Nat.reduceLeDiff, Nat.reduceEqDiff, ↓reduceIte]
  by_cases h1 : qcheck q = 0
  case neg =>
    have d1 : (qcheck q != 0) = true := by simp [h1]
    simp (maxSteps := 4000000) -implicitDefEqProofs only [go_sem, d1, Option.some.injEq, forall_eq', and_true, true_and, Bool.not_true, Bool.not_false, decide_true, Nat.reduceAdd, Nat.reduceSub, Nat.reduceLT, Nat.reduceLeDiff, Nat.reduceEqDiff, ↓reduceIte]
    with_reducible exact wk_bool rfl
  have d1 : (qcheck q != 0) = false := by simp [h1]
  have hl := qcheck_len h1
  cases d2 : decide (100 < (b.size : Int))
  case true =>
    simp (maxSteps := 4000000) -implicitDefEqProofs only [go_sem, d1, d2, Option.some.injEq, forall_eq', and_true, true_and, Bool.not_true, Bool.not_false, decide_true, Nat.reduceAdd, Nat.reduceSub, Nat.reduceLT, Nat.reduceLeDiff, Nat.reduceEqDiff, ↓reduceIte]
    with_reducible exact wk_bool rfl
  simp (maxSteps := 4000000) -implicitDefEqProofs only [go_sem, d1, d2, Option.some.injEq, forall_eq', and_true, true_and, Bool.not_true, Bool.not_false, decide_true, Nat.reduceAdd, Nat.reduceSub, Nat.reduceLT, Nat.reduceLeDiff, Nat.reduceEqDiff, ↓reduceIte]
  refine ecallN _ _ (twin_ref q (by omega)) (by simp only [go_sem]) ?_
  simp (maxSteps := 4000000) -implicitDefEqProofs only [go_sem, Nat.reduceAdd, Nat.reduceSub, Nat.reduceLT, Nat.reduceLeDiff, Nat.reduceEqDiff, ↓reduceIte]
  refine eloop (S := Nat × List Rq) (fun s => mkE 123 [(0, .d (.sl (q.map rD))), (1, .d (.str b)), (2, .d (.sl (st.map uD))), (7, .d (.bool true)), (8, .own 0), (9, .d (.int .i64 s.1))]) (fun s => [.row 5 (s.2.map rD)])
    (fun s => s.1 ≤ q.length ∧ s.2.length = q.length ∧ qcheck s.2 = 0 ∧ (∀ j, s.1 ≤ j → s.2[j]? = q[j]?) ∧ ∀ j y, s.2[j]? = some y → j < s.1 → isHead b y = false) (fun s => q.length - s.1) (0, q) ⟨by omega, rfl, h1, fun _ _ => rfl, by omega⟩ (Wk.sub (by (simp only [go_sem]) <;> trivial)) ?_
  intro s hs
  obtain ⟨i1, i2, i3, i4, i5⟩ := hs
  have c0 : ((0 : Int) != 0) = false := rfl
  have c6 : ((6 : Int) == 6) = true := rfl
  have hNs : Sm s.2.length := by unfold Sm; omega
  rcases Nat.lt_or_ge s.1 q.length with h2 | h2
  case inr =>
    have f1 : decide ((s.1 : Int) < q.length) = false := by simp; omega
    have b1 := headR_own s.2 b hNs
    have e1 : headR s.2 b = (0, 6) := by
      unfold headR
      rw [if_neg (by omega), if_pos (idx_none_lt fun j y hy => i5 j y hy (by have := some_lt hy; omega))]
    rw [e1] at b1
    simp (maxSteps := 4000000) -implicitDefEqProofs only [go_sem, f1, Option.some.injEq, forall_eq', and_true, true_and, Bool.not_true, Bool.not_false, decide_true, Nat.reduceAdd, Nat.reduceSub, Nat.reduceLT, Nat.reduceLeDiff, Nat.reduceEqDiff, ↓reduceIte]
    refine ecallK 0 (args0 := [.own 0, .d (.str b)]) _ b1 rfl (by simp only [go_sem, ↓reduceIte]) (by simp only [go_sem]; omega) (by simp only [go_sem]) (by simp only [go_sem]) rfl (by simp) rfl ?_
    simp (maxSteps := 4000000) -implicitDefEqProofs only [go_sem, c6, Option.some.injEq, forall_eq', and_true, true_and, Bool.not_true, Bool.not_false, decide_true, Nat.reduceAdd, Nat.reduceSub, Nat.reduceLT, Nat.reduceLeDiff, Nat.reduceEqDiff, ↓reduceIte]
    with_reducible exact wk_bool rfl
  have f1 : decide ((s.1 : Int) < q.length) = true := by simp; omega
  obtain ⟨x, hx⟩ : ∃ x, q[s.1]? = some x := ⟨q[s.1]'h2, List.getElem?_eq_getElem _⟩
  have hx2 : s.2[s.1]? = some x := by rw [i4 _ (Nat.le_refl _)]; exact hx
  have n1 : (0 ≤ (s.1 : Int) ∧ (s.1 : Int) < q.length) = True := eq_true (by omega)
  have n2 : (s.1 < q.length) = True := eq_true (by omega)
  have n3 : (0 ≤ (s.1 : Int) ∧ (s.1 : Int) < s.2.length) = True := eq_true (by omega)
  have n4 : (s.1 < s.2.length) = True := eq_true (by omega)
  have w1 : IntKind.i64.wrap ((s.1 : Int) + 1) = ((s.1 + 1 : Nat) : Int) := by rw [i64_in _ (by omega)]; simp
  have out : isHead b x = false → (∀ j, s.1 + 1 ≤ j → s.2[j]? = q[j]?) ∧ ∀ j y, s.2[j]? = some y → j < s.1 + 1 → isHead b y = false := fun e => ⟨fun j hj => i4 j (by omega), upto_succ hx2 e i5⟩
  by_cases e1 : x.br = b
  case neg =>
    have g1 : decide (x.br = b) = false := decide_eq_false e1
    have o := out (by simp [isHead, e1])
    simp (maxSteps := 4000000) -implicitDefEqProofs only [go_sem, f1, n1, n2, hx, g1, w1, Option.some.injEq, forall_eq', and_true, true_and, Bool.not_true, Bool.not_false, decide_true, Nat.reduceAdd, Nat.reduceSub, Nat.reduceLT, Nat.reduceLeDiff, Nat.reduceEqDiff, ↓reduceIte]
    exact .mk (s.1 + 1, s.2) ⟨by omega, i2, i3, o.1, o.2⟩ (by simp only; omega) (Wk.sub (by (simp only [go_sem]) <;> trivial))
  have g1 : decide (x.br = b) = true := decide_eq_true e1
  cases g2 : x.st == 2
  case false =>
    have g3 : (x.st != 2) = true := by simp [bne, g2]
    have o := out (by simp [isHead, g2])
    simp (maxSteps := 4000000) -implicitDefEqProofs only [go_sem, f1, n1, n2, hx, g1, g3, w1, Option.some.injEq, forall_eq', and_true, true_and, Bool.not_true, Bool.not_false, decide_true, Nat.reduceAdd, Nat.reduceSub, Nat.reduceLT, Nat.reduceLeDiff, Nat.reduceEqDiff, ↓reduceIte]
    exact .mk (s.1 + 1, s.2) ⟨by omega, i2, i3, o.1, o.2⟩ (by simp only; omega) (Wk.sub (by (simp only [go_sem]) <;> trivial))
  have g3 : (x.st != 2) = false := by simp [bne, g2]
  have hhd : isHead b x = true := by simp [isHead, e1, g2]
  have hidx : idx (isHead b) s.2 = s.1 := idx_found hx2 hhd fun j y hy hj => i5 j y hy hj
  have b1 := headR_own s.2 b hNs
  have e3 : headR s.2 b = ((s.1 : Int), 0) := by
    unfold headR
    rw [if_neg (by omega), if_neg (by omega), hidx]
  rw [e3] at b1
  have step : ∀ z : Int, 5 ≤ z → z ≤ 7 → (s.2.modify s.1 fun r => setSt r z).length = q.length ∧ qcheck (s.2.modify s.1 fun r => setSt r z) = 0 ∧ (∀ j, s.1 + 1 ≤ j → (s.2.modify s.1 fun r => setSt r z)[j]? = q[j]?) ∧ ∀ j y, (s.2.modify s.1 fun r => setSt r z)[j]? = some y → j < s.1 + 1 → isHead b y = false := fun z z1 z2 => by
    refine ⟨by rw [mod_len]; exact i2, mod_check i3 hx2 (by omega) (by omega) fun e => ?_, fun j hj => ?_, fun j y hy hj => ?_⟩
    · simp only [opn, setSt, Bool.or_eq_true, beq_iff_eq] at e; omega
    · rw [mod_at, ← i4 j (by omega)]
      cases s.2[j]? with
      | none => rfl
      | some y => simp only [Option.map_some]; rw [if_neg (by omega)]
    · rw [mod_at] at hy
      by_cases e : s.1 = j
      · subst e
        rw [hx2] at hy
        simp only [Option.map_some, Option.some.injEq, if_true] at hy
        subst hy
        have : (z == 2) = false := by simp; omega
        simp [isHead, setSt, this]
      · cases hz : s.2[j]? with
        | none => rw [hz] at hy; simp at hy
        | some u =>
          rw [hz] at hy
          simp only [Option.map_some, if_neg e, Option.some.injEq] at hy
          subst hy
          exact i5 j u hz (by omega)
  have c1 : ((s.1 : Int) != s.1) = false := by simp
  have c5 : ((s.2.length : Int) != q.length) = false := by simp [i2]
  have ml : ∀ z : Int, (s.2.modify s.1 fun r => setSt r z).length = s.2.length := fun z => mod_len
  have c3 : ((3 : Int) ≠ 0) = True := eq_true (by decide)
  have sm := fun z : Int => same_ref (s.2.modify s.1 fun r => setSt r z) (s.2.modify s.1 fun r => setSt r z) (by rw [mod_len]; exact hNs)
  have sd : ∀ z : Int, decide ((s.2.modify s.1 fun r => setSt r z) = (s.2.modify s.1 fun r => setSt r z)) = true := fun z => decide_eq_true rfl
  simp only [sd] at sm
  rcases Nat.lt_or_ge s.1 st.length with h3 | h3
  case' inr =>
    have g4 : decide ((s.1 : Int) < st.length) = false := by simp; omega
    simp (maxSteps := 4000000) -implicitDefEqProofs only [go_sem, f1, n1, n2, hx, g1, g3, g4, Option.some.injEq, forall_eq', and_true, true_and, Bool.not_true, Bool.not_false, decide_true, Nat.reduceAdd, Nat.reduceSub, Nat.reduceLT, Nat.reduceLeDiff, Nat.reduceEqDiff, ↓reduceIte]
  case' inl =>
    have g4 : decide ((s.1 : Int) < st.length) = true := by simp; omega
    obtain ⟨z, hz⟩ : ∃ z, st[s.1]? = some z := ⟨st[s.1]'h3, List.getElem?_eq_getElem _⟩
    have n5 : (0 ≤ (s.1 : Int) ∧ (s.1 : Int) < st.length) = True := eq_true (by omega)
    have n6 : (s.1 < st.length) = True := eq_true (by omega)
    have z8 := hs8 z (List.mem_of_getElem? hz)
    have m3 : z.tmod 3 = 0 ∨ z.tmod 3 = 1 ∨ z.tmod 3 = 2 := by rw [Int.tmod_eq_emod_of_nonneg z8.1]; omega
    obtain ⟨m, hm⟩ : ∃ m, z.tmod 3 = m := ⟨_, rfl⟩
    rw [hm] at m3
    rcases m3 with rfl | rfl | rfl
  case' inl.inl =>
    have g5 : decide ((0 : Int) < 0) = false := rfl
    simp (maxSteps := 4000000) -implicitDefEqProofs only [go_sem, f1, n1, n2, hx, g1, g3, g4, n5, n6, hz, c3, hm, g5, Option.some.injEq, forall_eq', and_true, true_and, Bool.not_true, Bool.not_false, decide_true, Nat.reduceAdd, Nat.reduceSub, Nat.reduceLT, Nat.reduceLeDiff, Nat.reduceEqDiff, ↓reduceIte]
  case' inl.inr.inl =>
    have g5 : decide ((0 : Int) < 1) = true := rfl
    have g6 : ((1 : Int) == 2) = false := rfl
    simp (maxSteps := 4000000) -implicitDefEqProofs only [go_sem, f1, n1, n2, hx, g1, g3, g4, n5, n6, hz, c3, hm, g5, g6, Option.some.injEq, forall_eq', and_true, true_and, Bool.not_true, Bool.not_false, decide_true, Nat.reduceAdd, Nat.reduceSub, Nat.reduceLT, Nat.reduceLeDiff, Nat.reduceEqDiff, ↓reduceIte]
  case' inl.inr.inr =>
    have g5 : decide ((0 : Int) < 2) = true := rfl
    have g6 : ((2 : Int) == 2) = true := rfl
    simp (maxSteps := 4000000) -implicitDefEqProofs only [go_sem, f1, n1, n2, hx, g1, g3, g4, n5, n6, hz, c3, hm, g5, g6, Option.some.injEq, forall_eq', and_true, true_and, Bool.not_true, Bool.not_false, decide_true, Nat.reduceAdd, Nat.reduceSub, Nat.reduceLT, Nat.reduceLeDiff, Nat.reduceEqDiff, ↓reduceIte]
  case inl.inl =>
    refine ecallK 0 (args0 := [.own 0, .d (.str b)]) _ b1 rfl (by simp only [go_sem, ↓reduceIte]) (by simp only [go_sem]; omega) (by simp only [go_sem]) (by simp only [go_sem]) rfl (by simp) rfl ?_
    simp (maxSteps := 4000000) -implicitDefEqProofs only [go_sem, Nat.reduceAdd, Nat.reduceSub, Nat.reduceLT, Nat.reduceLeDiff, Nat.reduceEqDiff, ↓reduceIte]
    refine .all _ _ (settle_keep s.2 b _ s.1 (by omega) i3 (by omega) (by omega) hidx) ?_
    simp (maxSteps := 4000000) -implicitDefEqProofs only [go_sem, c0, c1, ml, c5, n3, n4, hx2, Option.some.injEq, forall_eq', and_true, true_and, Bool.not_true, Bool.not_false, decide_true, Nat.reduceAdd, Nat.reduceSub, Nat.reduceLT, Nat.reduceLeDiff, Nat.reduceEqDiff, ↓reduceIte]
    rw [set_mod hx2]
    refine ECall.frz 1 rfl ?_
    simp only [go_sem, ↓reduceIte]
    refine ecallK 0 (args0 := [.own 0, .d (.sl ((s.2.modify s.1 fun r => setSt r 5).map rD))]) _ (sm 5) rfl (by simp only [go_sem, ↓reduceIte]) (by simp only [go_sem]; omega) (by simp only [go_sem]) (by simp only [go_sem]) rfl (by simp) rfl ?_
    simp (maxSteps := 4000000) -implicitDefEqProofs only [go_sem, w1, Option.some.injEq, forall_eq', and_true, true_and, Bool.not_true, Bool.not_false, decide_true, Nat.reduceAdd, Nat.reduceSub, Nat.reduceLT, Nat.reduceLeDiff, Nat.reduceEqDiff, ↓reduceIte]
    exact .mk (s.1 + 1, s.2.modify s.1 fun r => setSt r 5) ⟨by omega, step 5 (by omega) (by omega)⟩ (by simp only; omega) (Wk.via1 0 (by (simp only [go_sem, ↓reduceIte]) <;> trivial) (by simp (maxSteps := 4000000) -implicitDefEqProofs only [go_sem, Nat.reduceAdd, Nat.reduceSub, Nat.reduceLT, Nat.reduceLeDiff, Nat.reduceEqDiff, ↓reduceIte]) (by simp) (by (simp only [go_sem]) <;> trivial) (by trivial))
  case inl.inr.inl =>
    refine ecallK 0 (args0 := [.own 0, .d (.str b)]) _ b1 rfl (by simp only [go_sem, ↓reduceIte]) (by simp only [go_sem]; omega) (by simp only [go_sem]) (by simp only [go_sem]) rfl (by simp) rfl ?_
    simp (maxSteps := 4000000) -implicitDefEqProofs only [go_sem, Nat.reduceAdd, Nat.reduceSub, Nat.reduceLT, Nat.reduceLeDiff, Nat.reduceEqDiff, ↓reduceIte]
    refine .all _ _ (settle_keep s.2 b _ s.1 (by omega) i3 (by omega) (by omega) hidx) ?_
    simp (maxSteps := 4000000) -implicitDefEqProofs only [go_sem, c0, c1, ml, c5, n3, n4, hx2, Option.some.injEq, forall_eq', and_true, true_and, Bool.not_true, Bool.not_false, decide_true, Nat.reduceAdd, Nat.reduceSub, Nat.reduceLT, Nat.reduceLeDiff, Nat.reduceEqDiff, ↓reduceIte]
    rw [set_mod hx2]
    refine ECall.frz 1 rfl ?_
    simp only [go_sem, ↓reduceIte]
    refine ecallK 0 (args0 := [.own 0, .d (.sl ((s.2.modify s.1 fun r => setSt r 6).map rD))]) _ (sm 6) rfl (by simp only [go_sem, ↓reduceIte]) (by simp only [go_sem]; omega) (by simp only [go_sem]) (by simp only [go_sem]) rfl (by simp) rfl ?_
    simp (maxSteps := 4000000) -implicitDefEqProofs only [go_sem, w1, Option.some.injEq, forall_eq', and_true, true_and, Bool.not_true, Bool.not_false, decide_true, Nat.reduceAdd, Nat.reduceSub, Nat.reduceLT, Nat.reduceLeDiff, Nat.reduceEqDiff, ↓reduceIte]
    exact .mk (s.1 + 1, s.2.modify s.1 fun r => setSt r 6) ⟨by omega, step 6 (by omega) (by omega)⟩ (by simp only; omega) (Wk.via1 0 (by (simp only [go_sem, ↓reduceIte]) <;> trivial) (by simp (maxSteps := 4000000) -implicitDefEqProofs only [go_sem, Nat.reduceAdd, Nat.reduceSub, Nat.reduceLT, Nat.reduceLeDiff, Nat.reduceEqDiff, ↓reduceIte]) (by simp) (by (simp only [go_sem]) <;> trivial) (by trivial))
  case inl.inr.inr =>
    refine ecallK 0 (args0 := [.own 0, .d (.str b)]) _ b1 rfl (by simp only [go_sem, ↓reduceIte]) (by simp only [go_sem]; omega) (by simp only [go_sem]) (by simp only [go_sem]) rfl (by simp) rfl ?_
    simp (maxSteps := 4000000) -implicitDefEqProofs only [go_sem, Nat.reduceAdd, Nat.reduceSub, Nat.reduceLT, Nat.reduceLeDiff, Nat.reduceEqDiff, ↓reduceIte]
    refine .all _ _ (settle_keep s.2 b _ s.1 (by omega) i3 (by omega) (by omega) hidx) ?_
    simp (maxSteps := 4000000) -implicitDefEqProofs only [go_sem, c0, c1, ml, c5, n3, n4, hx2, Option.some.injEq, forall_eq', and_true, true_and, Bool.not_true, Bool.not_false, decide_true, Nat.reduceAdd, Nat.reduceSub, Nat.reduceLT, Nat.reduceLeDiff, Nat.reduceEqDiff, ↓reduceIte]
    rw [set_mod hx2]
    refine ECall.frz 1 rfl ?_
    simp only [go_sem, ↓reduceIte]
    refine ecallK 0 (args0 := [.own 0, .d (.sl ((s.2.modify s.1 fun r => setSt r 7).map rD))]) _ (sm 7) rfl (by simp only [go_sem, ↓reduceIte]) (by simp only [go_sem]; omega) (by simp only [go_sem]) (by simp only [go_sem]) rfl (by simp) rfl ?_
    simp (maxSteps := 4000000) -implicitDefEqProofs only [go_sem, w1, Option.some.injEq, forall_eq', and_true, true_and, Bool.not_true, Bool.not_false, decide_true, Nat.reduceAdd, Nat.reduceSub, Nat.reduceLT, Nat.reduceLeDiff, Nat.reduceEqDiff, ↓reduceIte]
    exact .mk (s.1 + 1, s.2.modify s.1 fun r => setSt r 7) ⟨by omega, step 7 (by omega) (by omega)⟩ (by simp only; omega) (Wk.via1 0 (by (simp only [go_sem, ↓reduceIte]) <;> trivial) (by simp (maxSteps := 4000000) -implicitDefEqProofs only [go_sem, Nat.reduceAdd, Nat.reduceSub, Nat.reduceLT, Nat.reduceLeDiff, Nat.reduceEqDiff, ↓reduceIte]) (by simp) (by (simp only [go_sem]) <;> trivial) (by trivial))
  case inr =>
    refine ecallK 0 (args0 := [.own 0, .d (.str b)]) _ b1 rfl (by simp only [go_sem, ↓reduceIte]) (by simp only [go_sem]; omega) (by simp only [go_sem]) (by simp only [go_sem]) rfl (by simp) rfl ?_
    simp (maxSteps := 4000000) -implicitDefEqProofs only [go_sem, Nat.reduceAdd, Nat.reduceSub, Nat.reduceLT, Nat.reduceLeDiff, Nat.reduceEqDiff, ↓reduceIte]
    refine .all _ _ (settle_keep s.2 b _ s.1 (by omega) i3 (by omega) (by omega) hidx) ?_
    simp (maxSteps := 4000000) -implicitDefEqProofs only [go_sem, c0, c1, ml, c5, n3, n4, hx2, Option.some.injEq, forall_eq', and_true, true_and, Bool.not_true, Bool.not_false, decide_true, Nat.reduceAdd, Nat.reduceSub, Nat.reduceLT, Nat.reduceLeDiff, Nat.reduceEqDiff, ↓reduceIte]
    rw [set_mod hx2]
    refine ECall.frz 1 rfl ?_
    simp only [go_sem, ↓reduceIte]
    refine ecallK 0 (args0 := [.own 0, .d (.sl ((s.2.modify s.1 fun r => setSt r 5).map rD))]) _ (sm 5) rfl (by simp only [go_sem, ↓reduceIte]) (by simp only [go_sem]; omega) (by simp only [go_sem]) (by simp only [go_sem]) rfl (by simp) rfl ?_
    simp (maxSteps := 4000000) -implicitDefEqProofs only [go_sem, w1, Option.some.injEq, forall_eq', and_true, true_and, Bool.not_true, Bool.not_false, decide_true, Nat.reduceAdd, Nat.reduceSub, Nat.reduceLT, Nat.reduceLeDiff, Nat.reduceEqDiff, ↓reduceIte]
    exact .mk (s.1 + 1, s.2.modify s.1 fun r => setSt r 5) ⟨by omega, step 5 (by omega) (by omega)⟩ (by simp only; omega) (Wk.via1 0 (by (simp only [go_sem, ↓reduceIte]) <;> trivial) (by simp (maxSteps := 4000000) -implicitDefEqProofs only [go_sem, Nat.reduceAdd, Nat.reduceSub, Nat.reduceLT, Nat.reduceLeDiff, Nat.reduceEqDiff, ↓reduceIte]) (by simp) (by (simp only [go_sem]) <;> trivial) (by trivial))
theorem bytes_of {n : Nat} {d : List D} (h : Tyd Try.prog (n + 2) 49 d) : ∃ l : List Int, d = [.sl (l.map uD)] ∧ Sm l.length ∧ ∀ z ∈ l, 0 ≤ z ∧ z ≤ 255 := by
  obtain ⟨es, rfl, h1, h2⟩ := h.slice Ty.under_49
  obtain ⟨l, rfl, hl⟩ := rows_ofP (g := uD) (Q := fun z => 0 ≤ z ∧ z ≤ 255) fun x hx => by
    obtain ⟨i, hi, hw⟩ := u8_of (h2 x hx)
    exact ⟨i, hi, hw⟩
  refine ⟨l, rfl, ?_, hl⟩
  have hb : Try.prog.bytesOf 5 = 1 := by kernel_rfl
  rw [hb, List.length_map] at h1
  unfold Sm; omega
end Go.AX.Qu
namespace Go.Proofs.Ytamlleliapmhmaa
open Go.AX Go.AX.Qu Go.RowKit
set_option maxRecDepth 100000 in
theorem queueServed_lifted (os : Os) (started : os.Started) (H : Type) (enc : TypeId × Value → H) :
    ReturnsInHanded {} Try.checked os 5 .any (Rows.queueServedSpec.pre6 enc Try.prog Try.f5 Rows.queueServedRow.domain false) (Rows.queueServedSpec.post enc Try.prog Try.f5 false true false false) := by
  refine Go.AX.lifted (C := Try.checked) (f := 5) (fn := Try.f5) (s := Rows.queueServedSpec) (rt := 4) (n := 8) (by kernel_rfl) (by kernel_rfl) Try.func5 rfl ?_ rfl (by kernel_rfl) (by kernel_rfl) (by kernel_rfl) (by kernel_rfl) os started H enc
    (ChangeSpec.witness6 (enc := enc) (C := Try.checked) false ⟨#[], #[.slice none 0 0, .string ByteArray.empty, .slice none 0 0], []⟩ 8 (by kernel_rfl) (by kernel_rfl) (by kernel_rfl) (by kernel_rfl)) ?_
  · intro H ds h
    match ds, h with
    | [a0, a1, a2], _ => rfl
  · intro xs hx
    have hp : Try.f5.params.toList = [22, 9, 49] := rfl
    rw [hp] at hx ⊢
    have i0 : isA Try.prog 22 = false := by kernel_rfl
    have i1 : isA Try.prog 9 = false := by kernel_rfl
    have i2 : isA Try.prog 49 = false := by kernel_rfl
    rcases xs with _ | ⟨d0, _ | ⟨d1, _ | ⟨d2, _ | ⟨d3, xs⟩⟩⟩⟩ <;> simp only [Tyds, and_false] at hx
    obtain ⟨k0, k1, k2, _⟩ := hx
    obtain ⟨q, rfl, hq, wq⟩ := requests_of k0
    obtain ⟨b, rfl, hb⟩ := str_of k1
    obtain ⟨st, rfl, hst, wst⟩ := bytes_of k2
    simp only [avs, i0, i1, i2, dv, Bool.false_eq_true, if_false, if_true, List.headD_cons, List.map_cons, List.map_nil]
    exact served_law q b st hq hst wst
theorem queueServed_over : Rows.queueServedRow.holds Try.pinned (OpenSpec.ofChange Rows.queueServedSpec) :=
  OpenClaim.holds_of_wide 5 Try.f5 rfl rfl rfl rfl rfl rfl rfl ⟨rfl, rfl, rfl, rfl, rfl⟩ rfl rfl rfl rfl rfl (by kernel_rfl) Try.func5 (by kernel_rfl)
    (of_decide_eq_true (by kernel_rfl)) (by unfold Func.isWrapper; first | (rw [if_pos (by decide +kernel)]; kernel_rfl) | (rw [if_neg (by decide +kernel)]; exact ⟨rfl, rfl⟩))
    (fun os started H enc _ => queueServed_lifted os started H enc)
/-- The row, under a short name, for the claim. -/
theorem queueServed_holds : Rows.QueueServedSaid := queueServed_over
#print axioms queueServed_holds
end Go.Proofs.Ytamlleliapmhmaa

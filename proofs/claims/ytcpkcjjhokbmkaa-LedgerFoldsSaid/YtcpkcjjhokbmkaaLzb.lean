/- LedgerFolds: whatever the input, the law returns true, and its arguments read as they did. No condition. -/
import Derived.Test.YtcpkcjjhokbmkaaK12
set_option maxHeartbeats 8000000
set_option linter.unusedVariables false
set_option linter.unusedSimpArgs false
set_option maxRecDepth 20000
namespace Go.AX.Lg
open Go.Proofs Go.RowKit Go.IntWalk Go.AX.Br
theorem folds_law (l : Lg) (ii : Int) (hl : LSm l) : Spec Try.prog 7 [lA l, .d (.int .i64 ii)] [] (.d (.bool true)) [] := by
  have c0 := alive_spec
  have c1 := great_lref l hl.k hl.b hl.e hl.s
  simp only [lA] at c1
  have b1 : (!true) = false := rfl
  have b2 : (!false) = true := rfl
  refine spec_of_ev (fn := Try.f7) DX_ok 3000 Try.func7 rfl rfl (Nat.le_of_ble_eq_true rfl) ?_
  simp (maxSteps := 4000000) -implicitDefEqProofs only [Try.f7, go_sem, lA]
  refine ecall0 _ c0 (by simp only [go_sem]) (by simp only [go_sem]) ?_
  simp (maxSteps := 4000000) -implicitDefEqProofs only [go_sem, Nat.reduceAdd, Nat.reduceSub, Nat.reduceLT, Nat.reduceLeDiff, Nat.reduceEqDiff, ↓reduceIte]
  refine ecall0 _ c1 (by simp only [go_sem]) (by simp only [go_sem]) ?_
  cases g1 : greatL l
  case true =>
    simp (maxSteps := 4000000) -implicitDefEqProofs only [go_sem, g1, Option.some.injEq, forall_eq', and_true, true_and, Bool.not_true, Bool.not_false, decide_true, Nat.reduceAdd, Nat.reduceSub, Nat.reduceLT, Nat.reduceLeDiff, Nat.reduceEqDiff, ↓reduceIte]
    exact wk_bool rfl
  have f := fit_of g1
  have fk : l.kn.length ≤ 1000 := by have := f.k; omega
  have fb : l.br.length ≤ 1000 := by have := f.b; omega
  have fe : l.ev.length ≤ 1000 := by have := f.e; omega
  have c2 := lcheck_ref l fk fb fe
  simp only [lA] at c2
  simp (maxSteps := 4000000) -implicitDefEqProofs only [go_sem, g1, Option.some.injEq, forall_eq', and_true, true_and, Bool.not_true, Bool.not_false, decide_true, Nat.reduceAdd, Nat.reduceSub, Nat.reduceLT, Nat.reduceLeDiff, Nat.reduceEqDiff, ↓reduceIte]
  refine ecall0 _ c2 (by simp only [go_sem]) (by simp only [go_sem]) ?_
  cases g2 : (lcheck l != 0)
  case true =>
    simp (maxSteps := 4000000) -implicitDefEqProofs only [go_sem, g2, Option.some.injEq, forall_eq', and_true, true_and, Bool.not_true, Bool.not_false, decide_true, Nat.reduceAdd, Nat.reduceSub, Nat.reduceLT, Nat.reduceLeDiff, Nat.reduceEqDiff, ↓reduceIte]
    exact wk_bool rfl
  have lo := lok_of (l := l) (by simpa using g2)
  cases g3 : decide (ii < 0)
  case true =>
    simp (maxSteps := 4000000) -implicitDefEqProofs only [go_sem, g2, g3, Option.some.injEq, forall_eq', and_true, true_and, Bool.not_true, Bool.not_false, decide_true, Nat.reduceAdd, Nat.reduceSub, Nat.reduceLT, Nat.reduceLeDiff, Nat.reduceEqDiff, ↓reduceIte]
    exact wk_bool rfl
  cases g4 : decide ((l.br.length : Int) ≤ ii)
  case true =>
    simp (maxSteps := 4000000) -implicitDefEqProofs only [go_sem, g2, g3, g4, Option.some.injEq, forall_eq', and_true, true_and, Bool.not_true, Bool.not_false, decide_true, Nat.reduceAdd, Nat.reduceSub, Nat.reduceLT, Nat.reduceLeDiff, Nat.reduceEqDiff, ↓reduceIte]
    exact wk_bool rfl
  obtain ⟨i, rfl⟩ : ∃ n : Nat, ii = n := ⟨ii.toNat, by have := of_decide_eq_false g3; omega⟩
  have hi : i < l.br.length := by have := of_decide_eq_false g4; omega
  obtain ⟨x, s, v, a⟩ := at_of lo.tab hi
  have hx := a.hx
  have alen := a.len
  have h40 := lo.own i s a.hs
  have h320 := (lo.tab.g.ok.good i x a.hx).2.2
  have ha0 := a.at0
  have hlv := view_of lo a
  have hkn := a.known lo
  have hall := all_ok lo i a
  obtain ⟨S, hS⟩ : ∃ S, S = preE l i ++ s := ⟨_, rfl⟩
  have hseen : seenL l v = S := by rw [a.seen, hS]
  rw [← hS] at hkn hall
  have hSl : S.length = v.length := by rw [← hseen]; exact seenL_len a.inr
  have c3 := counts_ref l fe
  have c4 := View_ref l.br (cntL l) x.name (by unfold Sm; omega) (by unfold Sm; rw [cnt_len]; omega)
  rw [vname lo.tab a] at c4
  have c5 := seen_ref l v v.length a.inr (by omega) fe rfl
  rw [hseen] at c5
  have c6 := fun n => After_own l x.name n fk fb fe
  have c7 := Effect_own l x.name fk fb fe
  have c8 := fun c => Last_own l x.name c fk fb fe
  have c9 := fun ch => class_ref l ch (by unfold Sm; omega)
  have haft : ∀ n : Nat, n ≤ S.length → aftR l x.name (n : Int) = (effL l (S.take n), 0) := fun n hn => by
    unfold aftR
    rw [hlv, if_neg (by simp), if_neg (by simp only; omega), hseen, Int.toNat_natCast]
  have heff : effR l x.name = (effL l S, 0) := by
    unfold effR
    rw [hlv, if_neg (by simp), hseen]
  have hlas : ∀ c : Nat, ((lasR l x.name c).2.2 = 6 ∧ inR l S c = false) ∨ ((lasR l x.name c).2.2 = 0 ∧ inR l S c = ((lasR l x.name c).2.1 != 3)) := fun c => by
    have hr := lastN_range (p := isC l c) (s := S) S.length
    by_cases h0 : 0 ≤ lastR l S c
    · obtain ⟨k, y, e1, e2, -⟩ := lastN_get (p := isC l c) (s := S) (Nat.le_refl _) h0
      have e1' : lastR l S c = k := e1
      obtain ⟨m, hm⟩ : ∃ m, v[k]? = some m := ⟨v[k]'(by have := some_lt e2; omega), List.getElem?_eq_getElem _⟩
      have := lasR_at (c := (c : Int)) hlv (by omega) (by rw [hseen]; exact e1') hm (by rw [hseen]; exact e2)
      rw [this]
      refine .inr ⟨rfl, ?_⟩
      unfold inR
      rw [decide_eq_true h0, e1', kdAt, Int.toNat_natCast, e2]; rfl
    · have := lasR_eq (c := (c : Int)) hlv (by rw [hseen]; unfold lastR at h0 ⊢; omega)
      rw [this]
      refine .inl ⟨rfl, ?_⟩
      unfold inR
      rw [decide_eq_false h0]; rfl
  simp only [lA] at c3 c5 c6 c7 c8 c9
  have n1 : (0 ≤ (i : Int) ∧ (i : Int) < l.br.length) = True := eq_true (by omega)
  have n2 : (i < l.br.length) = True := eq_true (by omega)
  have z0 : ((0 : Int) != 0) = false := rfl
  simp (maxSteps := 4000000) -implicitDefEqProofs only [go_sem, g2, g3, g4, b1, n1, n2, hx, Option.some.injEq, forall_eq', and_true, true_and, Bool.not_true, Bool.not_false, decide_true, Nat.reduceAdd, Nat.reduceSub, Nat.reduceLT, Nat.reduceLeDiff, Nat.reduceEqDiff, ↓reduceIte]
  refine DX.plain (.take 0 false (.take 1 false (.take 2 false (.take 3 false (.take 4 false (.take 5 false (.take 6 false (.take 7 false (.take 8 false (.take 9 false (.take 10 false .done))))))))))) (by kernel_rfl) (by kernel_rfl) Ty.mixed ?_
  simp (maxSteps := 4000000) -implicitDefEqProofs only [go_sem, b1, Option.some.injEq, forall_eq', and_true, true_and, Bool.not_true, Bool.not_false, decide_true, Nat.reduceAdd, Nat.reduceSub, Nat.reduceLT, Nat.reduceLeDiff, Nat.reduceEqDiff, ↓reduceIte]
  refine ⟨_, _, c3.lift0 _ (by simp only [go_sem]) (by simp only [go_sem]), rfl, ?_⟩
  refine ⟨_, _, c4.lift0 _ (by simp only [go_sem]) (by simp only [go_sem]), rfl, ?_⟩
  simp (maxSteps := 4000000) -implicitDefEqProofs only [go_sem, Nat.reduceAdd, Nat.reduceSub, Nat.reduceLT, Nat.reduceLeDiff, Nat.reduceEqDiff, ↓reduceIte]
  refine ecall0 _ c5 (by simp only [go_sem]) (by simp only [go_sem]) ?_
  simp (maxSteps := 4000000) -implicitDefEqProofs only [go_sem, Nat.reduceAdd, Nat.reduceSub, Nat.reduceLT, Nat.reduceLeDiff, Nat.reduceEqDiff, ↓reduceIte]
  refine eloop (S := Nat) (fun n => mkE 185 [(2, .ptr 0 0), (5, .d (.bool true)), (6, .d (.str x.name)), (9, .d (.sl (S.map eD))), (10, .ptr 1 0), (11, .d (.int .i64 n))]) (fun n => [lH l, .cells ((inA l (S.take n)).map bv)]) (fun n => n ≤ S.length + 1) (fun n => S.length + 1 - n) 0 (by omega) ?_ ?_
  · have e0 : (inA l (S.take 0)).map bv = List.replicate 30 (.d (.bool false)) := by rw [List.take_zero, inA_nil]; rfl
    simp only [List.replicate] at e0
    rw [e0]
    exact (Wk.via [0, 1] (by (simp only [go_sem, ↓reduceIte]) <;> trivial) (by first | (simp (maxSteps := 4000000) -implicitDefEqProofs only [go_sem, Nat.reduceAdd, Nat.reduceSub, Nat.reduceLT, Nat.reduceLeDiff, Nat.reduceEqDiff, ↓reduceIte]; done) | ((simp (maxSteps := 4000000) -implicitDefEqProofs only [go_sem, Nat.reduceAdd, Nat.reduceSub, Nat.reduceLT, Nat.reduceLeDiff, Nat.reduceEqDiff, ↓reduceIte]) <;> omega)) (by simp) (by first | (simp; done) | (simp [so]; done)) (by (simp (maxSteps := 4000000) -implicitDefEqProofs only [go_sem, Nat.reduceAdd, Nat.reduceSub, Nat.reduceLT, Nat.reduceLeDiff, Nat.reduceEqDiff, ↓reduceIte]) <;> trivial) (by first | (simp only [go_sem]; done) | ((simp (maxSteps := 4000000) -implicitDefEqProofs only [go_sem, Nat.reduceAdd, Nat.reduceSub, Nat.reduceLT, Nat.reduceLeDiff, Nat.reduceEqDiff, ↓reduceIte]) <;> omega)) (Nat.zero_le _) (fun i h => absurd h (Nat.not_lt_zero i)))
  intro n hn
  rcases Nat.lt_or_ge S.length n with h2 | h2
  case inl =>
    -- behind the loop
    have hnn : n = S.length + 1 := by omega
    have f1 : decide ((n : Int) ≤ S.length) = false := by simp; omega
    rw [List.take_of_length_le (by omega)]
    obtain ⟨W, hW⟩ : ∃ W, W = inA l S := ⟨_, rfl⟩
    have hWl : W.length = 30 := by rw [hW]; exact inA_len _ _
    have hWa : ∀ c, c < 30 → bAt W c = inR l S c := fun c hc => by rw [hW]; exact inA_at hc
    rw [← hW]
    have d1 := c6 S.length
    rw [haft S.length (Nat.le_refl _), List.take_length] at d1
    rw [heff] at c7
    have hEl : Sm (effL l S).length := by have := effN_len l S 30; unfold effL Sm; omega
    obtain ⟨E, hE⟩ : ∃ E, E = effL l S := ⟨_, rfl⟩
    rw [← hE] at d1 c7 hEl
    have d2 := sameInts_ref E E hEl
    rw [decide_eq_true rfl] at d2
    clear hW hE
    simp (maxSteps := 4000000) -implicitDefEqProofs only [go_sem, f1, Option.some.injEq, forall_eq', and_true, true_and, Bool.not_true, Bool.not_false, decide_true, Nat.reduceAdd, Nat.reduceSub, Nat.reduceLT, Nat.reduceLeDiff, Nat.reduceEqDiff, ↓reduceIte]
    refine ecall0 _ c7 (by simp only [go_sem]) (by simp only [go_sem]) ?_
    simp (maxSteps := 4000000) -implicitDefEqProofs only [go_sem, Nat.reduceAdd, Nat.reduceSub, Nat.reduceLT, Nat.reduceLeDiff, Nat.reduceEqDiff, ↓reduceIte]
    refine ecall0 _ d1 (by simp only [go_sem]) (by simp only [go_sem]) ?_
    simp (maxSteps := 4000000) -implicitDefEqProofs only [go_sem, z0, Option.some.injEq, forall_eq', and_true, true_and, Bool.not_true, Bool.not_false, decide_true, Nat.reduceAdd, Nat.reduceSub, Nat.reduceLT, Nat.reduceLeDiff, Nat.reduceEqDiff, ↓reduceIte]
    refine ecall0 _ d2 (by simp only [go_sem]) (by simp only [go_sem]) ?_
    simp (maxSteps := 4000000) -implicitDefEqProofs only [go_sem, b1, Option.some.injEq, forall_eq', and_true, true_and, Bool.not_true, Bool.not_false, decide_true, Nat.reduceAdd, Nat.reduceSub, Nat.reduceLT, Nat.reduceLeDiff, Nat.reduceEqDiff, ↓reduceIte]
    refine eloop (S := Nat) (fun c => mkE 185 [(2, .ptr 0 0), (5, .d (.bool true)), (6, .d (.str x.name)), (10, .ptr 1 0), (21, .d (.int .i64 c))]) (fun c => [lH l, .cells (W.map bv)]) (fun c => c ≤ 30) (fun c => 30 - c) 0 (by omega) (Wk.via [0, 1] (by (simp only [go_sem, ↓reduceIte]) <;> trivial) (by first | (simp (maxSteps := 4000000) -implicitDefEqProofs only [go_sem, Nat.reduceAdd, Nat.reduceSub, Nat.reduceLT, Nat.reduceLeDiff, Nat.reduceEqDiff, ↓reduceIte]; done) | ((simp (maxSteps := 4000000) -implicitDefEqProofs only [go_sem, Nat.reduceAdd, Nat.reduceSub, Nat.reduceLT, Nat.reduceLeDiff, Nat.reduceEqDiff, ↓reduceIte]) <;> omega)) (by simp) (by first | (simp; done) | (simp [so]; done)) (by (simp (maxSteps := 4000000) -implicitDefEqProofs only [go_sem, Nat.reduceAdd, Nat.reduceSub, Nat.reduceLT, Nat.reduceLeDiff, Nat.reduceEqDiff, ↓reduceIte]) <;> trivial) (by first | (simp only [go_sem]; done) | ((simp (maxSteps := 4000000) -implicitDefEqProofs only [go_sem, Nat.reduceAdd, Nat.reduceSub, Nat.reduceLT, Nat.reduceLeDiff, Nat.reduceEqDiff, ↓reduceIte]) <;> omega)) (Nat.zero_le _) (fun i h => absurd h (Nat.not_lt_zero i))) ?_
    intro c hc
    rcases Nat.lt_or_ge c 30 with h3 | h3
    case inr =>
      have f2 : decide ((c : Int) < 30) = false := by simp; omega
      simp (maxSteps := 4000000) -implicitDefEqProofs only [go_sem, f2, Option.some.injEq, forall_eq', and_true, true_and, Bool.not_true, Bool.not_false, decide_true, Nat.reduceAdd, Nat.reduceSub, Nat.reduceLT, Nat.reduceLeDiff, Nat.reduceEqDiff, ↓reduceIte]
      exact wk_bool rfl
    have f2 : decide ((c : Int) < 30) = true := by simp; omega
    have w1 : IntKind.i64.wrap ((c : Int) + 1) = ((c + 1 : Nat) : Int) := by rw [i64_in _ (by omega)]; simp
    have m1 : (0 ≤ (c : Int) ∧ (c : Int) < ((30 : Nat) : Int)) = True := eq_true (by omega)
    have m1' : (0 ≤ (c : Int) ∧ (c : Int) < 30) = True := eq_true (by omega)
    obtain ⟨r, g⟩ := ld_agg (l := W) (c := c) (by omega)
    rw [hWa c h3] at g
    have d3 := c8 c
    have hl := hlas c
    obtain ⟨R, hR⟩ : ∃ R, R = lasR l x.name c := ⟨_, rfl⟩
    rw [← hR] at d3 hl
    rcases hl with ⟨q1, q2⟩ | ⟨q1, q2⟩
    · rw [q1] at d3
      rw [q2] at g
      have z6 : ((6 : Int) == 0) = false := rfl
      have bf : (false != false) = false := rfl
      simp (maxSteps := 4000000) -implicitDefEqProofs only [go_sem, f2, Option.some.injEq, forall_eq', and_true, true_and, Bool.not_true, Bool.not_false, decide_true, Nat.reduceAdd, Nat.reduceSub, Nat.reduceLT, Nat.reduceLeDiff, Nat.reduceEqDiff, ↓reduceIte]
      refine ecall0 _ d3 (by simp only [go_sem]) (by simp only [go_sem]) ?_
      simp (maxSteps := 4000000) -implicitDefEqProofs only [go_sem, m1, m1', g, z6, bf, w1, Option.some.injEq, forall_eq', and_true, true_and, Bool.not_true, Bool.not_false, decide_true, Nat.reduceAdd, Nat.reduceSub, Nat.reduceLT, Nat.reduceLeDiff, Nat.reduceEqDiff, ↓reduceIte]
      exact .mk (c + 1) (by omega) (by omega) (Wk.via [0, 1] (by (simp only [go_sem, ↓reduceIte]) <;> trivial) (by first | (simp (maxSteps := 4000000) -implicitDefEqProofs only [go_sem, Nat.reduceAdd, Nat.reduceSub, Nat.reduceLT, Nat.reduceLeDiff, Nat.reduceEqDiff, ↓reduceIte]; done) | ((simp (maxSteps := 4000000) -implicitDefEqProofs only [go_sem, Nat.reduceAdd, Nat.reduceSub, Nat.reduceLT, Nat.reduceLeDiff, Nat.reduceEqDiff, ↓reduceIte]) <;> omega)) (by simp) (by first | (simp; done) | (simp [so]; done)) (by (simp (maxSteps := 4000000) -implicitDefEqProofs only [go_sem, Nat.reduceAdd, Nat.reduceSub, Nat.reduceLT, Nat.reduceLeDiff, Nat.reduceEqDiff, ↓reduceIte]) <;> trivial) (by first | (simp only [go_sem]; done) | ((simp (maxSteps := 4000000) -implicitDefEqProofs only [go_sem, Nat.reduceAdd, Nat.reduceSub, Nat.reduceLT, Nat.reduceLeDiff, Nat.reduceEqDiff, ↓reduceIte]) <;> omega)) (Nat.zero_le _) (fun i h => absurd h (Nat.not_lt_zero i)))
    · rw [q1] at d3
      obtain ⟨B, hB⟩ : ∃ B, B = inR l S c := ⟨_, rfl⟩
      rw [← hB] at g q2
      have z6 : ((0 : Int) == 0) = true := rfl
      have bf : (B != B) = false := by cases B <;> rfl
      have q3 : (R.2.1 != 3) = B := q2.symm
      simp (maxSteps := 4000000) -implicitDefEqProofs only [go_sem, f2, Option.some.injEq, forall_eq', and_true, true_and, Bool.not_true, Bool.not_false, decide_true, Nat.reduceAdd, Nat.reduceSub, Nat.reduceLT, Nat.reduceLeDiff, Nat.reduceEqDiff, ↓reduceIte]
      refine ecall0 _ d3 (by simp only [go_sem]) (by simp only [go_sem]) ?_
      simp (maxSteps := 4000000) -implicitDefEqProofs only [go_sem, m1, m1', g, z6, q3, bf, w1, Option.some.injEq, forall_eq', and_true, true_and, Bool.not_true, Bool.not_false, decide_true, Nat.reduceAdd, Nat.reduceSub, Nat.reduceLT, Nat.reduceLeDiff, Nat.reduceEqDiff, ↓reduceIte]
      exact .mk (c + 1) (by omega) (by omega) (Wk.via [0, 1] (by (simp only [go_sem, ↓reduceIte]) <;> trivial) (by first | (simp (maxSteps := 4000000) -implicitDefEqProofs only [go_sem, Nat.reduceAdd, Nat.reduceSub, Nat.reduceLT, Nat.reduceLeDiff, Nat.reduceEqDiff, ↓reduceIte]; done) | ((simp (maxSteps := 4000000) -implicitDefEqProofs only [go_sem, Nat.reduceAdd, Nat.reduceSub, Nat.reduceLT, Nat.reduceLeDiff, Nat.reduceEqDiff, ↓reduceIte]) <;> omega)) (by simp) (by first | (simp; done) | (simp [so]; done)) (by (simp (maxSteps := 4000000) -implicitDefEqProofs only [go_sem, Nat.reduceAdd, Nat.reduceSub, Nat.reduceLT, Nat.reduceLeDiff, Nat.reduceEqDiff, ↓reduceIte]) <;> trivial) (by first | (simp only [go_sem]; done) | ((simp (maxSteps := 4000000) -implicitDefEqProofs only [go_sem, Nat.reduceAdd, Nat.reduceSub, Nat.reduceLT, Nat.reduceLeDiff, Nat.reduceEqDiff, ↓reduceIte]) <;> omega)) (Nat.zero_le _) (fun i h => absurd h (Nat.not_lt_zero i)))
  have f1 : decide ((n : Int) ≤ S.length) = true := by simp; omega
  have d1 := c6 n
  rw [haft n h2] at d1
  obtain ⟨T, hT⟩ : ∃ T, T = S.take n := ⟨_, rfl⟩
  rw [← hT] at d1 ⊢
  obtain ⟨W, hW⟩ : ∃ W, W = inA l T := ⟨_, rfl⟩
  have hWl : W.length = 30 := by rw [hW]; exact inA_len _ _
  have hWa : ∀ c, c < 30 → bAt W c = inR l T c := fun c hc => by rw [hW]; exact inA_at hc
  rw [← hW]
  obtain ⟨E, hE⟩ : ∃ E, E = effL l T := ⟨_, rfl⟩
  rw [← hE] at d1
  have hEe : effN l T 30 = E := hE.symm
  have hEl := effN_len l T 30
  rw [hEe] at hEl
  simp (maxSteps := 4000000) -implicitDefEqProofs only [go_sem, f1, Option.some.injEq, forall_eq', and_true, true_and, Bool.not_true, Bool.not_false, decide_true, Nat.reduceAdd, Nat.reduceSub, Nat.reduceLT, Nat.reduceLeDiff, Nat.reduceEqDiff, ↓reduceIte]
  refine ecall0 _ d1 (by simp only [go_sem]) (by simp only [go_sem]) ?_
  simp (maxSteps := 4000000) -implicitDefEqProofs only [go_sem, z0, Option.some.injEq, forall_eq', and_true, true_and, Bool.not_true, Bool.not_false, decide_true, Nat.reduceAdd, Nat.reduceSub, Nat.reduceLT, Nat.reduceLeDiff, Nat.reduceEqDiff, ↓reduceIte]
  refine eloop (S := Nat) (fun c => mkE 185 [(2, .ptr 0 0), (5, .d (.bool true)), (6, .d (.str x.name)), (9, .d (.sl (S.map eD))), (10, .ptr 1 0), (11, .d (.int .i64 n)), (12, .d (.sl (E.map iD))), (14, .d (.int .i64 (effN l T c).length)), (15, .d (.int .i64 c))]) (fun c => [lH l, .cells (W.map bv)]) (fun c => c ≤ 30) (fun c => 30 - c) 0 (by omega) (Wk.via [0, 1] (by (simp only [go_sem, ↓reduceIte]) <;> trivial) (by first | (simp (maxSteps := 4000000) -implicitDefEqProofs only [go_sem, Nat.reduceAdd, Nat.reduceSub, Nat.reduceLT, Nat.reduceLeDiff, Nat.reduceEqDiff, ↓reduceIte]; done) | ((simp (maxSteps := 4000000) -implicitDefEqProofs only [go_sem, Nat.reduceAdd, Nat.reduceSub, Nat.reduceLT, Nat.reduceLeDiff, Nat.reduceEqDiff, ↓reduceIte]) <;> omega)) (by simp) (by first | (simp; done) | (simp [so]; done)) (by (simp (maxSteps := 4000000) -implicitDefEqProofs only [go_sem, Nat.reduceAdd, Nat.reduceSub, Nat.reduceLT, Nat.reduceLeDiff, Nat.reduceEqDiff, ↓reduceIte]) <;> trivial) (by first | (simp only [go_sem]; done) | ((simp (maxSteps := 4000000) -implicitDefEqProofs only [go_sem, Nat.reduceAdd, Nat.reduceSub, Nat.reduceLT, Nat.reduceLeDiff, Nat.reduceEqDiff, ↓reduceIte]) <;> omega)) (Nat.zero_le _) (fun i h => absurd h (Nat.not_lt_zero i))) ?_
  intro c hc
  rcases Nat.lt_or_ge c 30 with h3 | h3
  case inl =>
    have f2 : decide ((c : Int) < 30) = true := by simp; omega
    have w1 : IntKind.i64.wrap ((c : Int) + 1) = ((c + 1 : Nat) : Int) := by rw [i64_in _ (by omega)]; simp
    have m1 : (0 ≤ (c : Int) ∧ (c : Int) < ((30 : Nat) : Int)) = True := eq_true (by omega)
    have m1' : (0 ≤ (c : Int) ∧ (c : Int) < 30) = True := eq_true (by omega)
    obtain ⟨r, g⟩ := ld_agg (l := W) (c := c) (by omega)
    rw [hWa c h3] at g
    have hb : inR l T c = true ∨ inR l T c = false := by cases inR l T c <;> simp
    rcases hb with hb | hb
    · obtain ⟨e1, e2⟩ := effN_at h3 hb
      have e3 : (effN l T (c + 1)).length = (effN l T c).length + 1 := by rw [effN_yes hb]; simp
      rw [hEe] at e1 e2
      rw [hb] at g
      obtain ⟨A, hA⟩ : ∃ A, A = (effN l T c).length := ⟨_, rfl⟩
      rw [← hA] at e1 e2 e3 ⊢
      have p0 : decide ((E.length : Int) ≤ A) = false := by simp; omega
      have p1 : (0 ≤ (A : Int) ∧ (A : Int) < E.length) = True := eq_true (by omega)
      have p2 : (A < E.length) = True := eq_true (by omega)
      have zn : ∀ n : Int, (n != n) = false := fun n => by simp
      have w2 : IntKind.i64.wrap ((A : Int) + 1) = ((A + 1 : Nat) : Int) := by rw [i64_in _ (by omega)]; simp
      simp (maxSteps := 4000000) -implicitDefEqProofs only [go_sem, f2, m1, m1', g, p0, p1, p2, e1, zn, w1, w2, Option.some.injEq, forall_eq', and_true, true_and, Bool.not_true, Bool.not_false, decide_true, Nat.reduceAdd, Nat.reduceSub, Nat.reduceLT, Nat.reduceLeDiff, Nat.reduceEqDiff, ↓reduceIte]
      exact .mk (c + 1) (by omega) (by omega) (by rw [e3]; exact (Wk.via [0, 1] (by (simp only [go_sem, ↓reduceIte]) <;> trivial) (by first | (simp (maxSteps := 4000000) -implicitDefEqProofs only [go_sem, Nat.reduceAdd, Nat.reduceSub, Nat.reduceLT, Nat.reduceLeDiff, Nat.reduceEqDiff, ↓reduceIte]; done) | ((simp (maxSteps := 4000000) -implicitDefEqProofs only [go_sem, Nat.reduceAdd, Nat.reduceSub, Nat.reduceLT, Nat.reduceLeDiff, Nat.reduceEqDiff, ↓reduceIte]) <;> omega)) (by simp) (by first | (simp; done) | (simp [so]; done)) (by (simp (maxSteps := 4000000) -implicitDefEqProofs only [go_sem, Nat.reduceAdd, Nat.reduceSub, Nat.reduceLT, Nat.reduceLeDiff, Nat.reduceEqDiff, ↓reduceIte]) <;> trivial) (by first | (simp only [go_sem]; done) | ((simp (maxSteps := 4000000) -implicitDefEqProofs only [go_sem, Nat.reduceAdd, Nat.reduceSub, Nat.reduceLT, Nat.reduceLeDiff, Nat.reduceEqDiff, ↓reduceIte]) <;> omega)) (Nat.zero_le _) (fun i h => absurd h (Nat.not_lt_zero i))))
    · have e3 : effN l T (c + 1) = effN l T c := effN_no hb
      rw [hb] at g
      simp (maxSteps := 4000000) -implicitDefEqProofs only [go_sem, f2, m1, m1', g, w1, Option.some.injEq, forall_eq', and_true, true_and, Bool.not_true, Bool.not_false, decide_true, Nat.reduceAdd, Nat.reduceSub, Nat.reduceLT, Nat.reduceLeDiff, Nat.reduceEqDiff, ↓reduceIte]
      exact .mk (c + 1) (by omega) (by omega) (by rw [e3]; exact (Wk.via [0, 1] (by (simp only [go_sem, ↓reduceIte]) <;> trivial) (by first | (simp (maxSteps := 4000000) -implicitDefEqProofs only [go_sem, Nat.reduceAdd, Nat.reduceSub, Nat.reduceLT, Nat.reduceLeDiff, Nat.reduceEqDiff, ↓reduceIte]; done) | ((simp (maxSteps := 4000000) -implicitDefEqProofs only [go_sem, Nat.reduceAdd, Nat.reduceSub, Nat.reduceLT, Nat.reduceLeDiff, Nat.reduceEqDiff, ↓reduceIte]) <;> omega)) (by simp) (by first | (simp; done) | (simp [so]; done)) (by (simp (maxSteps := 4000000) -implicitDefEqProofs only [go_sem, Nat.reduceAdd, Nat.reduceSub, Nat.reduceLT, Nat.reduceLeDiff, Nat.reduceEqDiff, ↓reduceIte]) <;> trivial) (by first | (simp only [go_sem]; done) | ((simp (maxSteps := 4000000) -implicitDefEqProofs only [go_sem, Nat.reduceAdd, Nat.reduceSub, Nat.reduceLT, Nat.reduceLeDiff, Nat.reduceEqDiff, ↓reduceIte]) <;> omega)) (Nat.zero_le _) (fun i h => absurd h (Nat.not_lt_zero i))))
  have hc30 : c = 30 := by omega
  subst hc30
  have f2 : decide ((((30 : Nat) : Int)) < 30) = false := rfl
  rw [hEe]
  have zn : ∀ n : Int, (n != n) = false := fun n => by simp
  have w1 : IntKind.i64.wrap ((n : Int) + 1) = ((n + 1 : Nat) : Int) := by rw [i64_in _ (by omega)]; simp
  rcases Nat.lt_or_ge n S.length with h4 | h4
  case inr =>
    have f3 : decide ((n : Int) < S.length) = false := by simp; omega
    have eT : S.take (n + 1) = T := by rw [hT, List.take_of_length_le (by omega), List.take_of_length_le (by omega)]
    simp (maxSteps := 4000000) -implicitDefEqProofs only [go_sem, f2, zn, f3, w1, Option.some.injEq, forall_eq', and_true, true_and, Bool.not_true, Bool.not_false, decide_true, Nat.reduceAdd, Nat.reduceSub, Nat.reduceLT, Nat.reduceLeDiff, Nat.reduceEqDiff, ↓reduceIte]
    exact .mk (n + 1) (by omega) (by omega) (by rw [eT, ← hW]; exact (Wk.via [0, 1] (by (simp only [go_sem, ↓reduceIte]) <;> trivial) (by first | (simp (maxSteps := 4000000) -implicitDefEqProofs only [go_sem, Nat.reduceAdd, Nat.reduceSub, Nat.reduceLT, Nat.reduceLeDiff, Nat.reduceEqDiff, ↓reduceIte]; done) | ((simp (maxSteps := 4000000) -implicitDefEqProofs only [go_sem, Nat.reduceAdd, Nat.reduceSub, Nat.reduceLT, Nat.reduceLeDiff, Nat.reduceEqDiff, ↓reduceIte]) <;> omega)) (by simp) (by first | (simp; done) | (simp [so]; done)) (by (simp (maxSteps := 4000000) -implicitDefEqProofs only [go_sem, Nat.reduceAdd, Nat.reduceSub, Nat.reduceLT, Nat.reduceLeDiff, Nat.reduceEqDiff, ↓reduceIte]) <;> trivial) (by first | (simp only [go_sem]; done) | ((simp (maxSteps := 4000000) -implicitDefEqProofs only [go_sem, Nat.reduceAdd, Nat.reduceSub, Nat.reduceLT, Nat.reduceLeDiff, Nat.reduceEqDiff, ↓reduceIte]) <;> omega)) (Nat.zero_le _) (fun i h => absurd h (Nat.not_lt_zero i))))
  have f3 : decide ((n : Int) < S.length) = true := by simp; omega
  obtain ⟨y, hy⟩ : ∃ y, S[n]? = some y := ⟨S[n]'h4, List.getElem?_eq_getElem _⟩
  have hbx := hall n y hy
  simp only [badX, Bool.or_eq_false_iff, decide_eq_false_iff_not, ne_eq, Decidable.not_not] at hbx
  obtain ⟨hb1, hal⟩ := hbx
  rw [← hT] at hal
  obtain ⟨cc, hcc⟩ := hkn y (List.mem_of_getElem? hy)
  have hcr := classN_range lo.kv hcc
  obtain ⟨k, rfl⟩ : ∃ k : Nat, cc = k := ⟨cc.toNat, by omega⟩
  have hk30 : k < 30 := by omega
  obtain ⟨t1, -, -⟩ := turn hcc hal
  have hstep := inA_step hk30 hcc hal
  have eT : S.take (n + 1) = T ++ [y] := by rw [hT, List.take_add_one, hy]; rfl
  rw [← eT, ← hW] at hstep
  have d4 := c9 y.ch
  rw [classR_of hcc] at d4
  obtain ⟨r, g⟩ := ld_agg (l := W) (c := k) (by omega)
  have hsp := spl_bv (W := W) (c := k) (by omega) (!bAt W k)
  have q1 : (bAt W k != (y.kd == 3)) = false := by
    rw [hWa k hk30, t1]
    by_cases q : y.kd = 3 <;> simp [q]
  obtain ⟨B, hB⟩ : ∃ B, B = bAt W k := ⟨_, rfl⟩
  rw [← hB] at g hsp q1 hstep
  have m1 : (0 ≤ (k : Int) ∧ (k : Int) < ((30 : Nat) : Int)) = True := eq_true (by omega)
  have m1' : (0 ≤ (k : Int) ∧ (k : Int) < 30) = True := eq_true (by omega)
  have p1 : (0 ≤ (n : Int) ∧ (n : Int) < S.length) = True := eq_true (by omega)
  have p2 : (n < S.length) = True := eq_true (by omega)
  have p3 : (k + 1 ≤ 30) = True := eq_true (by omega)
  have hB2 : (y.kd == 3) = B := by
    rw [hB, hWa k hk30, t1]
    by_cases q : y.kd = 3 <;> simp [q]
  have bt : (true != true) = false := rfl
  have bf : (false != false) = false := rfl
  have tt : (true == true) = true := rfl
  have ff : (false == false) = true := rfl
  clear q1
  simp (maxSteps := 4000000) -implicitDefEqProofs only [go_sem, f2, zn, f3, Option.some.injEq, forall_eq', and_true, true_and, Bool.not_true, Bool.not_false, decide_true, Nat.reduceAdd, Nat.reduceSub, Nat.reduceLT, Nat.reduceLeDiff, Nat.reduceEqDiff, ↓reduceIte]
  refine DX.plain (.take 0 false (.take 1 false (.take 2 false (.take 3 false (.take 4 false (.take 5 false (.take 6 false (.take 7 false .done)))))))) (by kernel_rfl) (by kernel_rfl) Ty.mixed ?_
  simp (maxSteps := 4000000) -implicitDefEqProofs only [go_sem, p1, p2, hy, Option.some.injEq, forall_eq', and_true, true_and, Bool.not_true, Bool.not_false, decide_true, Nat.reduceAdd, Nat.reduceSub, Nat.reduceLT, Nat.reduceLeDiff, Nat.reduceEqDiff, ↓reduceIte]
  refine ⟨_, _, d4.lift0 _ (by simp only [go_sem]) (by simp only [go_sem]), rfl, ?_⟩
  have hBB : B = true ∨ B = false := by cases B <;> simp
  rcases hBB with q | q
  · rw [q] at g hsp hstep hB2
    rw [b1] at hsp hstep
    refine DX.plain (.take 0 false (.take 1 false (.take 2 false (.take 3 false (.take 4 false (.take 5 false (.take 6 false (.take 7 false (.take 8 false (.take 9 false .done)))))))))) (by kernel_rfl) (by kernel_rfl) Ty.mixed ?_
    simp (maxSteps := 4000000) -implicitDefEqProofs only [go_sem, p1, p2, hy, m1, m1', g, hB2, bt, tt, hsp, hWl, p3, w1, Option.some.injEq, forall_eq', and_true, true_and, Bool.not_true, Bool.not_false, decide_true, Nat.reduceAdd, Nat.reduceSub, Nat.reduceLT, Nat.reduceLeDiff, Nat.reduceEqDiff, ↓reduceIte]
    exact .mk (n + 1) (by omega) (by omega) (by rw [hstep]; exact (Wk.via [0, 1] (by (simp only [go_sem, ↓reduceIte]) <;> trivial) (by first | (simp (maxSteps := 4000000) -implicitDefEqProofs only [go_sem, Nat.reduceAdd, Nat.reduceSub, Nat.reduceLT, Nat.reduceLeDiff, Nat.reduceEqDiff, ↓reduceIte]; done) | ((simp (maxSteps := 4000000) -implicitDefEqProofs only [go_sem, Nat.reduceAdd, Nat.reduceSub, Nat.reduceLT, Nat.reduceLeDiff, Nat.reduceEqDiff, ↓reduceIte]) <;> omega)) (by simp) (by first | (simp; done) | (simp [so]; done)) (by (simp (maxSteps := 4000000) -implicitDefEqProofs only [go_sem, Nat.reduceAdd, Nat.reduceSub, Nat.reduceLT, Nat.reduceLeDiff, Nat.reduceEqDiff, ↓reduceIte]) <;> trivial) (by first | (simp only [go_sem]; done) | ((simp (maxSteps := 4000000) -implicitDefEqProofs only [go_sem, Nat.reduceAdd, Nat.reduceSub, Nat.reduceLT, Nat.reduceLeDiff, Nat.reduceEqDiff, ↓reduceIte]) <;> omega)) (Nat.zero_le _) (fun i h => absurd h (Nat.not_lt_zero i))))
  · rw [q] at g hsp hstep hB2
    rw [b2] at hsp hstep
    refine DX.plain (.take 0 false (.take 1 false (.take 2 false (.take 3 false (.take 4 false (.take 5 false (.take 6 false (.take 7 false (.take 8 false (.take 9 false .done)))))))))) (by kernel_rfl) (by kernel_rfl) Ty.mixed ?_
    simp (maxSteps := 4000000) -implicitDefEqProofs only [go_sem, p1, p2, hy, m1, m1', g, hB2, bf, ff, hsp, hWl, p3, w1, Option.some.injEq, forall_eq', and_true, true_and, Bool.not_true, Bool.not_false, decide_true, Nat.reduceAdd, Nat.reduceSub, Nat.reduceLT, Nat.reduceLeDiff, Nat.reduceEqDiff, ↓reduceIte]
    exact .mk (n + 1) (by omega) (by omega) (by rw [hstep]; exact (Wk.via [0, 1] (by (simp only [go_sem, ↓reduceIte]) <;> trivial) (by first | (simp (maxSteps := 4000000) -implicitDefEqProofs only [go_sem, Nat.reduceAdd, Nat.reduceSub, Nat.reduceLT, Nat.reduceLeDiff, Nat.reduceEqDiff, ↓reduceIte]; done) | ((simp (maxSteps := 4000000) -implicitDefEqProofs only [go_sem, Nat.reduceAdd, Nat.reduceSub, Nat.reduceLT, Nat.reduceLeDiff, Nat.reduceEqDiff, ↓reduceIte]) <;> omega)) (by simp) (by first | (simp; done) | (simp [so]; done)) (by (simp (maxSteps := 4000000) -implicitDefEqProofs only [go_sem, Nat.reduceAdd, Nat.reduceSub, Nat.reduceLT, Nat.reduceLeDiff, Nat.reduceEqDiff, ↓reduceIte]) <;> trivial) (by first | (simp only [go_sem]; done) | ((simp (maxSteps := 4000000) -implicitDefEqProofs only [go_sem, Nat.reduceAdd, Nat.reduceSub, Nat.reduceLT, Nat.reduceLeDiff, Nat.reduceEqDiff, ↓reduceIte]) <;> omega)) (Nat.zero_le _) (fun i h => absurd h (Nat.not_lt_zero i))))
end Go.AX.Lg
namespace Go.Proofs.Ytcpkcjjhokbmkaa
open Go.AX Go.AX.Lg Go.RowKit
set_option maxRecDepth 100000 in
theorem ledgerFolds_lifted (os : Os) (started : os.Started) (H : Type) (enc : TypeId × Value → H) :
    ReturnsInHanded {} Try.checked os 7 .any (Rows.ledgerFoldsSpec.pre6 enc Try.prog Try.f7 Rows.ledgerFoldsRow.domain false) (Rows.ledgerFoldsSpec.post enc Try.prog Try.f7 false true false false) := by
  refine Go.AX.lifted (C := Try.checked) (f := 7) (fn := Try.f7) (s := Rows.ledgerFoldsSpec) (rt := 4) (n := 8) (by kernel_rfl) (by kernel_rfl) Try.func7 rfl ?_ rfl (by kernel_rfl) (by kernel_rfl) (by kernel_rfl) (by kernel_rfl) os started H enc
    (ChangeSpec.witness6 (enc := enc) (C := Try.checked) false ⟨#[], #[.agg #[.slice none 0 0, .slice none 0 0, .slice none 0 0], .int .i64 0], []⟩ 8 (by kernel_rfl) (by kernel_rfl) (by kernel_rfl) (by kernel_rfl)) ?_
  · intro H ds h
    match ds, h with
    | [a0, a1], _ => rfl
  · intro xs hx
    have hp : Try.f7.params.toList = [26, 3] := rfl
    rw [hp] at hx ⊢
    have i0 : isA Try.prog 26 = true := by kernel_rfl
    have i1 : isA Try.prog 3 = false := by kernel_rfl
    rcases xs with _ | ⟨d0, _ | ⟨d1, _ | ⟨d2, xs⟩⟩⟩ <;> simp only [Tyds, and_false] at hx
    obtain ⟨k0, k1, _⟩ := hx
    obtain ⟨l, rfl, hl⟩ := ledger_of k0
    obtain ⟨ii, rfl, hii⟩ := int_of k1
    simp only [avs, i0, i1, dv, Bool.false_eq_true, if_false, if_true, List.headD_cons, List.map_cons, List.map_nil]
    exact folds_law l ii hl
theorem ledgerFolds_over : Rows.ledgerFoldsRow.holds Try.pinned (OpenSpec.ofChange Rows.ledgerFoldsSpec) :=
  OpenClaim.holds_of_wide 7 Try.f7 rfl rfl rfl rfl rfl rfl rfl ⟨rfl, rfl, rfl, rfl, rfl⟩ rfl rfl rfl rfl rfl (by kernel_rfl) Try.func7 (by kernel_rfl)
    (of_decide_eq_true (by kernel_rfl)) (by unfold Func.isWrapper; first | (rw [if_pos (by decide +kernel)]; kernel_rfl) | (rw [if_neg (by decide +kernel)]; exact ⟨rfl, rfl⟩))
    (fun os started H enc _ => ledgerFolds_lifted os started H enc)
/-- The row, under a short name, for the claim. -/
theorem ledgerFolds_holds : Rows.LedgerFoldsSaid := ledgerFolds_over
#print axioms ledgerFolds_holds
end Go.Proofs.Ytcpkcjjhokbmkaa

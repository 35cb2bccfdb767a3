/- TrainSettles: whatever the input, the law returns true, and its arguments read as they did. No condition. -/
import Derived.Test.YtioihldhnhlpnaaGreatK12
set_option maxHeartbeats 8000000
set_option linter.unusedVariables false
set_option linter.unusedSimpArgs false
set_option maxRecDepth 20000
namespace Go.AX.Tr
open Go.Proofs Go.RowKit Go.IntWalk Go.AX.Br Go.AX.Lg Go.AX.Qu Go.AX.Wn
theorem at_has {t : Tr} {i : Nat} {x : Br} (hx : t.lg.br[i]? = some x) : 0 ≤ idx (has x.name) t.lg.br := (idx_le hx (p := has x.name) (by simp [has])).1
theorem cntH_le (b : ByteArray) (q : List Rq) : cntH b q ≤ q.length := List.length_filter_le ..
theorem settles_law (t : Tr) (ii tk : Int) (ht : TSm t) : Spec Tryz.prog 5 [tA t, .d (.int .i64 ii), .d (.int .i64 tk)] [] (.d (.bool true)) [] := by
  have c0 := alive_tspec
  have c1 := tgreat_ref t ht
  simp only [tA, tC] at c1
  have b1 : (!true) = false := rfl
  have b2 : (!false) = true := rfl
  refine spec_of_ev (fn := Tryz.f5) DX_ok 3000 Tryz.func5 rfl rfl (Nat.le_of_ble_eq_true rfl) ?_
  simp (maxSteps := 4000000) -implicitDefEqProofs only [Tryz.f5, go_sem, tA]
  refine ecall0 _ c0 (by simp only [go_sem]) (by simp only [go_sem]) ?_
  simp (maxSteps := 4000000) -implicitDefEqProofs only [go_sem, Nat.reduceAdd, Nat.reduceSub, Nat.reduceLT, Nat.reduceLeDiff, Nat.reduceEqDiff, ↓reduceIte]
  refine ecall0 _ c1 (by simp only [go_sem]) (by simp only [go_sem]) ?_
  cases g1 : tgreat t
  case true =>
    simp (maxSteps := 4000000) -implicitDefEqProofs only [go_sem, g1, Option.some.injEq, forall_eq', and_true, true_and, Bool.not_true, Bool.not_false, decide_true, Nat.reduceAdd, Nat.reduceSub, Nat.reduceLT, Nat.reduceLeDiff, Nat.reduceEqDiff, ↓reduceIte]
    exact wk_bool rfl
  have f := tfit_of g1
  have c2 := tcheck_ref t f.k f.b f.e f.q f.h f.c
  simp only [tA, tC] at c2
  simp (maxSteps := 4000000) -implicitDefEqProofs only [go_sem, g1, Option.some.injEq, forall_eq', and_true, true_and, Bool.not_true, Bool.not_false, decide_true, Nat.reduceAdd, Nat.reduceSub, Nat.reduceLT, Nat.reduceLeDiff, Nat.reduceEqDiff, ↓reduceIte]
  refine ecall0 _ c2 (by simp only [go_sem]) (by simp only [go_sem]) ?_
  cases g2 : (tcheck t != 0)
  case true =>
    simp (maxSteps := 4000000) -implicitDefEqProofs only [go_sem, g2, Option.some.injEq, forall_eq', and_true, true_and, Bool.not_true, Bool.not_false, decide_true, Nat.reduceAdd, Nat.reduceSub, Nat.reduceLT, Nat.reduceLeDiff, Nat.reduceEqDiff, ↓reduceIte]
    exact wk_bool rfl
  have o := tok_of (t := t) (by simpa using g2)
  cases g3 : decide (ii < 0)
  case true =>
    simp (maxSteps := 4000000) -implicitDefEqProofs only [go_sem, g2, g3, Option.some.injEq, forall_eq', and_true, true_and, Bool.not_true, Bool.not_false, decide_true, Nat.reduceAdd, Nat.reduceSub, Nat.reduceLT, Nat.reduceLeDiff, Nat.reduceEqDiff, ↓reduceIte]
    exact wk_bool rfl
  cases g4 : decide ((t.lg.br.length : Int) ≤ ii)
  case true =>
    simp (maxSteps := 4000000) -implicitDefEqProofs only [go_sem, g2, g3, g4, Option.some.injEq, forall_eq', and_true, true_and, Bool.not_true, Bool.not_false, decide_true, Nat.reduceAdd, Nat.reduceSub, Nat.reduceLT, Nat.reduceLeDiff, Nat.reduceEqDiff, ↓reduceIte]
    exact wk_bool rfl
  obtain ⟨i, rfl⟩ : ∃ n : Nat, ii = n := ⟨ii.toNat, by have := of_decide_eq_false g3; omega⟩
  have hi : i < t.lg.br.length := by have := of_decide_eq_false g4; omega
  obtain ⟨x, u, v, a⟩ := at_of o.lo.tab hi
  have hx := a.hx
  have hu := a.hs
  have hb := at_has hx
  have hidx : idx (has x.name) t.lg.br = i := o.lo.tab.g.ok.name i x hx
  have c3 := tick_ref tk
  simp (maxSteps := 4000000) -implicitDefEqProofs only [go_sem, g2, g3, g4, Option.some.injEq, forall_eq', and_true, true_and, Bool.not_true, Bool.not_false, decide_true, Nat.reduceAdd, Nat.reduceSub, Nat.reduceLT, Nat.reduceLeDiff, Nat.reduceEqDiff, ↓reduceIte]
  refine ecall0 _ c3 (by simp only [go_sem]) (by simp only [go_sem]) ?_
  cases g5 : tick tk
  case false =>
    simp (maxSteps := 4000000) -implicitDefEqProofs only [go_sem, b2, Option.some.injEq, forall_eq', and_true, true_and, Bool.not_true, Bool.not_false, decide_true, Nat.reduceAdd, Nat.reduceSub, Nat.reduceLT, Nat.reduceLeDiff, Nat.reduceEqDiff, ↓reduceIte]
    exact wk_bool rfl
  obtain ⟨k1, k2⟩ : 0 ≤ tk ∧ tk ≤ 1000000 := by simpa only [tick, Bool.and_eq_true, decide_eq_true_eq] using g5
  have ql := o.ql
  have fh := f.h
  have hul := o.lo.own i u hu
  have n1 : (0 ≤ (i : Int) ∧ (i : Int) < t.lg.br.length) = True := eq_true (by omega)
  have n2 : (i < t.lg.br.length) = True := eq_true (by omega)
  have n3 : (0 ≤ (i : Int) ∧ (i : Int) < t.lg.ev.length) = True := eq_true (by have := some_lt hu; omega)
  have n4 : (i < t.lg.ev.length) = True := eq_true (some_lt hu)
  have c4 := frozen_own t.hs x.name tk (by unfold Sm; omega)
  rw [show frozenR t.hs x.name tk = (held t.hs x.name tk, 0) by unfold frozenR; rw [if_neg (by simp [ask0 o.w0 k1 k2])]] at c4
  obtain ⟨H, hH⟩ : ∃ H, H = held t.hs x.name tk := ⟨_, rfl⟩
  rw [← hH] at c4
  have z0 : ((0 : Int) != 0) = false := rfl
  simp (maxSteps := 4000000) -implicitDefEqProofs only [go_sem, b1, n1, n2, hx, Option.some.injEq, forall_eq', and_true, true_and, Bool.not_true, Bool.not_false, decide_true, Nat.reduceAdd, Nat.reduceSub, Nat.reduceLT, Nat.reduceLeDiff, Nat.reduceEqDiff, ↓reduceIte]
  refine eloop (S := Nat) (fun k => mkE 215 [(1, .d (.int .i64 i)), (2, .d (.int .i64 tk)), (3, .ptr 0 0), (7, .d (.bool true)), (8, .d (.str x.name)), (9, .d (.int .i64 (cntH x.name (t.q.take k)))), (10, .d (.int .i64 k))]) (fun k => [tH t]) (fun k => k ≤ t.q.length) (fun k => t.q.length - k) 0 (by omega) (Wk.via [0] (by (simp only [go_sem, ↓reduceIte]) <;> trivial) (by first | (simp (maxSteps := 4000000) -implicitDefEqProofs only [go_sem, Nat.reduceAdd, Nat.reduceSub, Nat.reduceLT, Nat.reduceLeDiff, Nat.reduceEqDiff, ↓reduceIte]; done) | ((simp (maxSteps := 4000000) -implicitDefEqProofs only [go_sem, Nat.reduceAdd, Nat.reduceSub, Nat.reduceLT, Nat.reduceLeDiff, Nat.reduceEqDiff, ↓reduceIte]) <;> omega)) (by simp) (by first | (simp; done) | (simp [so]; done)) (by (simp (maxSteps := 4000000) -implicitDefEqProofs only [go_sem, Nat.reduceAdd, Nat.reduceSub, Nat.reduceLT, Nat.reduceLeDiff, Nat.reduceEqDiff, ↓reduceIte]) <;> trivial) (by first | (simp only [go_sem]; done) | ((simp (maxSteps := 4000000) -implicitDefEqProofs only [go_sem, Nat.reduceAdd, Nat.reduceSub, Nat.reduceLT, Nat.reduceLeDiff, Nat.reduceEqDiff, ↓reduceIte]) <;> omega)) (Nat.zero_le _) (fun i h => absurd h (Nat.not_lt_zero i))) ?_
  intro k hk
  rcases Nat.lt_or_ge k t.q.length with h2 | h2
  case inl =>
    have f1 : decide ((k : Int) < t.q.length) = true := by simp; omega
    obtain ⟨y, hy⟩ : ∃ x, t.q[k]? = some x := ⟨t.q[k]'h2, List.getElem?_eq_getElem _⟩
    have m1 : (0 ≤ (k : Int) ∧ (k : Int) < t.q.length) = True := eq_true (by omega)
    have m2 : (k < t.q.length) = True := eq_true (by omega)
    have w1 : IntKind.i64.wrap ((k : Int) + 1) = ((k + 1 : Nat) : Int) := by rw [i64_in _ (by omega)]; simp
    have cl := cntH_le x.name (t.q.take k)
    rw [List.length_take] at cl
    have w2 : IntKind.i64.wrap ((cntH x.name (t.q.take k) : Nat) + 1) = ((cntH x.name (t.q.take k) + 1 : Nat) : Int) := by rw [i64_in _ (by omega)]; simp
    have no : isHead x.name y = false → cntH x.name (t.q.take (k + 1)) = cntH x.name (t.q.take k) := fun h => filter_skip hy h
    have yes : isHead x.name y = true → cntH x.name (t.q.take (k + 1)) = cntH x.name (t.q.take k) + 1 := fun h => (filter_get hy h).2.1
    cases e1 : decide (y.br = x.name)
    case false =>
      have := no (by simp only [isHead, e1, Bool.false_and])
      simp (maxSteps := 4000000) -implicitDefEqProofs only [go_sem, f1, m1, m2, hy, e1, w1, Option.some.injEq, forall_eq', and_true, true_and, Bool.not_true, Bool.not_false, decide_true, Nat.reduceAdd, Nat.reduceSub, Nat.reduceLT, Nat.reduceLeDiff, Nat.reduceEqDiff, ↓reduceIte]
      exact .mk (k + 1) (by omega) (by omega) (by rw [this]; exact (Wk.via [0] (by (simp only [go_sem, ↓reduceIte]) <;> trivial) (by first | (simp (maxSteps := 4000000) -implicitDefEqProofs only [go_sem, Nat.reduceAdd, Nat.reduceSub, Nat.reduceLT, Nat.reduceLeDiff, Nat.reduceEqDiff, ↓reduceIte]; done) | ((simp (maxSteps := 4000000) -implicitDefEqProofs only [go_sem, Nat.reduceAdd, Nat.reduceSub, Nat.reduceLT, Nat.reduceLeDiff, Nat.reduceEqDiff, ↓reduceIte]) <;> omega)) (by simp) (by first | (simp; done) | (simp [so]; done)) (by (simp (maxSteps := 4000000) -implicitDefEqProofs only [go_sem, Nat.reduceAdd, Nat.reduceSub, Nat.reduceLT, Nat.reduceLeDiff, Nat.reduceEqDiff, ↓reduceIte]) <;> trivial) (by first | (simp only [go_sem]; done) | ((simp (maxSteps := 4000000) -implicitDefEqProofs only [go_sem, Nat.reduceAdd, Nat.reduceSub, Nat.reduceLT, Nat.reduceLeDiff, Nat.reduceEqDiff, ↓reduceIte]) <;> omega)) (Nat.zero_le _) (fun i h => absurd h (Nat.not_lt_zero i))))
    cases e2 : (y.st == 2)
    case false =>
      have := no (by simp only [isHead, e1, e2, Bool.and_false])
      simp (maxSteps := 4000000) -implicitDefEqProofs only [go_sem, f1, m1, m2, hy, e1, e2, w1, Option.some.injEq, forall_eq', and_true, true_and, Bool.not_true, Bool.not_false, decide_true, Nat.reduceAdd, Nat.reduceSub, Nat.reduceLT, Nat.reduceLeDiff, Nat.reduceEqDiff, ↓reduceIte]
      exact .mk (k + 1) (by omega) (by omega) (by rw [this]; exact (Wk.via [0] (by (simp only [go_sem, ↓reduceIte]) <;> trivial) (by first | (simp (maxSteps := 4000000) -implicitDefEqProofs only [go_sem, Nat.reduceAdd, Nat.reduceSub, Nat.reduceLT, Nat.reduceLeDiff, Nat.reduceEqDiff, ↓reduceIte]; done) | ((simp (maxSteps := 4000000) -implicitDefEqProofs only [go_sem, Nat.reduceAdd, Nat.reduceSub, Nat.reduceLT, Nat.reduceLeDiff, Nat.reduceEqDiff, ↓reduceIte]) <;> omega)) (by simp) (by first | (simp; done) | (simp [so]; done)) (by (simp (maxSteps := 4000000) -implicitDefEqProofs only [go_sem, Nat.reduceAdd, Nat.reduceSub, Nat.reduceLT, Nat.reduceLeDiff, Nat.reduceEqDiff, ↓reduceIte]) <;> trivial) (by first | (simp only [go_sem]; done) | ((simp (maxSteps := 4000000) -implicitDefEqProofs only [go_sem, Nat.reduceAdd, Nat.reduceSub, Nat.reduceLT, Nat.reduceLeDiff, Nat.reduceEqDiff, ↓reduceIte]) <;> omega)) (Nat.zero_le _) (fun i h => absurd h (Nat.not_lt_zero i))))
    have := yes (by simp only [isHead, e1, e2, Bool.and_true])
    simp (maxSteps := 4000000) -implicitDefEqProofs only [go_sem, f1, m1, m2, hy, e1, e2, w1, w2, Option.some.injEq, forall_eq', and_true, true_and, Bool.not_true, Bool.not_false, decide_true, Nat.reduceAdd, Nat.reduceSub, Nat.reduceLT, Nat.reduceLeDiff, Nat.reduceEqDiff, ↓reduceIte]
    exact .mk (k + 1) (by omega) (by omega) (by rw [this]; exact (Wk.via [0] (by (simp only [go_sem, ↓reduceIte]) <;> trivial) (by first | (simp (maxSteps := 4000000) -implicitDefEqProofs only [go_sem, Nat.reduceAdd, Nat.reduceSub, Nat.reduceLT, Nat.reduceLeDiff, Nat.reduceEqDiff, ↓reduceIte]; done) | ((simp (maxSteps := 4000000) -implicitDefEqProofs only [go_sem, Nat.reduceAdd, Nat.reduceSub, Nat.reduceLT, Nat.reduceLeDiff, Nat.reduceEqDiff, ↓reduceIte]) <;> omega)) (by simp) (by first | (simp; done) | (simp [so]; done)) (by (simp (maxSteps := 4000000) -implicitDefEqProofs only [go_sem, Nat.reduceAdd, Nat.reduceSub, Nat.reduceLT, Nat.reduceLeDiff, Nat.reduceEqDiff, ↓reduceIte]) <;> trivial) (by first | (simp only [go_sem]; done) | ((simp (maxSteps := 4000000) -implicitDefEqProofs only [go_sem, Nat.reduceAdd, Nat.reduceSub, Nat.reduceLT, Nat.reduceLeDiff, Nat.reduceEqDiff, ↓reduceIte]) <;> omega)) (Nat.zero_le _) (fun i h => absurd h (Nat.not_lt_zero i))))
  have f1 : decide ((k : Int) < t.q.length) = false := by simp; omega
  rw [List.take_of_length_le h2]
  have cl := cntH_le x.name t.q
  obtain ⟨c, hc⟩ : ∃ c, c = cntH x.name t.q := ⟨_, rfl⟩
  rw [← hc] at cl ⊢
  simp (maxSteps := 4000000) -implicitDefEqProofs only [go_sem, f1, Option.some.injEq, forall_eq', and_true, true_and, Bool.not_true, Bool.not_false, decide_true, Nat.reduceAdd, Nat.reduceSub, Nat.reduceLT, Nat.reduceLeDiff, Nat.reduceEqDiff, ↓reduceIte]
  refine ecall0 _ c4 (by simp only [go_sem]) (by simp only [go_sem]) ?_
  have hcase : H = true ∨ H = false := by cases H <;> simp
  rcases hcase with hh | hh
  · rw [hh]
    simp (maxSteps := 4000000) -implicitDefEqProofs only [go_sem, z0, Option.some.injEq, forall_eq', and_true, true_and, Bool.not_true, Bool.not_false, decide_true, Nat.reduceAdd, Nat.reduceSub, Nat.reduceLT, Nat.reduceLeDiff, Nat.reduceEqDiff, ↓reduceIte]
    exact wk_bool rfl
  rw [hh]
  have w3 : IntKind.i64.wrap ((u.length : Int) + c) = (u.length : Int) + c := i64_in _ (by omega)
  cases g6 : decide (40 < (u.length : Int) + c)
  case true =>
    simp (maxSteps := 4000000) -implicitDefEqProofs only [go_sem, z0, n3, n4, hu, w3, g6, Option.some.injEq, forall_eq', and_true, true_and, Bool.not_true, Bool.not_false, decide_true, Nat.reduceAdd, Nat.reduceSub, Nat.reduceLT, Nat.reduceLeDiff, Nat.reduceEqDiff, ↓reduceIte]
    exact wk_bool rfl
  have g6' := of_decide_eq_false g6
  have room : Room x.name tk t := ⟨o, hb, k1, k2, by rw [← hH, hh], by rw [hidx, Int.toNat_natCast, List.getD_eq_getElem?_getD, hu]; simp only [Option.getD_some]; rw [← hc]; omega⟩
  obtain ⟨r1, r2, r3, r4, r5⟩ := room_run (b := x.name) (tk := tk) c t room hc.symm 30 (by omega)
  obtain ⟨oA, fA, bA, eA, lA'⟩ := runG_ok (b := x.name) (tk := tk) c o f
  have d1 := Run_own t x.name tk c f
  have d2 := Run_own t x.name tk 30 f
  rw [run_eq o hb k1 k2 (by omega)] at d1
  rw [show runR t x.name tk 30 = runG x.name tk 30 t from run_eq (n := 30) o hb k1 k2 (by omega), r1] at d2
  obtain ⟨A, hA⟩ : ∃ A, A = runG x.name tk c t := ⟨_, rfl⟩
  rw [← hA] at d1 d2 r2 r3 r4 r5 oA fA
  rw [r2] at d1 d2
  have d3 := tcheck_ref A.1 fA.k fA.b fA.e fA.q fA.h fA.c
  rw [oA.chk] at d3
  have d4 := same_tref A.1 fA
  have d5 := sameStates_ref A.2.1 A.2.1 (by unfold Sm; omega)
  rw [decide_eq_true rfl] at d5
  simp only [tA, tC] at d1 d2 d3 d4
  have ql2 : A.1.q.length = t.q.length := by rw [r5, setl_len]
  have zn : ∀ n : Int, (n != n) = false := fun n => by simp
  have y0 : ((0 : Int) == 0) = true := rfl
  simp (maxSteps := 4000000) -implicitDefEqProofs only [go_sem, z0, n3, n4, hu, w3, g6, Option.some.injEq, forall_eq', and_true, true_and, Bool.not_true, Bool.not_false, decide_true, Nat.reduceAdd, Nat.reduceSub, Nat.reduceLT, Nat.reduceLeDiff, Nat.reduceEqDiff, ↓reduceIte]
  refine ecall0 _ d1 (by simp only [go_sem]) (by simp only [go_sem]) ?_
  simp (maxSteps := 4000000) -implicitDefEqProofs only [go_sem, z0, r3, zn, Option.some.injEq, forall_eq', and_true, true_and, Bool.not_true, Bool.not_false, decide_true, Nat.reduceAdd, Nat.reduceSub, Nat.reduceLT, Nat.reduceLeDiff, Nat.reduceEqDiff, ↓reduceIte]
  refine ecall0 _ d3 (by simp only [go_sem]) (by simp only [go_sem]) ?_
  simp (maxSteps := 4000000) -implicitDefEqProofs only [go_sem, z0, r3, zn, ql2, Option.some.injEq, forall_eq', and_true, true_and, Bool.not_true, Bool.not_false, decide_true, Nat.reduceAdd, Nat.reduceSub, Nat.reduceLT, Nat.reduceLeDiff, Nat.reduceEqDiff, ↓reduceIte]
  refine eloop (S := Nat) (fun k => mkE 215 [(2, .d (.int .i64 tk)), (3, .ptr 0 0), (7, .d (.bool true)), (8, .d (.str x.name)), (9, .d (.int .i64 c)), (13, .ptr 1 0), (14, .d (.sl (A.2.1.map uD))), (16, .d (.int .i64 (cntH x.name (t.q.take k)))), (17, .d (.int .i64 k))]) (fun k => [tH t, tH A.1]) (fun k => k ≤ t.q.length) (fun k => t.q.length - k) 0 (by omega) (Wk.via [0, 1] (by (simp only [go_sem, ↓reduceIte]) <;> trivial) (by first | (simp (maxSteps := 4000000) -implicitDefEqProofs only [go_sem, Nat.reduceAdd, Nat.reduceSub, Nat.reduceLT, Nat.reduceLeDiff, Nat.reduceEqDiff, ↓reduceIte]; done) | ((simp (maxSteps := 4000000) -implicitDefEqProofs only [go_sem, Nat.reduceAdd, Nat.reduceSub, Nat.reduceLT, Nat.reduceLeDiff, Nat.reduceEqDiff, ↓reduceIte]) <;> omega)) (by simp) (by first | (simp; done) | (simp [so]; done)) (by (simp (maxSteps := 4000000) -implicitDefEqProofs only [go_sem, Nat.reduceAdd, Nat.reduceSub, Nat.reduceLT, Nat.reduceLeDiff, Nat.reduceEqDiff, ↓reduceIte]) <;> trivial) (by first | (simp only [go_sem]; done) | ((simp (maxSteps := 4000000) -implicitDefEqProofs only [go_sem, Nat.reduceAdd, Nat.reduceSub, Nat.reduceLT, Nat.reduceLeDiff, Nat.reduceEqDiff, ↓reduceIte]) <;> omega)) (Nat.zero_le _) (fun i h => absurd h (Nat.not_lt_zero i))) ?_
  clear hk h2 f1
  intro k hk
  rcases Nat.lt_or_ge k t.q.length with h2 | h2
  case inr =>
    have f1 : decide ((k : Int) < t.q.length) = false := by simp; omega
    simp (maxSteps := 4000000) -implicitDefEqProofs only [go_sem, f1, Option.some.injEq, forall_eq', and_true, true_and, Bool.not_true, Bool.not_false, decide_true, Nat.reduceAdd, Nat.reduceSub, Nat.reduceLT, Nat.reduceLeDiff, Nat.reduceEqDiff, ↓reduceIte]
    refine ecall0 _ d2 (by simp only [go_sem]) (by simp only [go_sem]) ?_
    simp (maxSteps := 4000000) -implicitDefEqProofs only [go_sem, y0, Option.some.injEq, forall_eq', and_true, true_and, Bool.not_true, Bool.not_false, decide_true, Nat.reduceAdd, Nat.reduceSub, Nat.reduceLT, Nat.reduceLeDiff, Nat.reduceEqDiff, ↓reduceIte]
    refine ecall0 _ d4 (by simp only [go_sem]) (by simp only [go_sem]) ?_
    simp (maxSteps := 4000000) -implicitDefEqProofs only [go_sem, y0, Option.some.injEq, forall_eq', and_true, true_and, Bool.not_true, Bool.not_false, decide_true, Nat.reduceAdd, Nat.reduceSub, Nat.reduceLT, Nat.reduceLeDiff, Nat.reduceEqDiff, ↓reduceIte]
    refine ecall0 _ d5 (by simp only [go_sem]) (by simp only [go_sem]) ?_
    simp (maxSteps := 4000000) -implicitDefEqProofs only [go_sem, y0, Option.some.injEq, forall_eq', and_true, true_and, Bool.not_true, Bool.not_false, decide_true, Nat.reduceAdd, Nat.reduceSub, Nat.reduceLT, Nat.reduceLeDiff, Nat.reduceEqDiff, ↓reduceIte]
    exact wk_bool rfl
  have f1 : decide ((k : Int) < t.q.length) = true := by simp; omega
  obtain ⟨y, hy⟩ : ∃ x, t.q[k]? = some x := ⟨t.q[k]'h2, List.getElem?_eq_getElem _⟩
  have hz := setl_get x.name t.q A.2.1 k y (by omega) hy
  rw [← r5] at hz
  obtain ⟨z, hzz⟩ : ∃ z, z = (if isHead x.name y then setSt y (A.2.1.getD (cntH x.name (t.q.take k)) 0) else y) := ⟨_, rfl⟩
  rw [← hzz] at hz
  have m1 : (0 ≤ (k : Int) ∧ (k : Int) < t.q.length) = True := eq_true (by omega)
  have m2 : (k < t.q.length) = True := eq_true (by omega)
  have m3 : (0 ≤ (k : Int) ∧ (k : Int) < A.1.q.length) = True := eq_true (by omega)
  have m4 : (k < A.1.q.length) = True := eq_true (by omega)
  have w1 : IntKind.i64.wrap ((k : Int) + 1) = ((k + 1 : Nat) : Int) := by rw [i64_in _ (by omega)]; simp
  have zz : ∀ n : Int, (n == n) = true := fun n => by simp
  have bb : ∀ n : Bool, (n == n) = true := fun n => by simp
  have hxy := (rqEq y y).trans (decide_eq_true rfl)
  have no : isHead x.name y = false → cntH x.name (t.q.take (k + 1)) = cntH x.name (t.q.take k) := fun h => filter_skip hy h
  have yes : isHead x.name y = true → cntH x.name (t.q.take (k + 1)) = cntH x.name (t.q.take k) + 1 ∧ cntH x.name (t.q.take k) < c := fun h => ⟨(filter_get hy h).2.1, by rw [hc]; exact (filter_get hy h).2.2⟩
  simp (maxSteps := 4000000) -implicitDefEqProofs only [go_sem, f1, Option.some.injEq, forall_eq', and_true, true_and, Bool.not_true, Bool.not_false, decide_true, Nat.reduceAdd, Nat.reduceSub, Nat.reduceLT, Nat.reduceLeDiff, Nat.reduceEqDiff, ↓reduceIte]
  refine DX.join (mkE 215 [(2, .d (.int .i64 tk)), (3, .ptr 0 0), (7, .d (.bool true)), (8, .d (.str x.name)), (9, .d (.int .i64 c)), (13, .ptr 1 0), (14, .d (.sl (A.2.1.map uD))), (16, .d (.int .i64 (cntH x.name (t.q.take k)))), (17, .d (.int .i64 k)), (18, .ptr 2 0), (19, .ptr 3 0)]) [tH t, tH A.1, .cells [.d (.str y.br), .d (.str y.ch), .d (.int .u8 y.st), .d (.bool y.ov), .d (.int .i64 y.tr)], .cells [.d (.str z.br), .d (.str z.ch), .d (.int .u8 z.st), .d (.bool z.ov), .d (.int .i64 z.tr)]]
    (.take 0 true (.take 1 true (.take 2 true (.take 3 true (.take 4 true (.take 5 true (.take 6 true (.take 7 true (.take 8 true (.take 9 true (.run [10, 11] (fun i => if i = 10 then [true, true, true, true, true, true, true, true, true, true] else [true, true, true, true, true, true, true, true, true, true]) fun i => if i = 10 then ((.run [11] (fun i => [true, true, true, true, true, true, true, true, true, true]) fun i => (.run [12] (fun i => [true, true, true, true, true, false, false, false, false, false]) fun i => (.run [13] (fun i => [false, false, false, false, false]) fun i => .done)))) else ((.run [10] (fun i => [true, true, true, true, true, true, true, true, true, true]) fun i => (.run [12] (fun i => [true, true, true, true, true, false, false, false, false, false]) fun i => (.run [13] (fun i => [false, false, false, false, false]) fun i => .done))))))))))))))) (by kernel_rfl) (by kernel_rfl) Ty.mixed ?_ ?_
  · simp (maxSteps := 4000000) -implicitDefEqProofs only [go_sem, m1, m2, m3, m4, hy, hz, Option.some.injEq, forall_eq', and_true, true_and, Bool.not_true, Bool.not_false, decide_true, Nat.reduceAdd, Nat.reduceSub, Nat.reduceLT, Nat.reduceLeDiff, Nat.reduceEqDiff, ↓reduceIte]
    repeat' (first
    | (refine Wk.via [0, 1, 2, 3] ?_ ?_ ?_ ?_ ?_ ?_ (Nat.zero_le _) (fun i h => absurd h (Nat.not_lt_zero i)); (· ((simp only [go_sem, ↓reduceIte]) <;> trivial)); (· first | (simp (maxSteps := 4000000) -implicitDefEqProofs only [go_sem, Nat.reduceAdd, Nat.reduceSub, Nat.reduceLT, Nat.reduceLeDiff, Nat.reduceEqDiff, ↓reduceIte]; done) | ((simp (maxSteps := 4000000) -implicitDefEqProofs only [go_sem, Nat.reduceAdd, Nat.reduceSub, Nat.reduceLT, Nat.reduceLeDiff, Nat.reduceEqDiff, ↓reduceIte]) <;> omega)); (· simp); (· first | (simp; done) | (simp [so]; done)); (· ((simp (maxSteps := 4000000) -implicitDefEqProofs only [go_sem, Nat.reduceAdd, Nat.reduceSub, Nat.reduceLT, Nat.reduceLeDiff, Nat.reduceEqDiff, ↓reduceIte]) <;> trivial)); (· first | (simp only [go_sem]; done) | ((simp (maxSteps := 4000000) -implicitDefEqProofs only [go_sem, Nat.reduceAdd, Nat.reduceSub, Nat.reduceLT, Nat.reduceLeDiff, Nat.reduceEqDiff, ↓reduceIte]) <;> omega)))
    | (refine Wk.via [0, 1, 3, 2] ?_ ?_ ?_ ?_ ?_ ?_ (Nat.zero_le _) (fun i h => absurd h (Nat.not_lt_zero i)); (· ((simp only [go_sem, ↓reduceIte]) <;> trivial)); (· first | (simp (maxSteps := 4000000) -implicitDefEqProofs only [go_sem, Nat.reduceAdd, Nat.reduceSub, Nat.reduceLT, Nat.reduceLeDiff, Nat.reduceEqDiff, ↓reduceIte]; done) | ((simp (maxSteps := 4000000) -implicitDefEqProofs only [go_sem, Nat.reduceAdd, Nat.reduceSub, Nat.reduceLT, Nat.reduceLeDiff, Nat.reduceEqDiff, ↓reduceIte]) <;> omega)); (· simp); (· first | (simp; done) | (simp [so]; done)); (· ((simp (maxSteps := 4000000) -implicitDefEqProofs only [go_sem, Nat.reduceAdd, Nat.reduceSub, Nat.reduceLT, Nat.reduceLeDiff, Nat.reduceEqDiff, ↓reduceIte]) <;> trivial)); (· first | (simp only [go_sem]; done) | ((simp (maxSteps := 4000000) -implicitDefEqProofs only [go_sem, Nat.reduceAdd, Nat.reduceSub, Nat.reduceLT, Nat.reduceLeDiff, Nat.reduceEqDiff, ↓reduceIte]) <;> omega)))
    | exact ⟨rD z, by simp [hz], rfl, rfl⟩
    | exact ⟨rD y, by simp [hy], rfl, rfl⟩
    | refine And.intro ?_ ?_)
  cases e1 : decide (y.br = x.name)
  case false =>
    have hn : isHead x.name y = false := by simp only [isHead, e1, Bool.false_and]
    have := no hn
    rw [hn] at hzz
    simp only [Bool.false_eq_true, if_false] at hzz
    subst hzz
    simp (maxSteps := 4000000) -implicitDefEqProofs only [go_sem, e1, hxy, zz, bb, w1, Option.some.injEq, forall_eq', and_true, true_and, Bool.not_true, Bool.not_false, decide_true, Nat.reduceAdd, Nat.reduceSub, Nat.reduceLT, Nat.reduceLeDiff, Nat.reduceEqDiff, ↓reduceIte]
    exact .mk (k + 1) (by omega) (by omega) (by rw [this]; exact (Wk.via [0, 1] (by (simp only [go_sem, ↓reduceIte]) <;> trivial) (by first | (simp (maxSteps := 4000000) -implicitDefEqProofs only [go_sem, Nat.reduceAdd, Nat.reduceSub, Nat.reduceLT, Nat.reduceLeDiff, Nat.reduceEqDiff, ↓reduceIte]; done) | ((simp (maxSteps := 4000000) -implicitDefEqProofs only [go_sem, Nat.reduceAdd, Nat.reduceSub, Nat.reduceLT, Nat.reduceLeDiff, Nat.reduceEqDiff, ↓reduceIte]) <;> omega)) (by simp) (by first | (simp; done) | (simp [so]; done)) (by (simp (maxSteps := 4000000) -implicitDefEqProofs only [go_sem, Nat.reduceAdd, Nat.reduceSub, Nat.reduceLT, Nat.reduceLeDiff, Nat.reduceEqDiff, ↓reduceIte]) <;> trivial) (by first | (simp only [go_sem]; done) | ((simp (maxSteps := 4000000) -implicitDefEqProofs only [go_sem, Nat.reduceAdd, Nat.reduceSub, Nat.reduceLT, Nat.reduceLeDiff, Nat.reduceEqDiff, ↓reduceIte]) <;> omega)) (Nat.zero_le _) (fun i h => absurd h (Nat.not_lt_zero i))))
  cases e2 : (y.st == 2)
  case false =>
    have hn : isHead x.name y = false := by simp only [isHead, e1, e2, Bool.and_false]
    have := no hn
    rw [hn] at hzz
    simp only [Bool.false_eq_true, if_false] at hzz
    subst hzz
    simp (maxSteps := 4000000) -implicitDefEqProofs only [go_sem, e1, e2, hxy, zz, bb, w1, Option.some.injEq, forall_eq', and_true, true_and, Bool.not_true, Bool.not_false, decide_true, Nat.reduceAdd, Nat.reduceSub, Nat.reduceLT, Nat.reduceLeDiff, Nat.reduceEqDiff, ↓reduceIte]
    exact .mk (k + 1) (by omega) (by omega) (by rw [this]; exact (Wk.via [0, 1] (by (simp only [go_sem, ↓reduceIte]) <;> trivial) (by first | (simp (maxSteps := 4000000) -implicitDefEqProofs only [go_sem, Nat.reduceAdd, Nat.reduceSub, Nat.reduceLT, Nat.reduceLeDiff, Nat.reduceEqDiff, ↓reduceIte]; done) | ((simp (maxSteps := 4000000) -implicitDefEqProofs only [go_sem, Nat.reduceAdd, Nat.reduceSub, Nat.reduceLT, Nat.reduceLeDiff, Nat.reduceEqDiff, ↓reduceIte]) <;> omega)) (by simp) (by first | (simp; done) | (simp [so]; done)) (by (simp (maxSteps := 4000000) -implicitDefEqProofs only [go_sem, Nat.reduceAdd, Nat.reduceSub, Nat.reduceLT, Nat.reduceLeDiff, Nat.reduceEqDiff, ↓reduceIte]) <;> trivial) (by first | (simp only [go_sem]; done) | ((simp (maxSteps := 4000000) -implicitDefEqProofs only [go_sem, Nat.reduceAdd, Nat.reduceSub, Nat.reduceLT, Nat.reduceLeDiff, Nat.reduceEqDiff, ↓reduceIte]) <;> omega)) (Nat.zero_le _) (fun i h => absurd h (Nat.not_lt_zero i))))
  have hn : isHead x.name y = true := by simp only [isHead, e1, e2, Bool.and_true]
  obtain ⟨ye, yl⟩ := yes hn
  obtain ⟨j, hj⟩ : ∃ j, j = cntH x.name (t.q.take k) := ⟨_, rfl⟩
  rw [← hj] at ye yl hzz ⊢
  rw [hn, if_pos rfl] at hzz
  obtain ⟨s, hs⟩ : ∃ s, A.2.1[j]? = some s := ⟨A.2.1[j]'(by omega), List.getElem?_eq_getElem _⟩
  rw [List.getD_eq_getElem?_getD, hs] at hzz
  obtain ⟨s5, s7⟩ := r4 s (List.mem_of_getElem? hs)
  have d5' : decide (s < 5) = false := decide_eq_false (by omega)
  have d7 : decide (7 < s) = false := decide_eq_false (by omega)
  have m5 : (0 ≤ (j : Int) ∧ (j : Int) < A.2.1.length) = True := eq_true (by omega)
  have m6 : (j < A.2.1.length) = True := eq_true (by omega)
  have w2 : IntKind.i64.wrap ((j : Int) + 1) = ((j + 1 : Nat) : Int) := by rw [i64_in _ (by omega)]; simp
  have z1 : z.br = y.br := by rw [hzz]; rfl
  have z2 : z.ch = y.ch := by rw [hzz]; rfl
  have z3 : z.st = s := by rw [hzz]; rfl
  have z4 : z.ov = y.ov := by rw [hzz]; rfl
  have z5 : z.tr = y.tr := by rw [hzz]; rfl
  rw [z1, z2, z3, z4, z5]
  simp (maxSteps := 4000000) -implicitDefEqProofs only [go_sem, e1, e2, Option.some.injEq, forall_eq', and_true, true_and, Bool.not_true, Bool.not_false, decide_true, Nat.reduceAdd, Nat.reduceSub, Nat.reduceLT, Nat.reduceLeDiff, Nat.reduceEqDiff, ↓reduceIte]
  refine DX.plain (.take 0 false (.take 1 false (.take 2 false (.take 3 false (.take 4 false (.take 5 false (.take 6 false (.take 7 false (.take 8 false (.take 9 false (.take 10 false (.take 11 false (.take 12 false (.take 13 false (.take 14 false (.take 15 false (.take 16 false .done))))))))))))))))) (by kernel_rfl) (by kernel_rfl) Ty.mixed ?_
  simp (maxSteps := 4000000) -implicitDefEqProofs only [go_sem, m5, m6, hs, zn, d5', d7, Option.some.injEq, forall_eq', and_true, true_and, Bool.not_true, Bool.not_false, decide_true, Nat.reduceAdd, Nat.reduceSub, Nat.reduceLT, Nat.reduceLeDiff, Nat.reduceEqDiff, ↓reduceIte]
  simp (maxSteps := 4000000) -implicitDefEqProofs only [go_sem, w2, hxy, zz, bb, w1, Option.some.injEq, forall_eq', and_true, true_and, Bool.not_true, Bool.not_false, decide_true, Nat.reduceAdd, Nat.reduceSub, Nat.reduceLT, Nat.reduceLeDiff, Nat.reduceEqDiff, ↓reduceIte]
  exact .mk (k + 1) (by omega) (by omega) (by rw [ye]; exact (Wk.via [0, 1] (by (simp only [go_sem, ↓reduceIte]) <;> trivial) (by first | (simp (maxSteps := 4000000) -implicitDefEqProofs only [go_sem, Nat.reduceAdd, Nat.reduceSub, Nat.reduceLT, Nat.reduceLeDiff, Nat.reduceEqDiff, ↓reduceIte]; done) | ((simp (maxSteps := 4000000) -implicitDefEqProofs only [go_sem, Nat.reduceAdd, Nat.reduceSub, Nat.reduceLT, Nat.reduceLeDiff, Nat.reduceEqDiff, ↓reduceIte]) <;> omega)) (by simp) (by first | (simp; done) | (simp [so]; done)) (by (simp (maxSteps := 4000000) -implicitDefEqProofs only [go_sem, Nat.reduceAdd, Nat.reduceSub, Nat.reduceLT, Nat.reduceLeDiff, Nat.reduceEqDiff, ↓reduceIte]) <;> trivial) (by first | (simp only [go_sem]; done) | ((simp (maxSteps := 4000000) -implicitDefEqProofs only [go_sem, Nat.reduceAdd, Nat.reduceSub, Nat.reduceLT, Nat.reduceLeDiff, Nat.reduceEqDiff, ↓reduceIte]) <;> omega)) (Nat.zero_le _) (fun i h => absurd h (Nat.not_lt_zero i))))
end Go.AX.Tr
namespace Go.Proofs.YtioihldhnhlpnaaGreat
open Go.AX Go.AX.Tr Go.RowKit
set_option maxRecDepth 100000 in
theorem trainSettles_lifted (os : Os) (started : os.Started) (H : Type) (enc : TypeId × Value → H) :
    ReturnsInHanded {} Tryz.checked os 5 .any (Rows.trainSettlesSpec.pre6 enc Tryz.prog Tryz.f5 Rows.trainSettlesRow.domain false) (Rows.trainSettlesSpec.post enc Tryz.prog Tryz.f5 false true false false) := by
  refine Go.AX.lifted (C := Tryz.checked) (f := 5) (fn := Tryz.f5) (s := Rows.trainSettlesSpec) (rt := 4) (n := 8) (by kernel_rfl) (by kernel_rfl) Tryz.func5 rfl ?_ rfl (by kernel_rfl) (by kernel_rfl) (by kernel_rfl) (by kernel_rfl) os started H enc
    (ChangeSpec.witness6 (enc := enc) (C := Tryz.checked) false ⟨#[], #[.agg #[.slice none 0 0, .slice none 0 0, .slice none 0 0, .slice none 0 0, .slice none 0 0, .slice none 0 0], .int .i64 0, .int .i64 0], []⟩ 8 (by kernel_rfl) (by kernel_rfl) (by kernel_rfl) (by kernel_rfl)) ?_
  · intro H ds h
    match ds, h with
    | [a0, a1, a2], _ => rfl
  · intro xs hx
    have hp : Tryz.f5.params.toList = [31, 3, 3] := rfl
    rw [hp] at hx ⊢
    have i0 : isA Tryz.prog 31 = true := by kernel_rfl
    have i1 : isA Tryz.prog 3 = false := by kernel_rfl
    have i2 : isA Tryz.prog 3 = false := by kernel_rfl
    rcases xs with _ | ⟨d0, _ | ⟨d1, _ | ⟨d2, _ | ⟨d3, xs⟩⟩⟩⟩ <;> simp only [Tyds, and_false] at hx
    obtain ⟨k0, k1, k2, _⟩ := hx
    obtain ⟨t, rfl, ht⟩ := train_of k0
    obtain ⟨ii, rfl, hii⟩ := int_of k1
    obtain ⟨tk, rfl, htk⟩ := int_of k2
    simp only [avs, i0, i1, i2, dv, Bool.false_eq_true, if_false, if_true, List.headD_cons, List.map_cons, List.map_nil]
    exact settles_law t ii tk ht
theorem trainSettles_over : Rows.trainSettlesRow.holds Tryz.pinned (OpenSpec.ofChange Rows.trainSettlesSpec) :=
  OpenClaim.holds_of_wide 5 Tryz.f5 rfl rfl rfl rfl rfl rfl rfl ⟨rfl, rfl, rfl, rfl, rfl⟩ rfl rfl rfl rfl rfl (by kernel_rfl) Tryz.func5 (by kernel_rfl)
    (of_decide_eq_true (by kernel_rfl)) (by unfold Func.isWrapper; first | (rw [if_pos (by decide +kernel)]; kernel_rfl) | (rw [if_neg (by decide +kernel)]; exact ⟨rfl, rfl⟩))
    (fun os started H enc _ => trainSettles_lifted os started H enc)
/-- The row, under a short name, for the claim. -/
theorem trainSettles_holds : Rows.TrainSettlesSaid := trainSettles_over
#print axioms trainSettles_holds
end Go.Proofs.YtioihldhnhlpnaaGreat

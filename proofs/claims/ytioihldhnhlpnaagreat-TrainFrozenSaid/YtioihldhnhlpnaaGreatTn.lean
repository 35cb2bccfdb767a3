/- TrainFrozen: whatever the input, the law returns true, and its arguments read as they did. No condition. -/
import Derived.Test.YtioihldhnhlpnaaGreatK10
set_option maxHeartbeats 8000000
set_option linter.unusedVariables false
set_option linter.unusedSimpArgs false
set_option maxRecDepth 20000
namespace Go.AX.Tr
open Go.Proofs Go.RowKit Go.IntWalk Go.AX.Br Go.AX.Lg Go.AX.Qu Go.AX.Wn
theorem begin_eq {t : Tr} {b : ByteArray} {tk : Int} (o : TOk t) (hb : 0 ≤ idx (has b) t.lg.br) (h1 : 0 ≤ tk) (h2 : tk ≤ 1000000) : beginR t b tk = if idx (isHead b) t.q < 0 then (0, 6) else (idx (isHead b) t.q, 0) := by
  unfold beginR
  rw [if_neg (by simp [o.chk])]
  by_cases h : idx (isHead b) t.q < 0
  · rw [if_pos (.inr h), if_pos h]
  · rw [if_neg (by omega), if_neg (by omega), if_neg h]
theorem step_err {t : Tr} {b : ByteArray} {tk : Int} (o : TOk t) (hb : 0 ≤ idx (has b) t.lg.br) (h1 : 0 ≤ tk) (h2 : tk ≤ 1000000) {i : Nat} {r : Rq} (hi : idx (isHead b) t.q = i) (hx : t.q[i]? = some r) :
    ((stepR t b tk).2.2 = 28 ∧ heldH t r tk = true ∨ ((stepR t b tk).2.2 = 0 ∨ (stepR t b tk).2.2 = 4) ∧ heldH t r tk = false) ∧ waitR t b tk = if heldH t r tk then fitRR t.hs b tk 1 else (tk, 0) := by
  have bg : beginR t b tk = ((i : Int), 0) := by rw [begin_eq o hb h1 h2, hi, if_neg (by omega)]
  obtain ⟨-, i', r', e1, e2, hx', e3, -, kn, -, -⟩ := begin_ok (t := t) (b := b) (tk := tk) (by rw [bg])
  have : i' = i := by omega
  subst this
  rw [hx] at hx'; cases hx'
  subst e3
  refine ⟨?_, by unfold waitR; rw [bg, if_neg (by simp), hi, Int.toNat_natCast, hx]⟩
  unfold stepR
  rw [bg, if_neg (by simp), hi, Int.toNat_natCast, hx]
  simp only
  cases q : heldH t r tk
  · simp only [Bool.false_eq_true, if_false]
    refine .inr ⟨?_, trivial⟩
    by_cases h5 : outR t r = 5
    · rw [if_pos h5]
      by_cases h0 : (appR t.lg r.br ⟨2, r.ch⟩).2 = 0
      · rw [if_neg (by omega)]; exact .inl rfl
      · rw [if_pos h0, app4 o kn h5 h0]; exact .inr rfl
    · rw [if_neg h5]; exact .inl rfl
  · exact .inl ⟨rfl, rfl⟩
theorem next_all {l : List Hd} {b : ByteArray} (h0 : wcheck l = 0) {tk : Int} (h1 : 0 ≤ tk) (h2 : tk ≤ 1000000) :
    ∃ N, fitRR l b tk 1 = (N, 0) ∧ ((held l b tk = false ∧ N = tk) ∨ (held l b tk = true ∧ tk < N ∧ N ≤ 1000000 ∧ held l b N = false ∧ ∀ x, tk ≤ x → x < N → held l b x = true)) := by
  have O := okw b h0
  refine ⟨nextW (winL l b) tk, by rw [fitRR, if_neg (by simp [ask0 h0 h1 h2]), if_neg (by omega), fit_one O ⟨h1, h2⟩], ?_⟩
  obtain ⟨N, hN⟩ : ∃ N, N = nextW (winL l b) tk := ⟨_, rfl⟩
  rw [← hN]
  unfold nextW at hN
  cases h : Wn.look (winL l b) tk with
  | none =>
    rw [h] at hN
    exact .inl ⟨(O.nheld tk).2 (none_cov h), hN⟩
  | some w =>
    rw [h] at hN
    obtain ⟨_, _, _, _, q, _, _, _, hm⟩ := look_some O.can h
    simp only at hN
    by_cases hw : w.fr ≤ tk
    · rw [if_pos hw] at hN
      have wb := O.bounds hm
      refine .inr ⟨(O.heldC tk).2 ((look_cov O.can h).2 hw), by omega, by omega, ?_, fun x x1 x2 => (O.heldC x).2 ⟨w, hm, by omega, by omega⟩⟩
      rw [hN]; exact (O.nheld _).2 (O.can.end_open hm)
    · rw [if_neg hw] at hN
      exact .inl ⟨(O.nheld tk).2 fun hc => hw ((look_cov O.can h).1 hc), hN⟩
theorem wait_all {t : Tr} {r : Rq} {tk : Int} (o : TOk t) (h1 : 0 ≤ tk) (h2 : tk ≤ 1000000) :
    ∃ N, (if heldH t r tk then fitRR t.hs r.br tk 1 else (tk, 0)) = (N, 0) ∧ 0 ≤ N ∧ N ≤ 1000000 ∧ heldH t r N = false ∧ (heldH t r tk = false ∧ N = tk ∨ heldH t r tk = true ∧ tk < N) ∧ ∀ x, tk ≤ x → x < N → heldH t r x = true := by
  obtain ⟨N, hN, hh⟩ := next_all (b := r.br) o.w0 h1 h2
  by_cases q : heldH t r tk = true
  · rw [if_pos q, hN]
    simp only [heldH, Bool.and_eq_true] at q
    rcases hh with ⟨k, -⟩ | ⟨k, k1, k2, k3, k4⟩
    · rw [k] at q; cases q.1
    · exact ⟨N, rfl, by omega, k2, by rw [heldH, k3]; rfl, .inr ⟨by rw [heldH, k, q.2]; rfl, k1⟩, fun x x1 x2 => by rw [heldH, k4 x x1 x2, q.2]; rfl⟩
  · rw [if_neg q]
    have q' : heldH t r tk = false := by simpa using q
    exact ⟨tk, rfl, h1, h2, q', .inl ⟨q', rfl⟩, fun x x1 x2 => by omega⟩
theorem at_br {t : Tr} (o : TOk t) {i : Nat} {x : Br} (hx : t.lg.br[i]? = some x) : 0 ≤ idx (has x.name) t.lg.br := (idx_le hx (p := has x.name) (by simp [has])).1
theorem frozen_law (t : Tr) (ii tk : Int) (ht : TSm t) : Spec Tryz.prog 6 [tA t, .d (.int .i64 ii), .d (.int .i64 tk)] [] (.d (.bool true)) [] := by
  have c0 := alive_tspec
  have c1 := tgreat_ref t ht
  simp only [tA, tC] at c1
  have b1 : (!true) = false := rfl
  have b2 : (!false) = true := rfl
  refine spec_of_ev (fn := Tryz.f6) DX_ok 3000 Tryz.func6 rfl rfl (Nat.le_of_ble_eq_true rfl) ?_
  simp (maxSteps := 4000000) -implicitDefEqProofs only [Tryz.f6, go_sem, tA]
  refine ecall0 _ c0 (by simp only [go_sem]) (by simp only [go_sem]) ?_
  simp (maxSteps := 4000000) -implicitDefEqProofs only [go_sem, Nat.reduceAdd, Nat.reduceSub, Nat.reduceLT, Nat.reduceLeDiff, Nat.reduceEqDiff, ↓reduceIte]
  refine ecall0 _ c1 (by simp only [go_sem]) (by simp only [go_sem]) ?_
  cases g1 : tgreat t
  case true =>
    simp (maxSteps := 4000000) -implicitDefEqProofs only [go_sem, g1, Option.some.injEq, forall_eq', and_true, true_and, Bool.not_true, Bool.not_false, decide_true, Nat.reduceAdd, Nat.reduceSub, Nat.reduceLT, Nat.reduceLeDiff, Nat.reduceEqDiff, ↓reduceIte]
    exact wk_bool rfl
  have f := tfit_of g1
  have c2 := tcheck_ref t f.k f.b f.e f.q f.h f.c
  simp only [tA, tC] at c2
  simp (maxSteps := 4000000) -implicitDefEqProofs only [go_sem, g1, Option.some.injEq, forall_eq', and_true, true_and, Bool.not_true, Bool.not_false, decide_true, Nat.reduceAdd, Nat.reduceSub, Nat.reduceLT, Nat.reduceLeDiff, Nat.reduceEqDiff, ↓reduceIte]
  refine ecall0 _ c2 (by simp only [go_sem]) (by simp only [go_sem]) ?_
  cases g2 : (tcheck t != 0)
  case true =>
    simp (maxSteps := 4000000) -implicitDefEqProofs only [go_sem, g2, Option.some.injEq, forall_eq', and_true, true_and, Bool.not_true, Bool.not_false, decide_true, Nat.reduceAdd, Nat.reduceSub, Nat.reduceLT, Nat.reduceLeDiff, Nat.reduceEqDiff, ↓reduceIte]
    exact wk_bool rfl
  have o := tok_of (t := t) (by simpa using g2)
  cases g3 : decide (ii < 0)
  case true =>
    simp (maxSteps := 4000000) -implicitDefEqProofs only [go_sem, g2, g3, Option.some.injEq, forall_eq', and_true, true_and, Bool.not_true, Bool.not_false, decide_true, Nat.reduceAdd, Nat.reduceSub, Nat.reduceLT, Nat.reduceLeDiff, Nat.reduceEqDiff, ↓reduceIte]
    exact wk_bool rfl
  cases g4 : decide ((t.lg.br.length : Int) ≤ ii)
  case true =>
    simp (maxSteps := 4000000) -implicitDefEqProofs only [go_sem, g2, g3, g4, Option.some.injEq, forall_eq', and_true, true_and, Bool.not_true, Bool.not_false, decide_true, Nat.reduceAdd, Nat.reduceSub, Nat.reduceLT, Nat.reduceLeDiff, Nat.reduceEqDiff, ↓reduceIte]
    exact wk_bool rfl
  obtain ⟨i, rfl⟩ : ∃ n : Nat, ii = n := ⟨ii.toNat, by have := of_decide_eq_false g3; omega⟩
  have hi : i < t.lg.br.length := by have := of_decide_eq_false g4; omega
  obtain ⟨x, hx⟩ : ∃ x, t.lg.br[i]? = some x := ⟨t.lg.br[i]'hi, List.getElem?_eq_getElem _⟩
  have hb := at_br o hx
  have c3 := tick_ref tk
  simp (maxSteps := 4000000) -implicitDefEqProofs only [go_sem, g2, g3, g4, Option.some.injEq, forall_eq', and_true, true_and, Bool.not_true, Bool.not_false, decide_true, Nat.reduceAdd, Nat.reduceSub, Nat.reduceLT, Nat.reduceLeDiff, Nat.reduceEqDiff, ↓reduceIte]
  refine ecall0 _ c3 (by simp only [go_sem]) (by simp only [go_sem]) ?_
  cases g5 : tick tk
  case false =>
    simp (maxSteps := 4000000) -implicitDefEqProofs only [go_sem, b2, Option.some.injEq, forall_eq', and_true, true_and, Bool.not_true, Bool.not_false, decide_true, Nat.reduceAdd, Nat.reduceSub, Nat.reduceLT, Nat.reduceLeDiff, Nat.reduceEqDiff, ↓reduceIte]
    exact wk_bool rfl
  obtain ⟨k1, k2⟩ : 0 ≤ tk ∧ tk ≤ 1000000 := by simpa only [tick, Bool.and_eq_true, decide_eq_true_eq] using g5
  have fq := f.q
  have fh := f.h
  have n1 : (0 ≤ (i : Int) ∧ (i : Int) < t.lg.br.length) = True := eq_true (by omega)
  have n2 : (i < t.lg.br.length) = True := eq_true (by omega)
  have c4 := first_ref t.q x.name (by unfold Sm; omega)
  have c5 := fun y => Step_own t x.name y f
  have c6 := Wait_own t x.name tk f
  have c7 := held_ref t.hs x.name tk (by unfold Sm; omega)
  have z6 : ((6 : Int) == 6) = true := rfl
  have z0 : ((0 : Int) != 0) = false := rfl
  have z28 : ((28 : Int) == 28) = true := rfl
  have bt : (true != true) = false := rfl
  have bf : (false != false) = false := rfl
  simp only [tA, tC] at c5 c6
  simp (maxSteps := 4000000) -implicitDefEqProofs only [go_sem, b1, n1, n2, hx, Option.some.injEq, forall_eq', and_true, true_and, Bool.not_true, Bool.not_false, decide_true, Nat.reduceAdd, Nat.reduceSub, Nat.reduceLT, Nat.reduceLeDiff, Nat.reduceEqDiff, ↓reduceIte]
  refine ecall0 _ c4 (by simp only [go_sem]) (by simp only [go_sem]) ?_
  simp (maxSteps := 4000000) -implicitDefEqProofs only [go_sem, Nat.reduceAdd, Nat.reduceSub, Nat.reduceLT, Nat.reduceLeDiff, Nat.reduceEqDiff, ↓reduceIte]
  refine ecall0 _ (c5 tk) (by simp only [go_sem]) (by simp only [go_sem]) ?_
  simp (maxSteps := 4000000) -implicitDefEqProofs only [go_sem, Nat.reduceAdd, Nat.reduceSub, Nat.reduceLT, Nat.reduceLeDiff, Nat.reduceEqDiff, ↓reduceIte]
  refine ecall0 _ c6 (by simp only [go_sem]) (by simp only [go_sem]) ?_
  by_cases h6 : idx (isHead x.name) t.q < 0
  · have bg : beginR t x.name tk = (0, 6) := by rw [begin_eq o hb k1 k2, if_pos h6]
    have e1 : (stepR t x.name tk).2.2 = 6 := by unfold stepR; rw [bg, if_pos (by simp)]
    have e2 : waitR t x.name tk = (0, 6) := by unfold waitR; rw [bg, if_pos (by simp)]
    have d6 := decide_eq_true h6
    simp (maxSteps := 4000000) -implicitDefEqProofs only [go_sem, d6, e1, e2, z6, Option.some.injEq, forall_eq', and_true, true_and, Bool.not_true, Bool.not_false, decide_true, Nat.reduceAdd, Nat.reduceSub, Nat.reduceLT, Nat.reduceLeDiff, Nat.reduceEqDiff, ↓reduceIte]
    exact wk_bool rfl
  have d6 := decide_eq_false h6
  obtain ⟨j, r, e1, hr, hp⟩ := idx_get (p := isHead x.name) (l := t.q) (by omega)
  have hrb : r.br = x.name := by simp only [isHead, Bool.and_eq_true, decide_eq_true_eq] at hp; exact hp.1
  obtain ⟨se, we⟩ := step_err o hb k1 k2 e1 hr
  rw [← hrb] at we
  obtain ⟨N, hN, N1, N2, N3, N4, N5⟩ := wait_all (r := r) o k1 k2
  rw [hN, hrb] at we
  have sN := (step_err o hb N1 N2 e1 hr).1
  have sx : ∀ y, tk ≤ y → y < N → (stepR t x.name y).2.2 = 28 := fun y y1 y2 => by
    have := (step_err o hb (tk := y) (by omega) (by omega) e1 hr).1
    rw [N5 y y1 y2] at this
    rcases this with h | ⟨-, h⟩
    · exact h.1
    · cases h
  have n3 : (0 ≤ (j : Int) ∧ (j : Int) < t.q.length) = True := eq_true (by have := some_lt hr; omega)
  have n4 : (j < t.q.length) = True := eq_true (by have := some_lt hr; omega)
  have c8 := tick_ref N
  rw [show tick N = true by simp only [tick, Bool.and_eq_true, decide_eq_true_eq]; omega] at c8
  have hH : heldH t r tk = (held t.hs x.name tk && !r.ov) := by rw [heldH, hrb]
  obtain ⟨H, hHe⟩ : ∃ H, H = held t.hs x.name tk := ⟨_, rfl⟩
  rw [← hHe] at c7 hH
  have lt1 : decide (N < tk) = false := decide_eq_false (by rcases N4 with q | q <;> omega)
  rw [e1] at d6 ⊢
  rw [we]
  obtain ⟨O, hov⟩ : ∃ O, r.ov = O := ⟨_, rfl⟩
  obtain ⟨E, hE⟩ : ∃ E, E = (stepR t x.name tk).2.2 := ⟨_, rfl⟩
  rw [← hE] at se ⊢
  rw [hH, hov] at se N4
  have hc : (H = false ∧ (E == 28) = false ∧ (N != tk) = false ∧ (N == tk) = (N == tk)) ∨ (H = true ∧ O = true ∧ (E == 28) = false ∧ (N != tk) = false) ∨ (H = true ∧ O = false ∧ (E == 28) = true ∧ (N == tk) = false) := by
    have s1 : (E = 0 ∨ E = 4) → (E == 28) = false := fun q => by rcases q with q | q <;> rw [q] <;> rfl
    have s2 : N = tk → (N != tk) = false := fun q => by rw [q]; simp
    have s3 : tk < N → (N == tk) = false := fun q => by simp; omega
    cases H
    · refine .inl ⟨rfl, s1 ?_, s2 ?_, rfl⟩
      · rcases se with q | q
        · exact absurd q.2 (by simp)
        · exact q.1
      · rcases N4 with q | q
        · exact q.2
        · exact absurd q.1 (by simp)
    · cases O
      · refine .inr (.inr ⟨rfl, rfl, ?_, s3 ?_⟩)
        · rcases se with q | q
          · rw [q.1]; rfl
          · exact absurd q.2 (by simp)
        · rcases N4 with q | q
          · exact absurd q.1 (by simp)
          · exact q.2
      · refine .inr (.inl ⟨rfl, rfl, s1 ?_, s2 ?_⟩)
        · rcases se with q | q
          · exact absurd q.2 (by simp)
          · exact q.1
        · rcases N4 with q | q
          · exact q.2
          · exact absurd q.1 (by simp)
  clear hE hH hHe se N4 we hN
  simp (maxSteps := 4000000) -implicitDefEqProofs only [go_sem, d6, Option.some.injEq, forall_eq', and_true, true_and, Bool.not_true, Bool.not_false, decide_true, Nat.reduceAdd, Nat.reduceSub, Nat.reduceLT, Nat.reduceLeDiff, Nat.reduceEqDiff, ↓reduceIte]
  refine ecall0 _ c7 (by simp only [go_sem]) (by simp only [go_sem]) ?_
  rcases hc with ⟨hq1, k5, k6, k7⟩ | ⟨hq1, hq2, k5, k6⟩ | ⟨hq1, hq2, k5, k6⟩
  all_goals (rw [hq1]; try rw [hq2] at hov)
  all_goals
    simp (maxSteps := 4000000) -implicitDefEqProofs only [go_sem, n3, n4, hr, hov, b1, b2, z0, k5, k6, bt, bf, lt1, Option.some.injEq, forall_eq', and_true, true_and, Bool.not_true, Bool.not_false, decide_true, Nat.reduceAdd, Nat.reduceSub, Nat.reduceLT, Nat.reduceLeDiff, Nat.reduceEqDiff, ↓reduceIte]
    refine ecall0 _ c8 (by simp only [go_sem]) (by simp only [go_sem]) ?_
    simp (maxSteps := 4000000) -implicitDefEqProofs only [go_sem, b1, Option.some.injEq, forall_eq', and_true, true_and, Bool.not_true, Bool.not_false, decide_true, Nat.reduceAdd, Nat.reduceSub, Nat.reduceLT, Nat.reduceLeDiff, Nat.reduceEqDiff, ↓reduceIte]
    refine eloop (S := Nat) (fun m => mkE 202 [(2, .d (.int .i64 tk)), (3, .ptr 0 0), (7, .d (.bool true)), (8, .d (.str x.name)), (13, .d (.int .i64 N)), (16, .d (.int .i64 m))]) (fun m => [tH t]) (fun m => m ≤ t.hs.length) (fun m => t.hs.length - m) 0 (by omega) (Wk.via [0] (by (simp only [go_sem, ↓reduceIte]) <;> trivial) (by first | (simp (maxSteps := 4000000) -implicitDefEqProofs only [go_sem, Nat.reduceAdd, Nat.reduceSub, Nat.reduceLT, Nat.reduceLeDiff, Nat.reduceEqDiff, ↓reduceIte]; done) | ((simp (maxSteps := 4000000) -implicitDefEqProofs only [go_sem, Nat.reduceAdd, Nat.reduceSub, Nat.reduceLT, Nat.reduceLeDiff, Nat.reduceEqDiff, ↓reduceIte]) <;> omega)) (by simp) (by first | (simp; done) | (simp [so]; done)) (by (simp (maxSteps := 4000000) -implicitDefEqProofs only [go_sem, Nat.reduceAdd, Nat.reduceSub, Nat.reduceLT, Nat.reduceLeDiff, Nat.reduceEqDiff, ↓reduceIte]) <;> trivial) (by first | (simp only [go_sem]; done) | ((simp (maxSteps := 4000000) -implicitDefEqProofs only [go_sem, Nat.reduceAdd, Nat.reduceSub, Nat.reduceLT, Nat.reduceLeDiff, Nat.reduceEqDiff, ↓reduceIte]) <;> omega)) (Nat.zero_le _) (fun i h => absurd h (Nat.not_lt_zero i))) ?_
    intro m hm
    rcases Nat.lt_or_ge m t.hs.length with h2 | h2
    case inr =>
      have f1 : decide ((m : Int) < t.hs.length) = false := by simp; omega
      simp (maxSteps := 4000000) -implicitDefEqProofs only [go_sem, f1, Option.some.injEq, forall_eq', and_true, true_and, Bool.not_true, Bool.not_false, decide_true, Nat.reduceAdd, Nat.reduceSub, Nat.reduceLT, Nat.reduceLeDiff, Nat.reduceEqDiff, ↓reduceIte]
      refine ecall0 _ (c5 N) (by simp only [go_sem]) (by simp only [go_sem]) ?_
      rw [N3] at sN
      rcases sN with ⟨-, q⟩ | ⟨q | q, -⟩
      · cases q
      · have y0 : ((0 : Int) == 0) = true := rfl
        simp (maxSteps := 4000000) -implicitDefEqProofs only [go_sem, q, y0, Option.some.injEq, forall_eq', and_true, true_and, Bool.not_true, Bool.not_false, decide_true, Nat.reduceAdd, Nat.reduceSub, Nat.reduceLT, Nat.reduceLeDiff, Nat.reduceEqDiff, ↓reduceIte]
        exact wk_bool rfl
      · have y0 : ((4 : Int) == 0) = false := rfl
        have y4 : ((4 : Int) == 4) = true := rfl
        simp (maxSteps := 4000000) -implicitDefEqProofs only [go_sem, q, y0, y4, Option.some.injEq, forall_eq', and_true, true_and, Bool.not_true, Bool.not_false, decide_true, Nat.reduceAdd, Nat.reduceSub, Nat.reduceLT, Nat.reduceLeDiff, Nat.reduceEqDiff, ↓reduceIte]
        exact wk_bool rfl
    have f1 : decide ((m : Int) < t.hs.length) = true := by simp; omega
    obtain ⟨y, hy⟩ : ∃ x, t.hs[m]? = some x := ⟨t.hs[m]'h2, List.getElem?_eq_getElem _⟩
    have m1 : (0 ≤ (m : Int) ∧ (m : Int) < t.hs.length) = True := eq_true (by omega)
    have m2 : (m < t.hs.length) = True := eq_true (by omega)
    have w1 : IntKind.i64.wrap ((m : Int) + 1) = ((m + 1 : Nat) : Int) := by rw [i64_in _ (by omega)]; simp
    simp (maxSteps := 4000000) -implicitDefEqProofs only [go_sem, f1, Option.some.injEq, forall_eq', and_true, true_and, Bool.not_true, Bool.not_false, decide_true, Nat.reduceAdd, Nat.reduceSub, Nat.reduceLT, Nat.reduceLeDiff, Nat.reduceEqDiff, ↓reduceIte]
    refine DX.plain (.take 0 false (.take 1 false (.take 2 false (.take 3 false (.take 4 false (.take 5 false (.take 6 false (.take 7 false (.take 8 false (.take 9 false (.take 10 false (.take 11 false (.take 14 true (.run [12] (fun _ => [true]) fun _ => (.take 13 false .done))))))))))))))) (by kernel_rfl) (by kernel_rfl) Ty.mixed ?_
    simp (maxSteps := 4000000) -implicitDefEqProofs only [go_sem, m1, m2, hy, Option.some.injEq, forall_eq', and_true, true_and, Bool.not_true, Bool.not_false, decide_true, Nat.reduceAdd, Nat.reduceSub, Nat.reduceLT, Nat.reduceLeDiff, Nat.reduceEqDiff, ↓reduceIte]
    refine eloop (S := Nat) (fun k => mkE 202 [(2, .d (.int .i64 tk)), (3, .ptr 0 0), (7, .d (.bool true)), (8, .d (.str x.name)), (13, .d (.int .i64 N)), (16, .d (.int .i64 m)), (160, .own 1), (161, .d (.int .i64 2)), (162, .d (.int .i64 k))]) (fun k => [tH t, .row 1 ([y.fr, y.to].map iD)]) (fun k => k ≤ 2) (fun k => 2 - k) 0 (by omega) (Wk.via [0, 1] (by (simp only [go_sem, ↓reduceIte]) <;> trivial) (by first | (simp (maxSteps := 4000000) -implicitDefEqProofs only [go_sem, Nat.reduceAdd, Nat.reduceSub, Nat.reduceLT, Nat.reduceLeDiff, Nat.reduceEqDiff, ↓reduceIte]; done) | ((simp (maxSteps := 4000000) -implicitDefEqProofs only [go_sem, Nat.reduceAdd, Nat.reduceSub, Nat.reduceLT, Nat.reduceLeDiff, Nat.reduceEqDiff, ↓reduceIte]) <;> omega)) (by simp) (by first | (simp; done) | (simp [so]; done)) (by (simp (maxSteps := 4000000) -implicitDefEqProofs only [go_sem, Nat.reduceAdd, Nat.reduceSub, Nat.reduceLT, Nat.reduceLeDiff, Nat.reduceEqDiff, ↓reduceIte]) <;> trivial) (by first | (simp only [go_sem]; done) | ((simp (maxSteps := 4000000) -implicitDefEqProofs only [go_sem, Nat.reduceAdd, Nat.reduceSub, Nat.reduceLT, Nat.reduceLeDiff, Nat.reduceEqDiff, ↓reduceIte]) <;> omega)) (Nat.zero_le _) (fun i h => absurd h (Nat.not_lt_zero i))) ?_
    intro k hk
    rcases Nat.lt_or_ge k 2 with h3 | h3
    case inr =>
      have f2 : decide ((k : Int) < 2) = false := by simp; omega
      simp (maxSteps := 4000000) -implicitDefEqProofs only [go_sem, f2, w1, Option.some.injEq, forall_eq', and_true, true_and, Bool.not_true, Bool.not_false, decide_true, Nat.reduceAdd, Nat.reduceSub, Nat.reduceLT, Nat.reduceLeDiff, Nat.reduceEqDiff, ↓reduceIte]
      exact .mk (m + 1) (by omega) (by omega) (Wk.via [0] (by (simp only [go_sem, ↓reduceIte]) <;> trivial) (by first | (simp (maxSteps := 4000000) -implicitDefEqProofs only [go_sem, Nat.reduceAdd, Nat.reduceSub, Nat.reduceLT, Nat.reduceLeDiff, Nat.reduceEqDiff, ↓reduceIte]; done) | ((simp (maxSteps := 4000000) -implicitDefEqProofs only [go_sem, Nat.reduceAdd, Nat.reduceSub, Nat.reduceLT, Nat.reduceLeDiff, Nat.reduceEqDiff, ↓reduceIte]) <;> omega)) (by simp) (by first | (simp; done) | (simp [so]; done)) (by (simp (maxSteps := 4000000) -implicitDefEqProofs only [go_sem, Nat.reduceAdd, Nat.reduceSub, Nat.reduceLT, Nat.reduceLeDiff, Nat.reduceEqDiff, ↓reduceIte]) <;> trivial) (by first | (simp only [go_sem]; done) | ((simp (maxSteps := 4000000) -implicitDefEqProofs only [go_sem, Nat.reduceAdd, Nat.reduceSub, Nat.reduceLT, Nat.reduceLeDiff, Nat.reduceEqDiff, ↓reduceIte]) <;> omega)) (Nat.zero_le _) (fun i h => absurd h (Nat.not_lt_zero i)))
    have f2 : decide ((k : Int) < 2) = true := by simp; omega
    obtain ⟨v, hv⟩ : ∃ v, [y.fr, y.to][k]? = some v := ⟨[y.fr, y.to][k]'h3, List.getElem?_eq_getElem _⟩
    have p1 : (0 ≤ (k : Int) ∧ (k : Int) < ((2 : Nat) : Int)) = True := eq_true (by omega)
    have p2 : (k < 2) = True := eq_true (by omega)
    have p3 : [y.fr, y.to].length = 2 := rfl
    have w2 : IntKind.i64.wrap ((k : Int) + 1) = ((k + 1 : Nat) : Int) := by rw [i64_in _ (by omega)]; simp
    obtain ⟨L, hL⟩ : ∃ L, L = [y.fr, y.to] := ⟨_, rfl⟩
    rw [← hL] at hv p3 ⊢
    cases v1 : decide (tk ≤ v)
    case false =>
      simp (maxSteps := 4000000) -implicitDefEqProofs only [go_sem, f2, p1, p2, p3, hv, v1, w2, Option.some.injEq, forall_eq', and_true, true_and, Bool.not_true, Bool.not_false, decide_true, Nat.reduceAdd, Nat.reduceSub, Nat.reduceLT, Nat.reduceLeDiff, Nat.reduceEqDiff, ↓reduceIte]
      exact .mk (k + 1) (by omega) (by omega) (Wk.via [0, 1] (by (simp only [go_sem, ↓reduceIte]) <;> trivial) (by first | (simp (maxSteps := 4000000) -implicitDefEqProofs only [go_sem, Nat.reduceAdd, Nat.reduceSub, Nat.reduceLT, Nat.reduceLeDiff, Nat.reduceEqDiff, ↓reduceIte]; done) | ((simp (maxSteps := 4000000) -implicitDefEqProofs only [go_sem, Nat.reduceAdd, Nat.reduceSub, Nat.reduceLT, Nat.reduceLeDiff, Nat.reduceEqDiff, ↓reduceIte]) <;> omega)) (by simp) (by first | (simp; done) | (simp [so]; done)) (by (simp (maxSteps := 4000000) -implicitDefEqProofs only [go_sem, Nat.reduceAdd, Nat.reduceSub, Nat.reduceLT, Nat.reduceLeDiff, Nat.reduceEqDiff, ↓reduceIte]) <;> trivial) (by first | (simp only [go_sem]; done) | ((simp (maxSteps := 4000000) -implicitDefEqProofs only [go_sem, Nat.reduceAdd, Nat.reduceSub, Nat.reduceLT, Nat.reduceLeDiff, Nat.reduceEqDiff, ↓reduceIte]) <;> omega)) (Nat.zero_le _) (fun i h => absurd h (Nat.not_lt_zero i)))
    cases v2 : decide (v < N)
    case false =>
      simp (maxSteps := 4000000) -implicitDefEqProofs only [go_sem, f2, p1, p2, p3, hv, v1, v2, w2, Option.some.injEq, forall_eq', and_true, true_and, Bool.not_true, Bool.not_false, decide_true, Nat.reduceAdd, Nat.reduceSub, Nat.reduceLT, Nat.reduceLeDiff, Nat.reduceEqDiff, ↓reduceIte]
      exact .mk (k + 1) (by omega) (by omega) (Wk.via [0, 1] (by (simp only [go_sem, ↓reduceIte]) <;> trivial) (by first | (simp (maxSteps := 4000000) -implicitDefEqProofs only [go_sem, Nat.reduceAdd, Nat.reduceSub, Nat.reduceLT, Nat.reduceLeDiff, Nat.reduceEqDiff, ↓reduceIte]; done) | ((simp (maxSteps := 4000000) -implicitDefEqProofs only [go_sem, Nat.reduceAdd, Nat.reduceSub, Nat.reduceLT, Nat.reduceLeDiff, Nat.reduceEqDiff, ↓reduceIte]) <;> omega)) (by simp) (by first | (simp; done) | (simp [so]; done)) (by (simp (maxSteps := 4000000) -implicitDefEqProofs only [go_sem, Nat.reduceAdd, Nat.reduceSub, Nat.reduceLT, Nat.reduceLeDiff, Nat.reduceEqDiff, ↓reduceIte]) <;> trivial) (by first | (simp only [go_sem]; done) | ((simp (maxSteps := 4000000) -implicitDefEqProofs only [go_sem, Nat.reduceAdd, Nat.reduceSub, Nat.reduceLT, Nat.reduceLeDiff, Nat.reduceEqDiff, ↓reduceIte]) <;> omega)) (Nat.zero_le _) (fun i h => absurd h (Nat.not_lt_zero i)))
    have e28 := sx v (of_decide_eq_true v1) (of_decide_eq_true v2)
    have y28 : ((28 : Int) != 28) = false := rfl
    simp (maxSteps := 4000000) -implicitDefEqProofs only [go_sem, f2, p1, p2, p3, hv, v1, v2, Option.some.injEq, forall_eq', and_true, true_and, Bool.not_true, Bool.not_false, decide_true, Nat.reduceAdd, Nat.reduceSub, Nat.reduceLT, Nat.reduceLeDiff, Nat.reduceEqDiff, ↓reduceIte]
    refine ecall0 _ (c5 v) (by simp only [go_sem]) (by simp only [go_sem]) ?_
    simp (maxSteps := 4000000) -implicitDefEqProofs only [go_sem, e28, y28, w2, Option.some.injEq, forall_eq', and_true, true_and, Bool.not_true, Bool.not_false, decide_true, Nat.reduceAdd, Nat.reduceSub, Nat.reduceLT, Nat.reduceLeDiff, Nat.reduceEqDiff, ↓reduceIte]
    exact .mk (k + 1) (by omega) (by omega) (Wk.via [0, 1] (by (simp only [go_sem, ↓reduceIte]) <;> trivial) (by first | (simp (maxSteps := 4000000) -implicitDefEqProofs only [go_sem, Nat.reduceAdd, Nat.reduceSub, Nat.reduceLT, Nat.reduceLeDiff, Nat.reduceEqDiff, ↓reduceIte]; done) | ((simp (maxSteps := 4000000) -implicitDefEqProofs only [go_sem, Nat.reduceAdd, Nat.reduceSub, Nat.reduceLT, Nat.reduceLeDiff, Nat.reduceEqDiff, ↓reduceIte]) <;> omega)) (by simp) (by first | (simp; done) | (simp [so]; done)) (by (simp (maxSteps := 4000000) -implicitDefEqProofs only [go_sem, Nat.reduceAdd, Nat.reduceSub, Nat.reduceLT, Nat.reduceLeDiff, Nat.reduceEqDiff, ↓reduceIte]) <;> trivial) (by first | (simp only [go_sem]; done) | ((simp (maxSteps := 4000000) -implicitDefEqProofs only [go_sem, Nat.reduceAdd, Nat.reduceSub, Nat.reduceLT, Nat.reduceLeDiff, Nat.reduceEqDiff, ↓reduceIte]) <;> omega)) (Nat.zero_le _) (fun i h => absurd h (Nat.not_lt_zero i)))
end Go.AX.Tr
namespace Go.Proofs.YtioihldhnhlpnaaGreat
open Go.AX Go.AX.Tr Go.RowKit
set_option maxRecDepth 100000 in
theorem trainFrozen_lifted (os : Os) (started : os.Started) (H : Type) (enc : TypeId × Value → H) :
    ReturnsInHanded {} Tryz.checked os 6 .any (Rows.trainFrozenSpec.pre6 enc Tryz.prog Tryz.f6 Rows.trainFrozenRow.domain false) (Rows.trainFrozenSpec.post enc Tryz.prog Tryz.f6 false true false false) := by
  refine Go.AX.lifted (C := Tryz.checked) (f := 6) (fn := Tryz.f6) (s := Rows.trainFrozenSpec) (rt := 4) (n := 8) (by kernel_rfl) (by kernel_rfl) Tryz.func6 rfl ?_ rfl (by kernel_rfl) (by kernel_rfl) (by kernel_rfl) (by kernel_rfl) os started H enc
    (ChangeSpec.witness6 (enc := enc) (C := Tryz.checked) false ⟨#[], #[.agg #[.slice none 0 0, .slice none 0 0, .slice none 0 0, .slice none 0 0, .slice none 0 0, .slice none 0 0], .int .i64 0, .int .i64 0], []⟩ 8 (by kernel_rfl) (by kernel_rfl) (by kernel_rfl) (by kernel_rfl)) ?_
  · intro H ds h
    match ds, h with
    | [a0, a1, a2], _ => rfl
  · intro xs hx
    have hp : Tryz.f6.params.toList = [31, 3, 3] := rfl
    rw [hp] at hx ⊢
    have i0 : isA Tryz.prog 31 = true := by kernel_rfl
    have i1 : isA Tryz.prog 3 = false := by kernel_rfl
    have i2 : isA Tryz.prog 3 = false := by kernel_rfl
    rcases xs with _ | ⟨d0, _ | ⟨d1, _ | ⟨d2, _ | ⟨d3, xs⟩⟩⟩⟩ <;> simp only [Tyds, and_false] at hx
    obtain ⟨k0, k1, k2, _⟩ := hx
    obtain ⟨t, rfl, ht⟩ := train_of k0
    obtain ⟨ii, rfl, hii⟩ := int_of k1
    obtain ⟨tk, rfl, htk⟩ := int_of k2
    simp only [avs, i0, i1, i2, dv, Bool.false_eq_true, if_false, if_true, List.headD_cons, List.map_cons, List.map_nil]
    exact frozen_law t ii tk ht
theorem trainFrozen_over : Rows.trainFrozenRow.holds Tryz.pinned (OpenSpec.ofChange Rows.trainFrozenSpec) :=
  OpenClaim.holds_of_wide 6 Tryz.f6 rfl rfl rfl rfl rfl rfl rfl ⟨rfl, rfl, rfl, rfl, rfl⟩ rfl rfl rfl rfl rfl (by kernel_rfl) Tryz.func6 (by kernel_rfl)
    (of_decide_eq_true (by kernel_rfl)) (by unfold Func.isWrapper; first | (rw [if_pos (by decide +kernel)]; kernel_rfl) | (rw [if_neg (by decide +kernel)]; exact ⟨rfl, rfl⟩))
    (fun os started H enc _ => trainFrozen_lifted os started H enc)
/-- The row, under a short name, for the claim. -/
theorem trainFrozen_holds : Rows.TrainFrozenSaid := trainFrozen_over
#print axioms trainFrozen_holds
end Go.Proofs.YtioihldhnhlpnaaGreat

/- TopTrain: whatever the input, the law returns true, and its arguments read as they did. No condition. -/
import Derived.Test.YtejipcfaedookaaGreatK12
import Derived.KernelRfl
set_option maxHeartbeats 8000000
set_option linter.unusedVariables false
set_option linter.unusedSimpArgs false
set_option maxRecDepth 20000
namespace Go.AX.Tr
open Go.Proofs Go.RowKit Go.IntWalk Go.AX.Br Go.AX.Lg Go.AX.Qu Go.AX.Wn
def ex1 : Tr := ⟨⟨[⟨sFix, 4⟩], [⟨sMain, ⟨#[]⟩, 0⟩], [[]]⟩, [⟨sMain, sFix, 2, false, 0⟩], [], []⟩
theorem ex1_fit : TFit ex1 := ⟨by decide, by decide, by decide, by decide, by decide, by decide, by decide⟩
theorem ex1_run : (runR ex1 sMain 0 1).2 = ([5], 0) := by kernel_rfl
theorem ex1_eff : effR (runR ex1 sMain 0 1).1.lg sMain = ([4], 0) := by kernel_rfl

theorem alive_top : Spec Tryz.prog 4 [] [] (.d (.bool true)) [] := by
  have s1 := Run_own ex1 sMain 0 1 ex1_fit
  have ff := run_fit1 sMain 0 1 ex1_fit
  have s2 := Effect_own (runR ex1 sMain 0 1).1.lg sMain ff.k ff.b ff.e
  rw [ex1_eff] at s2
  rw [ex1_run] at s1
  have s3 := sameStates_ref [5] [5] (by unfold Sm; decide)
  have s4 := Go.AX.Lg.sameInts_ref [4] [4] (by unfold Sm; decide)
  generalize (runR ex1 sMain 0 1).1 = A at s1 s2
  simp -implicitDefEqProofs only [tA, tC, sMain] at s1
  simp -implicitDefEqProofs only [lA, sMain] at s2
  have e0 : ((0 : Int) == 0) = true := rfl
  have d1 : decide True = true := rfl
  refine spec_of_ev (fn := Tryz.f4) DX_ok 3000 Tryz.func4 rfl rfl (Nat.le_of_ble_eq_true rfl) ?_
  simp (maxSteps := 4000000) -implicitDefEqProofs only [Tryz.f4, go_sem]
  simp (maxSteps := 4000000) -implicitDefEqProofs only [go_sem, Nat.reduceAdd, Nat.reduceSub, Nat.reduceLT, Nat.reduceLeDiff, Nat.reduceEqDiff, ↓reduceIte]
  repeat' (first | (refine And.intro (by omega) ?_))
  refine ECall.dat (args' := [.agg [.d (.sl (ex1.lg.kn.map kD)), .d (.sl (ex1.lg.br.map bD)), .d (.sl (ex1.lg.ev.map esD)), .d (.sl (ex1.q.map rD)), .d (.sl (ex1.hs.map hD)), .d (.sl (ex1.cl.map clD))], .d (.str ⟨#[109, 97, 105, 110]⟩), .d (.int .i64 0), .d (.int .i64 1)]) (by simp -implicitDefEqProofs only [go_sem]; rfl) rfl ?_
  refine ecall0 _ s1 (by simp -implicitDefEqProofs only [go_sem]) (by simp -implicitDefEqProofs only [go_sem]) ?_
  simp (maxSteps := 4000000) -implicitDefEqProofs only [go_sem, Nat.reduceAdd, Nat.reduceSub, Nat.reduceLT, Nat.reduceLeDiff, Nat.reduceEqDiff, ↓reduceIte]
  refine ecall0 _ s2 (by simp -implicitDefEqProofs only [go_sem]) (by simp -implicitDefEqProofs only [go_sem]) ?_
  simp (maxSteps := 4000000) -implicitDefEqProofs only [go_sem, e0, Option.some.injEq, forall_eq', and_true, true_and, Bool.not_true, Bool.not_false, decide_true, Nat.reduceAdd, Nat.reduceSub, Nat.reduceLT, Nat.reduceLeDiff, Nat.reduceEqDiff, ↓reduceIte]
  repeat' (first | (refine And.intro (by omega) ?_))
  refine ECall.dat (args' := [.d (.sl (([5] : List Int).map uD)), .d (.sl (([5] : List Int).map uD))]) (by simp -implicitDefEqProofs only [go_sem]; rfl) rfl ?_
  refine ecall0 _ s3 (by simp -implicitDefEqProofs only [go_sem]) (by simp -implicitDefEqProofs only [go_sem]) ?_
  simp (maxSteps := 4000000) -implicitDefEqProofs only [go_sem, e0, d1, Option.some.injEq, forall_eq', and_true, true_and, Bool.not_true, Bool.not_false, decide_true, Nat.reduceAdd, Nat.reduceSub, Nat.reduceLT, Nat.reduceLeDiff, Nat.reduceEqDiff, ↓reduceIte]
  repeat' (first | (refine And.intro (by omega) ?_))
  refine ECall.dat (args' := [.d (.sl (([4] : List Int).map iD)), .d (.sl (([4] : List Int).map iD))]) (by simp -implicitDefEqProofs only [go_sem]; rfl) rfl ?_
  refine ecall0 _ s4 (by simp -implicitDefEqProofs only [go_sem]) (by simp -implicitDefEqProofs only [go_sem]) ?_
  simp (maxSteps := 4000000) -implicitDefEqProofs only [go_sem, e0, d1, Option.some.injEq, forall_eq', and_true, true_and, Bool.not_true, Bool.not_false, decide_true, Nat.reduceAdd, Nat.reduceSub, Nat.reduceLT, Nat.reduceLeDiff, Nat.reduceEqDiff, ↓reduceIte]
  exact wk_bool rfl

theorem top_law (t : Tr) (ii tk : Int) (ht : TSm t) : Spec Tryz.prog 3 [tA t, .d (.int .i64 ii), .d (.int .i64 tk)] [] (.d (.bool true)) [] := by
  have c0 := alive_top
  have c1 := tgreat_ref t ht
  simp only [tA, tC] at c1
  have b1 : (!true) = false := rfl
  have b2 : (!false) = true := rfl
  refine spec_of_ev (fn := Tryz.f3) DX_ok 3000 Tryz.func3 rfl rfl (Nat.le_of_ble_eq_true rfl) ?_
  simp (maxSteps := 4000000) -implicitDefEqProofs only [Tryz.f3, go_sem, tA]
  refine ecall0 _ c0 (by simp only [go_sem]) (by simp only [go_sem]) ?_
  simp (maxSteps := 4000000) -implicitDefEqProofs only [go_sem, Nat.reduceAdd, Nat.reduceSub, Nat.reduceLT, Nat.reduceLeDiff, Nat.reduceEqDiff, ↓reduceIte]
  refine ecall0 _ c1 (by simp only [go_sem]) (by simp only [go_sem]) ?_
  apply Or.elim (bz (tgreat t))
  · intro g1
    simp (maxSteps := 4000000) -implicitDefEqProofs only [go_sem, g1, Option.some.injEq, forall_eq', and_true, true_and, Bool.not_true, Bool.not_false, decide_true, Nat.reduceAdd, Nat.reduceSub, Nat.reduceLT, Nat.reduceLeDiff, Nat.reduceEqDiff, ↓reduceIte]
    exact wk_bool rfl
  intro g1
  have f := tfit_of g1
  have c2 := tcheck_ref t f.k f.b f.e f.q f.h f.c
  simp only [tA, tC] at c2
  simp (maxSteps := 4000000) -implicitDefEqProofs only [go_sem, g1, Option.some.injEq, forall_eq', and_true, true_and, Bool.not_true, Bool.not_false, decide_true, Nat.reduceAdd, Nat.reduceSub, Nat.reduceLT, Nat.reduceLeDiff, Nat.reduceEqDiff, ↓reduceIte]
  refine ecall0 _ c2 (by simp only [go_sem]) (by simp only [go_sem]) ?_
  apply Or.elim (bz (tcheck t != 0))
  · intro g2
    simp (maxSteps := 4000000) -implicitDefEqProofs only [go_sem, g2, Option.some.injEq, forall_eq', and_true, true_and, Bool.not_true, Bool.not_false, decide_true, Nat.reduceAdd, Nat.reduceSub, Nat.reduceLT, Nat.reduceLeDiff, Nat.reduceEqDiff, ↓reduceIte]
    exact wk_bool rfl
  intro g2
  have o := tok_of (t := t) (by simpa using g2)
  apply Or.elim (bz (decide (ii < 0)))
  · intro g3
    simp (maxSteps := 4000000) -implicitDefEqProofs only [go_sem, g2, g3, Option.some.injEq, forall_eq', and_true, true_and, Bool.not_true, Bool.not_false, decide_true, Nat.reduceAdd, Nat.reduceSub, Nat.reduceLT, Nat.reduceLeDiff, Nat.reduceEqDiff, ↓reduceIte]
    exact wk_bool rfl
  intro g3
  apply Or.elim (bz (decide ((t.lg.br.length : Int) ≤ ii)))
  · intro g4
    simp (maxSteps := 4000000) -implicitDefEqProofs only [go_sem, g2, g3, g4, Option.some.injEq, forall_eq', and_true, true_and, Bool.not_true, Bool.not_false, decide_true, Nat.reduceAdd, Nat.reduceSub, Nat.reduceLT, Nat.reduceLeDiff, Nat.reduceEqDiff, ↓reduceIte]
    exact wk_bool rfl
  intro g4
  have gi : ii = (ii.toNat : Int) := by have := of_decide_eq_false g3; omega
  rw [gi] at g3 g4 ⊢
  generalize ii.toNat = i at g3 g4 ⊢
  have hi : i < t.lg.br.length := by have := of_decide_eq_false g4; omega
  apply Exists.elim (at_of o.lo.tab hi)
  intro x hx; apply Exists.elim hx
  intro evs hx; apply Exists.elim hx
  intro v a
  have hx := a.hx
  have hb := at_br o hx
  have c3 := tick_ref tk
  simp (maxSteps := 4000000) -implicitDefEqProofs only [go_sem, g2, g3, g4, Option.some.injEq, forall_eq', and_true, true_and, Bool.not_true, Bool.not_false, decide_true, Nat.reduceAdd, Nat.reduceSub, Nat.reduceLT, Nat.reduceLeDiff, Nat.reduceEqDiff, ↓reduceIte]
  refine ecall0 _ c3 (by simp only [go_sem]) (by simp only [go_sem]) ?_
  apply Or.elim (bz (tick tk)).symm
  · intro g5
    simp (maxSteps := 4000000) -implicitDefEqProofs only [go_sem, g5, b2, Option.some.injEq, forall_eq', and_true, true_and, Bool.not_true, Bool.not_false, decide_true, Nat.reduceAdd, Nat.reduceSub, Nat.reduceLT, Nat.reduceLeDiff, Nat.reduceEqDiff, ↓reduceIte]
    exact wk_bool rfl
  intro g5
  have hk : 0 ≤ tk ∧ tk ≤ 1000000 := by simpa only [tick, Bool.and_eq_true, decide_eq_true_eq] using g5
  have fq := f.q
  have fh := f.h
  have n1 : (0 ≤ (i : Int) ∧ (i : Int) < t.lg.br.length) = True := eq_true (by omega)
  have n2 : (i < t.lg.br.length) = True := eq_true hi
  have c4 := first_ref t.q x.name (by unfold Sm; omega)
  have c5 := headR_own t.q x.name (by unfold Sm; omega)
  have c6 := Wait_own t x.name tk f
  have e60 : ((6 : Int) == 0) = false := rfl
  have e00 : ((0 : Int) == 0) = true := rfl
  have z60 : ((6 : Int) != 0) = true := rfl
  have z0 : ((0 : Int) != 0) = false := rfl
  have bt : (true != true) = false := rfl
  have bf : (false != false) = false := rfl
  apply Or.elim (Decidable.em (idx (isHead x.name) t.q < 0))
  · intro h6
    have bg : beginR t x.name tk = (0, 6) := by rw [begin_eq o hb hk.1 hk.2, if_pos h6]
    have e2 : waitR t x.name tk = (0, 6) := by unfold waitR; rw [bg, if_pos (by simp)]
    have e3 : headR t.q x.name = (0, 6) := by unfold headR; rw [if_neg (by simp [o.q0]), if_pos h6]
    rw [e2] at c6
    rw [e3] at c5
    simp only [tA, tC] at c6
    simp (maxSteps := 4000000) -implicitDefEqProofs only [go_sem, g5, b1, n1, n2, hx, Option.some.injEq, forall_eq', and_true, true_and, Bool.not_true, Bool.not_false, decide_true, Nat.reduceAdd, Nat.reduceSub, Nat.reduceLT, Nat.reduceLeDiff, Nat.reduceEqDiff, ↓reduceIte]
    refine ecall0 _ c5 (by simp only [go_sem]) (by simp only [go_sem]) ?_
    simp (maxSteps := 4000000) -implicitDefEqProofs only [go_sem, Nat.reduceAdd, Nat.reduceSub, Nat.reduceLT, Nat.reduceLeDiff, Nat.reduceEqDiff, ↓reduceIte]
    refine ecall0 _ c6 (by simp only [go_sem]) (by simp only [go_sem]) ?_
    simp (maxSteps := 4000000) -implicitDefEqProofs only [go_sem, e60, z60, bf, Option.some.injEq, forall_eq', and_true, true_and, Bool.not_true, Bool.not_false, decide_true, Nat.reduceAdd, Nat.reduceSub, Nat.reduceLT, Nat.reduceLeDiff, Nat.reduceEqDiff, ↓reduceIte]
    exact wk_bool rfl
  intro h6
  -- what Wait says
  have key : ∃ (j : Nat) (r : Rq) (N : Int), idx (isHead x.name) t.q = j ∧ t.q[j]? = some r ∧ headR t.q x.name = ((j : Int), 0) ∧ waitR t x.name tk = (N, 0) ∧ 0 ≤ N ∧ N ≤ 1000000 ∧ (held t.hs x.name N && !r.ov) = false ∧ ((stepR t x.name N).2.2 = 0 ∨ (stepR t x.name N).2.2 = 4) := by
    obtain ⟨j, r, e1, hr, hp⟩ := idx_get (p := isHead x.name) (l := t.q) (by omega)
    have hrb : r.br = x.name := by simp only [isHead, Bool.and_eq_true, decide_eq_true_eq] at hp; exact hp.1
    obtain ⟨se, we⟩ := step_err o hb hk.1 hk.2 e1 hr
    rw [← hrb] at we
    obtain ⟨N, hN, N1, N2, N3, N4, N5⟩ := wait_all (r := r) o hk.1 hk.2
    rw [hN, hrb] at we
    have sN := (step_err o hb N1 N2 e1 hr).1
    refine ⟨j, r, N, e1, hr, ?_, we, N1, N2, by rw [heldH, hrb] at N3; exact N3, ?_⟩
    · unfold headR
      rw [if_neg (by simp [o.q0]), if_neg (by omega), e1]
    · rcases sN with q | q
      · rw [q.2] at N3; cases N3
      · exact q.1
  apply Exists.elim key
  intro j h; apply Exists.elim h
  intro r h; apply Exists.elim h
  intro N h
  have e1 := h.1
  have hr := h.2.1
  have eh := h.2.2.1
  have ew := h.2.2.2.1
  have N1 := h.2.2.2.2.1
  have N2 := h.2.2.2.2.2.1
  have hov := h.2.2.2.2.2.2.1
  have hst := h.2.2.2.2.2.2.2
  rw [eh] at c5
  rw [ew] at c6
  rw [e1] at c4
  simp only [tA, tC] at c6
  have c7 := frozen_own t.hs x.name N (by unfold Sm; omega)
  have hfr : frozenR t.hs x.name N = (held t.hs x.name N, 0) := by unfold frozenR; rw [if_neg (by rw [ask0 o.w0 N1 N2]; simp)]
  rw [hfr] at c7
  have c8 := tick_ref N
  rw [show tick N = true by simp only [tick, Bool.and_eq_true, decide_eq_true_eq]; omega] at c8
  have c9 := Run_own t x.name N 30 f
  have hrun : runR t x.name N 30 = runG x.name N 30 t := run_eq (n := 30) o hb N1 N2 (by omega)
  rw [hrun] at c9
  have hG := runG_ok (b := x.name) (tk := N) 30 o f
  have T := trace (b := x.name) (tk := N) rfl 30 t evs v o a
  have hne : (runG x.name N 30 t).2.2 = 0 → (runG x.name N 30 t).2.1.length ≠ 0 := fun h0 => by
    rw [runG] at h0 ⊢
    rcases hst with q | q
    · rw [if_neg (by rw [q]; decide), if_neg (by rw [q]; decide)]
      simp
    · rw [if_pos q] at h0; cases h0
  generalize runG x.name N 30 t = R at c9 hG T hne
  have oa := hG.1
  have fa := hG.2.1
  have c10 := tcheck_ref R.1 fa.k fa.b fa.e fa.q fa.h fa.c
  rw [oa.chk] at c10
  have c11 := outcomes_top t i x evs v R o f fa oa a T
  have c12 := others_top t i x evs v R o f fa oa a T
  have c13 := again_top R.1 x.name oa fa
  simp only [tA, tC] at c9 c10 c11 c12 c13
  have n3 : (0 ≤ (j : Int) ∧ (j : Int) < t.q.length) = True := eq_true (by have := some_lt hr; omega)
  have n4 : (j < t.q.length) = True := eq_true (some_lt hr)
  have zj : ((j : Int) != j) = false := by simp
  generalize held t.hs x.name N = Hd at c7 hov
  have hk4 := hG.2.2.2.1
  have z40 : ((4 : Int) != 0) = true := rfl
  have z44 : ((4 : Int) != 4) = false := rfl
  have e40 : ((4 : Int) == 0) = false := rfl
  clear key h T hG
  simp (maxSteps := 4000000) -implicitDefEqProofs only [go_sem, g5, b1, n1, n2, hx, Option.some.injEq, forall_eq', and_true, true_and, Bool.not_true, Bool.not_false, decide_true, Nat.reduceAdd, Nat.reduceSub, Nat.reduceLT, Nat.reduceLeDiff, Nat.reduceEqDiff, ↓reduceIte]
  refine ecall0 _ c5 (by simp only [go_sem]) (by simp only [go_sem]) ?_
  simp (maxSteps := 4000000) -implicitDefEqProofs only [go_sem, Nat.reduceAdd, Nat.reduceSub, Nat.reduceLT, Nat.reduceLeDiff, Nat.reduceEqDiff, ↓reduceIte]
  refine ecall0 _ c6 (by simp only [go_sem]) (by simp only [go_sem]) ?_
  simp (maxSteps := 4000000) -implicitDefEqProofs only [go_sem, e00, z0, bt, Option.some.injEq, forall_eq', and_true, true_and, Bool.not_true, Bool.not_false, decide_true, Nat.reduceAdd, Nat.reduceSub, Nat.reduceLT, Nat.reduceLeDiff, Nat.reduceEqDiff, ↓reduceIte]
  refine ecall0 _ c7 (by simp only [go_sem]) (by simp only [go_sem]) ?_
  simp (maxSteps := 4000000) -implicitDefEqProofs only [go_sem, Nat.reduceAdd, Nat.reduceSub, Nat.reduceLT, Nat.reduceLeDiff, Nat.reduceEqDiff, ↓reduceIte]
  refine ecall0 _ c4 (by simp only [go_sem]) (by simp only [go_sem]) ?_
  have hc : (Hd = true ∧ r.ov = true) ∨ (Hd = false ∧ True) := by
    rcases bz Hd with hd | hd
    · refine .inl ⟨hd, ?_⟩
      rw [hd] at hov
      cases q : r.ov with
      | true => rfl
      | false => rw [q] at hov; cases hov
    · exact .inr ⟨hd, trivial⟩
  apply Or.elim hc
  all_goals
    intro hd
    rw [hd.1]
    have ho := hd.2
    simp (maxSteps := 4000000) -implicitDefEqProofs only [go_sem, zj, z0, n3, n4, hr, ho, b1, b2, Option.some.injEq, forall_eq', and_true, true_and, Bool.not_true, Bool.not_false, decide_true, Nat.reduceAdd, Nat.reduceSub, Nat.reduceLT, Nat.reduceLeDiff, Nat.reduceEqDiff, ↓reduceIte]
    refine ecall0 _ c8 (by simp only [go_sem]) (by simp only [go_sem]) ?_
    simp (maxSteps := 4000000) -implicitDefEqProofs only [go_sem, b1, z0, Option.some.injEq, forall_eq', and_true, true_and, Bool.not_true, Bool.not_false, decide_true, Nat.reduceAdd, Nat.reduceSub, Nat.reduceLT, Nat.reduceLeDiff, Nat.reduceEqDiff, ↓reduceIte]
    refine ecall0 _ c9 (by simp only [go_sem]) (by simp only [go_sem]) ?_
    apply Or.elim hk4
    all_goals
      intro k0
      have y0 : R.2.2 = 0 → ((R.2.1.length : Int) == 0) = false := fun k0 => by have := hne k0; rw [beq_eq_false_iff_ne]; omega
      try (have y0 := y0 k0)
      rw [k0]
      simp (maxSteps := 4000000) -implicitDefEqProofs only [go_sem, z0, e00, y0, z40, z44, e40, Option.some.injEq, forall_eq', and_true, true_and, Bool.not_true, Bool.not_false, decide_true, Nat.reduceAdd, Nat.reduceSub, Nat.reduceLT, Nat.reduceLeDiff, Nat.reduceEqDiff, ↓reduceIte]
      refine ecall0 _ c10 (by simp only [go_sem]) (by simp only [go_sem]) ?_
      simp (maxSteps := 4000000) -implicitDefEqProofs only [go_sem, z0, Option.some.injEq, forall_eq', and_true, true_and, Bool.not_true, Bool.not_false, decide_true, Nat.reduceAdd, Nat.reduceSub, Nat.reduceLT, Nat.reduceLeDiff, Nat.reduceEqDiff, ↓reduceIte]
      refine ecall0 _ c11 (by simp only [go_sem]) (by simp only [go_sem]) ?_
      simp (maxSteps := 4000000) -implicitDefEqProofs only [go_sem, Nat.reduceAdd, Nat.reduceSub, Nat.reduceLT, Nat.reduceLeDiff, Nat.reduceEqDiff, ↓reduceIte]
      refine ecall0 _ c12 (by simp only [go_sem]) (by simp only [go_sem]) ?_
      simp (maxSteps := 4000000) -implicitDefEqProofs only [go_sem, Nat.reduceAdd, Nat.reduceSub, Nat.reduceLT, Nat.reduceLeDiff, Nat.reduceEqDiff, ↓reduceIte]
      refine ecall0 _ c13 (by simp only [go_sem]) (by simp only [go_sem]) ?_
      simp (maxSteps := 4000000) -implicitDefEqProofs only [go_sem, Nat.reduceAdd, Nat.reduceSub, Nat.reduceLT, Nat.reduceLeDiff, Nat.reduceEqDiff, ↓reduceIte]
      exact wk_bool rfl
end Go.AX.Tr
namespace Go.Proofs.YtejipcfaedookaaGreat
open Go.AX Go.AX.Tr Go.RowKit
set_option maxRecDepth 100000 in
theorem topTrain_lifted (os : Os) (started : os.Started) (H : Type) (enc : TypeId × Value → H) :
    ReturnsInHanded {} Tryz.checked os 3 .any (Rows.topTrainSpec.pre6 enc Tryz.prog Tryz.f3 Rows.topTrainRow.domain false) (Rows.topTrainSpec.post enc Tryz.prog Tryz.f3 false true false false) := by
  refine Go.AX.lifted (C := Tryz.checked) (f := 3) (fn := Tryz.f3) (s := Rows.topTrainSpec) (rt := 4) (n := 8) (by kernel_rfl) (by kernel_rfl) Tryz.func3 rfl ?_ rfl (by kernel_rfl) (by kernel_rfl) (by kernel_rfl) (by kernel_rfl) os started H enc
    (ChangeSpec.witness6 (enc := enc) (C := Tryz.checked) false ⟨#[], #[.agg #[.slice none 0 0, .slice none 0 0, .slice none 0 0, .slice none 0 0, .slice none 0 0, .slice none 0 0], .int .i64 0, .int .i64 0], []⟩ 8 (by kernel_rfl) (by kernel_rfl) (by kernel_rfl) (by kernel_rfl)) ?_
  · intro H ds h
    match ds, h with
    | [a0, a1, a2], _ => rfl
  · intro xs hx
    have hp : Tryz.f3.params.toList = [31, 3, 3] := rfl
    rw [hp] at hx ⊢
    have i0 : isA Tryz.prog 31 = true := by kernel_rfl
    have i1 : isA Tryz.prog 3 = false := by kernel_rfl
    have i2 : isA Tryz.prog 3 = false := by kernel_rfl
    rcases xs with _ | ⟨d0, _ | ⟨d1, _ | ⟨d2, _ | ⟨d3, xs⟩⟩⟩⟩ <;> simp only [Tyds, and_false] at hx
    obtain ⟨k0, k1, k2, _⟩ := hx
    obtain ⟨t, rfl, ht⟩ := train_of k0
    obtain ⟨ii, rfl, hii⟩ := int_of k1
    obtain ⟨tk, rfl, htk⟩ := int_of k2
    simp only [avs, i0, i1, i2, dv, Bool.false_eq_true, if_false, if_true, List.headD_cons, List.map_cons, List.map_nil]
    exact top_law t ii tk ht
theorem topTrain_over : Rows.topTrainRow.holds Tryz.pinned (OpenSpec.ofChange Rows.topTrainSpec) :=
  OpenClaim.holds_of_wide 3 Tryz.f3 rfl rfl rfl rfl rfl rfl rfl ⟨rfl, rfl, rfl, rfl, rfl⟩ rfl rfl rfl rfl rfl (by kernel_rfl) Tryz.func3 (by kernel_rfl)
    (of_decide_eq_true (by kernel_rfl)) (by unfold Func.isWrapper; first | (rw [if_pos (by decide +kernel)]; kernel_rfl) | (rw [if_neg (by decide +kernel)]; exact ⟨rfl, rfl⟩))
    (fun os started H enc _ => topTrain_lifted os started H enc)
/-- The row, under a short name, for the claim. -/
theorem topTrain_holds : Rows.TopTrainSaid := topTrain_over
#print axioms topTrain_holds
end Go.Proofs.YtejipcfaedookaaGreat

/- The statement DeltaLeast: the least delta gives the target, no delta that gives it costs less. No condition. -/
import Derived.Test.YtmffhidhmbncbaaK17
import Derived.Test.YtmffhidhmbncbaaRows
set_option maxHeartbeats 8000000
set_option linter.unusedVariables false
set_option linter.unusedSimpArgs false
set_option maxRecDepth 20000
namespace Go.AX.De
open Go.Proofs Go.RowKit Go.IntWalk Go.AX.Co
theorem apply_dat (b : List Int) (l : List Part) (hb : Sm b.length) (hl : Sm l.length) : Spec Try.prog 12 [.d (.sl (b.map bY)), .d (.sl (l.map pD))] [] (.tup [.d (.sl ((applied b l).1.map bY)), .d (.int .i64 (applied b l).2)]) [] := by
  have h := apply_own b l hb hl
  rw [bIY] at h
  exact h.wk (wk_dat (by simp only [go_sem]; rfl) (by rfl) (by simp only [go_sem]))
theorem deltaLeast {o : Obj} (hg : GlO o) (b s : List Int) (l : List Part) (at' n : Int) (hb : Sm b.length) (hs : Sm s.length) (hB : Bytes b) (hS : Bytes s) (hl : Sm l.length) (hlB : ∀ p ∈ l, Bytes p.data) :
    Spec Try.prog 6 [.d (.sl (b.map bY)), .d (.sl (s.map bY)), .d (.sl (l.map pD)), .d (.int .i64 at'), .d (.int .i64 n)] [.obj 0 o] (.d (.bool true)) [.obj 0 o] := by
  have ca := alive_spec hg
  have cg := great_spec l hl
  have ap := apply_dat b l hb hl
  have co := cost_own l hl
  have b1 : (!true) = false := rfl
  have z0 : ((0 : Int) == 0) = true := rfl
  have z1 : ((0 : Int) != 0) = false := rfl
  unfold Sm at hb hs hl
  refine spec_of_ev (fn := Try.f6) DX_ok 3000 Try.func6 rfl rfl (Nat.le_of_ble_eq_true rfl) ?_
  simp (maxSteps := 4000000) -implicitDefEqProofs only [Try.f6, go_sem]
  by_cases hb8 : 80 < b.length
  · have d1 : decide (80 < (b.length : Int)) = true := by simp; omega
    simp (maxSteps := 4000000) -implicitDefEqProofs only [go_sem, d1, Option.some.injEq, forall_eq', and_true, true_and, Bool.not_true, Bool.not_false, decide_true, Nat.reduceAdd, Nat.reduceSub, Nat.reduceLT, Nat.reduceLeDiff, Nat.reduceEqDiff, ↓reduceIte]
    refine .all _ _ (ca.gl _ 0 (by rfl) (by simp only [go_sem]) (by simp only [go_sem])) ?_
    simp (maxSteps := 4000000) -implicitDefEqProofs only [go_sem, z0, Option.some.injEq, forall_eq', and_true, true_and, Bool.not_true, Bool.not_false, decide_true, Nat.reduceAdd, Nat.reduceSub, Nat.reduceLT, Nat.reduceLeDiff, Nat.reduceEqDiff, ↓reduceIte]
    exact Wk.end1 (by simp only [go_sem]; rfl) (by simp only [go_sem]) (by simp only [go_sem])
  have d1 : decide (80 < (b.length : Int)) = false := by simp; omega
  by_cases hs8 : 80 < s.length
  · have d2 : decide (80 < (s.length : Int)) = true := by simp; omega
    simp (maxSteps := 4000000) -implicitDefEqProofs only [go_sem, d1, d2, Option.some.injEq, forall_eq', and_true, true_and, Bool.not_true, Bool.not_false, decide_true, Nat.reduceAdd, Nat.reduceSub, Nat.reduceLT, Nat.reduceLeDiff, Nat.reduceEqDiff, ↓reduceIte]
    refine .all _ _ (ca.gl _ 0 (by rfl) (by simp only [go_sem]) (by simp only [go_sem])) ?_
    simp (maxSteps := 4000000) -implicitDefEqProofs only [go_sem, z0, Option.some.injEq, forall_eq', and_true, true_and, Bool.not_true, Bool.not_false, decide_true, Nat.reduceAdd, Nat.reduceSub, Nat.reduceLT, Nat.reduceLeDiff, Nat.reduceEqDiff, ↓reduceIte]
    exact Wk.end1 (by simp only [go_sem]; rfl) (by simp only [go_sem]) (by simp only [go_sem])
  have d2 : decide (80 < (s.length : Int)) = false := by simp; omega
  simp (maxSteps := 4000000) -implicitDefEqProofs only [go_sem, d1, d2, Option.some.injEq, forall_eq', and_true, true_and, Bool.not_true, Bool.not_false, decide_true, Nat.reduceAdd, Nat.reduceSub, Nat.reduceLT, Nat.reduceLeDiff, Nat.reduceEqDiff, ↓reduceIte]
  refine .all _ _ (cg.lift0 _ (by simp only [go_sem]) (by simp only [go_sem])) ?_
  generalize great l = G
  cases G with
  | true =>
    simp (maxSteps := 4000000) -implicitDefEqProofs only [go_sem, Nat.reduceAdd, Nat.reduceSub, Nat.reduceLT, Nat.reduceLeDiff, Nat.reduceEqDiff, ↓reduceIte]
    refine .all _ _ (ca.gl _ 0 (by rfl) (by simp only [go_sem]) (by simp only [go_sem])) ?_
    simp (maxSteps := 4000000) -implicitDefEqProofs only [go_sem, z0, Option.some.injEq, forall_eq', and_true, true_and, Bool.not_true, Bool.not_false, decide_true, Nat.reduceAdd, Nat.reduceSub, Nat.reduceLT, Nat.reduceLeDiff, Nat.reduceEqDiff, ↓reduceIte]
    exact Wk.end1 (by simp only [go_sem]; rfl) (by simp only [go_sem]) (by simp only [go_sem])
  | false =>
  have hb : b.length ≤ 80 := by omega
  have hs : s.length ≤ 80 := by omega
  obtain ⟨P, e1, e2, e3, e4, e5, _⟩ := makes_ok hB hS hb hs
  have c1 := make_dat hg b s hB hS (by omega) (by omega)
  rw [e1] at c1
  have hch := check_of (b := b) (l := P) (by omega) e3
  have c2 := apply_dat b P (by unfold Sm; omega) (by unfold Sm; omega)
  rw [applied_of (by omega) hch (by rw [e4]; omega), e4] at c2
  have c3 := cost_own P (by unfold Sm; omega)
  rw [costs_of (check_valid hch), e5] at c3
  have c4 := sameBytes_spec s s (by unfold Sm; omega)
  rw [decide_eq_true rfl, bIY] at c4
  have c5 := check_ref P b.length (by unfold Sm; omega)
  rw [hch] at c5
  have hX := lc_bd b s
  have hbest := fun h : (applied b l).2 = 0 => lc_least b l (fit_of (applied_inv h).1)
  have hin := fun h : (applied b l).2 = 0 => (applied_inv h).2
  have hval := fun h : (applied b l).2 = 0 => costs_of (check_valid (applied_inv h).1)
  have hcB : Bytes (applied b l).1 := by
    have ho : ∀ m : List Part, (∀ p ∈ m, Bytes p.data) → Bytes (outs b m) := by
      intro m
      induction m with
      | nil => intro _ e he; simp [outs] at he
      | cons q m ih =>
        intro hm e he
        rw [outs] at he
        rcases List.mem_append.1 he with h | h
        · unfold put at h
          split at h
          · exact hB e (List.mem_of_mem_drop (List.mem_of_mem_take h))
          · exact hm q (by simp) e h
        · exact ih (fun p hp => hm p (by simp [hp])) e h
    unfold applied
    split
    · intro e he; simp at he
    split
    · intro e he; simp at he
    split
    · intro e he; simp at he
    exact ho l hlB
  have hcl : (applied b l).1.length ≤ 2000 := by
    unfold applied
    split
    · simp
    split
    · simp
    split
    · simp
    show (outs b l).length ≤ 2000
    omega
  generalize applied b l = A at ap hbest hin hval hcB hcl
  obtain ⟨c, h⟩ := A
  simp only at c1 c2 c3 ap hbest hin hval hcB hcl
  have w1 : IntKind.i64.wrap ((s.length : Int) + 1) = (s.length : Int) + 1 := i64_in _ (by omega)
  have d6 : decide ((s.length : Int) + 1 < lc b s) = false := decide_eq_false (by omega)
  generalize hXX : lc b s = X at c3 hX d6
  simp (maxSteps := 4000000) -implicitDefEqProofs only [go_sem, Nat.reduceAdd, Nat.reduceSub, Nat.reduceLT, Nat.reduceLeDiff, Nat.reduceEqDiff, ↓reduceIte]
  refine .all _ _ (c1.gl _ 0 (by rfl) (by simp only [go_sem]) (by simp only [go_sem])) ?_
  simp (maxSteps := 4000000) -implicitDefEqProofs only [go_sem, Nat.reduceAdd, Nat.reduceSub, Nat.reduceLT, Nat.reduceLeDiff, Nat.reduceEqDiff, ↓reduceIte]
  refine .all _ _ (c2.lift0 _ (by simp only [go_sem]) (by simp only [go_sem])) ?_
  simp (maxSteps := 4000000) -implicitDefEqProofs only [go_sem, z0, Option.some.injEq, forall_eq', and_true, true_and, Bool.not_true, Bool.not_false, decide_true, Nat.reduceAdd, Nat.reduceSub, Nat.reduceLT, Nat.reduceLeDiff, Nat.reduceEqDiff, ↓reduceIte]
  refine .all _ _ (c3.lift0 _ (by simp only [go_sem]) (by simp only [go_sem])) ?_
  simp (maxSteps := 4000000) -implicitDefEqProofs only [go_sem, z1, Option.some.injEq, forall_eq', and_true, true_and, Bool.not_true, Bool.not_false, decide_true, Nat.reduceAdd, Nat.reduceSub, Nat.reduceLT, Nat.reduceLeDiff, Nat.reduceEqDiff, ↓reduceIte]
  refine .all _ _ (c4.lift0 _ (by simp only [go_sem]) (by simp only [go_sem])) ?_
  simp (maxSteps := 4000000) -implicitDefEqProofs only [go_sem, z1, b1, Option.some.injEq, forall_eq', and_true, true_and, Bool.not_true, Bool.not_false, decide_true, Nat.reduceAdd, Nat.reduceSub, Nat.reduceLT, Nat.reduceLeDiff, Nat.reduceEqDiff, ↓reduceIte]
  apply Or.elim (Bool.eq_false_or_eq_true (decide (0 < (s.length : Int))))
  all_goals
    intro d5
    simp (maxSteps := 4000000) -implicitDefEqProofs only [go_sem, d5, d6, w1, Option.some.injEq, forall_eq', and_true, true_and, Bool.not_true, Bool.not_false, decide_true, Nat.reduceAdd, Nat.reduceSub, Nat.reduceLT, Nat.reduceLeDiff, Nat.reduceEqDiff, ↓reduceIte]
    refine .all _ _ (c5.lift0 _ (by simp only [go_sem]) (by simp only [go_sem])) ?_
    simp (maxSteps := 4000000) -implicitDefEqProofs only [go_sem, z1, Option.some.injEq, forall_eq', and_true, true_and, Bool.not_true, Bool.not_false, decide_true, Nat.reduceAdd, Nat.reduceSub, Nat.reduceLT, Nat.reduceLeDiff, Nat.reduceEqDiff, ↓reduceIte]
    refine .all _ _ (ap.lift0 _ (by simp only [go_sem]) (by simp only [go_sem])) ?_
    by_cases hh : h = 0
    case neg =>
      have z2 : (h == 0) = false := by simp [hh]
      by_cases t1 : at' < 0
      · have d20 : decide (at' < 0) = true := decide_eq_true t1
        simp (maxSteps := 4000000) -implicitDefEqProofs only [go_sem, z2, d20, Option.some.injEq, forall_eq', and_true, true_and, Bool.not_true, Bool.not_false, decide_true, Nat.reduceAdd, Nat.reduceSub, Nat.reduceLT, Nat.reduceLeDiff, Nat.reduceEqDiff, ↓reduceIte]
        refine .all _ _ (ca.gl _ 0 (by rfl) (by simp only [go_sem]) (by simp only [go_sem])) ?_
        simp (maxSteps := 4000000) -implicitDefEqProofs only [go_sem, z0, Option.some.injEq, forall_eq', and_true, true_and, Bool.not_true, Bool.not_false, decide_true, Nat.reduceAdd, Nat.reduceSub, Nat.reduceLT, Nat.reduceLeDiff, Nat.reduceEqDiff, ↓reduceIte]
        exact Wk.end1 (by simp only [go_sem]; rfl) (by simp only [go_sem]) (by simp only [go_sem])
      have d20 : decide (at' < 0) = false := decide_eq_false t1
      by_cases t2 : n < 0
      · have d21 : decide (n < 0) = true := decide_eq_true t2
        simp (maxSteps := 4000000) -implicitDefEqProofs only [go_sem, z2, d20, d21, Option.some.injEq, forall_eq', and_true, true_and, Bool.not_true, Bool.not_false, decide_true, Nat.reduceAdd, Nat.reduceSub, Nat.reduceLT, Nat.reduceLeDiff, Nat.reduceEqDiff, ↓reduceIte]
        refine .all _ _ (ca.gl _ 0 (by rfl) (by simp only [go_sem]) (by simp only [go_sem])) ?_
        simp (maxSteps := 4000000) -implicitDefEqProofs only [go_sem, z0, Option.some.injEq, forall_eq', and_true, true_and, Bool.not_true, Bool.not_false, decide_true, Nat.reduceAdd, Nat.reduceSub, Nat.reduceLT, Nat.reduceLeDiff, Nat.reduceEqDiff, ↓reduceIte]
        exact Wk.end1 (by simp only [go_sem]; rfl) (by simp only [go_sem]) (by simp only [go_sem])
      have d21 : decide (n < 0) = false := decide_eq_false t2
      by_cases t3 : (b.length : Int) < at'
      · have d22 : decide ((b.length : Int) < at') = true := decide_eq_true t3
        simp (maxSteps := 4000000) -implicitDefEqProofs only [go_sem, z2, d20, d21, d22, Option.some.injEq, forall_eq', and_true, true_and, Bool.not_true, Bool.not_false, decide_true, Nat.reduceAdd, Nat.reduceSub, Nat.reduceLT, Nat.reduceLeDiff, Nat.reduceEqDiff, ↓reduceIte]
        refine .all _ _ (ca.gl _ 0 (by rfl) (by simp only [go_sem]) (by simp only [go_sem])) ?_
        simp (maxSteps := 4000000) -implicitDefEqProofs only [go_sem, z0, Option.some.injEq, forall_eq', and_true, true_and, Bool.not_true, Bool.not_false, decide_true, Nat.reduceAdd, Nat.reduceSub, Nat.reduceLT, Nat.reduceLeDiff, Nat.reduceEqDiff, ↓reduceIte]
        exact Wk.end1 (by simp only [go_sem]; rfl) (by simp only [go_sem]) (by simp only [go_sem])
      have d22 : decide ((b.length : Int) < at') = false := decide_eq_false t3
      have w20 : IntKind.i64.wrap ((b.length : Int) - at') = (b.length : Int) - at' := i64_in _ (by omega)
      by_cases t4 : (b.length : Int) - at' < n
      · have d23 : decide ((b.length : Int) - at' < n) = true := decide_eq_true t4
        simp (maxSteps := 4000000) -implicitDefEqProofs only [go_sem, z2, d20, d21, d22, d23, w20, Option.some.injEq, forall_eq', and_true, true_and, Bool.not_true, Bool.not_false, decide_true, Nat.reduceAdd, Nat.reduceSub, Nat.reduceLT, Nat.reduceLeDiff, Nat.reduceEqDiff, ↓reduceIte]
        refine .all _ _ (ca.gl _ 0 (by rfl) (by simp only [go_sem]) (by simp only [go_sem])) ?_
        simp (maxSteps := 4000000) -implicitDefEqProofs only [go_sem, z0, Option.some.injEq, forall_eq', and_true, true_and, Bool.not_true, Bool.not_false, decide_true, Nat.reduceAdd, Nat.reduceSub, Nat.reduceLT, Nat.reduceLeDiff, Nat.reduceEqDiff, ↓reduceIte]
        exact Wk.end1 (by simp only [go_sem]; rfl) (by simp only [go_sem]) (by simp only [go_sem])
      have d23 : decide ((b.length : Int) - at' < n) = false := decide_eq_false t4
      obtain ⟨J, hJ⟩ : ∃ J : Nat, at' = (J : Int) := ⟨at'.toNat, by omega⟩
      obtain ⟨M, hM⟩ : ∃ M : Nat, n = (M : Int) := ⟨n.toNat, by omega⟩
      subst hJ
      subst hM
      have w21 : IntKind.i64.wrap ((J : Int) + M) = ((J + M : Nat) : Int) := by rw [i64_in _ (by omega)]; simp
      have eP : List.drop J (List.take (J + M) b) = (b.drop J).take M := by rw [List.drop_take]; congr 1; omega
      obtain ⟨Q, e1, e2, e3, e4, e5, _⟩ := makes_ok (b := b) (s := (b.drop J).take M) hB (fun e he => hB e (List.mem_of_mem_drop (List.mem_of_mem_take he))) hb (by rw [List.length_take]; have := List.length_drop (i := J) (l := b); omega)
      have k1 := make_dat hg b ((b.drop J).take M) hB (fun e he => hB e (List.mem_of_mem_drop (List.mem_of_mem_take he))) (by omega) (by rw [List.length_take]; have := List.length_drop (i := J) (l := b); omega)
      rw [e1] at k1
      have k2 := cost_own Q (by unfold Sm; omega)
      rw [costs_of (valid_of (by omega) fun q hq => (e3 q hq).1), e5] at k2
      have hx := lc_part b J M (by omega)
      generalize lc b ((b.drop J).take M) = Y at k2 hx
      generalize (b.drop J).take M = sl at k1 eP
      simp only at k1 k2
      have d24 : decide (Y ≤ 3) = true := decide_eq_true hx
      simp (maxSteps := 4000000) -implicitDefEqProofs only [go_sem, z2, d20, d21, d22, d23, w20, w21, eP, Option.some.injEq, forall_eq', and_true, true_and, Bool.not_true, Bool.not_false, decide_true, Nat.reduceAdd, Nat.reduceSub, Nat.reduceLT, Nat.reduceLeDiff, Nat.reduceEqDiff, ↓reduceIte]
      refine ⟨by omega, .all _ _ (k1.gl _ 0 (by rfl) (by simp only [go_sem]) (by simp only [go_sem])) ?_⟩
      simp (maxSteps := 4000000) -implicitDefEqProofs only [go_sem, Nat.reduceAdd, Nat.reduceSub, Nat.reduceLT, Nat.reduceLeDiff, Nat.reduceEqDiff, ↓reduceIte]
      refine .all _ _ (k2.lift0 _ (by simp only [go_sem]) (by simp only [go_sem])) ?_
      simp (maxSteps := 4000000) -implicitDefEqProofs only [go_sem, z0, d24, Option.some.injEq, forall_eq', and_true, true_and, Bool.not_true, Bool.not_false, decide_true, Nat.reduceAdd, Nat.reduceSub, Nat.reduceLT, Nat.reduceLeDiff, Nat.reduceEqDiff, ↓reduceIte]
      refine .all _ _ (ca.gl _ 0 (by rfl) (by simp only [go_sem]) (by simp only [go_sem])) ?_
      simp (maxSteps := 4000000) -implicitDefEqProofs only [go_sem, z0, Option.some.injEq, forall_eq', and_true, true_and, Bool.not_true, Bool.not_false, decide_true, Nat.reduceAdd, Nat.reduceSub, Nat.reduceLT, Nat.reduceLeDiff, Nat.reduceEqDiff, ↓reduceIte]
      exact Wk.end1 (by simp only [go_sem]; rfl) (by simp only [go_sem]) (by simp only [go_sem])
    have z2 : (h == 0) = true := by simp [hh]
    have cq := hval hh
    have cm := hbest hh
    have ci := hin hh
    have c6 := sameBytes_spec c s (by unfold Sm; omega)
    rw [bIY] at c6
    rw [cq] at co
    rw [← ci] at cm
    simp (maxSteps := 4000000) -implicitDefEqProofs only [go_sem, z2, Option.some.injEq, forall_eq', and_true, true_and, Bool.not_true, Bool.not_false, decide_true, Nat.reduceAdd, Nat.reduceSub, Nat.reduceLT, Nat.reduceLeDiff, Nat.reduceEqDiff, ↓reduceIte]
    refine .all _ _ (c6.lift0 _ (by simp only [go_sem]) (by simp only [go_sem])) ?_
    by_cases hcs : c = s
    · rw [decide_eq_true hcs]
      have d7 : decide (csum l < X) = false := by rw [hcs] at cm; exact decide_eq_false (by omega)
      have d8 : decide ((c.length : Int) ≤ 80) = true := by rw [hcs]; exact decide_eq_true (by omega)
      simp (maxSteps := 4000000) -implicitDefEqProofs only [go_sem, Nat.reduceAdd, Nat.reduceSub, Nat.reduceLT, Nat.reduceLeDiff, Nat.reduceEqDiff, ↓reduceIte]
      refine .all _ _ (co.lift0 _ (by simp only [go_sem]) (by simp only [go_sem])) ?_
      simp (maxSteps := 4000000) -implicitDefEqProofs only [go_sem, z1, z2, d7, d8, Option.some.injEq, forall_eq', and_true, true_and, Bool.not_true, Bool.not_false, decide_true, Nat.reduceAdd, Nat.reduceSub, Nat.reduceLT, Nat.reduceLeDiff, Nat.reduceEqDiff, ↓reduceIte]
      have hc8 : c.length ≤ 80 := by have := of_decide_eq_true d8; omega
      obtain ⟨P2, f1, f2, f3, f4, f5, _⟩ := makes_ok hB hcB hb hc8
      have k1 := make_dat hg b c hB hcB (by omega) (by omega)
      rw [f1] at k1
      have k2 := cost_own P2 (by unfold Sm; omega)
      rw [costs_of (valid_of (by omega) fun q hq => (f3 q hq).1), f5] at k2
      generalize lc b c = Z at k2 cm
      have d9 : decide (csum l < Z) = false := decide_eq_false (by omega)
      simp only at k1 k2
      refine .all _ _ (k1.gl _ 0 (by rfl) (by simp only [go_sem]) (by simp only [go_sem])) ?_
      simp (maxSteps := 4000000) -implicitDefEqProofs only [go_sem, Nat.reduceAdd, Nat.reduceSub, Nat.reduceLT, Nat.reduceLeDiff, Nat.reduceEqDiff, ↓reduceIte]
      refine .all _ _ (k2.lift0 _ (by simp only [go_sem]) (by simp only [go_sem])) ?_
      simp (maxSteps := 4000000) -implicitDefEqProofs only [go_sem, z0, Option.some.injEq, forall_eq', and_true, true_and, Bool.not_true, Bool.not_false, decide_true, Nat.reduceAdd, Nat.reduceSub, Nat.reduceLT, Nat.reduceLeDiff, Nat.reduceEqDiff, ↓reduceIte]
      refine .all _ _ (co.lift0 _ (by simp only [go_sem]) (by simp only [go_sem])) ?_
      by_cases t1 : at' < 0
      · have d20 : decide (at' < 0) = true := decide_eq_true t1
        simp (maxSteps := 4000000) -implicitDefEqProofs only [go_sem, z1, d9, d20, Option.some.injEq, forall_eq', and_true, true_and, Bool.not_true, Bool.not_false, decide_true, Nat.reduceAdd, Nat.reduceSub, Nat.reduceLT, Nat.reduceLeDiff, Nat.reduceEqDiff, ↓reduceIte]
        refine .all _ _ (ca.gl _ 0 (by rfl) (by simp only [go_sem]) (by simp only [go_sem])) ?_
        simp (maxSteps := 4000000) -implicitDefEqProofs only [go_sem, z0, Option.some.injEq, forall_eq', and_true, true_and, Bool.not_true, Bool.not_false, decide_true, Nat.reduceAdd, Nat.reduceSub, Nat.reduceLT, Nat.reduceLeDiff, Nat.reduceEqDiff, ↓reduceIte]
        exact Wk.end1 (by simp only [go_sem]; rfl) (by simp only [go_sem]) (by simp only [go_sem])
      have d20 : decide (at' < 0) = false := decide_eq_false t1
      by_cases t2 : n < 0
      · have d21 : decide (n < 0) = true := decide_eq_true t2
        simp (maxSteps := 4000000) -implicitDefEqProofs only [go_sem, z1, d9, d20, d21, Option.some.injEq, forall_eq', and_true, true_and, Bool.not_true, Bool.not_false, decide_true, Nat.reduceAdd, Nat.reduceSub, Nat.reduceLT, Nat.reduceLeDiff, Nat.reduceEqDiff, ↓reduceIte]
        refine .all _ _ (ca.gl _ 0 (by rfl) (by simp only [go_sem]) (by simp only [go_sem])) ?_
        simp (maxSteps := 4000000) -implicitDefEqProofs only [go_sem, z0, Option.some.injEq, forall_eq', and_true, true_and, Bool.not_true, Bool.not_false, decide_true, Nat.reduceAdd, Nat.reduceSub, Nat.reduceLT, Nat.reduceLeDiff, Nat.reduceEqDiff, ↓reduceIte]
        exact Wk.end1 (by simp only [go_sem]; rfl) (by simp only [go_sem]) (by simp only [go_sem])
      have d21 : decide (n < 0) = false := decide_eq_false t2
      by_cases t3 : (b.length : Int) < at'
      · have d22 : decide ((b.length : Int) < at') = true := decide_eq_true t3
        simp (maxSteps := 4000000) -implicitDefEqProofs only [go_sem, z1, d9, d20, d21, d22, Option.some.injEq, forall_eq', and_true, true_and, Bool.not_true, Bool.not_false, decide_true, Nat.reduceAdd, Nat.reduceSub, Nat.reduceLT, Nat.reduceLeDiff, Nat.reduceEqDiff, ↓reduceIte]
        refine .all _ _ (ca.gl _ 0 (by rfl) (by simp only [go_sem]) (by simp only [go_sem])) ?_
        simp (maxSteps := 4000000) -implicitDefEqProofs only [go_sem, z0, Option.some.injEq, forall_eq', and_true, true_and, Bool.not_true, Bool.not_false, decide_true, Nat.reduceAdd, Nat.reduceSub, Nat.reduceLT, Nat.reduceLeDiff, Nat.reduceEqDiff, ↓reduceIte]
        exact Wk.end1 (by simp only [go_sem]; rfl) (by simp only [go_sem]) (by simp only [go_sem])
      have d22 : decide ((b.length : Int) < at') = false := decide_eq_false t3
      have w20 : IntKind.i64.wrap ((b.length : Int) - at') = (b.length : Int) - at' := i64_in _ (by omega)
      by_cases t4 : (b.length : Int) - at' < n
      · have d23 : decide ((b.length : Int) - at' < n) = true := decide_eq_true t4
        simp (maxSteps := 4000000) -implicitDefEqProofs only [go_sem, z1, d9, d20, d21, d22, d23, w20, Option.some.injEq, forall_eq', and_true, true_and, Bool.not_true, Bool.not_false, decide_true, Nat.reduceAdd, Nat.reduceSub, Nat.reduceLT, Nat.reduceLeDiff, Nat.reduceEqDiff, ↓reduceIte]
        refine .all _ _ (ca.gl _ 0 (by rfl) (by simp only [go_sem]) (by simp only [go_sem])) ?_
        simp (maxSteps := 4000000) -implicitDefEqProofs only [go_sem, z0, Option.some.injEq, forall_eq', and_true, true_and, Bool.not_true, Bool.not_false, decide_true, Nat.reduceAdd, Nat.reduceSub, Nat.reduceLT, Nat.reduceLeDiff, Nat.reduceEqDiff, ↓reduceIte]
        exact Wk.end1 (by simp only [go_sem]; rfl) (by simp only [go_sem]) (by simp only [go_sem])
      have d23 : decide ((b.length : Int) - at' < n) = false := decide_eq_false t4
      obtain ⟨J, hJ⟩ : ∃ J : Nat, at' = (J : Int) := ⟨at'.toNat, by omega⟩
      obtain ⟨M, hM⟩ : ∃ M : Nat, n = (M : Int) := ⟨n.toNat, by omega⟩
      subst hJ
      subst hM
      have w21 : IntKind.i64.wrap ((J : Int) + M) = ((J + M : Nat) : Int) := by rw [i64_in _ (by omega)]; simp
      have eP : List.drop J (List.take (J + M) b) = (b.drop J).take M := by rw [List.drop_take]; congr 1; omega
      obtain ⟨Q, e1, e2, e3, e4, e5, _⟩ := makes_ok (b := b) (s := (b.drop J).take M) hB (fun e he => hB e (List.mem_of_mem_drop (List.mem_of_mem_take he))) hb (by rw [List.length_take]; have := List.length_drop (i := J) (l := b); omega)
      have k1 := make_dat hg b ((b.drop J).take M) hB (fun e he => hB e (List.mem_of_mem_drop (List.mem_of_mem_take he))) (by omega) (by rw [List.length_take]; have := List.length_drop (i := J) (l := b); omega)
      rw [e1] at k1
      have k2 := cost_own Q (by unfold Sm; omega)
      rw [costs_of (valid_of (by omega) fun q hq => (e3 q hq).1), e5] at k2
      have hx := lc_part b J M (by omega)
      generalize lc b ((b.drop J).take M) = Y at k2 hx
      generalize (b.drop J).take M = sl at k1 eP
      simp only at k1 k2
      have d24 : decide (Y ≤ 3) = true := decide_eq_true hx
      simp (maxSteps := 4000000) -implicitDefEqProofs only [go_sem, z1, d9, d20, d21, d22, d23, w20, w21, eP, Option.some.injEq, forall_eq', and_true, true_and, Bool.not_true, Bool.not_false, decide_true, Nat.reduceAdd, Nat.reduceSub, Nat.reduceLT, Nat.reduceLeDiff, Nat.reduceEqDiff, ↓reduceIte]
      refine ⟨by omega, .all _ _ (k1.gl _ 0 (by rfl) (by simp only [go_sem]) (by simp only [go_sem])) ?_⟩
      simp (maxSteps := 4000000) -implicitDefEqProofs only [go_sem, Nat.reduceAdd, Nat.reduceSub, Nat.reduceLT, Nat.reduceLeDiff, Nat.reduceEqDiff, ↓reduceIte]
      refine .all _ _ (k2.lift0 _ (by simp only [go_sem]) (by simp only [go_sem])) ?_
      simp (maxSteps := 4000000) -implicitDefEqProofs only [go_sem, z0, d24, Option.some.injEq, forall_eq', and_true, true_and, Bool.not_true, Bool.not_false, decide_true, Nat.reduceAdd, Nat.reduceSub, Nat.reduceLT, Nat.reduceLeDiff, Nat.reduceEqDiff, ↓reduceIte]
      refine .all _ _ (ca.gl _ 0 (by rfl) (by simp only [go_sem]) (by simp only [go_sem])) ?_
      simp (maxSteps := 4000000) -implicitDefEqProofs only [go_sem, z0, Option.some.injEq, forall_eq', and_true, true_and, Bool.not_true, Bool.not_false, decide_true, Nat.reduceAdd, Nat.reduceSub, Nat.reduceLT, Nat.reduceLeDiff, Nat.reduceEqDiff, ↓reduceIte]
      exact Wk.end1 (by simp only [go_sem]; rfl) (by simp only [go_sem]) (by simp only [go_sem])
    rw [decide_eq_false hcs]
    apply Or.elim (Bool.eq_false_or_eq_true (decide ((c.length : Int) ≤ 80)))
    · intro d8
      simp (maxSteps := 4000000) -implicitDefEqProofs only [go_sem, z2, d8, Option.some.injEq, forall_eq', and_true, true_and, Bool.not_true, Bool.not_false, decide_true, Nat.reduceAdd, Nat.reduceSub, Nat.reduceLT, Nat.reduceLeDiff, Nat.reduceEqDiff, ↓reduceIte]
      have hc8 : c.length ≤ 80 := by have := of_decide_eq_true d8; omega
      obtain ⟨P2, f1, f2, f3, f4, f5, _⟩ := makes_ok hB hcB hb hc8
      have k1 := make_dat hg b c hB hcB (by omega) (by omega)
      rw [f1] at k1
      have k2 := cost_own P2 (by unfold Sm; omega)
      rw [costs_of (valid_of (by omega) fun q hq => (f3 q hq).1), f5] at k2
      generalize lc b c = Z at k2 cm
      have d9 : decide (csum l < Z) = false := decide_eq_false (by omega)
      simp only at k1 k2
      refine .all _ _ (k1.gl _ 0 (by rfl) (by simp only [go_sem]) (by simp only [go_sem])) ?_
      simp (maxSteps := 4000000) -implicitDefEqProofs only [go_sem, Nat.reduceAdd, Nat.reduceSub, Nat.reduceLT, Nat.reduceLeDiff, Nat.reduceEqDiff, ↓reduceIte]
      refine .all _ _ (k2.lift0 _ (by simp only [go_sem]) (by simp only [go_sem])) ?_
      simp (maxSteps := 4000000) -implicitDefEqProofs only [go_sem, z0, Option.some.injEq, forall_eq', and_true, true_and, Bool.not_true, Bool.not_false, decide_true, Nat.reduceAdd, Nat.reduceSub, Nat.reduceLT, Nat.reduceLeDiff, Nat.reduceEqDiff, ↓reduceIte]
      refine .all _ _ (co.lift0 _ (by simp only [go_sem]) (by simp only [go_sem])) ?_
      by_cases t1 : at' < 0
      · have d20 : decide (at' < 0) = true := decide_eq_true t1
        simp (maxSteps := 4000000) -implicitDefEqProofs only [go_sem, z1, d9, d20, Option.some.injEq, forall_eq', and_true, true_and, Bool.not_true, Bool.not_false, decide_true, Nat.reduceAdd, Nat.reduceSub, Nat.reduceLT, Nat.reduceLeDiff, Nat.reduceEqDiff, ↓reduceIte]
        refine .all _ _ (ca.gl _ 0 (by rfl) (by simp only [go_sem]) (by simp only [go_sem])) ?_
        simp (maxSteps := 4000000) -implicitDefEqProofs only [go_sem, z0, Option.some.injEq, forall_eq', and_true, true_and, Bool.not_true, Bool.not_false, decide_true, Nat.reduceAdd, Nat.reduceSub, Nat.reduceLT, Nat.reduceLeDiff, Nat.reduceEqDiff, ↓reduceIte]
        exact Wk.end1 (by simp only [go_sem]; rfl) (by simp only [go_sem]) (by simp only [go_sem])
      have d20 : decide (at' < 0) = false := decide_eq_false t1
      by_cases t2 : n < 0
      · have d21 : decide (n < 0) = true := decide_eq_true t2
        simp (maxSteps := 4000000) -implicitDefEqProofs only [go_sem, z1, d9, d20, d21, Option.some.injEq, forall_eq', and_true, true_and, Bool.not_true, Bool.not_false, decide_true, Nat.reduceAdd, Nat.reduceSub, Nat.reduceLT, Nat.reduceLeDiff, Nat.reduceEqDiff, ↓reduceIte]
        refine .all _ _ (ca.gl _ 0 (by rfl) (by simp only [go_sem]) (by simp only [go_sem])) ?_
        simp (maxSteps := 4000000) -implicitDefEqProofs only [go_sem, z0, Option.some.injEq, forall_eq', and_true, true_and, Bool.not_true, Bool.not_false, decide_true, Nat.reduceAdd, Nat.reduceSub, Nat.reduceLT, Nat.reduceLeDiff, Nat.reduceEqDiff, ↓reduceIte]
        exact Wk.end1 (by simp only [go_sem]; rfl) (by simp only [go_sem]) (by simp only [go_sem])
      have d21 : decide (n < 0) = false := decide_eq_false t2
      by_cases t3 : (b.length : Int) < at'
      · have d22 : decide ((b.length : Int) < at') = true := decide_eq_true t3
        simp (maxSteps := 4000000) -implicitDefEqProofs only [go_sem, z1, d9, d20, d21, d22, Option.some.injEq, forall_eq', and_true, true_and, Bool.not_true, Bool.not_false, decide_true, Nat.reduceAdd, Nat.reduceSub, Nat.reduceLT, Nat.reduceLeDiff, Nat.reduceEqDiff, ↓reduceIte]
        refine .all _ _ (ca.gl _ 0 (by rfl) (by simp only [go_sem]) (by simp only [go_sem])) ?_
        simp (maxSteps := 4000000) -implicitDefEqProofs only [go_sem, z0, Option.some.injEq, forall_eq', and_true, true_and, Bool.not_true, Bool.not_false, decide_true, Nat.reduceAdd, Nat.reduceSub, Nat.reduceLT, Nat.reduceLeDiff, Nat.reduceEqDiff, ↓reduceIte]
        exact Wk.end1 (by simp only [go_sem]; rfl) (by simp only [go_sem]) (by simp only [go_sem])
      have d22 : decide ((b.length : Int) < at') = false := decide_eq_false t3
      have w20 : IntKind.i64.wrap ((b.length : Int) - at') = (b.length : Int) - at' := i64_in _ (by omega)
      by_cases t4 : (b.length : Int) - at' < n
      · have d23 : decide ((b.length : Int) - at' < n) = true := decide_eq_true t4
        simp (maxSteps := 4000000) -implicitDefEqProofs only [go_sem, z1, d9, d20, d21, d22, d23, w20, Option.some.injEq, forall_eq', and_true, true_and, Bool.not_true, Bool.not_false, decide_true, Nat.reduceAdd, Nat.reduceSub, Nat.reduceLT, Nat.reduceLeDiff, Nat.reduceEqDiff, ↓reduceIte]
        refine .all _ _ (ca.gl _ 0 (by rfl) (by simp only [go_sem]) (by simp only [go_sem])) ?_
        simp (maxSteps := 4000000) -implicitDefEqProofs only [go_sem, z0, Option.some.injEq, forall_eq', and_true, true_and, Bool.not_true, Bool.not_false, decide_true, Nat.reduceAdd, Nat.reduceSub, Nat.reduceLT, Nat.reduceLeDiff, Nat.reduceEqDiff, ↓reduceIte]
        exact Wk.end1 (by simp only [go_sem]; rfl) (by simp only [go_sem]) (by simp only [go_sem])
      have d23 : decide ((b.length : Int) - at' < n) = false := decide_eq_false t4
      obtain ⟨J, hJ⟩ : ∃ J : Nat, at' = (J : Int) := ⟨at'.toNat, by omega⟩
      obtain ⟨M, hM⟩ : ∃ M : Nat, n = (M : Int) := ⟨n.toNat, by omega⟩
      subst hJ
      subst hM
      have w21 : IntKind.i64.wrap ((J : Int) + M) = ((J + M : Nat) : Int) := by rw [i64_in _ (by omega)]; simp
      have eP : List.drop J (List.take (J + M) b) = (b.drop J).take M := by rw [List.drop_take]; congr 1; omega
      obtain ⟨Q, e1, e2, e3, e4, e5, _⟩ := makes_ok (b := b) (s := (b.drop J).take M) hB (fun e he => hB e (List.mem_of_mem_drop (List.mem_of_mem_take he))) hb (by rw [List.length_take]; have := List.length_drop (i := J) (l := b); omega)
      have k1 := make_dat hg b ((b.drop J).take M) hB (fun e he => hB e (List.mem_of_mem_drop (List.mem_of_mem_take he))) (by omega) (by rw [List.length_take]; have := List.length_drop (i := J) (l := b); omega)
      rw [e1] at k1
      have k2 := cost_own Q (by unfold Sm; omega)
      rw [costs_of (valid_of (by omega) fun q hq => (e3 q hq).1), e5] at k2
      have hx := lc_part b J M (by omega)
      generalize lc b ((b.drop J).take M) = Y at k2 hx
      generalize (b.drop J).take M = sl at k1 eP
      simp only at k1 k2
      have d24 : decide (Y ≤ 3) = true := decide_eq_true hx
      simp (maxSteps := 4000000) -implicitDefEqProofs only [go_sem, z1, d9, d20, d21, d22, d23, w20, w21, eP, Option.some.injEq, forall_eq', and_true, true_and, Bool.not_true, Bool.not_false, decide_true, Nat.reduceAdd, Nat.reduceSub, Nat.reduceLT, Nat.reduceLeDiff, Nat.reduceEqDiff, ↓reduceIte]
      refine ⟨by omega, .all _ _ (k1.gl _ 0 (by rfl) (by simp only [go_sem]) (by simp only [go_sem])) ?_⟩
      simp (maxSteps := 4000000) -implicitDefEqProofs only [go_sem, Nat.reduceAdd, Nat.reduceSub, Nat.reduceLT, Nat.reduceLeDiff, Nat.reduceEqDiff, ↓reduceIte]
      refine .all _ _ (k2.lift0 _ (by simp only [go_sem]) (by simp only [go_sem])) ?_
      simp (maxSteps := 4000000) -implicitDefEqProofs only [go_sem, z0, d24, Option.some.injEq, forall_eq', and_true, true_and, Bool.not_true, Bool.not_false, decide_true, Nat.reduceAdd, Nat.reduceSub, Nat.reduceLT, Nat.reduceLeDiff, Nat.reduceEqDiff, ↓reduceIte]
      refine .all _ _ (ca.gl _ 0 (by rfl) (by simp only [go_sem]) (by simp only [go_sem])) ?_
      simp (maxSteps := 4000000) -implicitDefEqProofs only [go_sem, z0, Option.some.injEq, forall_eq', and_true, true_and, Bool.not_true, Bool.not_false, decide_true, Nat.reduceAdd, Nat.reduceSub, Nat.reduceLT, Nat.reduceLeDiff, Nat.reduceEqDiff, ↓reduceIte]
      exact Wk.end1 (by simp only [go_sem]; rfl) (by simp only [go_sem]) (by simp only [go_sem])
    · intro d8
      by_cases t1 : at' < 0
      · have d20 : decide (at' < 0) = true := decide_eq_true t1
        simp (maxSteps := 4000000) -implicitDefEqProofs only [go_sem, z2, d8, d20, Option.some.injEq, forall_eq', and_true, true_and, Bool.not_true, Bool.not_false, decide_true, Nat.reduceAdd, Nat.reduceSub, Nat.reduceLT, Nat.reduceLeDiff, Nat.reduceEqDiff, ↓reduceIte]
        refine .all _ _ (ca.gl _ 0 (by rfl) (by simp only [go_sem]) (by simp only [go_sem])) ?_
        simp (maxSteps := 4000000) -implicitDefEqProofs only [go_sem, z0, Option.some.injEq, forall_eq', and_true, true_and, Bool.not_true, Bool.not_false, decide_true, Nat.reduceAdd, Nat.reduceSub, Nat.reduceLT, Nat.reduceLeDiff, Nat.reduceEqDiff, ↓reduceIte]
        exact Wk.end1 (by simp only [go_sem]; rfl) (by simp only [go_sem]) (by simp only [go_sem])
      have d20 : decide (at' < 0) = false := decide_eq_false t1
      by_cases t2 : n < 0
      · have d21 : decide (n < 0) = true := decide_eq_true t2
        simp (maxSteps := 4000000) -implicitDefEqProofs only [go_sem, z2, d8, d20, d21, Option.some.injEq, forall_eq', and_true, true_and, Bool.not_true, Bool.not_false, decide_true, Nat.reduceAdd, Nat.reduceSub, Nat.reduceLT, Nat.reduceLeDiff, Nat.reduceEqDiff, ↓reduceIte]
        refine .all _ _ (ca.gl _ 0 (by rfl) (by simp only [go_sem]) (by simp only [go_sem])) ?_
        simp (maxSteps := 4000000) -implicitDefEqProofs only [go_sem, z0, Option.some.injEq, forall_eq', and_true, true_and, Bool.not_true, Bool.not_false, decide_true, Nat.reduceAdd, Nat.reduceSub, Nat.reduceLT, Nat.reduceLeDiff, Nat.reduceEqDiff, ↓reduceIte]
        exact Wk.end1 (by simp only [go_sem]; rfl) (by simp only [go_sem]) (by simp only [go_sem])
      have d21 : decide (n < 0) = false := decide_eq_false t2
      by_cases t3 : (b.length : Int) < at'
      · have d22 : decide ((b.length : Int) < at') = true := decide_eq_true t3
        simp (maxSteps := 4000000) -implicitDefEqProofs only [go_sem, z2, d8, d20, d21, d22, Option.some.injEq, forall_eq', and_true, true_and, Bool.not_true, Bool.not_false, decide_true, Nat.reduceAdd, Nat.reduceSub, Nat.reduceLT, Nat.reduceLeDiff, Nat.reduceEqDiff, ↓reduceIte]
        refine .all _ _ (ca.gl _ 0 (by rfl) (by simp only [go_sem]) (by simp only [go_sem])) ?_
        simp (maxSteps := 4000000) -implicitDefEqProofs only [go_sem, z0, Option.some.injEq, forall_eq', and_true, true_and, Bool.not_true, Bool.not_false, decide_true, Nat.reduceAdd, Nat.reduceSub, Nat.reduceLT, Nat.reduceLeDiff, Nat.reduceEqDiff, ↓reduceIte]
        exact Wk.end1 (by simp only [go_sem]; rfl) (by simp only [go_sem]) (by simp only [go_sem])
      have d22 : decide ((b.length : Int) < at') = false := decide_eq_false t3
      have w20 : IntKind.i64.wrap ((b.length : Int) - at') = (b.length : Int) - at' := i64_in _ (by omega)
      by_cases t4 : (b.length : Int) - at' < n
      · have d23 : decide ((b.length : Int) - at' < n) = true := decide_eq_true t4
        simp (maxSteps := 4000000) -implicitDefEqProofs only [go_sem, z2, d8, d20, d21, d22, d23, w20, Option.some.injEq, forall_eq', and_true, true_and, Bool.not_true, Bool.not_false, decide_true, Nat.reduceAdd, Nat.reduceSub, Nat.reduceLT, Nat.reduceLeDiff, Nat.reduceEqDiff, ↓reduceIte]
        refine .all _ _ (ca.gl _ 0 (by rfl) (by simp only [go_sem]) (by simp only [go_sem])) ?_
        simp (maxSteps := 4000000) -implicitDefEqProofs only [go_sem, z0, Option.some.injEq, forall_eq', and_true, true_and, Bool.not_true, Bool.not_false, decide_true, Nat.reduceAdd, Nat.reduceSub, Nat.reduceLT, Nat.reduceLeDiff, Nat.reduceEqDiff, ↓reduceIte]
        exact Wk.end1 (by simp only [go_sem]; rfl) (by simp only [go_sem]) (by simp only [go_sem])
      have d23 : decide ((b.length : Int) - at' < n) = false := decide_eq_false t4
      obtain ⟨J, hJ⟩ : ∃ J : Nat, at' = (J : Int) := ⟨at'.toNat, by omega⟩
      obtain ⟨M, hM⟩ : ∃ M : Nat, n = (M : Int) := ⟨n.toNat, by omega⟩
      subst hJ
      subst hM
      have w21 : IntKind.i64.wrap ((J : Int) + M) = ((J + M : Nat) : Int) := by rw [i64_in _ (by omega)]; simp
      have eP : List.drop J (List.take (J + M) b) = (b.drop J).take M := by rw [List.drop_take]; congr 1; omega
      obtain ⟨Q, e1, e2, e3, e4, e5, _⟩ := makes_ok (b := b) (s := (b.drop J).take M) hB (fun e he => hB e (List.mem_of_mem_drop (List.mem_of_mem_take he))) hb (by rw [List.length_take]; have := List.length_drop (i := J) (l := b); omega)
      have k1 := make_dat hg b ((b.drop J).take M) hB (fun e he => hB e (List.mem_of_mem_drop (List.mem_of_mem_take he))) (by omega) (by rw [List.length_take]; have := List.length_drop (i := J) (l := b); omega)
      rw [e1] at k1
      have k2 := cost_own Q (by unfold Sm; omega)
      rw [costs_of (valid_of (by omega) fun q hq => (e3 q hq).1), e5] at k2
      have hx := lc_part b J M (by omega)
      generalize lc b ((b.drop J).take M) = Y at k2 hx
      generalize (b.drop J).take M = sl at k1 eP
      simp only at k1 k2
      have d24 : decide (Y ≤ 3) = true := decide_eq_true hx
      simp (maxSteps := 4000000) -implicitDefEqProofs only [go_sem, z2, d8, d20, d21, d22, d23, w20, w21, eP, Option.some.injEq, forall_eq', and_true, true_and, Bool.not_true, Bool.not_false, decide_true, Nat.reduceAdd, Nat.reduceSub, Nat.reduceLT, Nat.reduceLeDiff, Nat.reduceEqDiff, ↓reduceIte]
      refine ⟨by omega, .all _ _ (k1.gl _ 0 (by rfl) (by simp only [go_sem]) (by simp only [go_sem])) ?_⟩
      simp (maxSteps := 4000000) -implicitDefEqProofs only [go_sem, Nat.reduceAdd, Nat.reduceSub, Nat.reduceLT, Nat.reduceLeDiff, Nat.reduceEqDiff, ↓reduceIte]
      refine .all _ _ (k2.lift0 _ (by simp only [go_sem]) (by simp only [go_sem])) ?_
      simp (maxSteps := 4000000) -implicitDefEqProofs only [go_sem, z0, d24, Option.some.injEq, forall_eq', and_true, true_and, Bool.not_true, Bool.not_false, decide_true, Nat.reduceAdd, Nat.reduceSub, Nat.reduceLT, Nat.reduceLeDiff, Nat.reduceEqDiff, ↓reduceIte]
      refine .all _ _ (ca.gl _ 0 (by rfl) (by simp only [go_sem]) (by simp only [go_sem])) ?_
      simp (maxSteps := 4000000) -implicitDefEqProofs only [go_sem, z0, Option.some.injEq, forall_eq', and_true, true_and, Bool.not_true, Bool.not_false, decide_true, Nat.reduceAdd, Nat.reduceSub, Nat.reduceLT, Nat.reduceLeDiff, Nat.reduceEqDiff, ↓reduceIte]
      exact Wk.end1 (by simp only [go_sem]; rfl) (by simp only [go_sem]) (by simp only [go_sem])
theorem deltaLeastG {o : Obj} (hg : GlO o) (b s : List Int) (l : List Part) (at' n : Int) (hb : Sm b.length) (hs : Sm s.length) (hB : Bytes b) (hS : Bytes s) (hl : Sm l.length) (hlB : ∀ p ∈ l, Bytes p.data) :
    (∀ a ∈ [AV.d (.sl (b.map bY)), .d (.sl (s.map bY)), .d (.sl (l.map pD)), .d (.int .i64 at'), .d (.int .i64 n)], ∃ x, a = .d x ∧ nz x) ∧ Spec Try.prog 6 [.d (.sl (b.map bY)), .d (.sl (s.map bY)), .d (.sl (l.map pD)), .d (.int .i64 at'), .d (.int .i64 n)] [.obj 0 o] (.d (.bool true)) [.obj 0 o] := by
  refine ⟨?_, deltaLeast hg b s l at' n hb hs hB hS hl hlB⟩
  intro a ha
  simp only [List.mem_cons, List.not_mem_nil, or_false] at ha
  rcases ha with rfl | rfl | rfl | rfl | rfl
  · exact ⟨_, rfl, nz_bytes _⟩
  · exact ⟨_, rfl, nz_bytes _⟩
  · exact ⟨_, rfl, nz_parts _⟩
  · exact ⟨_, rfl, nz_int _ _⟩
  · exact ⟨_, rfl, nz_int _ _⟩
theorem int_of {n : Nat} {d : List D} (h : Tyd Try.prog (n + 1) 3 d) : ∃ i : Int, d = [.int .i64 i] ∧ True := by
  obtain ⟨i, rfl, _⟩ := h.int Ty.under_3
  exact ⟨i, rfl, trivial⟩
end Go.AX.De
namespace Go.Proofs.Ytmffhidhmbncbaa
open Go.AX Go.AX.De Go.RowKit
set_option maxRecDepth 100000 in
theorem deltaLeast_lifted (os : Os) (started : os.Started) (H : Type) (enc : TypeId × Value → H) :
    ReturnsInHanded {} Try.checked os 6 .any (Rows.deltaLeastSpec.pre6 enc Try.prog Try.f6 Rows.deltaLeastRow.domain false) (Rows.deltaLeastSpec.post enc Try.prog Try.f6 false true false false) := by
  refine Go.AX.liftedG (zero := #[.int .i64 0]) (ti := 3) (of_decide_eq_true (by kernel_rfl)) (by kernel_rfl) rfl (by kernel_rfl) (by kernel_rfl) Ty.under_3 (C := Try.checked) (f := 6) (fn := Try.f6) (s := Rows.deltaLeastSpec) (rt := 4) (n := 8) (by kernel_rfl) (by kernel_rfl) Try.func6 rfl ?_ rfl (by kernel_rfl) (by kernel_rfl) (by kernel_rfl) (by kernel_rfl) os started H enc
    (ChangeSpec.witness6 (enc := enc) (C := Try.checked) false ⟨#[], #[.slice none 0 0, .slice none 0 0, .slice none 0 0, .int .i64 0, .int .i64 0], []⟩ 8 (by kernel_rfl) (by kernel_rfl) (by kernel_rfl) (by kernel_rfl)) ?_
  · intro H ds h
    match ds, h with
    | [a0, a1, a2, a3, a4], _ => rfl
  · intro ob hg xs hx
    have hp : Try.f6.params.toList = [22, 22, 23, 3, 3] := rfl
    rw [hp] at hx ⊢
    have i0 : isA Try.prog 22 = false := by kernel_rfl
    have i1 : isA Try.prog 22 = false := by kernel_rfl
    have i2 : isA Try.prog 23 = false := by kernel_rfl
    have i3 : isA Try.prog 3 = false := by kernel_rfl
    have i4 : isA Try.prog 3 = false := by kernel_rfl
    rcases xs with _ | ⟨d0, _ | ⟨d1, _ | ⟨d2, _ | ⟨d3, _ | ⟨d4, _ | ⟨d5, xs⟩⟩⟩⟩⟩⟩ <;> simp only [Tyds, and_false] at hx
    obtain ⟨k0, k1, k2, k3, k4, _⟩ := hx
    obtain ⟨b, rfl, hb, wb⟩ := bytes_of k0
    obtain ⟨s, rfl, hs, ws⟩ := bytes_of k1
    obtain ⟨l, rfl, hl, wl⟩ := parts_of k2
    obtain ⟨a, rfl, ha⟩ := int_of k3
    obtain ⟨n, rfl, hn⟩ := int_of k4
    simp only [avs, i0, i1, i2, i3, i4, dv, Bool.false_eq_true, if_false, if_true, List.headD_cons, List.map_cons, List.map_nil]
    exact deltaLeastG hg b s l a n hb hs wb ws hl wl
theorem deltaLeast_over : Rows.deltaLeastRow.holds Try.pinned (OpenSpec.ofChange Rows.deltaLeastSpec) :=
  OpenClaim.holds_of_wide 6 Try.f6 rfl rfl rfl rfl rfl rfl rfl ⟨rfl, rfl, rfl, rfl, rfl⟩ rfl rfl rfl rfl rfl (by kernel_rfl) Try.func6 (by kernel_rfl)
    (of_decide_eq_true (by kernel_rfl)) (by unfold Func.isWrapper; first | (rw [if_pos (by decide +kernel)]; kernel_rfl) | (rw [if_neg (by decide +kernel)]; exact ⟨rfl, rfl⟩))
    (fun os started H enc _ => deltaLeast_lifted os started H enc)
/-- The row, under a short name, for the claim. -/
theorem deltaLeast_holds : Rows.DeltaLeastSaid := deltaLeast_over
#print axioms deltaLeast_holds
end Go.Proofs.Ytmffhidhmbncbaa

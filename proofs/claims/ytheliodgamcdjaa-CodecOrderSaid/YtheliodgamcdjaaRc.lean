/- The statement CodecOrder: Cmp is an order: opposite the other way about, 0 for the same values alone, and it goes on from a to b to c. No condition. -/
import Derived.Test.YtheliodgamcdjaaK9
import Derived.Test.YtheliodgamcdjaaRows
set_option maxHeartbeats 8000000
set_option linter.unusedVariables false
set_option linter.unusedSimpArgs false
set_option maxRecDepth 20000
namespace Go.AX.Co
open Go.Proofs Go.RowKit Go.IntWalk
theorem cmpP_fit {a b : Vl} (ha : (encP a).2 = 0) (hb : (encP b).2 = 0) : cmpP a b = (ordV a b, 0) := by
  unfold cmpP
  rw [if_neg (fun h => h ha), if_neg (fun h => h hb)]
theorem codecOrder (a b c : Vl) (ha : SmV a) (hb : SmV b) (hc : SmV c) : Spec Try.prog 7 [vA a, vA b, vA c] [] (.d (.bool true)) [] := by
  have g1 := fit_spec a ha
  have g2 := fit_spec b hb
  have g3 := fit_spec c hc
  have c0 := alive_spec
  have f1 := fitP_of ha
  have f2 := fitP_of hb
  have f3 := fitP_of hc
  generalize fitP a = fa at g1 f1
  generalize fitP b = fb at g2 f2
  generalize fitP c = fc at g3 f3
  have c1 := fun (ha : FitB a) (hb : FitB b) => cmp_own a b ha hb
  have c2 := fun (ha : FitB a) (hb : FitB b) => cmp_own b a hb ha
  have c3 := fun (hb : FitB b) (hc : FitB c) => cmp_own b c hb hc
  have c4 := fun (ha : FitB a) (hc : FitB c) => cmp_own a c ha hc
  have c5 := fun (ha : FitB a) => same_ref ha.fitW.fitV b
  have e1 := fun h h' => cmpP_fit (a := a) (b := b) h h'
  have e2 := fun h h' => cmpP_fit (a := b) (b := a) h h'
  have e3 := fun h h' => cmpP_fit (a := b) (b := c) h h'
  have e4 := fun h h' => cmpP_fit (a := a) (b := c) h h'
  have hs : sameV a b = decide (ordV a b = 0) := by
    rw [Bool.eq_iff_iff, sameV_eq, decide_eq_true_eq, zero_ordV]
  have hl := order_law a b c
  have hn := neg_ordV a b
  have r1 := rng_ordV a b
  have r2 := rng_ordV b c
  have r3 := rng_ordV a c
  unfold Rng at r1 r2 r3
  have b1 : (!true) = false := rfl
  have b2 : (!false) = true := rfl
  obtain ⟨ak, an, ab, al⟩ := a
  obtain ⟨bk, bn, bb, bl⟩ := b
  obtain ⟨ck, cn, cb, cl⟩ := c
  simp only [vA] at g1 g2 g3 c1 c2 c3 c4 c5
  refine spec_of_ev (fn := Try.f7) DX_ok 3000 Try.func7 rfl rfl (Nat.le_of_ble_eq_true rfl) ?_
  simp (maxSteps := 4000000) -implicitDefEqProofs only [Try.f7, go_sem, vA]
  refine .all _ _ (g1.lift0 _ (by simp only [go_sem]) (by simp only [go_sem])) ?_
  cases fa with
  | false =>
    simp (maxSteps := 4000000) -implicitDefEqProofs only [go_sem, b2, Option.some.injEq, forall_eq', and_true, true_and, Bool.not_true, Bool.not_false, decide_true, Nat.reduceAdd, Nat.reduceSub, Nat.reduceLT, Nat.reduceLeDiff, Nat.reduceEqDiff, ↓reduceIte]
    refine .all _ _ (c0.lift0 _ (by simp only [go_sem]) (by simp only [go_sem])) ?_
    simp (maxSteps := 4000000) -implicitDefEqProofs only [go_sem, Nat.reduceAdd, Nat.reduceSub, Nat.reduceLT, Nat.reduceLeDiff, Nat.reduceEqDiff, ↓reduceIte]
    exact wk_bool rfl
  | true =>
  simp (maxSteps := 4000000) -implicitDefEqProofs only [go_sem, b1, Option.some.injEq, forall_eq', and_true, true_and, Bool.not_true, Bool.not_false, decide_true, Nat.reduceAdd, Nat.reduceSub, Nat.reduceLT, Nat.reduceLeDiff, Nat.reduceEqDiff, ↓reduceIte]
  refine .all _ _ (g2.lift0 _ (by simp only [go_sem]) (by simp only [go_sem])) ?_
  cases fb with
  | false =>
    simp (maxSteps := 4000000) -implicitDefEqProofs only [go_sem, b2, Option.some.injEq, forall_eq', and_true, true_and, Bool.not_true, Bool.not_false, decide_true, Nat.reduceAdd, Nat.reduceSub, Nat.reduceLT, Nat.reduceLeDiff, Nat.reduceEqDiff, ↓reduceIte]
    refine .all _ _ (c0.lift0 _ (by simp only [go_sem]) (by simp only [go_sem])) ?_
    simp (maxSteps := 4000000) -implicitDefEqProofs only [go_sem, Nat.reduceAdd, Nat.reduceSub, Nat.reduceLT, Nat.reduceLeDiff, Nat.reduceEqDiff, ↓reduceIte]
    exact wk_bool rfl
  | true =>
  simp (maxSteps := 4000000) -implicitDefEqProofs only [go_sem, b1, Option.some.injEq, forall_eq', and_true, true_and, Bool.not_true, Bool.not_false, decide_true, Nat.reduceAdd, Nat.reduceSub, Nat.reduceLT, Nat.reduceLeDiff, Nat.reduceEqDiff, ↓reduceIte]
  refine .all _ _ (g3.lift0 _ (by simp only [go_sem]) (by simp only [go_sem])) ?_
  cases fc with
  | false =>
    simp (maxSteps := 4000000) -implicitDefEqProofs only [go_sem, b2, Option.some.injEq, forall_eq', and_true, true_and, Bool.not_true, Bool.not_false, decide_true, Nat.reduceAdd, Nat.reduceSub, Nat.reduceLT, Nat.reduceLeDiff, Nat.reduceEqDiff, ↓reduceIte]
    refine .all _ _ (c0.lift0 _ (by simp only [go_sem]) (by simp only [go_sem])) ?_
    simp (maxSteps := 4000000) -implicitDefEqProofs only [go_sem, Nat.reduceAdd, Nat.reduceSub, Nat.reduceLT, Nat.reduceLeDiff, Nat.reduceEqDiff, ↓reduceIte]
    exact wk_bool rfl
  | true =>
  have f1 := f1 rfl
  have f2 := f2 rfl
  have f3 := f3 rfl
  have c1 := c1 f1.1 f2.1
  have c2 := c2 f1.1 f2.1
  have c3 := c3 f2.1 f3.1
  have c4 := c4 f1.1 f3.1
  have c5 := c5 f1.1
  rw [e1 f1.2 f2.2] at c1
  rw [e2 f2.2 f1.2, hn] at c2
  rw [e3 f2.2 f3.2] at c3
  rw [e4 f1.2 f3.2] at c4
  rw [hs] at c5
  clear e1 e2 e3 e4 hs hn f1 f2 f3
  generalize ordV (.mk ak an ab al) (.mk bk bn bb bl) = X at c1 c2 c5 hl r1
  generalize ordV (.mk bk bn bb bl) (.mk ck cn cb cl) = Z at c3 hl r2
  generalize ordV (.mk ak an ab al) (.mk ck cn cb cl) = W at c4 hl r3
  have z0 : ((0 : Int) != 0) = false := rfl
  have w1 : IntKind.i64.wrap (0 - -X) = X := by rw [i64_in _ (by omega)]; omega
  have xx : (X != X) = false := by simp
  have x0 : (X == 0) = decide (X = 0) := by rw [Bool.eq_iff_iff]; simp
  have zz0 : (Z == 0) = decide (Z = 0) := by rw [Bool.eq_iff_iff]; simp
  generalize hB : decide (X = 0) = B at c5 x0
  have bb : (B != B) = false := by simp
  simp (maxSteps := 4000000) -implicitDefEqProofs only [go_sem, b1, Option.some.injEq, forall_eq', and_true, true_and, Bool.not_true, Bool.not_false, decide_true, Nat.reduceAdd, Nat.reduceSub, Nat.reduceLT, Nat.reduceLeDiff, Nat.reduceEqDiff, ↓reduceIte]
  refine .all _ _ (c1.lift0 _ (by simp only [go_sem]) (by simp only [go_sem])) ?_
  simp (maxSteps := 4000000) -implicitDefEqProofs only [go_sem, Nat.reduceAdd, Nat.reduceSub, Nat.reduceLT, Nat.reduceLeDiff, Nat.reduceEqDiff, ↓reduceIte]
  refine .all _ _ (c2.lift0 _ (by simp only [go_sem]) (by simp only [go_sem])) ?_
  simp (maxSteps := 4000000) -implicitDefEqProofs only [go_sem, Nat.reduceAdd, Nat.reduceSub, Nat.reduceLT, Nat.reduceLeDiff, Nat.reduceEqDiff, ↓reduceIte]
  refine .all _ _ (c3.lift0 _ (by simp only [go_sem]) (by simp only [go_sem])) ?_
  simp (maxSteps := 4000000) -implicitDefEqProofs only [go_sem, Nat.reduceAdd, Nat.reduceSub, Nat.reduceLT, Nat.reduceLeDiff, Nat.reduceEqDiff, ↓reduceIte]
  refine .all _ _ (c4.lift0 _ (by simp only [go_sem]) (by simp only [go_sem])) ?_
  simp (maxSteps := 4000000) -implicitDefEqProofs only [go_sem, z0, w1, xx, x0, Option.some.injEq, forall_eq', and_true, true_and, Bool.not_true, Bool.not_false, decide_true, Nat.reduceAdd, Nat.reduceSub, Nat.reduceLT, Nat.reduceLeDiff, Nat.reduceEqDiff, ↓reduceIte]
  refine .all _ _ (c5.lift0 _ (by simp only [go_sem]) (by simp only [go_sem])) ?_
  by_cases p1 : 0 < X
  · have d1 : decide (0 < X) = true := decide_eq_true p1
    simp (maxSteps := 4000000) -implicitDefEqProofs only [go_sem, bb, d1, Option.some.injEq, forall_eq', and_true, true_and, Bool.not_true, Bool.not_false, decide_true, Nat.reduceAdd, Nat.reduceSub, Nat.reduceLT, Nat.reduceLeDiff, Nat.reduceEqDiff, ↓reduceIte]
    refine .all _ _ (c0.lift0 _ (by simp only [go_sem]) (by simp only [go_sem])) ?_
    simp (maxSteps := 4000000) -implicitDefEqProofs only [go_sem, Nat.reduceAdd, Nat.reduceSub, Nat.reduceLT, Nat.reduceLeDiff, Nat.reduceEqDiff, ↓reduceIte]
    exact wk_bool rfl
  have d1 : decide (0 < X) = false := decide_eq_false p1
  by_cases p2 : 0 < Z
  · have d2 : decide (0 < Z) = true := decide_eq_true p2
    simp (maxSteps := 4000000) -implicitDefEqProofs only [go_sem, bb, d1, d2, Option.some.injEq, forall_eq', and_true, true_and, Bool.not_true, Bool.not_false, decide_true, Nat.reduceAdd, Nat.reduceSub, Nat.reduceLT, Nat.reduceLeDiff, Nat.reduceEqDiff, ↓reduceIte]
    refine .all _ _ (c0.lift0 _ (by simp only [go_sem]) (by simp only [go_sem])) ?_
    simp (maxSteps := 4000000) -implicitDefEqProofs only [go_sem, Nat.reduceAdd, Nat.reduceSub, Nat.reduceLT, Nat.reduceLeDiff, Nat.reduceEqDiff, ↓reduceIte]
    exact wk_bool rfl
  have d2 : decide (0 < Z) = false := decide_eq_false p2
  have hl : W ≤ 0 ∧ (W < 0 ∨ (X = 0 ∧ Z = 0)) := by rcases hl with h | h | h; exact absurd h p1; exact absurd h p2; exact h
  have d3 : decide (W ≤ 0) = true := decide_eq_true hl.1
  by_cases p4 : W < 0
  · have d4 : decide (W < 0) = true := decide_eq_true p4
    simp (maxSteps := 4000000) -implicitDefEqProofs only [go_sem, bb, d1, d2, d3, d4, Option.some.injEq, forall_eq', and_true, true_and, Bool.not_true, Bool.not_false, decide_true, Nat.reduceAdd, Nat.reduceSub, Nat.reduceLT, Nat.reduceLeDiff, Nat.reduceEqDiff, ↓reduceIte]
    refine .all _ _ (c0.lift0 _ (by simp only [go_sem]) (by simp only [go_sem])) ?_
    simp (maxSteps := 4000000) -implicitDefEqProofs only [go_sem, Nat.reduceAdd, Nat.reduceSub, Nat.reduceLT, Nat.reduceLeDiff, Nat.reduceEqDiff, ↓reduceIte]
    exact wk_bool rfl
  have d4 : decide (W < 0) = false := decide_eq_false p4
  have hl2 : X = 0 ∧ Z = 0 := hl.2.resolve_left p4
  have x1 : B = true := by rw [← hB]; exact decide_eq_true hl2.1
  have x2 : (Z == 0) = true := by rw [zz0]; exact decide_eq_true hl2.2
  rw [x1] at x0 bb
  rw [x1]
  simp (maxSteps := 4000000) -implicitDefEqProofs only [go_sem, bb, d1, d2, d3, d4, x0, x2, Option.some.injEq, forall_eq', and_true, true_and, Bool.not_true, Bool.not_false, decide_true, Nat.reduceAdd, Nat.reduceSub, Nat.reduceLT, Nat.reduceLeDiff, Nat.reduceEqDiff, ↓reduceIte]
  refine .all _ _ (c0.lift0 _ (by simp only [go_sem]) (by simp only [go_sem])) ?_
  simp (maxSteps := 4000000) -implicitDefEqProofs only [go_sem, Nat.reduceAdd, Nat.reduceSub, Nat.reduceLT, Nat.reduceLeDiff, Nat.reduceEqDiff, ↓reduceIte]
  exact wk_bool rfl
end Go.AX.Co
namespace Go.Proofs.Ytheliodgamcdjaa
open Go.AX Go.AX.Co Go.RowKit
set_option maxRecDepth 100000 in
theorem codecOrder_lifted (os : Os) (started : os.Started) (H : Type) (enc : TypeId × Value → H) :
    ReturnsInHanded {} Try.checked os 7 .any (Rows.codecOrderSpec.pre6 enc Try.prog Try.f7 Rows.codecOrderRow.domain false) (Rows.codecOrderSpec.post enc Try.prog Try.f7 false true false false) := by
  refine Go.AX.liftedR (C := Try.checked) (f := 7) (fn := Try.f7) (s := Rows.codecOrderSpec) (rt := 4) [5, 2, 22, 25, 23, 3] (by kernel_rfl) (by kernel_rfl) Try.func7 rfl ?_ rfl (by kernel_rfl) (by kernel_rfl) (by kernel_rfl) (by kernel_rfl) (by kernel_rfl) os started H enc
    (ChangeSpec.witness6 (enc := enc) (C := Try.checked) false ⟨#[], #[.agg #[.int .u8 0, .int .i64 0, .slice none 0 0, .slice none 0 0], .agg #[.int .u8 0, .int .i64 0, .slice none 0 0, .slice none 0 0], .agg #[.int .u8 0, .int .i64 0, .slice none 0 0, .slice none 0 0]], []⟩ 8 (by kernel_rfl) (by kernel_rfl) (by kernel_rfl) (by kernel_rfl)) ?_
  · intro H ds h
    match ds, h with
    | [a0, a1, a2], _ => rfl
  · intro xs hx
    have hp : Try.f7.params.toList = [25, 25, 25] := rfl
    rw [hp] at hx ⊢
    have i0 : isA Try.prog 25 = true := by kernel_rfl
    have i1 : isA Try.prog 25 = true := by kernel_rfl
    have i2 : isA Try.prog 25 = true := by kernel_rfl
    rcases xs with _ | ⟨d0, _ | ⟨d1, _ | ⟨d2, _ | ⟨d3, xs⟩⟩⟩⟩ <;> simp only [TydsX, and_false] at hx
    obtain ⟨⟨n0, k0⟩, ⟨n1, k1⟩, ⟨n2, k2⟩, _⟩ := hx
    obtain ⟨a, rfl, ha⟩ := value_of _ k0
    obtain ⟨b, rfl, hb⟩ := value_of _ k1
    obtain ⟨c, rfl, hc⟩ := value_of _ k2
    simp only [avs, i0, i1, i2, dv, Bool.false_eq_true, if_false, if_true, List.headD_cons, List.map_cons, List.map_nil, agg_vD]
    exact codecOrder a b c ha hb hc
theorem codecOrder_over : Rows.codecOrderRow.holds Try.pinned (OpenSpec.ofChange Rows.codecOrderSpec) :=
  OpenClaim.holds_of_wide 7 Try.f7 rfl rfl rfl rfl rfl rfl rfl ⟨rfl, rfl, rfl, rfl, rfl⟩ rfl rfl rfl rfl rfl (by kernel_rfl) Try.func7 (by kernel_rfl)
    (of_decide_eq_true (by kernel_rfl)) (by unfold Func.isWrapper; first | (rw [if_pos (by decide +kernel)]; kernel_rfl) | (rw [if_neg (by decide +kernel)]; exact ⟨rfl, rfl⟩))
    (fun os started H enc _ => codecOrder_lifted os started H enc)
/-- The row, under a short name, for the claim. -/
theorem codecOrder_holds : Rows.CodecOrderSaid := codecOrder_over
#print axioms codecOrder_holds
end Go.Proofs.Ytheliodgamcdjaa

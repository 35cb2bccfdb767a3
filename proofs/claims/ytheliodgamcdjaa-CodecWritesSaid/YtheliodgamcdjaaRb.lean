/- The statement CodecWrites: Check, Size, Encode and Cmp return the reference's results and errors for any values. No condition. -/
import Derived.Test.YtheliodgamcdjaaK9
import Derived.Test.YtheliodgamcdjaaRows
set_option maxHeartbeats 8000000
set_option linter.unusedVariables false
set_option linter.unusedSimpArgs false
set_option maxRecDepth 20000
namespace Go.AX.Co
open Go.Proofs Go.RowKit Go.IntWalk
theorem enc_len {v : Vl} : (encP v).1.length ≤ 3000 := by
  rw [encP_eq]
  split
  · simp
  split
  · simp
  · show (encV v).length ≤ 3000; omega
theorem codecWrites (a b : Vl) (ha : SmV a) (hb : SmV b) : Spec Try.prog 4 [vA a, vA b] [] (.d (.bool true)) [] := by
  have g1 := great_ref ha
  have g2 := great_ref hb
  have f1 := fit_great ha
  have f2 := fit_great hb
  generalize grV a = ga at g1 f1
  generalize grV b = gb at g2 f2
  have c1 := size_own a
  have c2 := size_ref a
  have c3 := encode_own a
  have c4 := encode_ref a
  have c5 := cmp_own a b
  have c6 := cmp_ref a b
  have c7 := check_own a
  have c8 := check_ref a
  have hl := enc_len (v := a)
  have c9 := sameBytes_ref (encP a).1 (encP a).1 (by unfold Sm; omega)
  rw [decide_eq_true rfl] at c9
  have w1 := fun h : FitB a => h.fitW
  have w2 := fun h : FitB b => h.fitW
  generalize encP a = E at c1 c2 c3 c4 c7 c8 c9
  generalize cmpP a b = M at c5 c6
  have b1 : ∀ n : Int, (n == n) = true := fun n => by simp
  obtain ⟨k, n, bb, l⟩ := a
  obtain ⟨k', n', b', l'⟩ := b
  simp only [vA] at g1 g2 c1 c2 c3 c4 c5 c6 c7 c8
  refine spec_of_ev (fn := Try.f4) DX_ok 3000 Try.func4 rfl rfl (Nat.le_of_ble_eq_true rfl) ?_
  simp (maxSteps := 4000000) -implicitDefEqProofs only [Try.f4, go_sem, vA]
  refine .all _ _ (g1.lift0 _ (by simp only [go_sem]) (by simp only [go_sem])) ?_
  cases ga with
  | true =>
    simp (maxSteps := 4000000) -implicitDefEqProofs only [go_sem, Nat.reduceAdd, Nat.reduceSub, Nat.reduceLT, Nat.reduceLeDiff, Nat.reduceEqDiff, ↓reduceIte]
    exact wk_bool rfl
  | false =>
  simp (maxSteps := 4000000) -implicitDefEqProofs only [go_sem, Nat.reduceAdd, Nat.reduceSub, Nat.reduceLT, Nat.reduceLeDiff, Nat.reduceEqDiff, ↓reduceIte]
  refine .all _ _ (g2.lift0 _ (by simp only [go_sem]) (by simp only [go_sem])) ?_
  cases gb with
  | true =>
    simp (maxSteps := 4000000) -implicitDefEqProofs only [go_sem, Nat.reduceAdd, Nat.reduceSub, Nat.reduceLT, Nat.reduceLeDiff, Nat.reduceEqDiff, ↓reduceIte]
    exact wk_bool rfl
  | false =>
  have fa := f1 rfl
  have fb := f2 rfl
  have c1 := c1 (w1 fa)
  have c2 := c2 (w1 fa)
  have c3 := c3 (w1 fa)
  have c4 := c4 (w1 fa)
  have c5 := c5 fa fb
  have c6 := c6 fa fb
  have c7 := c7 (w1 fa)
  have c8 := c8 (w1 fa)
  clear f1 f2 w1 w2
  simp (maxSteps := 4000000) -implicitDefEqProofs only [go_sem, Nat.reduceAdd, Nat.reduceSub, Nat.reduceLT, Nat.reduceLeDiff, Nat.reduceEqDiff, ↓reduceIte]
  refine .all _ _ (c1.lift0 _ (by simp only [go_sem]) (by simp only [go_sem])) ?_
  simp (maxSteps := 4000000) -implicitDefEqProofs only [go_sem, Nat.reduceAdd, Nat.reduceSub, Nat.reduceLT, Nat.reduceLeDiff, Nat.reduceEqDiff, ↓reduceIte]
  refine .all _ _ (c2.lift0 _ (by simp only [go_sem]) (by simp only [go_sem])) ?_
  simp (maxSteps := 4000000) -implicitDefEqProofs only [go_sem, Nat.reduceAdd, Nat.reduceSub, Nat.reduceLT, Nat.reduceLeDiff, Nat.reduceEqDiff, ↓reduceIte]
  refine .all _ _ (c3.lift0 _ (by simp only [go_sem]) (by simp only [go_sem])) ?_
  simp (maxSteps := 4000000) -implicitDefEqProofs only [go_sem, Nat.reduceAdd, Nat.reduceSub, Nat.reduceLT, Nat.reduceLeDiff, Nat.reduceEqDiff, ↓reduceIte]
  refine .all _ _ (c4.lift0 _ (by simp only [go_sem]) (by simp only [go_sem])) ?_
  simp (maxSteps := 4000000) -implicitDefEqProofs only [go_sem, Nat.reduceAdd, Nat.reduceSub, Nat.reduceLT, Nat.reduceLeDiff, Nat.reduceEqDiff, ↓reduceIte]
  refine .all _ _ (c5.lift0 _ (by simp only [go_sem]) (by simp only [go_sem])) ?_
  simp (maxSteps := 4000000) -implicitDefEqProofs only [go_sem, Nat.reduceAdd, Nat.reduceSub, Nat.reduceLT, Nat.reduceLeDiff, Nat.reduceEqDiff, ↓reduceIte]
  refine .all _ _ (c6.lift0 _ (by simp only [go_sem]) (by simp only [go_sem])) ?_
  simp (maxSteps := 4000000) -implicitDefEqProofs only [go_sem, Nat.reduceAdd, Nat.reduceSub, Nat.reduceLT, Nat.reduceLeDiff, Nat.reduceEqDiff, ↓reduceIte]
  refine DX.plain (.take 0 false (.take 1 false (.take 2 false (.take 3 false (.take 4 false (.take 5 false (.take 6 false (.take 7 false (.take 8 false (.take 9 false (.take 10 false (.take 11 false (.take 12 false (.take 13 false (.take 14 false (.take 15 false (.take 16 false (.take 17 false (.take 18 false (.take 19 false (.take 20 false (.take 21 false (.take 22 false (.take 23 false (.take 24 false (.take 25 false (.take 26 false (.take 27 false (.take 28 false (.take 29 false (.take 30 false (.take 31 false (.take 32 false (.take 33 false (.take 34 false (.take 35 false .done)))))))))))))))))))))))))))))))))))) (by kernel_rfl) (by kernel_rfl) Ty.mixed ?_
  simp (maxSteps := 4000000) -implicitDefEqProofs only [go_sem, b1, Option.some.injEq, forall_eq', and_true, true_and, Bool.not_true, Bool.not_false, decide_true, Nat.reduceAdd, Nat.reduceSub, Nat.reduceLT, Nat.reduceLeDiff, Nat.reduceEqDiff, ↓reduceIte]
  refine ⟨_, _, c7.lift0 _ (by simp only [go_sem]) (by simp only [go_sem]), rfl, ?_⟩
  refine ⟨_, _, c8.lift0 _ (by simp only [go_sem]) (by simp only [go_sem]), rfl, ?_⟩
  simp (maxSteps := 4000000) -implicitDefEqProofs only [go_sem, b1, Option.some.injEq, forall_eq', and_true, true_and, Bool.not_true, Bool.not_false, decide_true, Nat.reduceAdd, Nat.reduceSub, Nat.reduceLT, Nat.reduceLeDiff, Nat.reduceEqDiff, ↓reduceIte]
  refine ⟨_, _, c9.lift0 _ (by simp only [go_sem]) (by simp only [go_sem]), rfl, ?_⟩
  simp (maxSteps := 4000000) -implicitDefEqProofs only [go_sem, b1, Option.some.injEq, forall_eq', and_true, true_and, Bool.not_true, Bool.not_false, decide_true, Nat.reduceAdd, Nat.reduceSub, Nat.reduceLT, Nat.reduceLeDiff, Nat.reduceEqDiff, ↓reduceIte]
  exact wk_bool rfl
end Go.AX.Co
namespace Go.Proofs.Ytheliodgamcdjaa
open Go.AX Go.AX.Co Go.RowKit
set_option maxRecDepth 100000 in
theorem codecWrites_lifted (os : Os) (started : os.Started) (H : Type) (enc : TypeId × Value → H) :
    ReturnsInHanded {} Try.checked os 4 .any (Rows.codecWritesSpec.pre6 enc Try.prog Try.f4 Rows.codecWritesRow.domain false) (Rows.codecWritesSpec.post enc Try.prog Try.f4 false true false false) := by
  refine Go.AX.liftedR (C := Try.checked) (f := 4) (fn := Try.f4) (s := Rows.codecWritesSpec) (rt := 4) [5, 2, 22, 25, 23, 3] (by kernel_rfl) (by kernel_rfl) Try.func4 rfl ?_ rfl (by kernel_rfl) (by kernel_rfl) (by kernel_rfl) (by kernel_rfl) (by kernel_rfl) os started H enc
    (ChangeSpec.witness6 (enc := enc) (C := Try.checked) false ⟨#[], #[.agg #[.int .u8 0, .int .i64 0, .slice none 0 0, .slice none 0 0], .agg #[.int .u8 0, .int .i64 0, .slice none 0 0, .slice none 0 0]], []⟩ 8 (by kernel_rfl) (by kernel_rfl) (by kernel_rfl) (by kernel_rfl)) ?_
  · intro H ds h
    match ds, h with
    | [a0, a1], _ => rfl
  · intro xs hx
    have hp : Try.f4.params.toList = [25, 25] := rfl
    rw [hp] at hx ⊢
    have i0 : isA Try.prog 25 = true := by kernel_rfl
    have i1 : isA Try.prog 25 = true := by kernel_rfl
    rcases xs with _ | ⟨d0, _ | ⟨d1, _ | ⟨d2, xs⟩⟩⟩ <;> simp only [TydsX, and_false] at hx
    obtain ⟨⟨n0, k0⟩, ⟨n1, k1⟩, _⟩ := hx
    obtain ⟨a, rfl, ha⟩ := value_of _ k0
    obtain ⟨b, rfl, hb⟩ := value_of _ k1
    simp only [avs, i0, i1, dv, Bool.false_eq_true, if_false, if_true, List.headD_cons, List.map_cons, List.map_nil, agg_vD]
    exact codecWrites a b ha hb
theorem codecWrites_over : Rows.codecWritesRow.holds Try.pinned (OpenSpec.ofChange Rows.codecWritesSpec) :=
  OpenClaim.holds_of_wide 4 Try.f4 rfl rfl rfl rfl rfl rfl rfl ⟨rfl, rfl, rfl, rfl, rfl⟩ rfl rfl rfl rfl rfl (by kernel_rfl) Try.func4 (by kernel_rfl)
    (of_decide_eq_true (by kernel_rfl)) (by unfold Func.isWrapper; first | (rw [if_pos (by decide +kernel)]; kernel_rfl) | (rw [if_neg (by decide +kernel)]; exact ⟨rfl, rfl⟩))
    (fun os started H enc _ => codecWrites_lifted os started H enc)
/-- The row, under a short name, for the claim. -/
theorem codecWrites_holds : Rows.CodecWritesSaid := codecWrites_over
#print axioms codecWrites_holds
end Go.Proofs.Ytheliodgamcdjaa

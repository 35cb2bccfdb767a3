/- The statement CodecOne: there is one encoding for each value. No condition. -/
import Derived.Test.YtheliodgamcdjaaK9
import Derived.Test.YtheliodgamcdjaaRows
set_option maxHeartbeats 8000000
set_option linter.unusedVariables false
set_option linter.unusedSimpArgs false
set_option maxRecDepth 20000
namespace Go.AX.Co
open Go.Proofs Go.RowKit Go.IntWalk
theorem starts_same {v w : Vl} (hv : FitW v) (hw : FitW w) (h1 : (encP v).2 = 0) (h2 : (encP w).2 = 0) (h : stP (encP v).1 (encP w).1 = true) : v = w := by
  unfold stP at h
  simp only [Bool.and_eq_true, decide_eq_true_eq] at h
  have e1 := (dec_enc hv h1).2 []
  have e2 := (dec_enc hw h2).2 ((encP v).1.drop (encP w).1.length)
  have e3 := List.take_append_drop (encP w).1.length (encP v).1
  rw [h.2] at e3
  rw [e3] at e2
  rw [List.append_nil, e2] at e1
  exact (Prod.mk.inj e1).1.symm
theorem codecOne (v w : Vl) (b : List Int) (hv : SmV v) (hw : SmV w) (hb : Sm b.length) (hB : Bytes b) : Spec Try.prog 5 [vA v, vA w, .d (.sl (b.map bY))] [] (.d (.bool true)) [] := by
  unfold Sm at hb
  have g1 := fit_spec v hv
  have g2 := fit_spec w hw
  have c0 := alive_spec
  have f1 := fitP_of hv
  have f2 := fitP_of hw
  generalize fitP v = fv at g1 f1
  generalize fitP w = fw at g2 f2
  have c1 := fun (h : FitB v) => encode_own v h.fitW
  have c2 := fun (h : FitB w) => encode_own w h.fitW
  have l1 := enc_len' v
  have l2 := enc_len' w
  have c4 := fun (h : FitB v) => same_refl h.fitW.fitV
  have c5 := fun (h : FitB v) => same_ref h.fitW.fitV w
  have c6 := starts_ref (encP v).1 (encP w).1 (by omega)
  have c7 := starts_ref (encP w).1 (encP v).1 (by omega)
  have q1 := fun (h : FitB v) h' => (dec_enc h.fitW h').1
  have q2 := fun (h : FitB v) (k : FitB w) h1 h2 => starts_same h.fitW k.fitW h1 h2
  have q3 := fun (h : FitB v) (k : FitB w) h1 h2 => starts_same k.fitW h.fitW h2 h1
  have qb : FitB v → (encP v).2 = 0 → Bytes (encP v).1 := fun h _ => enc_bytes h
  have qs := sameV_eq v w
  generalize sameV v w = S at c5 qs
  generalize encP v = E at c1 c6 c7 l1 q1 q2 q3 f1 qb
  generalize encP w = F at c2 c6 c7 l2 q2 q3 f2
  generalize stP E.1 F.1 = S1 at c6 q2
  generalize stP F.1 E.1 = S2 at c7 q3
  have b1 : (!true) = false := rfl
  have b2 : (!false) = true := rfl
  have z0 : ((0 : Int) != 0) = false := rfl
  have z00 : ((0 : Int) == 0) = true := rfl
  have d1 : decide (3000 < (b.length : Int)) = decide (3000 < b.length) := by rw [Bool.eq_iff_iff]; simp; omega
  have k1 := fun h : b.length ≤ 3000 => decode_own b (by omega) hB
  have k2 := dec_code (b := b)
  have k3 := fun (h : b.length ≤ 3000) => enc_dec (b := b) hB (by omega)
  have k4 := fun (h : b.length ≤ 3000) => decP_fit (b := b) (by omega) hB
  have k5 := fun (h : b.length ≤ 3000) => encode_own (decP b).1 (decP_fit (b := b) (by omega) hB)
  have k6 := fun (h : b.length ≤ 3000) => check_ref (decP b).1 (decP_fit (b := b) (by omega) hB)
  have k7 := fun (h : b.length ≤ 3000) => sameBytes_ref b b (by unfold Sm; omega)
  generalize decP b = D at k1 k2 k3 k4 k5 k6
  have qd := fun (h : E.1.length ≤ 3000) (hB : Bytes E.1) => decode_own E.1 (by omega) hB
  obtain ⟨vk, vn, vb, vl⟩ := v
  obtain ⟨wk, wn, wb, wl⟩ := w
  simp only [vA] at g1 g2 c1 c2 c4 c5
  refine spec_of_ev (fn := Try.f5) DX_ok 3000 Try.func5 rfl rfl (Nat.le_of_ble_eq_true rfl) ?_
  simp (maxSteps := 4000000) -implicitDefEqProofs only [Try.f5, go_sem, vA]
  refine .all _ _ (g1.lift0 _ (by simp only [go_sem]) (by simp only [go_sem])) ?_
  cases fv with
  | false =>
    simp (maxSteps := 4000000) -implicitDefEqProofs only [go_sem, b2, Option.some.injEq, forall_eq', and_true, true_and, Bool.not_true, Bool.not_false, decide_true, Nat.reduceAdd, Nat.reduceSub, Nat.reduceLT, Nat.reduceLeDiff, Nat.reduceEqDiff, ↓reduceIte]
    refine .all _ _ (c0.lift0 _ (by simp only [go_sem]) (by simp only [go_sem])) ?_
    simp (maxSteps := 4000000) -implicitDefEqProofs only [go_sem, Nat.reduceAdd, Nat.reduceSub, Nat.reduceLT, Nat.reduceLeDiff, Nat.reduceEqDiff, ↓reduceIte]
    exact wk_bool rfl
  | true =>
  simp (maxSteps := 4000000) -implicitDefEqProofs only [go_sem, b1, Option.some.injEq, forall_eq', and_true, true_and, Bool.not_true, Bool.not_false, decide_true, Nat.reduceAdd, Nat.reduceSub, Nat.reduceLT, Nat.reduceLeDiff, Nat.reduceEqDiff, ↓reduceIte]
  refine .all _ _ (g2.lift0 _ (by simp only [go_sem]) (by simp only [go_sem])) ?_
  cases fw with
  | false =>
    simp (maxSteps := 4000000) -implicitDefEqProofs only [go_sem, b2, Option.some.injEq, forall_eq', and_true, true_and, Bool.not_true, Bool.not_false, decide_true, Nat.reduceAdd, Nat.reduceSub, Nat.reduceLT, Nat.reduceLeDiff, Nat.reduceEqDiff, ↓reduceIte]
    refine .all _ _ (c0.lift0 _ (by simp only [go_sem]) (by simp only [go_sem])) ?_
    simp (maxSteps := 4000000) -implicitDefEqProofs only [go_sem, Nat.reduceAdd, Nat.reduceSub, Nat.reduceLT, Nat.reduceLeDiff, Nat.reduceEqDiff, ↓reduceIte]
    exact wk_bool rfl
  | true =>
  have f1 := f1 rfl
  have f2 := f2 rfl
  by_cases hl : 3000 < b.length
  · rw [decide_eq_true hl] at d1
    simp (maxSteps := 4000000) -implicitDefEqProofs only [go_sem, b1, d1, Option.some.injEq, forall_eq', and_true, true_and, Bool.not_true, Bool.not_false, decide_true, Nat.reduceAdd, Nat.reduceSub, Nat.reduceLT, Nat.reduceLeDiff, Nat.reduceEqDiff, ↓reduceIte]
    refine .all _ _ (c0.lift0 _ (by simp only [go_sem]) (by simp only [go_sem])) ?_
    simp (maxSteps := 4000000) -implicitDefEqProofs only [go_sem, Nat.reduceAdd, Nat.reduceSub, Nat.reduceLT, Nat.reduceLeDiff, Nat.reduceEqDiff, ↓reduceIte]
    exact wk_bool rfl
  rw [decide_eq_false hl] at d1
  have hl' : b.length ≤ 3000 := by omega
  have c1 := c1 f1.1
  have c2 := c2 f2.1
  have c3 := qd l1 (qb f1.1 f1.2)
  rw [q1 f1.1 f1.2] at c3
  have c4 := c4 f1.1
  have c5 := c5 f1.1
  rw [f1.2] at c1
  rw [f2.2] at c2
  have q2 := q2 f1.1 f2.1 f1.2 f2.2
  have q3 := q3 f1.1 f2.1 f1.2 f2.2
  simp only [vA] at c3
  simp (maxSteps := 4000000) -implicitDefEqProofs only [go_sem, b1, d1, Option.some.injEq, forall_eq', and_true, true_and, Bool.not_true, Bool.not_false, decide_true, Nat.reduceAdd, Nat.reduceSub, Nat.reduceLT, Nat.reduceLeDiff, Nat.reduceEqDiff, ↓reduceIte]
  refine .all _ _ (c1.lift0 _ (by simp only [go_sem]) (by simp only [go_sem])) ?_
  simp (maxSteps := 4000000) -implicitDefEqProofs only [go_sem, Nat.reduceAdd, Nat.reduceSub, Nat.reduceLT, Nat.reduceLeDiff, Nat.reduceEqDiff, ↓reduceIte]
  refine .all _ _ (c2.lift0 _ (by simp only [go_sem]) (by simp only [go_sem])) ?_
  simp (maxSteps := 4000000) -implicitDefEqProofs only [go_sem, Nat.reduceAdd, Nat.reduceSub, Nat.reduceLT, Nat.reduceLeDiff, Nat.reduceEqDiff, ↓reduceIte]
  refine .all _ _ (c3.lift0 _ (by simp only [go_sem]) (by simp only [go_sem])) ?_
  simp (maxSteps := 4000000) -implicitDefEqProofs only [go_sem, z0, Option.some.injEq, forall_eq', and_true, true_and, Bool.not_true, Bool.not_false, decide_true, Nat.reduceAdd, Nat.reduceSub, Nat.reduceLT, Nat.reduceLeDiff, Nat.reduceEqDiff, ↓reduceIte]
  refine .all _ _ (c4.lift0 _ (by simp only [go_sem]) (by simp only [go_sem])) ?_
  simp (maxSteps := 4000000) -implicitDefEqProofs only [go_sem, b1, Option.some.injEq, forall_eq', and_true, true_and, Bool.not_true, Bool.not_false, decide_true, Nat.reduceAdd, Nat.reduceSub, Nat.reduceLT, Nat.reduceLeDiff, Nat.reduceEqDiff, ↓reduceIte]
  refine .all _ _ (c5.lift0 _ (by simp only [go_sem]) (by simp only [go_sem])) ?_
  have hS : S = true ∨ (S = false ∧ S1 = false ∧ S2 = false) := by
    cases S with
    | true => exact .inl rfl
    | false =>
      refine .inr ⟨rfl, ?_, ?_⟩
      · cases S1 with
        | false => rfl
        | true => exact absurd (qs.2 (q2 rfl)) (by simp)
      · cases S2 with
        | false => rfl
        | true => exact absurd (qs.2 (q3 rfl).symm) (by simp)
  have k1 := k1 hl'
  have k3 := k3 hl'
  have k4 := k4 hl'
  have k5 := k5 hl'
  have k6 := k6 hl'
  have k7 := k7 hl'
  rw [decide_eq_true rfl] at k7
  apply Or.elim hS
  case' left =>
    intro h
    rw [h]
    simp (maxSteps := 4000000) -implicitDefEqProofs only [go_sem, b1, Option.some.injEq, forall_eq', and_true, true_and, Bool.not_true, Bool.not_false, decide_true, Nat.reduceAdd, Nat.reduceSub, Nat.reduceLT, Nat.reduceLeDiff, Nat.reduceEqDiff, ↓reduceIte]
  case' right =>
    intro h
    rw [h.1]
    rw [h.2.1] at c6
    rw [h.2.2] at c7
    simp (maxSteps := 4000000) -implicitDefEqProofs only [go_sem, b2, Option.some.injEq, forall_eq', and_true, true_and, Bool.not_true, Bool.not_false, decide_true, Nat.reduceAdd, Nat.reduceSub, Nat.reduceLT, Nat.reduceLeDiff, Nat.reduceEqDiff, ↓reduceIte]
    refine .all _ _ (c6.lift0 _ (by simp only [go_sem]) (by simp only [go_sem])) ?_
    simp (maxSteps := 4000000) -implicitDefEqProofs only [go_sem, Nat.reduceAdd, Nat.reduceSub, Nat.reduceLT, Nat.reduceLeDiff, Nat.reduceEqDiff, ↓reduceIte]
    refine .all _ _ (c7.lift0 _ (by simp only [go_sem]) (by simp only [go_sem])) ?_
    simp (maxSteps := 4000000) -implicitDefEqProofs only [go_sem, Nat.reduceAdd, Nat.reduceSub, Nat.reduceLT, Nat.reduceLeDiff, Nat.reduceEqDiff, ↓reduceIte]
  all_goals
    apply Or.elim k2
    case' right =>
      intro hD
      rw [hD] at k1
      simp only [vA, v0, List.map_nil] at k1
      have z1 : ((12 : Int) != 0) = true := rfl
      have z2 : ((12 : Int) == 12) = true := rfl
      refine .all _ _ (k1.lift0 _ (by simp only [go_sem]) (by simp only [go_sem])) ?_
      simp (maxSteps := 4000000) -implicitDefEqProofs only [go_sem, z1, z2, Option.some.injEq, forall_eq', and_true, true_and, Bool.not_true, Bool.not_false, decide_true, Nat.reduceAdd, Nat.reduceSub, Nat.reduceLT, Nat.reduceLeDiff, Nat.reduceEqDiff, ↓reduceIte]
      refine .all _ _ (c0.lift0 _ (by simp only [go_sem]) (by simp only [go_sem])) ?_
      simp (maxSteps := 4000000) -implicitDefEqProofs only [go_sem, Nat.reduceAdd, Nat.reduceSub, Nat.reduceLT, Nat.reduceLeDiff, Nat.reduceEqDiff, ↓reduceIte]
      exact wk_bool rfl
    intro hD
    have k3 := k3 hD
    rw [k3] at k5 k6
    rw [hD] at k1
    obtain ⟨⟨yk, yn, yb, yl⟩, ye⟩ := D
    simp only [vA] at k1 k5 k6
    refine .all _ _ (k1.lift0 _ (by simp only [go_sem]) (by simp only [go_sem])) ?_
    simp (maxSteps := 4000000) -implicitDefEqProofs only [go_sem, z0, Option.some.injEq, forall_eq', and_true, true_and, Bool.not_true, Bool.not_false, decide_true, Nat.reduceAdd, Nat.reduceSub, Nat.reduceLT, Nat.reduceLeDiff, Nat.reduceEqDiff, ↓reduceIte]
    refine .all _ _ (k5.lift0 _ (by simp only [go_sem]) (by simp only [go_sem])) ?_
    simp (maxSteps := 4000000) -implicitDefEqProofs only [go_sem, z00, Option.some.injEq, forall_eq', and_true, true_and, Bool.not_true, Bool.not_false, decide_true, Nat.reduceAdd, Nat.reduceSub, Nat.reduceLT, Nat.reduceLeDiff, Nat.reduceEqDiff, ↓reduceIte]
    refine .all _ _ (k7.lift0 _ (by simp only [go_sem]) (by simp only [go_sem])) ?_
    simp (maxSteps := 4000000) -implicitDefEqProofs only [go_sem, Nat.reduceAdd, Nat.reduceSub, Nat.reduceLT, Nat.reduceLeDiff, Nat.reduceEqDiff, ↓reduceIte]
    refine .all _ _ (k6.lift0 _ (by simp only [go_sem]) (by simp only [go_sem])) ?_
    simp (maxSteps := 4000000) -implicitDefEqProofs only [go_sem, z00, Option.some.injEq, forall_eq', and_true, true_and, Bool.not_true, Bool.not_false, decide_true, Nat.reduceAdd, Nat.reduceSub, Nat.reduceLT, Nat.reduceLeDiff, Nat.reduceEqDiff, ↓reduceIte]
    refine .all _ _ (c0.lift0 _ (by simp only [go_sem]) (by simp only [go_sem])) ?_
    simp (maxSteps := 4000000) -implicitDefEqProofs only [go_sem, Nat.reduceAdd, Nat.reduceSub, Nat.reduceLT, Nat.reduceLeDiff, Nat.reduceEqDiff, ↓reduceIte]
    exact wk_bool rfl
end Go.AX.Co
namespace Go.Proofs.Ytheliodgamcdjaa
open Go.AX Go.AX.Co Go.RowKit
set_option maxRecDepth 100000 in
theorem codecOne_lifted (os : Os) (started : os.Started) (H : Type) (enc : TypeId × Value → H) :
    ReturnsInHanded {} Try.checked os 5 .any (Rows.codecOneSpec.pre6 enc Try.prog Try.f5 Rows.codecOneRow.domain false) (Rows.codecOneSpec.post enc Try.prog Try.f5 false true false false) := by
  refine Go.AX.liftedR (C := Try.checked) (f := 5) (fn := Try.f5) (s := Rows.codecOneSpec) (rt := 4) [5, 2, 22, 25, 23, 3] (by kernel_rfl) (by kernel_rfl) Try.func5 rfl ?_ rfl (by kernel_rfl) (by kernel_rfl) (by kernel_rfl) (by kernel_rfl) (by kernel_rfl) os started H enc
    (ChangeSpec.witness6 (enc := enc) (C := Try.checked) false ⟨#[], #[.agg #[.int .u8 0, .int .i64 0, .slice none 0 0, .slice none 0 0], .agg #[.int .u8 0, .int .i64 0, .slice none 0 0, .slice none 0 0], .slice none 0 0], []⟩ 8 (by kernel_rfl) (by kernel_rfl) (by kernel_rfl) (by kernel_rfl)) ?_
  · intro H ds h
    match ds, h with
    | [a0, a1, a2], _ => rfl
  · intro xs hx
    have hp : Try.f5.params.toList = [25, 25, 22] := rfl
    rw [hp] at hx ⊢
    have i0 : isA Try.prog 25 = true := by kernel_rfl
    have i1 : isA Try.prog 25 = true := by kernel_rfl
    have i2 : isA Try.prog 22 = false := by kernel_rfl
    rcases xs with _ | ⟨d0, _ | ⟨d1, _ | ⟨d2, _ | ⟨d3, xs⟩⟩⟩⟩ <;> simp only [TydsX, and_false] at hx
    obtain ⟨⟨n0, k0⟩, ⟨n1, k1⟩, ⟨n2, k2⟩, _⟩ := hx
    obtain ⟨v, rfl, hv⟩ := value_of _ k0
    obtain ⟨w, rfl, hw⟩ := value_of _ k1
    obtain ⟨b, rfl, hb, wb⟩ := bytes_of k2
    simp only [avs, i0, i1, i2, dv, Bool.false_eq_true, if_false, if_true, List.headD_cons, List.map_cons, List.map_nil, agg_vD]
    exact codecOne v w b hv hw hb wb
theorem codecOne_over : Rows.codecOneRow.holds Try.pinned (OpenSpec.ofChange Rows.codecOneSpec) :=
  OpenClaim.holds_of_wide 5 Try.f5 rfl rfl rfl rfl rfl rfl rfl ⟨rfl, rfl, rfl, rfl, rfl⟩ rfl rfl rfl rfl rfl (by kernel_rfl) Try.func5 (by kernel_rfl)
    (of_decide_eq_true (by kernel_rfl)) (by unfold Func.isWrapper; first | (rw [if_pos (by decide +kernel)]; kernel_rfl) | (rw [if_neg (by decide +kernel)]; exact ⟨rfl, rfl⟩))
    (fun os started H enc _ => codecOne_lifted os started H enc)
/-- The row, under a short name, for the claim. -/
theorem codecOne_holds : Rows.CodecOneSaid := codecOne_over
#print axioms codecOne_holds
end Go.Proofs.Ytheliodgamcdjaa

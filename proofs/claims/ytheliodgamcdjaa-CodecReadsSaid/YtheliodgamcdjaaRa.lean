/- The statement CodecReads: Decode and Next return the reference's results and errors for any bytes, and values share no memory with them. No condition. -/
import Derived.Test.YtheliodgamcdjaaK7
import Derived.Test.YtheliodgamcdjaaRows
set_option maxHeartbeats 8000000
set_option linter.unusedVariables false
set_option linter.unusedSimpArgs false
set_option maxRecDepth 20000
namespace Go.AX.Co
open Go.Proofs Go.RowKit Go.IntWalk
theorem codecReads (b : List Int) (hs : Sm b.length) (hB : Bytes b) : Spec Try.prog 3 [.d (.sl (b.map bY))] [] (.d (.bool true)) [] := by
  unfold Sm at hs
  refine spec_of_ev (fn := Try.f3) DX_ok 3000 Try.func3 rfl rfl (Nat.le_of_ble_eq_true rfl) ?_
  simp (maxSteps := 4000000) -implicitDefEqProofs only [Try.f3, go_sem]
  apply Or.elim (Decidable.em (5000 < b.length))
  · intro h
    have d1 : decide (5000 < (b.length : Int)) = true := by simp; omega
    simp (maxSteps := 4000000) -implicitDefEqProofs only [go_sem, d1, Option.some.injEq, forall_eq', and_true, true_and, Bool.not_true, Bool.not_false, decide_true, Nat.reduceAdd, Nat.reduceSub, Nat.reduceLT, Nat.reduceLeDiff, Nat.reduceEqDiff, ↓reduceIte]
    exact wk_bool rfl
  intro h
  have d1 : decide (5000 < (b.length : Int)) = false := by simp; omega
  have c1 := decode_row b (by omega) hB
  have c2 := decode_ref b (by omega) hB
  have c3 := next_row b (by omega) hB
  have c4 := next_ref b (by omega) hB
  have c5 := same_refl (decP_fit (b := b) (by omega) hB).fitV
  have c6 := same_refl (nextP_fit (b := b) (by omega) hB).fitV
  generalize nextP b = x at c3 c4 c6
  generalize decP b = v at c1 c2 c5
  obtain ⟨⟨vk, vn, vb, vl⟩, ve⟩ := v
  obtain ⟨⟨xk, xn, xb, xl⟩, xm, xe⟩ := x
  simp only [vA, rW] at c1 c2 c3 c4 c5 c6
  simp (maxSteps := 4000000) -implicitDefEqProofs only [go_sem, d1, Option.some.injEq, forall_eq', and_true, true_and, Bool.not_true, Bool.not_false, decide_true, Nat.reduceAdd, Nat.reduceSub, Nat.reduceLT, Nat.reduceLeDiff, Nat.reduceEqDiff, ↓reduceIte]
  refine ⟨⟨by omega, by omega⟩, ?_⟩
  refine .all _ _ (c1.at1' 1 (by simp only [go_sem]) (by simp only [go_sem]; omega) (by simp) (by simp only [go_sem]) (by simp only [go_sem])) ?_
  simp (maxSteps := 4000000) -implicitDefEqProofs only [go_sem, Nat.reduceAdd, Nat.reduceSub, Nat.reduceLT, Nat.reduceLeDiff, Nat.reduceEqDiff, ↓reduceIte]
  refine .all _ _ (c2.lift0 _ (by simp only [go_sem]) (by simp only [go_sem])) ?_
  simp (maxSteps := 4000000) -implicitDefEqProofs only [go_sem, Nat.reduceAdd, Nat.reduceSub, Nat.reduceLT, Nat.reduceLeDiff, Nat.reduceEqDiff, ↓reduceIte]
  refine .all _ _ (c3.at1' 1 (by simp only [go_sem]) (by simp only [go_sem]; omega) (by simp) (by simp only [go_sem]) (by simp only [go_sem])) ?_
  simp (maxSteps := 4000000) -implicitDefEqProofs only [go_sem, Nat.reduceAdd, Nat.reduceSub, Nat.reduceLT, Nat.reduceLeDiff, Nat.reduceEqDiff, ↓reduceIte]
  refine .all _ _ (c4.lift0 _ (by simp only [go_sem]) (by simp only [go_sem])) ?_
  simp (maxSteps := 4000000) -implicitDefEqProofs only [go_sem, Nat.reduceAdd, Nat.reduceSub, Nat.reduceLT, Nat.reduceLeDiff, Nat.reduceEqDiff, ↓reduceIte]
  refine eloop (S := Nat × List Int) (fun s => mkE 78 [(3, .own 1), (4, .ptr 2 0), (5, .d (.int .i64 ve)), (6, .ptr 3 0), (7, .d (.int .i64 ve)), (8, .ptr 4 0), (9, .d (.int .i64 xm)), (10, .d (.int .i64 xe)), (11, .ptr 5 0), (12, .d (.int .i64 xm)), (13, .d (.int .i64 xe)), (14, .d (.int .i64 s.1))])
    (fun s => [.gone, .row 1 (s.2.map bY), .cells [.d (.int .u8 vk), .d (.int .i64 vn), .d (.sl (vb.map bY)), .d (.sl (vl.map vD))], .cells [.d (.int .u8 vk), .d (.int .i64 vn), .d (.sl (vb.map bY)), .d (.sl (vl.map vD))], .cells [.d (.int .u8 xk), .d (.int .i64 xn), .d (.sl (xb.map bY)), .d (.sl (xl.map vD))], .cells [.d (.int .u8 xk), .d (.int .i64 xn), .d (.sl (xb.map bY)), .d (.sl (xl.map vD))]])
    (fun s => s.1 ≤ b.length ∧ s.2.length = b.length) (fun s => b.length - s.1) ((0, b) : Nat × List Int) ⟨Nat.zero_le _, rfl⟩ (Wk.sub (by (simp only [go_sem]) <;> trivial)) ?_
  intro s hs
  obtain ⟨i, q⟩ := s
  simp only at hs ⊢
  have e1 := hs.1
  have e2 := hs.2
  rcases Nat.lt_or_ge i b.length with hi | hi
  · have f1 : decide ((i : Int) < q.length) = true := by simp; omega
    apply Exists.elim (show ∃ x, q[i]? = some x from ⟨q[i]'(by omega), List.getElem?_eq_getElem _⟩)
    intro x hx
    have n1 : (0 ≤ (i : Int) ∧ (i : Int) < q.length) = True := eq_true (by omega)
    have n2 : (i < q.length) = True := eq_true (by omega)
    have w1 : IntKind.i64.wrap ((i : Int) + 1) = ((i + 1 : Nat) : Int) := by rw [i64_in _ (by omega)]; simp
    have hst : ∀ z, (q.map bY).set i [.int .u8 z] = (q.set i z).map bY := fun z => by rw [List.map_set]; rfl
    simp (maxSteps := 4000000) -implicitDefEqProofs only [go_sem, f1, n1, n2, hx, w1, hst, Option.some.injEq, forall_eq', and_true, true_and, Bool.not_true, Bool.not_false, decide_true, Nat.reduceAdd, Nat.reduceSub, Nat.reduceLT, Nat.reduceLeDiff, Nat.reduceEqDiff, ↓reduceIte]
    exact .mk ((i + 1, q.set i (xorI .u8 x 255)) : Nat × List Int) ⟨by show i + 1 ≤ b.length; omega, by show (q.set i _).length = b.length; rw [List.length_set]; exact e2⟩ (by show b.length - (i + 1) < b.length - i; omega) (Wk.sub (by (simp only [go_sem]) <;> trivial))
  · have f1 : decide ((i : Int) < q.length) = false := by simp; omega
    have b1 : ∀ n : Int, (n == n) = true := fun n => by simp
    simp (maxSteps := 4000000) -implicitDefEqProofs only [go_sem, f1, Option.some.injEq, forall_eq', and_true, true_and, Bool.not_true, Bool.not_false, decide_true, Nat.reduceAdd, Nat.reduceSub, Nat.reduceLT, Nat.reduceLeDiff, Nat.reduceEqDiff, ↓reduceIte]
    refine .all _ _ (c5.lift0 _ (by simp only [go_sem]) (by simp only [go_sem])) ?_
    simp (maxSteps := 4000000) -implicitDefEqProofs only [go_sem, b1, Option.some.injEq, forall_eq', and_true, true_and, Bool.not_true, Bool.not_false, decide_true, Nat.reduceAdd, Nat.reduceSub, Nat.reduceLT, Nat.reduceLeDiff, Nat.reduceEqDiff, ↓reduceIte]
    refine .all _ _ (c6.lift0 _ (by simp only [go_sem]) (by simp only [go_sem])) ?_
    simp (maxSteps := 4000000) -implicitDefEqProofs only [go_sem, b1, Option.some.injEq, forall_eq', and_true, true_and, Bool.not_true, Bool.not_false, decide_true, Nat.reduceAdd, Nat.reduceSub, Nat.reduceLT, Nat.reduceLeDiff, Nat.reduceEqDiff, ↓reduceIte]
    exact wk_bool rfl
end Go.AX.Co
namespace Go.Proofs.Ytheliodgamcdjaa
open Go.AX Go.AX.Co Go.RowKit
set_option maxRecDepth 100000 in
theorem codecReads_lifted (os : Os) (started : os.Started) (H : Type) (enc : TypeId × Value → H) :
    ReturnsInHanded {} Try.checked os 3 .any (Rows.codecReadsSpec.pre6 enc Try.prog Try.f3 Rows.codecReadsRow.domain false) (Rows.codecReadsSpec.post enc Try.prog Try.f3 false true false false) := by
  refine Go.AX.lifted (C := Try.checked) (f := 3) (fn := Try.f3) (s := Rows.codecReadsSpec) (rt := 4) (n := 8) (by kernel_rfl) (by kernel_rfl) Try.func3 rfl ?_ rfl (by kernel_rfl) (by kernel_rfl) (by kernel_rfl) (by kernel_rfl) os started H enc
    (ChangeSpec.witness6 (enc := enc) (C := Try.checked) false ⟨#[], #[.slice none 0 0], []⟩ 8 (by kernel_rfl) (by kernel_rfl) (by kernel_rfl) (by kernel_rfl)) ?_
  · intro H ds h
    match ds, h with
    | [a0], _ => rfl
  · intro xs hx
    have hp : Try.f3.params.toList = [22] := rfl
    rw [hp] at hx ⊢
    have i0 : isA Try.prog 22 = false := by kernel_rfl
    rcases xs with _ | ⟨d0, _ | ⟨d1, xs⟩⟩ <;> simp only [Tyds, and_false] at hx
    obtain ⟨k0, _⟩ := hx
    obtain ⟨b, rfl, hb, wb⟩ := bytes_of k0
    simp only [avs, i0, dv, Bool.false_eq_true, if_false, if_true, List.headD_cons, List.map_cons, List.map_nil]
    exact codecReads b hb wb
theorem codecReads_over : Rows.codecReadsRow.holds Try.pinned (OpenSpec.ofChange Rows.codecReadsSpec) :=
  OpenClaim.holds_of_wide 3 Try.f3 rfl rfl rfl rfl rfl rfl rfl ⟨rfl, rfl, rfl, rfl, rfl⟩ rfl rfl rfl rfl rfl (by kernel_rfl) Try.func3 (by kernel_rfl)
    (of_decide_eq_true (by kernel_rfl)) (by unfold Func.isWrapper; first | (rw [if_pos (by decide +kernel)]; kernel_rfl) | (rw [if_neg (by decide +kernel)]; exact ⟨rfl, rfl⟩))
    (fun os started H enc _ => codecReads_lifted os started H enc)
/-- The row, under a short name, for the claim. -/
theorem codecReads_holds : Rows.CodecReadsSaid := codecReads_over
#print axioms codecReads_holds
end Go.Proofs.Ytheliodgamcdjaa

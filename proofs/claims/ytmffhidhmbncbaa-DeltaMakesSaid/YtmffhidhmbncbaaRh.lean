/- The statement DeltaMakes: Make returns the reference's delta and error for any base and target, and shares no memory with them. No condition. -/
import Derived.Test.YtmffhidhmbncbaaK16
import Derived.Test.YtmffhidhmbncbaaRows
set_option maxHeartbeats 8000000
set_option linter.unusedVariables false
set_option linter.unusedSimpArgs false
set_option maxRecDepth 20000
namespace Go.AX.De
open Go.Proofs Go.RowKit Go.IntWalk Go.AX.Co
theorem deltaMakes {o : Obj} (hg : GlO o) (b s : List Int) (hb : Sm b.length) (hs : Sm s.length) (hB : Bytes b) (hS : Bytes s) : Spec Try.prog 4 [.d (.sl (b.map bY)), .d (.sl (s.map bY))] [.obj 0 o] (.d (.bool true)) [.obj 0 o] := by
  have c1 := long_ref b hb
  have c2 := long_ref s hs
  unfold Sm at hb hs
  have c3 := make_own hg b s hB hS hb hs
  have c4 := make_ref b s hB hS hb hs
  have c5 := same_parts (makes b s).1 (makes_small b s).1 (fun p hp => by have := (makes_small b s).2 p hp; omega)
  generalize long b = L1 at c1
  generalize long s = L2 at c2
  generalize makes b s = R at c3 c4 c5
  obtain ⟨l, e⟩ := R
  simp only at c3 c4 c5
  refine spec_of_ev (fn := Try.f4) DX_ok 3000 Try.func4 rfl rfl (Nat.le_of_ble_eq_true rfl) ?_
  simp (maxSteps := 4000000) -implicitDefEqProofs only [Try.f4, go_sem]
  refine .all _ _ (c1.lift0 _ (by simp only [go_sem]) (by simp only [go_sem])) ?_
  cases L1 with
  | true =>
    simp (maxSteps := 4000000) -implicitDefEqProofs only [go_sem, Nat.reduceAdd, Nat.reduceSub, Nat.reduceLT, Nat.reduceLeDiff, Nat.reduceEqDiff, ↓reduceIte]
    exact Wk.sub (wkE_refl _)
  | false =>
  simp (maxSteps := 4000000) -implicitDefEqProofs only [go_sem, Nat.reduceAdd, Nat.reduceSub, Nat.reduceLT, Nat.reduceLeDiff, Nat.reduceEqDiff, ↓reduceIte]
  refine .all _ _ (c2.lift0 _ (by simp only [go_sem]) (by simp only [go_sem])) ?_
  cases L2 with
  | true =>
    simp (maxSteps := 4000000) -implicitDefEqProofs only [go_sem, Nat.reduceAdd, Nat.reduceSub, Nat.reduceLT, Nat.reduceLeDiff, Nat.reduceEqDiff, ↓reduceIte]
    exact Wk.sub (wkE_refl _)
  | false =>
  simp (maxSteps := 4000000) -implicitDefEqProofs only [go_sem, Nat.reduceAdd, Nat.reduceSub, Nat.reduceLT, Nat.reduceLeDiff, Nat.reduceEqDiff, ↓reduceIte]
  refine ⟨⟨by omega, by omega⟩, ?_⟩
  refine .all _ _ (c3.gl2 0 2 (by decide) (by rfl) (by rfl) (by rfl) (by simp only [go_sem]; omega) (by simp only [go_sem])) ?_
  simp (maxSteps := 4000000) -implicitDefEqProofs only [go_sem, Nat.reduceAdd, Nat.reduceSub, Nat.reduceLT, Nat.reduceLeDiff, Nat.reduceEqDiff, ↓reduceIte]
  refine .all _ _ (c4.lift0 _ (by simp only [go_sem]) (by simp only [go_sem])) ?_
  simp (maxSteps := 4000000) -implicitDefEqProofs only [go_sem, Nat.reduceAdd, Nat.reduceSub, Nat.reduceLT, Nat.reduceLeDiff, Nat.reduceEqDiff, ↓reduceIte]
  refine eloop (S := Nat × List Int) (fun q => mkE 52 [(5, .own 1), (6, .d (.sl (l.map pD))), (7, .d (.int .i64 e)), (8, .d (.sl (l.map pD))), (9, .d (.int .i64 e)), (10, .d (.int .i64 q.1))]) (fun q => [.obj 0 o, .row 1 (q.2.map bY)])
    (fun q => q.1 ≤ s.length ∧ q.2.length = s.length) (fun q => s.length - q.1) ((0, s) : Nat × List Int) ⟨Nat.zero_le _, rfl⟩ (Wk.via [0, 2] (by (simp only [go_sem, ↓reduceIte]) <;> trivial) (by (simp (maxSteps := 4000000) -implicitDefEqProofs only [go_sem, Nat.reduceAdd, Nat.reduceSub, Nat.reduceLT, Nat.reduceLeDiff, Nat.reduceEqDiff, ↓reduceIte]) <;> omega) (by simp) (by simp) (by (simp (maxSteps := 4000000) -implicitDefEqProofs only [go_sem, Nat.reduceAdd, Nat.reduceSub, Nat.reduceLT, Nat.reduceLeDiff, Nat.reduceEqDiff, ↓reduceIte]) <;> trivial) (by (simp (maxSteps := 4000000) -implicitDefEqProofs only [go_sem, Nat.reduceAdd, Nat.reduceSub, Nat.reduceLT, Nat.reduceLeDiff, Nat.reduceEqDiff, ↓reduceIte]) <;> omega) (Nat.le_of_ble_eq_true rfl) (at0_pre rfl)) ?_
  intro q hq
  obtain ⟨i, q⟩ := q
  simp only at hq ⊢
  have e1 := hq.1
  have e2 := hq.2
  rcases Nat.lt_or_ge i s.length with hi | hi
  · have f1 : decide ((i : Int) < q.length) = true := by simp; omega
    apply Exists.elim (show ∃ x, q[i]? = some x from ⟨q[i]'(by omega), List.getElem?_eq_getElem _⟩)
    intro x hx
    have n1 : (0 ≤ (i : Int) ∧ (i : Int) < q.length) = True := eq_true (by omega)
    have n2 : (i < q.length) = True := eq_true (by omega)
    have w1 : IntKind.i64.wrap ((i : Int) + 1) = ((i + 1 : Nat) : Int) := by rw [i64_in _ (by omega)]; simp
    have hst : ∀ z, (q.map bY).set i [.int .u8 z] = (q.set i z).map bY := fun z => by rw [List.map_set]; rfl
    simp (maxSteps := 4000000) -implicitDefEqProofs only [go_sem, f1, n1, n2, hx, w1, hst, Option.some.injEq, forall_eq', and_true, true_and, Bool.not_true, Bool.not_false, decide_true, Nat.reduceAdd, Nat.reduceSub, Nat.reduceLT, Nat.reduceLeDiff, Nat.reduceEqDiff, ↓reduceIte]
    exact .mk ((i + 1, q.set i (xorI .u8 x 255)) : Nat × List Int) ⟨by show i + 1 ≤ s.length; omega, by show (q.set i _).length = s.length; rw [List.length_set]; exact e2⟩ (by show s.length - (i + 1) < s.length - i; omega) (Wk.sub (by (simp only [go_sem]) <;> trivial))
  · have f1 : decide ((i : Int) < q.length) = false := by simp; omega
    have b1 : ∀ n : Int, (n == n) = true := fun n => by simp
    simp (maxSteps := 4000000) -implicitDefEqProofs only [go_sem, f1, Option.some.injEq, forall_eq', and_true, true_and, Bool.not_true, Bool.not_false, decide_true, Nat.reduceAdd, Nat.reduceSub, Nat.reduceLT, Nat.reduceLeDiff, Nat.reduceEqDiff, ↓reduceIte]
    refine .all _ _ (c5.lift0 _ (by simp only [go_sem]) (by simp only [go_sem])) ?_
    simp (maxSteps := 4000000) -implicitDefEqProofs only [go_sem, b1, Option.some.injEq, forall_eq', and_true, true_and, Bool.not_true, Bool.not_false, decide_true, Nat.reduceAdd, Nat.reduceSub, Nat.reduceLT, Nat.reduceLeDiff, Nat.reduceEqDiff, ↓reduceIte]
    exact Wk.end1 (by simp only [go_sem]; rfl) (by simp only [go_sem]) (by simp only [go_sem])
theorem deltaMakesG {o : Obj} (hg : GlO o) (b s : List Int) (hb : Sm b.length) (hs : Sm s.length) (hB : Bytes b) (hS : Bytes s) : (∀ a ∈ [AV.d (.sl (b.map bY)), .d (.sl (s.map bY))], ∃ x, a = .d x ∧ nz x) ∧ Spec Try.prog 4 [.d (.sl (b.map bY)), .d (.sl (s.map bY))] [.obj 0 o] (.d (.bool true)) [.obj 0 o] := by
  refine ⟨?_, deltaMakes hg b s hb hs hB hS⟩
  intro a ha
  simp only [List.mem_cons, List.not_mem_nil, or_false] at ha
  rcases ha with rfl | rfl <;> exact ⟨_, rfl, nz_bytes _⟩
end Go.AX.De
namespace Go.Proofs.Ytmffhidhmbncbaa
open Go.AX Go.AX.De Go.RowKit
set_option maxRecDepth 100000 in
theorem deltaMakes_lifted (os : Os) (started : os.Started) (H : Type) (enc : TypeId × Value → H) :
    ReturnsInHanded {} Try.checked os 4 .any (Rows.deltaMakesSpec.pre6 enc Try.prog Try.f4 Rows.deltaMakesRow.domain false) (Rows.deltaMakesSpec.post enc Try.prog Try.f4 false true false false) := by
  refine Go.AX.liftedG (zero := #[.int .i64 0]) (ti := 3) (of_decide_eq_true (by kernel_rfl)) (by kernel_rfl) rfl (by kernel_rfl) (by kernel_rfl) Ty.under_3 (C := Try.checked) (f := 4) (fn := Try.f4) (s := Rows.deltaMakesSpec) (rt := 4) (n := 8) (by kernel_rfl) (by kernel_rfl) Try.func4 rfl ?_ rfl (by kernel_rfl) (by kernel_rfl) (by kernel_rfl) (by kernel_rfl) os started H enc
    (ChangeSpec.witness6 (enc := enc) (C := Try.checked) false ⟨#[], #[.slice none 0 0, .slice none 0 0], []⟩ 8 (by kernel_rfl) (by kernel_rfl) (by kernel_rfl) (by kernel_rfl)) ?_
  · intro H ds h
    match ds, h with
    | [a0, a1], _ => rfl
  · intro ob hg xs hx
    have hp : Try.f4.params.toList = [22, 22] := rfl
    rw [hp] at hx ⊢
    have i0 : isA Try.prog 22 = false := by kernel_rfl
    have i1 : isA Try.prog 22 = false := by kernel_rfl
    rcases xs with _ | ⟨d0, _ | ⟨d1, _ | ⟨d2, xs⟩⟩⟩ <;> simp only [Tyds, and_false] at hx
    obtain ⟨k0, k1, _⟩ := hx
    obtain ⟨b, rfl, hb, wb⟩ := bytes_of k0
    obtain ⟨s, rfl, hs, ws⟩ := bytes_of k1
    simp only [avs, i0, i1, dv, Bool.false_eq_true, if_false, if_true, List.headD_cons, List.map_cons, List.map_nil]
    exact deltaMakesG hg b s hb hs wb ws
theorem deltaMakes_over : Rows.deltaMakesRow.holds Try.pinned (OpenSpec.ofChange Rows.deltaMakesSpec) :=
  OpenClaim.holds_of_wide 4 Try.f4 rfl rfl rfl rfl rfl rfl rfl ⟨rfl, rfl, rfl, rfl, rfl⟩ rfl rfl rfl rfl rfl (by kernel_rfl) Try.func4 (by kernel_rfl)
    (of_decide_eq_true (by kernel_rfl)) (by unfold Func.isWrapper; first | (rw [if_pos (by decide +kernel)]; kernel_rfl) | (rw [if_neg (by decide +kernel)]; exact ⟨rfl, rfl⟩))
    (fun os started H enc _ => deltaMakes_lifted os started H enc)
/-- The row, under a short name, for the claim. -/
theorem deltaMakes_holds : Rows.DeltaMakesSaid := deltaMakes_over
#print axioms deltaMakes_holds
end Go.Proofs.Ytmffhidhmbncbaa

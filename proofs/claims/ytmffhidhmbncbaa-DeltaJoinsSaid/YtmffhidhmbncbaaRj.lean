/- The statement DeltaJoins: deltas of two targets, one behind the other. No condition. -/
import Derived.Test.YtmffhidhmbncbaaK17
import Derived.Test.YtmffhidhmbncbaaRows
set_option maxHeartbeats 8000000
set_option linter.unusedVariables false
set_option linter.unusedSimpArgs false
set_option maxRecDepth 20000
namespace Go.AX.De
open Go.Proofs Go.RowKit Go.IntWalk Go.AX.Co
theorem apply_datJ (b : List Int) (l : List Part) (hb : Sm b.length) (hl : Sm l.length) : Spec Try.prog 12 [.d (.sl (b.map bY)), .d (.sl (l.map pD))] [] (.tup [.d (.sl ((applied b l).1.map bY)), .d (.int .i64 (applied b l).2)]) [] := by
  have h := apply_own b l hb hl
  rw [bIY] at h
  exact h.wk (wk_dat (by simp only [go_sem]; rfl) (by rfl) (by simp only [go_sem]))
theorem deltaJoins {o : Obj} (hg : GlO o) (b s t : List Int) (hb : Sm b.length) (hs : Sm s.length) (ht : Sm t.length) (hB : Bytes b) (hS : Bytes s) (hT : Bytes t) :
    Spec Try.prog 7 [.d (.sl (b.map bY)), .d (.sl (s.map bY)), .d (.sl (t.map bY))] [.obj 0 o] (.d (.bool true)) [.obj 0 o] := by
  have ca := alive_spec hg
  have b1 : (!true) = false := rfl
  have z1 : ((0 : Int) != 0) = false := rfl
  have zz : ((0 : Int) == 0) = true := rfl
  unfold Sm at hb hs ht
  refine spec_of_ev (fn := Try.f7) DX_ok 3000 Try.func7 rfl rfl (Nat.le_of_ble_eq_true rfl) ?_
  simp (maxSteps := 4000000) -implicitDefEqProofs only [Try.f7, go_sem]
  by_cases hb8 : 40 < b.length
  · have d1 : decide (40 < (b.length : Int)) = true := by simp; omega
    simp (maxSteps := 4000000) -implicitDefEqProofs only [go_sem, d1, Option.some.injEq, forall_eq', and_true, true_and, Bool.not_true, Bool.not_false, decide_true, Nat.reduceAdd, Nat.reduceSub, Nat.reduceLT, Nat.reduceLeDiff, Nat.reduceEqDiff, ↓reduceIte]
    refine .all _ _ (ca.gl _ 0 (by rfl) (by simp only [go_sem]) (by simp only [go_sem])) ?_
    simp (maxSteps := 4000000) -implicitDefEqProofs only [go_sem, Nat.reduceAdd, Nat.reduceSub, Nat.reduceLT, Nat.reduceLeDiff, Nat.reduceEqDiff, ↓reduceIte]
    exact Wk.end1 (by simp only [go_sem]; rfl) (by simp only [go_sem]) (by simp only [go_sem])
  have d1 : decide (40 < (b.length : Int)) = false := by simp; omega
  by_cases hs8 : 40 < s.length
  · have d2 : decide (40 < (s.length : Int)) = true := by simp; omega
    simp (maxSteps := 4000000) -implicitDefEqProofs only [go_sem, d1, d2, Option.some.injEq, forall_eq', and_true, true_and, Bool.not_true, Bool.not_false, decide_true, Nat.reduceAdd, Nat.reduceSub, Nat.reduceLT, Nat.reduceLeDiff, Nat.reduceEqDiff, ↓reduceIte]
    refine .all _ _ (ca.gl _ 0 (by rfl) (by simp only [go_sem]) (by simp only [go_sem])) ?_
    simp (maxSteps := 4000000) -implicitDefEqProofs only [go_sem, Nat.reduceAdd, Nat.reduceSub, Nat.reduceLT, Nat.reduceLeDiff, Nat.reduceEqDiff, ↓reduceIte]
    exact Wk.end1 (by simp only [go_sem]; rfl) (by simp only [go_sem]) (by simp only [go_sem])
  have d2 : decide (40 < (s.length : Int)) = false := by simp; omega
  by_cases ht8 : 40 < t.length
  · have d3 : decide (40 < (t.length : Int)) = true := by simp; omega
    simp (maxSteps := 4000000) -implicitDefEqProofs only [go_sem, d1, d2, d3, Option.some.injEq, forall_eq', and_true, true_and, Bool.not_true, Bool.not_false, decide_true, Nat.reduceAdd, Nat.reduceSub, Nat.reduceLT, Nat.reduceLeDiff, Nat.reduceEqDiff, ↓reduceIte]
    refine .all _ _ (ca.gl _ 0 (by rfl) (by simp only [go_sem]) (by simp only [go_sem])) ?_
    simp (maxSteps := 4000000) -implicitDefEqProofs only [go_sem, Nat.reduceAdd, Nat.reduceSub, Nat.reduceLT, Nat.reduceLeDiff, Nat.reduceEqDiff, ↓reduceIte]
    exact Wk.end1 (by simp only [go_sem]; rfl) (by simp only [go_sem]) (by simp only [go_sem])
  have d3 : decide (40 < (t.length : Int)) = false := by simp; omega
  have hST : Bytes (s ++ t) := fun e he => by
    rcases List.mem_append.1 he with h | h
    · exact hS e h
    · exact hT e h
  have hl : (s ++ t).length = s.length + t.length := List.length_append
  obtain ⟨P, p1, p2, p3, p4, p5, _⟩ := makes_ok (b := b) (s := s) hB hS (by omega) (by omega)
  obtain ⟨Q, q1, q2, q3, q4, q5, _⟩ := makes_ok (b := b) (s := t) hB hT (by omega) (by omega)
  obtain ⟨N, n1, n2, n3, n4, n5, n6⟩ := makes_ok (b := b) (s := s ++ t) hB hST (by omega) (by omega)
  have c1 := make_dat hg b s hB hS (by omega) (by omega)
  rw [p1] at c1
  have c2 := make_dat hg b t hB hT (by omega) (by omega)
  rw [q1] at c2
  have c3 := make_dat hg b (s ++ t) hB hST (by omega) (by omega)
  rw [n1] at c3
  have hlen : (P ++ Q).length = P.length + Q.length := List.length_append
  have hfit : ∀ p ∈ P ++ Q, PFit b p := fun p hp => by
    rcases List.mem_append.1 hp with h | h
    · exact p3 p h
    · exact q3 p h
  have hch := check_of (b := b) (l := P ++ Q) (by omega) hfit
  have ho : outs b (P ++ Q) = s ++ t := by rw [outs_append, p4, q4]
  have c4 := apply_datJ b (P ++ Q) (by unfold Sm; omega) (by unfold Sm; omega)
  rw [applied_of (by omega) hch (by rw [ho]; omega), ho] at c4
  have c5 := cost_own (P ++ Q) (by unfold Sm; omega)
  rw [costs_of (check_valid hch)] at c5
  have c6 := cost_own N (by unfold Sm; omega)
  rw [costs_of (valid_of (by omega) fun q hq => (n3 q hq).1), n5] at c6
  have hbest := lc_least b (P ++ Q) hfit
  rw [ho] at hbest
  have c7 := sameBytes_spec (s ++ t) (s ++ t) (by unfold Sm; omega)
  rw [decide_eq_true rfl, bIY] at c7
  generalize csum (P ++ Q) = X at c5 hbest
  generalize lc b (s ++ t) = Y at c6 hbest
  have d4 : decide (X < Y) = false := decide_eq_false (by omega)
  have e1 : s.map bY ++ t.map bY = (s ++ t).map bY := List.map_append.symm
  have e2 : P.map pD ++ Q.map pD = (P ++ Q).map pD := List.map_append.symm
  simp only at c1 c2 c3 c4 c5 c6
  generalize hst : s ++ t = st at c3 c4 c7 e1
  generalize hPQ : P ++ Q = R at c4 c5 e2
  simp (maxSteps := 4000000) -implicitDefEqProofs only [go_sem, d1, d2, d3, e1, Option.some.injEq, forall_eq', and_true, true_and, Bool.not_true, Bool.not_false, decide_true, Nat.reduceAdd, Nat.reduceSub, Nat.reduceLT, Nat.reduceLeDiff, Nat.reduceEqDiff, ↓reduceIte]
  refine ⟨⟨by omega, by omega⟩, ⟨by omega, by omega⟩, ?_⟩
  refine .all _ _ (c1.gl _ 0 (by rfl) (by simp only [go_sem]) (by simp only [go_sem])) ?_
  simp (maxSteps := 4000000) -implicitDefEqProofs only [go_sem, z1, Option.some.injEq, forall_eq', and_true, true_and, Bool.not_true, Bool.not_false, decide_true, Nat.reduceAdd, Nat.reduceSub, Nat.reduceLT, Nat.reduceLeDiff, Nat.reduceEqDiff, ↓reduceIte]
  refine .all _ _ (c2.gl _ 0 (by rfl) (by simp only [go_sem]) (by simp only [go_sem])) ?_
  simp (maxSteps := 4000000) -implicitDefEqProofs only [go_sem, z1, Option.some.injEq, forall_eq', and_true, true_and, Bool.not_true, Bool.not_false, decide_true, Nat.reduceAdd, Nat.reduceSub, Nat.reduceLT, Nat.reduceLeDiff, Nat.reduceEqDiff, ↓reduceIte]
  refine ECall.frz 3 rfl ?_
  simp (maxSteps := 4000000) -implicitDefEqProofs only [go_sem, Nat.reduceAdd, Nat.reduceSub, Nat.reduceLT, Nat.reduceLeDiff, Nat.reduceEqDiff, ↓reduceIte]
  refine .all _ _ (c3.gl _ 0 (by rfl) (by simp only [go_sem]) (by simp only [go_sem])) ?_
  simp (maxSteps := 4000000) -implicitDefEqProofs only [go_sem, z1, e2, Option.some.injEq, forall_eq', and_true, true_and, Bool.not_true, Bool.not_false, decide_true, Nat.reduceAdd, Nat.reduceSub, Nat.reduceLT, Nat.reduceLeDiff, Nat.reduceEqDiff, ↓reduceIte]
  refine ⟨by decide, ⟨by omega, by omega⟩, ⟨by omega, by omega⟩, ?_⟩
  refine ECall.frz 6 rfl ?_
  simp (maxSteps := 4000000) -implicitDefEqProofs only [go_sem, Nat.reduceAdd, Nat.reduceSub, Nat.reduceLT, Nat.reduceLeDiff, Nat.reduceEqDiff, ↓reduceIte]
  refine .all _ _ (c4.lift0 _ (by simp only [go_sem]) (by simp only [go_sem])) ?_
  simp (maxSteps := 4000000) -implicitDefEqProofs only [go_sem, z1, Option.some.injEq, forall_eq', and_true, true_and, Bool.not_true, Bool.not_false, decide_true, Nat.reduceAdd, Nat.reduceSub, Nat.reduceLT, Nat.reduceLeDiff, Nat.reduceEqDiff, ↓reduceIte]
  refine .all _ _ (c5.lift0 _ (by simp only [go_sem]) (by simp only [go_sem])) ?_
  simp (maxSteps := 4000000) -implicitDefEqProofs only [go_sem, z1, Option.some.injEq, forall_eq', and_true, true_and, Bool.not_true, Bool.not_false, decide_true, Nat.reduceAdd, Nat.reduceSub, Nat.reduceLT, Nat.reduceLeDiff, Nat.reduceEqDiff, ↓reduceIte]
  refine .all _ _ (c6.lift0 _ (by simp only [go_sem]) (by simp only [go_sem])) ?_
  simp (maxSteps := 4000000) -implicitDefEqProofs only [go_sem, z1, Option.some.injEq, forall_eq', and_true, true_and, Bool.not_true, Bool.not_false, decide_true, Nat.reduceAdd, Nat.reduceSub, Nat.reduceLT, Nat.reduceLeDiff, Nat.reduceEqDiff, ↓reduceIte]
  refine .all _ _ (c7.lift0 _ (by simp only [go_sem]) (by simp only [go_sem])) ?_
  simp (maxSteps := 4000000) -implicitDefEqProofs only [go_sem, b1, d4, Option.some.injEq, forall_eq', and_true, true_and, Bool.not_true, Bool.not_false, decide_true, Nat.reduceAdd, Nat.reduceSub, Nat.reduceLT, Nat.reduceLeDiff, Nat.reduceEqDiff, ↓reduceIte]
  refine eloop (S := Nat) (fun k => mkE 135 [(12, .d (.sl (N.map pD))), (21, .d (.int .i64 k))]) (fun _ => [.obj 0 o]) (fun k => 1 ≤ k) (fun k => N.length - k) 1 (Nat.le_refl _) (Wk.via [0] (by (simp only [go_sem, ↓reduceIte]) <;> trivial) (by (simp (maxSteps := 4000000) -implicitDefEqProofs only [go_sem, Nat.reduceAdd, Nat.reduceSub, Nat.reduceLT, Nat.reduceLeDiff, Nat.reduceEqDiff, ↓reduceIte]) <;> omega) (by simp) (by simp) (by (simp (maxSteps := 4000000) -implicitDefEqProofs only [go_sem, Nat.reduceAdd, Nat.reduceSub, Nat.reduceLT, Nat.reduceLeDiff, Nat.reduceEqDiff, ↓reduceIte]) <;> trivial) (by (simp (maxSteps := 4000000) -implicitDefEqProofs only [go_sem, Nat.reduceAdd, Nat.reduceSub, Nat.reduceLT, Nat.reduceLeDiff, Nat.reduceEqDiff, ↓reduceIte]) <;> omega) (Nat.le_of_ble_eq_true rfl) (at0_pre rfl)) ?_
  intro k hk
  rcases Nat.lt_or_ge k N.length with h1 | h1
  case inr =>
    have f1 : decide ((k : Int) < N.length) = false := by simp; omega
    simp (maxSteps := 4000000) -implicitDefEqProofs only [go_sem, f1, Option.some.injEq, forall_eq', and_true, true_and, Bool.not_true, Bool.not_false, decide_true, Nat.reduceAdd, Nat.reduceSub, Nat.reduceLT, Nat.reduceLeDiff, Nat.reduceEqDiff, ↓reduceIte]
    refine .all _ _ (ca.gl _ 0 (by rfl) (by simp only [go_sem]) (by simp only [go_sem])) ?_
    simp (maxSteps := 4000000) -implicitDefEqProofs only [go_sem, Nat.reduceAdd, Nat.reduceSub, Nat.reduceLT, Nat.reduceLeDiff, Nat.reduceEqDiff, ↓reduceIte]
    exact Wk.end1 (by simp only [go_sem]; rfl) (by simp only [go_sem]) (by simp only [go_sem])
  have f1 : decide ((k : Int) < N.length) = true := by simp; omega
  obtain ⟨j, hj⟩ : ∃ j, k = j + 1 := ⟨k - 1, by omega⟩
  obtain ⟨x, hx⟩ : ∃ x, N[k]? = some x := ⟨N[k]'h1, List.getElem?_eq_getElem _⟩
  obtain ⟨y, hy⟩ : ∃ x, N[j]? = some x := ⟨N[j]'(by omega), List.getElem?_eq_getElem _⟩
  have hap := n6.at j y x hy (by rw [← hj]; exact hx)
  have m1 : (0 ≤ (k : Int) ∧ (k : Int) < N.length) = True := eq_true (by omega)
  have m2 : (k < N.length) = True := eq_true h1
  have m3 : (0 ≤ (j : Int) ∧ (j : Int) < N.length) = True := eq_true (by omega)
  have m4 : (j < N.length) = True := eq_true (by omega)
  have w1 : IntKind.i64.wrap ((k : Int) - 1) = (j : Int) := by rw [i64_in _ (by omega)]; omega
  have w2 : IntKind.i64.wrap ((k : Int) + 1) = ((k + 1 : Nat) : Int) := by rw [i64_in _ (by omega)]; simp
  by_cases g1 : x.n = 0
  · have g2 : y.n ≠ 0 := fun e => hap ⟨e, g1⟩
    have v1 : (x.n == 0) = true := by simp [g1]
    have v2 : (y.n == 0) = false := by simp [g2]
    simp (maxSteps := 4000000) -implicitDefEqProofs only [go_sem, f1, m1, m2, m3, m4, hx, hy, w1, w2, v1, v2, Option.some.injEq, forall_eq', and_true, true_and, Bool.not_true, Bool.not_false, decide_true, Nat.reduceAdd, Nat.reduceSub, Nat.reduceLT, Nat.reduceLeDiff, Nat.reduceEqDiff, ↓reduceIte]
    exact .mk (k + 1) (by omega) (by omega) (Wk.sub (by (simp only [go_sem]) <;> trivial))
  · have v1 : (x.n == 0) = false := by simp [g1]
    simp (maxSteps := 4000000) -implicitDefEqProofs only [go_sem, f1, m1, m2, hx, w2, v1, Option.some.injEq, forall_eq', and_true, true_and, Bool.not_true, Bool.not_false, decide_true, Nat.reduceAdd, Nat.reduceSub, Nat.reduceLT, Nat.reduceLeDiff, Nat.reduceEqDiff, ↓reduceIte]
    exact .mk (k + 1) (by omega) (by omega) (Wk.sub (by (simp only [go_sem]) <;> trivial))
theorem deltaJoinsG {o : Obj} (hg : GlO o) (b s t : List Int) (hb : Sm b.length) (hs : Sm s.length) (ht : Sm t.length) (hB : Bytes b) (hS : Bytes s) (hT : Bytes t) :
    (∀ a ∈ [AV.d (.sl (b.map bY)), .d (.sl (s.map bY)), .d (.sl (t.map bY))], ∃ x, a = .d x ∧ nz x) ∧ Spec Try.prog 7 [.d (.sl (b.map bY)), .d (.sl (s.map bY)), .d (.sl (t.map bY))] [.obj 0 o] (.d (.bool true)) [.obj 0 o] := by
  refine ⟨?_, deltaJoins hg b s t hb hs ht hB hS hT⟩
  intro a ha
  simp only [List.mem_cons, List.not_mem_nil, or_false] at ha
  rcases ha with rfl | rfl | rfl <;> exact ⟨_, rfl, nz_bytes _⟩
end Go.AX.De
namespace Go.Proofs.Ytmffhidhmbncbaa
open Go.AX Go.AX.De Go.RowKit
set_option maxRecDepth 100000 in
theorem deltaJoins_lifted (os : Os) (started : os.Started) (H : Type) (enc : TypeId × Value → H) :
    ReturnsInHanded {} Try.checked os 7 .any (Rows.deltaJoinsSpec.pre6 enc Try.prog Try.f7 Rows.deltaJoinsRow.domain false) (Rows.deltaJoinsSpec.post enc Try.prog Try.f7 false true false false) := by
  refine Go.AX.liftedG (zero := #[.int .i64 0]) (ti := 3) (of_decide_eq_true (by kernel_rfl)) (by kernel_rfl) rfl (by kernel_rfl) (by kernel_rfl) Ty.under_3 (C := Try.checked) (f := 7) (fn := Try.f7) (s := Rows.deltaJoinsSpec) (rt := 4) (n := 8) (by kernel_rfl) (by kernel_rfl) Try.func7 rfl ?_ rfl (by kernel_rfl) (by kernel_rfl) (by kernel_rfl) (by kernel_rfl) os started H enc
    (ChangeSpec.witness6 (enc := enc) (C := Try.checked) false ⟨#[], #[.slice none 0 0, .slice none 0 0, .slice none 0 0], []⟩ 8 (by kernel_rfl) (by kernel_rfl) (by kernel_rfl) (by kernel_rfl)) ?_
  · intro H ds h
    match ds, h with
    | [a0, a1, a2], _ => rfl
  · intro ob hg xs hx
    have hp : Try.f7.params.toList = [22, 22, 22] := rfl
    rw [hp] at hx ⊢
    have i0 : isA Try.prog 22 = false := by kernel_rfl
    have i1 : isA Try.prog 22 = false := by kernel_rfl
    have i2 : isA Try.prog 22 = false := by kernel_rfl
    rcases xs with _ | ⟨d0, _ | ⟨d1, _ | ⟨d2, _ | ⟨d3, xs⟩⟩⟩⟩ <;> simp only [Tyds, and_false] at hx
    obtain ⟨k0, k1, k2, _⟩ := hx
    obtain ⟨b, rfl, hb, wb⟩ := bytes_of k0
    obtain ⟨s, rfl, hs, ws⟩ := bytes_of k1
    obtain ⟨t, rfl, ht, wt⟩ := bytes_of k2
    simp only [avs, i0, i1, i2, dv, Bool.false_eq_true, if_false, if_true, List.headD_cons, List.map_cons, List.map_nil]
    exact deltaJoinsG hg b s t hb hs ht wb ws wt
theorem deltaJoins_over : Rows.deltaJoinsRow.holds Try.pinned (OpenSpec.ofChange Rows.deltaJoinsSpec) :=
  OpenClaim.holds_of_wide 7 Try.f7 rfl rfl rfl rfl rfl rfl rfl ⟨rfl, rfl, rfl, rfl, rfl⟩ rfl rfl rfl rfl rfl (by kernel_rfl) Try.func7 (by kernel_rfl)
    (of_decide_eq_true (by kernel_rfl)) (by unfold Func.isWrapper; first | (rw [if_pos (by decide +kernel)]; kernel_rfl) | (rw [if_neg (by decide +kernel)]; exact ⟨rfl, rfl⟩))
    (fun os started H enc _ => deltaJoins_lifted os started H enc)
/-- The row, under a short name, for the claim. -/
theorem deltaJoins_holds : Rows.DeltaJoinsSaid := deltaJoins_over
#print axioms deltaJoins_holds
end Go.Proofs.Ytmffhidhmbncbaa

/- WindowTicks and WindowRanges: the laws return true. No condition but the laws' own guards. -/
import Derived.Test.YtnmgmlmiijljmaaWi
import Derived.Test.YtnmgmlmiijljmaaRows
set_option maxHeartbeats 8000000
set_option linter.unusedVariables false
set_option linter.unusedSimpArgs false
set_option maxRecDepth 20000
namespace Go.AX.Wn
open Go.Proofs Go.RowKit Go.IntWalk Go.AX.Br
theorem int_of {n : Nat} {d : List D} (h : Tyd Try.prog (n + 1) 3 d) : ∃ i : Int, d = [.int .i64 i] ∧ (-9223372036854775808 ≤ i ∧ i ≤ 9223372036854775807) := by
  obtain ⟨i, rfl, hw⟩ := h.int Ty.under_3
  exact ⟨i, rfl, wf_i64 hw⟩
theorem str_of {n : Nat} {d : List D} (h : Tyd Try.prog (n + 1) 9 d) : ∃ s : ByteArray, d = [.str s] ∧ Sm s.size := by
  obtain ⟨i, rfl, hw⟩ := h.str Ty.under_9
  exact ⟨i, rfl, hw⟩
theorem hold_of {n : Nat} {x : List D} (h : Tyd Try.prog (n + 2) 53 x) : ∃ r : Hd, x = hD r ∧ (-9223372036854775808 ≤ r.fr ∧ r.fr ≤ 9223372036854775807) := by
  obtain ⟨f0, f1, f2, f3, hu, e0, e1, e2, e3⟩ : ∃ f0 f1 f2 f3 : Field, Try.prog.underlying 53 = some (.struct #[f0, f1, f2, f3]) ∧ f0.type = 9 ∧ f1.type = 3 ∧ f2.type = 3 ∧ f3.type = 9 := ⟨_, _, _, _, rfl, rfl, rfl, rfl, rfl⟩
  have this := h.struct hu
  simp only [List.map_cons, List.map_nil, Sq] at this
  obtain ⟨a0, b0, rfl, k0, a1, b1, rfl, k1, a2, b2, rfl, k2, a3, b3, rfl, k3, rfl⟩ := this
  rw [e0] at k0; rw [e1] at k1; rw [e2] at k2; rw [e3] at k3
  obtain ⟨i, rfl, _⟩ := str_of k0
  obtain ⟨j, rfl, hj⟩ := int_of k1
  obtain ⟨s, rfl, _⟩ := int_of k2
  obtain ⟨t, rfl, _⟩ := str_of k3
  exact ⟨⟨i, j, s, t⟩, rfl, hj⟩
theorem holds_of {n : Nat} {d : List D} (h : Tyd Try.prog (n + 3) 22 d) : ∃ q : List Hd, d = [.sl (q.map hD)] ∧ Sm q.length ∧ ∀ r ∈ q, (-9223372036854775808 ≤ r.fr ∧ r.fr ≤ 9223372036854775807) := by
  obtain ⟨es, rfl, h1, h2⟩ := h.slice Ty.under_22
  obtain ⟨l, rfl, hl⟩ := rows_ofP (g := hD) fun x hx => hold_of (h2 x hx)
  refine ⟨l, rfl, ?_, hl⟩
  have hb : Try.prog.bytesOf 53 = 48 := by kernel_rfl
  rw [hb, List.length_map] at h1
  unfold Sm; omega
theorem ticks_law (l : List Hd) (b : ByteArray) (t : Int) (hl : Sm l.length) : Spec Try.prog 3 [.d (.sl (l.map hD)), .d (.str b), .d (.int .i64 t)] [] (.d (.bool true)) [] := by
  have a1 := frozen_own l b t hl
  have a2 := frozen_ref l b t hl
  have a3 := why_own l b t hl
  have a4 := why_ref l b t hl
  have a5 := next_own l b t hl
  have a6 := next_ref l b t hl
  have a7 := wcheck_own l hl
  have a8 := wcheck_ref l hl
  have ylen : Sm (whyR l b t).1.length := by
    unfold Sm at hl ⊢
    unfold whyR
    split
    · simp
    · have := why_len b t l; simp only; omega
  obtain ⟨X, hX⟩ : ∃ X, X = frozenR l b t := ⟨_, rfl⟩
  obtain ⟨Y, hY⟩ : ∃ Y, Y = whyR l b t := ⟨_, rfl⟩
  obtain ⟨Z, hZ⟩ : ∃ Z, Z = fitRR l b t 1 := ⟨_, rfl⟩
  obtain ⟨V, hV⟩ : ∃ V, V = wcheck l := ⟨_, rfl⟩
  rw [← hX] at a1 a2
  rw [← hY] at a3 a4 ylen
  rw [← hZ] at a5 a6
  rw [← hV] at a7 a8
  have a9 := texts_ref Y.1 Y.1 ylen
  rw [show decide (Y.1 = Y.1) = true from decide_eq_true rfl] at a9
  refine spec_of_ev (fn := Try.f3) DX_ok 3000 Try.func3 rfl rfl (Nat.le_of_ble_eq_true rfl) ?_
  simp (maxSteps := 4000000) -implicitDefEqProofs only [Try.f3, go_sem]
  refine ecall0 _ (great_ref l hl) (by simp only [go_sem]) (by simp only [go_sem]) ?_
  simp (maxSteps := 4000000) -implicitDefEqProofs only [go_sem, Nat.reduceAdd, Nat.reduceSub, Nat.reduceLT, Nat.reduceLeDiff, Nat.reduceEqDiff, ↓reduceIte]
  cases h1 : wgreat l
  case true =>
    simp (maxSteps := 4000000) -implicitDefEqProofs only [go_sem, h1, Option.some.injEq, forall_eq', and_true, true_and, Bool.not_true, Bool.not_false, decide_true, Nat.reduceAdd, Nat.reduceSub, Nat.reduceLT, Nat.reduceLeDiff, Nat.reduceEqDiff, ↓reduceIte]
    exact wk_bool rfl
  cases h2 : decide (100 < (b.size : Int))
  case true =>
    simp (maxSteps := 4000000) -implicitDefEqProofs only [go_sem, h1, h2, Option.some.injEq, forall_eq', and_true, true_and, Bool.not_true, Bool.not_false, decide_true, Nat.reduceAdd, Nat.reduceSub, Nat.reduceLT, Nat.reduceLeDiff, Nat.reduceEqDiff, ↓reduceIte]
    exact wk_bool rfl
  simp (maxSteps := 4000000) -implicitDefEqProofs only [go_sem, h1, h2, Option.some.injEq, forall_eq', and_true, true_and, Bool.not_true, Bool.not_false, decide_true, Nat.reduceAdd, Nat.reduceSub, Nat.reduceLT, Nat.reduceLeDiff, Nat.reduceEqDiff, ↓reduceIte]
  refine ecall0 _ a1 (by simp only [go_sem]) (by simp only [go_sem]) ?_
  simp (maxSteps := 4000000) -implicitDefEqProofs only [go_sem, Nat.reduceAdd, Nat.reduceSub, Nat.reduceLT, Nat.reduceLeDiff, Nat.reduceEqDiff, ↓reduceIte]
  refine ecall0 _ a2 (by simp only [go_sem]) (by simp only [go_sem]) ?_
  simp (maxSteps := 4000000) -implicitDefEqProofs only [go_sem, Nat.reduceAdd, Nat.reduceSub, Nat.reduceLT, Nat.reduceLeDiff, Nat.reduceEqDiff, ↓reduceIte]
  refine ecall0 _ a3 (by simp only [go_sem]) (by simp only [go_sem]) ?_
  simp (maxSteps := 4000000) -implicitDefEqProofs only [go_sem, Nat.reduceAdd, Nat.reduceSub, Nat.reduceLT, Nat.reduceLeDiff, Nat.reduceEqDiff, ↓reduceIte]
  refine ecall0 _ a4 (by simp only [go_sem]) (by simp only [go_sem]) ?_
  simp (maxSteps := 4000000) -implicitDefEqProofs only [go_sem, Nat.reduceAdd, Nat.reduceSub, Nat.reduceLT, Nat.reduceLeDiff, Nat.reduceEqDiff, ↓reduceIte]
  refine ecall0 _ a5 (by simp only [go_sem]) (by simp only [go_sem]) ?_
  simp (maxSteps := 4000000) -implicitDefEqProofs only [go_sem, Nat.reduceAdd, Nat.reduceSub, Nat.reduceLT, Nat.reduceLeDiff, Nat.reduceEqDiff, ↓reduceIte]
  refine ecall0 _ a6 (by simp only [go_sem]) (by simp only [go_sem]) ?_
  simp (maxSteps := 4000000) -implicitDefEqProofs only [go_sem, Nat.reduceAdd, Nat.reduceSub, Nat.reduceLT, Nat.reduceLeDiff, Nat.reduceEqDiff, ↓reduceIte]
  refine ecall0 _ a7 (by simp only [go_sem]) (by simp only [go_sem]) ?_
  simp (maxSteps := 4000000) -implicitDefEqProofs only [go_sem, Nat.reduceAdd, Nat.reduceSub, Nat.reduceLT, Nat.reduceLeDiff, Nat.reduceEqDiff, ↓reduceIte]
  refine ecall0 _ a8 (by simp only [go_sem]) (by simp only [go_sem]) ?_
  simp (maxSteps := 4000000) -implicitDefEqProofs only [go_sem, Nat.reduceAdd, Nat.reduceSub, Nat.reduceLT, Nat.reduceLeDiff, Nat.reduceEqDiff, ↓reduceIte]
  refine ecall0 _ a9 (by simp only [go_sem]) (by simp only [go_sem]) ?_
  simp (maxSteps := 4000000) -implicitDefEqProofs only [go_sem, Nat.reduceAdd, Nat.reduceSub, Nat.reduceLT, Nat.reduceLeDiff, Nat.reduceEqDiff, ↓reduceIte]
  exact wk_bool rfl
theorem ranges_law (l : List Hd) (b : ByteArray) (f t n : Int) (hl : Sm l.length) : Spec Try.prog 4 [.d (.sl (l.map hD)), .d (.str b), .d (.int .i64 f), .d (.int .i64 t), .d (.int .i64 n)] [] (.d (.bool true)) [] := by
  have a1 := windowsR_own l b hl
  have a2 := windowsR_ref l b hl
  have a3 := slack_own l b f t hl
  have a4 := slack_ref l b f t hl
  have a5 := fit_own l b f n hl
  have a6 := fit_ref l b f n hl
  have ylen : Sm (windowsR l b).1.length := by
    unfold Sm at hl ⊢
    unfold windowsR
    split
    · simp
    · have := winL_len l b; simp only; omega
  obtain ⟨X, hX⟩ : ∃ X, X = windowsR l b := ⟨_, rfl⟩
  obtain ⟨Y, hY⟩ : ∃ Y, Y = slackR l b f t := ⟨_, rfl⟩
  obtain ⟨Z, hZ⟩ : ∃ Z, Z = fitRR l b f n := ⟨_, rfl⟩
  rw [← hX] at a1 a2 ylen
  rw [← hY] at a3 a4
  rw [← hZ] at a5 a6
  have a9 := same_ref X.1 X.1 ylen
  rw [show decide (X.1 = X.1) = true from decide_eq_true rfl] at a9
  refine spec_of_ev (fn := Try.f4) DX_ok 3000 Try.func4 rfl rfl (Nat.le_of_ble_eq_true rfl) ?_
  simp (maxSteps := 4000000) -implicitDefEqProofs only [Try.f4, go_sem]
  refine ecall0 _ (great_ref l hl) (by simp only [go_sem]) (by simp only [go_sem]) ?_
  simp (maxSteps := 4000000) -implicitDefEqProofs only [go_sem, Nat.reduceAdd, Nat.reduceSub, Nat.reduceLT, Nat.reduceLeDiff, Nat.reduceEqDiff, ↓reduceIte]
  cases h1 : wgreat l
  case true =>
    simp (maxSteps := 4000000) -implicitDefEqProofs only [go_sem, h1, Option.some.injEq, forall_eq', and_true, true_and, Bool.not_true, Bool.not_false, decide_true, Nat.reduceAdd, Nat.reduceSub, Nat.reduceLT, Nat.reduceLeDiff, Nat.reduceEqDiff, ↓reduceIte]
    exact wk_bool rfl
  cases h2 : decide (100 < (b.size : Int))
  case true =>
    simp (maxSteps := 4000000) -implicitDefEqProofs only [go_sem, h1, h2, Option.some.injEq, forall_eq', and_true, true_and, Bool.not_true, Bool.not_false, decide_true, Nat.reduceAdd, Nat.reduceSub, Nat.reduceLT, Nat.reduceLeDiff, Nat.reduceEqDiff, ↓reduceIte]
    exact wk_bool rfl
  simp (maxSteps := 4000000) -implicitDefEqProofs only [go_sem, h1, h2, Option.some.injEq, forall_eq', and_true, true_and, Bool.not_true, Bool.not_false, decide_true, Nat.reduceAdd, Nat.reduceSub, Nat.reduceLT, Nat.reduceLeDiff, Nat.reduceEqDiff, ↓reduceIte]
  refine ecall0 _ a1 (by simp only [go_sem]) (by simp only [go_sem]) ?_
  simp (maxSteps := 4000000) -implicitDefEqProofs only [go_sem, Nat.reduceAdd, Nat.reduceSub, Nat.reduceLT, Nat.reduceLeDiff, Nat.reduceEqDiff, ↓reduceIte]
  refine ecall0 _ a2 (by simp only [go_sem]) (by simp only [go_sem]) ?_
  simp (maxSteps := 4000000) -implicitDefEqProofs only [go_sem, Nat.reduceAdd, Nat.reduceSub, Nat.reduceLT, Nat.reduceLeDiff, Nat.reduceEqDiff, ↓reduceIte]
  refine ecall0 _ a3 (by simp only [go_sem]) (by simp only [go_sem]) ?_
  simp (maxSteps := 4000000) -implicitDefEqProofs only [go_sem, Nat.reduceAdd, Nat.reduceSub, Nat.reduceLT, Nat.reduceLeDiff, Nat.reduceEqDiff, ↓reduceIte]
  refine ecall0 _ a4 (by simp only [go_sem]) (by simp only [go_sem]) ?_
  simp (maxSteps := 4000000) -implicitDefEqProofs only [go_sem, Nat.reduceAdd, Nat.reduceSub, Nat.reduceLT, Nat.reduceLeDiff, Nat.reduceEqDiff, ↓reduceIte]
  refine ecall0 _ a5 (by simp only [go_sem]) (by simp only [go_sem]) ?_
  simp (maxSteps := 4000000) -implicitDefEqProofs only [go_sem, Nat.reduceAdd, Nat.reduceSub, Nat.reduceLT, Nat.reduceLeDiff, Nat.reduceEqDiff, ↓reduceIte]
  refine ecall0 _ a6 (by simp only [go_sem]) (by simp only [go_sem]) ?_
  simp (maxSteps := 4000000) -implicitDefEqProofs only [go_sem, Nat.reduceAdd, Nat.reduceSub, Nat.reduceLT, Nat.reduceLeDiff, Nat.reduceEqDiff, ↓reduceIte]
  refine ecall0 _ a9 (by simp only [go_sem]) (by simp only [go_sem]) ?_
  simp (maxSteps := 4000000) -implicitDefEqProofs only [go_sem, Nat.reduceAdd, Nat.reduceSub, Nat.reduceLT, Nat.reduceLeDiff, Nat.reduceEqDiff, ↓reduceIte]
  exact wk_bool rfl
end Go.AX.Wn
namespace Go.Proofs.Ytnmgmlmiijljmaa
open Go.AX Go.AX.Wn Go.RowKit
set_option maxRecDepth 100000 in
theorem windowTicks_lifted (os : Os) (started : os.Started) (H : Type) (enc : TypeId × Value → H) :
    ReturnsInHanded {} Try.checked os 3 .any (Rows.windowTicksSpec.pre6 enc Try.prog Try.f3 Rows.windowTicksRow.domain false) (Rows.windowTicksSpec.post enc Try.prog Try.f3 false true false false) := by
  refine Go.AX.lifted (C := Try.checked) (f := 3) (fn := Try.f3) (s := Rows.windowTicksSpec) (rt := 4) (n := 8) (by kernel_rfl) (by kernel_rfl) Try.func3 rfl ?_ rfl (by kernel_rfl) (by kernel_rfl) (by kernel_rfl) (by kernel_rfl) os started H enc
    (ChangeSpec.witness6 (enc := enc) (C := Try.checked) false ⟨#[], #[.slice none 0 0, .string ByteArray.empty, .int .i64 0], []⟩ 8 (by kernel_rfl) (by kernel_rfl) (by kernel_rfl) (by kernel_rfl)) ?_
  · intro H ds h
    match ds, h with
    | [a0, a1, a2], _ => rfl
  · intro xs hx
    have hp : Try.f3.params.toList = [22, 9, 3] := rfl
    rw [hp] at hx ⊢
    have i0 : isA Try.prog 22 = false := by kernel_rfl
    have i1 : isA Try.prog 9 = false := by kernel_rfl
    have i2 : isA Try.prog 3 = false := by kernel_rfl
    rcases xs with _ | ⟨d0, _ | ⟨d1, _ | ⟨d2, _ | ⟨d3, xs⟩⟩⟩⟩ <;> simp only [Tyds, and_false] at hx
    obtain ⟨k0, k1, k2, _⟩ := hx
    obtain ⟨l, rfl, hl, wl⟩ := holds_of k0
    obtain ⟨b, rfl, hb⟩ := str_of k1
    obtain ⟨t, rfl, ht⟩ := int_of k2
    simp only [avs, i0, i1, i2, dv, Bool.false_eq_true, if_false, if_true, List.headD_cons, List.map_cons, List.map_nil]
    exact ticks_law l b t hl
theorem windowTicks_over : Rows.windowTicksRow.holds Try.pinned (OpenSpec.ofChange Rows.windowTicksSpec) :=
  OpenClaim.holds_of_wide 3 Try.f3 rfl rfl rfl rfl rfl rfl rfl ⟨rfl, rfl, rfl, rfl, rfl⟩ rfl rfl rfl rfl rfl (by kernel_rfl) Try.func3 (by kernel_rfl)
    (of_decide_eq_true (by kernel_rfl)) (by unfold Func.isWrapper; first | (rw [if_pos (by decide +kernel)]; kernel_rfl) | (rw [if_neg (by decide +kernel)]; exact ⟨rfl, rfl⟩))
    (fun os started H enc _ => windowTicks_lifted os started H enc)
/-- The row, under a short name, for the claim. -/
theorem windowTicks_holds : Rows.WindowTicksSaid := windowTicks_over
#print axioms windowTicks_holds
end Go.Proofs.Ytnmgmlmiijljmaa
namespace Go.AX.Wn
open Go.Proofs Go.RowKit Go.IntWalk Go.AX.Br
end Go.AX.Wn
namespace Go.Proofs.Ytnmgmlmiijljmaa
open Go.AX Go.AX.Wn Go.RowKit
set_option maxRecDepth 100000 in
theorem windowRanges_lifted (os : Os) (started : os.Started) (H : Type) (enc : TypeId × Value → H) :
    ReturnsInHanded {} Try.checked os 4 .any (Rows.windowRangesSpec.pre6 enc Try.prog Try.f4 Rows.windowRangesRow.domain false) (Rows.windowRangesSpec.post enc Try.prog Try.f4 false true false false) := by
  refine Go.AX.lifted (C := Try.checked) (f := 4) (fn := Try.f4) (s := Rows.windowRangesSpec) (rt := 4) (n := 8) (by kernel_rfl) (by kernel_rfl) Try.func4 rfl ?_ rfl (by kernel_rfl) (by kernel_rfl) (by kernel_rfl) (by kernel_rfl) os started H enc
    (ChangeSpec.witness6 (enc := enc) (C := Try.checked) false ⟨#[], #[.slice none 0 0, .string ByteArray.empty, .int .i64 0, .int .i64 0, .int .i64 0], []⟩ 8 (by kernel_rfl) (by kernel_rfl) (by kernel_rfl) (by kernel_rfl)) ?_
  · intro H ds h
    match ds, h with
    | [a0, a1, a2, a3, a4], _ => rfl
  · intro xs hx
    have hp : Try.f4.params.toList = [22, 9, 3, 3, 3] := rfl
    rw [hp] at hx ⊢
    have i0 : isA Try.prog 22 = false := by kernel_rfl
    have i1 : isA Try.prog 9 = false := by kernel_rfl
    have i2 : isA Try.prog 3 = false := by kernel_rfl
    have i3 : isA Try.prog 3 = false := by kernel_rfl
    have i4 : isA Try.prog 3 = false := by kernel_rfl
    rcases xs with _ | ⟨d0, _ | ⟨d1, _ | ⟨d2, _ | ⟨d3, _ | ⟨d4, _ | ⟨d5, xs⟩⟩⟩⟩⟩⟩ <;> simp only [Tyds, and_false] at hx
    obtain ⟨k0, k1, k2, k3, k4, _⟩ := hx
    obtain ⟨l, rfl, hl, wl⟩ := holds_of k0
    obtain ⟨b, rfl, hb⟩ := str_of k1
    obtain ⟨f, rfl, hf⟩ := int_of k2
    obtain ⟨t, rfl, ht⟩ := int_of k3
    obtain ⟨n, rfl, hn⟩ := int_of k4
    simp only [avs, i0, i1, i2, i3, i4, dv, Bool.false_eq_true, if_false, if_true, List.headD_cons, List.map_cons, List.map_nil]
    exact ranges_law l b f t n hl
theorem windowRanges_over : Rows.windowRangesRow.holds Try.pinned (OpenSpec.ofChange Rows.windowRangesSpec) :=
  OpenClaim.holds_of_wide 4 Try.f4 rfl rfl rfl rfl rfl rfl rfl ⟨rfl, rfl, rfl, rfl, rfl⟩ rfl rfl rfl rfl rfl (by kernel_rfl) Try.func4 (by kernel_rfl)
    (of_decide_eq_true (by kernel_rfl)) (by unfold Func.isWrapper; first | (rw [if_pos (by decide +kernel)]; kernel_rfl) | (rw [if_neg (by decide +kernel)]; exact ⟨rfl, rfl⟩))
    (fun os started H enc _ => windowRanges_lifted os started H enc)
/-- The row, under a short name, for the claim. -/
theorem windowRanges_holds : Rows.WindowRangesSaid := windowRanges_over
#print axioms windowRanges_holds
end Go.Proofs.Ytnmgmlmiijljmaa

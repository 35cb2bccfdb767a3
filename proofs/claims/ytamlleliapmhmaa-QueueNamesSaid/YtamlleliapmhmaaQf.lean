/- QueueAsks: whatever the input, the law returns true, and its arguments read as they did. No condition. -/
import Derived.Test.YtamlleliapmhmaaQe
import Derived.Test.YtamlleliapmhmaaRows
set_option maxHeartbeats 8000000
set_option linter.unusedVariables false
set_option linter.unusedSimpArgs false
set_option maxRecDepth 20000
namespace Go.AX.Qu
open Go.Proofs Go.RowKit Go.IntWalk Go.AX.Br
theorem int_of {n : Nat} {d : List D} (h : Tyd Try.prog (n + 1) 3 d) : ∃ i : Int, d = [.int .i64 i] ∧ (-9223372036854775808 ≤ i ∧ i ≤ 9223372036854775807) := by
  obtain ⟨i, rfl, hw⟩ := h.int Ty.under_3
  exact ⟨i, rfl, wf_i64 hw⟩
theorem u8_of {n : Nat} {d : List D} (h : Tyd Try.prog (n + 1) 5 d) : ∃ i : Int, d = [.int .u8 i] ∧ (0 ≤ i ∧ i ≤ 255) := by
  obtain ⟨i, rfl, hw⟩ := h.int Ty.under_5
  exact ⟨i, rfl, wf_u8 hw⟩
theorem bool_of {n : Nat} {d : List D} (h : Tyd Try.prog (n + 1) 4 d) : ∃ b : Bool, d = [.bool b] := h.bool Ty.under_4
theorem str_of {n : Nat} {d : List D} (h : Tyd Try.prog (n + 1) 9 d) : ∃ s : ByteArray, d = [.str s] ∧ Sm s.size := by
  obtain ⟨i, rfl, hw⟩ := h.str Ty.under_9
  exact ⟨i, rfl, hw⟩
theorem request_of {n : Nat} {x : List D} (h : Tyd Try.prog (n + 2) 52 x) : ∃ r : Rq, x = rD r ∧ (0 ≤ r.st ∧ r.st ≤ 255) ∧ (-9223372036854775808 ≤ r.tr ∧ r.tr ≤ 9223372036854775807) := by
  obtain ⟨f0, f1, f2, f3, f4, hu, e0, e1, e2, e3, e4⟩ : ∃ f0 f1 f2 f3 f4 : Field, Try.prog.underlying 52 = some (.struct #[f0, f1, f2, f3, f4]) ∧ f0.type = 9 ∧ f1.type = 9 ∧ f2.type = 5 ∧ f3.type = 4 ∧ f4.type = 3 := ⟨_, _, _, _, _, by rfl, rfl, rfl, rfl, rfl, rfl⟩
  have this := h.struct hu
  simp only [List.map_cons, List.map_nil, Sq] at this
  obtain ⟨a0, b0, rfl, k0, a1, b1, rfl, k1, a2, b2, rfl, k2, a3, b3, rfl, k3, a4, b4, rfl, k4, rfl⟩ := this
  rw [e0] at k0; rw [e1] at k1; rw [e2] at k2; rw [e3] at k3; rw [e4] at k4
  obtain ⟨i, rfl, _⟩ := str_of k0
  obtain ⟨j, rfl, _⟩ := str_of k1
  obtain ⟨s, rfl, hs⟩ := u8_of k2
  obtain ⟨o, rfl⟩ := bool_of k3
  obtain ⟨t, rfl, ht⟩ := int_of k4
  exact ⟨⟨i, j, s, o, t⟩, rfl, hs, ht⟩
theorem requests_of {n : Nat} {d : List D} (h : Tyd Try.prog (n + 3) 22 d) : ∃ q : List Rq, d = [.sl (q.map rD)] ∧ Sm q.length ∧ ∀ r ∈ q, (0 ≤ r.st ∧ r.st ≤ 255) ∧ (-9223372036854775808 ≤ r.tr ∧ r.tr ≤ 9223372036854775807) := by
  obtain ⟨es, rfl, h1, h2⟩ := h.slice Ty.under_22
  obtain ⟨l, rfl, hl⟩ := rows_ofP (g := rD) fun x hx => request_of (h2 x hx)
  refine ⟨l, rfl, ?_, hl⟩
  have hb : Try.prog.bytesOf 52 = 48 := by kernel_rfl
  rw [hb, List.length_map] at h1
  unfold Sm; omega
theorem askR_len (q : List Rq) (b c : ByteArray) (o : Bool) : (askR q b c o).1.length ≤ q.length + 1 := by
  unfold askR
  repeat' split
  all_goals simp
theorem settleR_len (q : List Rq) (b : ByteArray) (s : Int) : (settleR q b s).1.length ≤ q.length := by
  unfold settleR
  repeat' split
  all_goals simp
theorem qlineR_len (q : List Rq) (b : ByteArray) : (qlineR q b).1.length ≤ q.length := by
  unfold qlineR
  split
  · simp
  · exact lineL_len _ _ _
theorem great_len {q : List Rq} (h : qgreat q = false) : q.length ≤ 40 := by
  simp only [qgreat, Bool.or_eq_false_iff, decide_eq_false_iff_not] at h
  omega
theorem asks_law (q : List Rq) (b c : ByteArray) (o : Bool) (s : Int) (hq : Sm q.length) : Spec Try.prog 3 [.d (.sl (q.map rD)), .d (.str b), .d (.str c), .d (.bool o), .d (.int .u8 s)] [] (.d (.bool true)) [] := by
  refine spec_of_ev (fn := Try.f3) DX_ok 3000 Try.func3 rfl rfl (Nat.le_of_ble_eq_true rfl) ?_
  simp (maxSteps := 4000000) -implicitDefEqProofs only [Try.f3, go_sem]
  refine ecall0 _ (great_ref q hq) (by simp only [go_sem]) (by simp only [go_sem]) ?_
  simp (maxSteps := 4000000) -implicitDefEqProofs only [go_sem, Nat.reduceAdd, Nat.reduceSub, Nat.reduceLT, Nat.reduceLeDiff, Nat.reduceEqDiff, ↓reduceIte]
  cases h1 : qgreat q
  case true =>
    simp (maxSteps := 4000000) -implicitDefEqProofs only [go_sem, h1, Option.some.injEq, forall_eq', and_true, true_and, Bool.not_true, Bool.not_false, decide_true, Nat.reduceAdd, Nat.reduceSub, Nat.reduceLT, Nat.reduceLeDiff, Nat.reduceEqDiff, ↓reduceIte]
    exact wk_bool rfl
  cases h2 : decide (100 < (b.size : Int))
  case true =>
    simp (maxSteps := 4000000) -implicitDefEqProofs only [go_sem, h1, h2, Option.some.injEq, forall_eq', and_true, true_and, Bool.not_true, Bool.not_false, decide_true, Nat.reduceAdd, Nat.reduceSub, Nat.reduceLT, Nat.reduceLeDiff, Nat.reduceEqDiff, ↓reduceIte]
    exact wk_bool rfl
  cases h3 : decide (100 < (c.size : Int))
  case true =>
    simp (maxSteps := 4000000) -implicitDefEqProofs only [go_sem, h1, h2, h3, Option.some.injEq, forall_eq', and_true, true_and, Bool.not_true, Bool.not_false, decide_true, Nat.reduceAdd, Nat.reduceSub, Nat.reduceLT, Nat.reduceLeDiff, Nat.reduceEqDiff, ↓reduceIte]
    exact wk_bool rfl
  have hgl := great_len h1
  simp (maxSteps := 4000000) -implicitDefEqProofs only [go_sem, h1, h2, h3, Option.some.injEq, forall_eq', and_true, true_and, Bool.not_true, Bool.not_false, decide_true, Nat.reduceAdd, Nat.reduceSub, Nat.reduceLT, Nat.reduceLeDiff, Nat.reduceEqDiff, ↓reduceIte]
  refine ecallN _ _ (twin_ref q (by omega)) (by simp only [go_sem]) ?_
  simp (maxSteps := 4000000) -implicitDefEqProofs only [go_sem, Nat.reduceAdd, Nat.reduceSub, Nat.reduceLT, Nat.reduceLeDiff, Nat.reduceEqDiff, ↓reduceIte]
  refine ecall0 _ (ask_own q b c o hq) (by simp only [go_sem]) (by simp only [go_sem]) ?_
  simp (maxSteps := 4000000) -implicitDefEqProofs only [go_sem, Nat.reduceAdd, Nat.reduceSub, Nat.reduceLT, Nat.reduceLeDiff, Nat.reduceEqDiff, ↓reduceIte]
  refine ECall.frz 0 rfl ?_
  simp (maxSteps := 4000000) -implicitDefEqProofs only [go_sem, Nat.reduceAdd, Nat.reduceSub, Nat.reduceLT, Nat.reduceLeDiff, Nat.reduceEqDiff, ↓reduceIte]
  refine ecall0 _ (ask_ref q b c o hq) (by simp only [go_sem]) (by simp only [go_sem]) ?_
  simp (maxSteps := 4000000) -implicitDefEqProofs only [go_sem, Nat.reduceAdd, Nat.reduceSub, Nat.reduceLT, Nat.reduceLeDiff, Nat.reduceEqDiff, ↓reduceIte]
  refine ecall0 _ (headR_own q b hq) (by simp only [go_sem]) (by simp only [go_sem]) ?_
  simp (maxSteps := 4000000) -implicitDefEqProofs only [go_sem, Nat.reduceAdd, Nat.reduceSub, Nat.reduceLT, Nat.reduceLeDiff, Nat.reduceEqDiff, ↓reduceIte]
  refine ecall0 _ (headR_ref q b hq) (by simp only [go_sem]) (by simp only [go_sem]) ?_
  simp (maxSteps := 4000000) -implicitDefEqProofs only [go_sem, Nat.reduceAdd, Nat.reduceSub, Nat.reduceLT, Nat.reduceLeDiff, Nat.reduceEqDiff, ↓reduceIte]
  refine ecall0 _ (settle_own q b s hq) (by simp only [go_sem]) (by simp only [go_sem]) ?_
  simp (maxSteps := 4000000) -implicitDefEqProofs only [go_sem, Nat.reduceAdd, Nat.reduceSub, Nat.reduceLT, Nat.reduceLeDiff, Nat.reduceEqDiff, ↓reduceIte]
  refine ecall0 _ (settle_ref q b s hq) (by simp only [go_sem]) (by simp only [go_sem]) ?_
  simp (maxSteps := 4000000) -implicitDefEqProofs only [go_sem, Nat.reduceAdd, Nat.reduceSub, Nat.reduceLT, Nat.reduceLeDiff, Nat.reduceEqDiff, ↓reduceIte]
  refine ecall0 _ (qline_own q b hq) (by simp only [go_sem]) (by simp only [go_sem]) ?_
  simp (maxSteps := 4000000) -implicitDefEqProofs only [go_sem, Nat.reduceAdd, Nat.reduceSub, Nat.reduceLT, Nat.reduceLeDiff, Nat.reduceEqDiff, ↓reduceIte]
  refine ecall0 _ (qline_ref q b hq) (by simp only [go_sem]) (by simp only [go_sem]) ?_
  simp (maxSteps := 4000000) -implicitDefEqProofs only [go_sem, Nat.reduceAdd, Nat.reduceSub, Nat.reduceLT, Nat.reduceLeDiff, Nat.reduceEqDiff, ↓reduceIte]
  refine ecall0 _ (qcheck_own q hq) (by simp only [go_sem]) (by simp only [go_sem]) ?_
  simp (maxSteps := 4000000) -implicitDefEqProofs only [go_sem, Nat.reduceAdd, Nat.reduceSub, Nat.reduceLT, Nat.reduceLeDiff, Nat.reduceEqDiff, ↓reduceIte]
  refine ecall0 _ (qcheck_ref q hq) (by simp only [go_sem]) (by simp only [go_sem]) ?_
  simp (maxSteps := 4000000) -implicitDefEqProofs only [go_sem, Nat.reduceAdd, Nat.reduceSub, Nat.reduceLT, Nat.reduceLeDiff, Nat.reduceEqDiff, ↓reduceIte]
  have l1 := askR_len q b c o
  have l2 := settleR_len q b s
  have l3 := qlineR_len q b
  have e0 : (qcheck q == qcheck q) = true := by simp
  have e1 : ((askR q b c o).2 == (askR q b c o).2) = true := by simp
  have e2 : ((headR q b).1 == (headR q b).1) = true := by simp
  have e3 : ((headR q b).2 == (headR q b).2) = true := by simp
  have e4 : ((settleR q b s).2 == (settleR q b s).2) = true := by simp
  have e5 : ((qlineR q b).2 == (qlineR q b).2) = true := by simp
  try (simp (maxSteps := 4000000) -implicitDefEqProofs only [go_sem, e0, Option.some.injEq, forall_eq', and_true, true_and, Bool.not_true, Bool.not_false, decide_true, Nat.reduceAdd, Nat.reduceSub, Nat.reduceLT, Nat.reduceLeDiff, Nat.reduceEqDiff, ↓reduceIte])
  refine ecall0 _ (same_ref (askR q b c o).1 (askR q b c o).1 (by unfold Sm; omega)) (by simp only [go_sem]) (by simp only [go_sem]) ?_
  simp (maxSteps := 4000000) -implicitDefEqProofs only [go_sem, Nat.reduceAdd, Nat.reduceSub, Nat.reduceLT, Nat.reduceLeDiff, Nat.reduceEqDiff, ↓reduceIte]
  try (simp (maxSteps := 4000000) -implicitDefEqProofs only [go_sem, e1, e2, e3, Option.some.injEq, forall_eq', and_true, true_and, Bool.not_true, Bool.not_false, decide_true, Nat.reduceAdd, Nat.reduceSub, Nat.reduceLT, Nat.reduceLeDiff, Nat.reduceEqDiff, ↓reduceIte])
  refine ecall0 _ (same_ref (settleR q b s).1 (settleR q b s).1 (by unfold Sm; omega)) (by simp only [go_sem]) (by simp only [go_sem]) ?_
  simp (maxSteps := 4000000) -implicitDefEqProofs only [go_sem, Nat.reduceAdd, Nat.reduceSub, Nat.reduceLT, Nat.reduceLeDiff, Nat.reduceEqDiff, ↓reduceIte]
  try (simp (maxSteps := 4000000) -implicitDefEqProofs only [go_sem, e4, Option.some.injEq, forall_eq', and_true, true_and, Bool.not_true, Bool.not_false, decide_true, Nat.reduceAdd, Nat.reduceSub, Nat.reduceLT, Nat.reduceLeDiff, Nat.reduceEqDiff, ↓reduceIte])
  refine ecall0 _ (sameInts_ref (qlineR q b).1 (qlineR q b).1 (by unfold Sm; omega)) (by simp only [go_sem]) (by simp only [go_sem]) ?_
  simp (maxSteps := 4000000) -implicitDefEqProofs only [go_sem, Nat.reduceAdd, Nat.reduceSub, Nat.reduceLT, Nat.reduceLeDiff, Nat.reduceEqDiff, ↓reduceIte]
  try (simp (maxSteps := 4000000) -implicitDefEqProofs only [go_sem, e5, Option.some.injEq, forall_eq', and_true, true_and, Bool.not_true, Bool.not_false, decide_true, Nat.reduceAdd, Nat.reduceSub, Nat.reduceLT, Nat.reduceLeDiff, Nat.reduceEqDiff, ↓reduceIte])
  refine ecall0 _ (same_ref q q (by unfold Sm; omega)) (by simp only [go_sem]) (by simp only [go_sem]) ?_
  simp (maxSteps := 4000000) -implicitDefEqProofs only [go_sem, Nat.reduceAdd, Nat.reduceSub, Nat.reduceLT, Nat.reduceLeDiff, Nat.reduceEqDiff, ↓reduceIte]
  try (simp (maxSteps := 4000000) -implicitDefEqProofs only [go_sem, e5, Option.some.injEq, forall_eq', and_true, true_and, Bool.not_true, Bool.not_false, decide_true, Nat.reduceAdd, Nat.reduceSub, Nat.reduceLT, Nat.reduceLeDiff, Nat.reduceEqDiff, ↓reduceIte])
  exact wk_bool rfl
end Go.AX.Qu
namespace Go.Proofs.Ytamlleliapmhmaa
open Go.AX Go.AX.Qu Go.RowKit
set_option maxRecDepth 100000 in
theorem queueAsks_lifted (os : Os) (started : os.Started) (H : Type) (enc : TypeId × Value → H) :
    ReturnsInHanded {} Try.checked os 3 .any (Rows.queueAsksSpec.pre6 enc Try.prog Try.f3 Rows.queueAsksRow.domain false) (Rows.queueAsksSpec.post enc Try.prog Try.f3 false true false false) := by
  refine Go.AX.lifted (C := Try.checked) (f := 3) (fn := Try.f3) (s := Rows.queueAsksSpec) (rt := 4) (n := 8) (by kernel_rfl) (by kernel_rfl) Try.func3 rfl ?_ rfl (by kernel_rfl) (by kernel_rfl) (by kernel_rfl) (by kernel_rfl) os started H enc
    (ChangeSpec.witness6 (enc := enc) (C := Try.checked) false ⟨#[], #[.slice none 0 0, .string ByteArray.empty, .string ByteArray.empty, .bool false, .int .u8 0], []⟩ 8 (by kernel_rfl) (by kernel_rfl) (by kernel_rfl) (by kernel_rfl)) ?_
  · intro H ds h
    match ds, h with
    | [a0, a1, a2, a3, a4], _ => rfl
  · intro xs hx
    have hp : Try.f3.params.toList = [22, 9, 9, 4, 5] := rfl
    rw [hp] at hx ⊢
    have i0 : isA Try.prog 22 = false := by kernel_rfl
    have i1 : isA Try.prog 9 = false := by kernel_rfl
    have i2 : isA Try.prog 9 = false := by kernel_rfl
    have i3 : isA Try.prog 4 = false := by kernel_rfl
    have i4 : isA Try.prog 5 = false := by kernel_rfl
    rcases xs with _ | ⟨d0, _ | ⟨d1, _ | ⟨d2, _ | ⟨d3, _ | ⟨d4, _ | ⟨d5, xs⟩⟩⟩⟩⟩⟩ <;> simp only [Tyds, and_false] at hx
    obtain ⟨k0, k1, k2, k3, k4, _⟩ := hx
    obtain ⟨q, rfl, hq, wq⟩ := requests_of k0
    obtain ⟨b, rfl, hb⟩ := str_of k1
    obtain ⟨c, rfl, hc⟩ := str_of k2
    obtain ⟨o, rfl⟩ := bool_of k3
    obtain ⟨s, rfl, hs⟩ := u8_of k4
    simp only [avs, i0, i1, i2, i3, i4, dv, Bool.false_eq_true, if_false, if_true, List.headD_cons, List.map_cons, List.map_nil]
    exact asks_law q b c o s hq
theorem queueAsks_over : Rows.queueAsksRow.holds Try.pinned (OpenSpec.ofChange Rows.queueAsksSpec) :=
  OpenClaim.holds_of_wide 3 Try.f3 rfl rfl rfl rfl rfl rfl rfl ⟨rfl, rfl, rfl, rfl, rfl⟩ rfl rfl rfl rfl rfl (by kernel_rfl) Try.func3 (by kernel_rfl)
    (of_decide_eq_true (by kernel_rfl)) (by unfold Func.isWrapper; first | (rw [if_pos (by decide +kernel)]; kernel_rfl) | (rw [if_neg (by decide +kernel)]; exact ⟨rfl, rfl⟩))
    (fun os started H enc _ => queueAsks_lifted os started H enc)
/-- The row, under a short name, for the claim. -/
theorem queueAsks_holds : Rows.QueueAsksSaid := queueAsks_over
#print axioms queueAsks_holds
end Go.Proofs.Ytamlleliapmhmaa

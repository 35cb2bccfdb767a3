/- BranchCuts: whatever the input, the law returns true, and its arguments read as they did. No condition. -/
import Derived.Test.YtebkafjebnjcoaaBv
import Derived.Test.YtebkafjebnjcoaaBo
import Derived.Test.YtebkafjebnjcoaaRows
set_option maxHeartbeats 8000000
set_option linter.unusedVariables false
set_option linter.unusedSimpArgs false
set_option maxRecDepth 20000
namespace Go.AX.Br
open Go.Proofs Go.RowKit Go.IntWalk
theorem cutR_len (l : List Br) (cs : List Int) (a b : ByteArray) (n : Int) : (cutR l cs a b n).1.length ≤ l.length + 1 := by
  unfold cutR
  repeat' split
  all_goals simp
theorem lineR_len (l : List Br) (a : ByteArray) : (lineR l a).1.length ≤ l.length + 1 := by
  unfold lineR
  split
  · simp
  · next h1 =>
    split
    · simp
    · next h2 =>
      obtain ⟨i, x, k1, k2, k3⟩ := idx_get (p := has a) (l := l) (by omega)
      have := up_len (ok_of (show check l = 0 by omega)) i (some_lt k2)
      have := some_lt k2
      simp only [k1, Int.toNat_natCast, List.length_cons]
      omega
theorem hasR_len (l : List Br) (cs : List Int) (m : Mk) : (hasR l cs m).1.length ≤ l.length := by
  unfold hasR
  repeat' split
  · simp
  · simp
  · exact hasL_len _ _ _ _
theorem great_len {l : List Br} {cs : List Int} (h : great l cs = false) : l.length ≤ 20 := by
  simp only [great, Bool.or_eq_false_iff, decide_eq_false_iff_not] at h
  omega
theorem mark_of {n : Nat} {x : List D} (h : Tyd Try.prog (n + 2) 45 x) : ∃ p : Mk, x = mkD p ∧ (-9223372036854775808 ≤ p.b ∧ p.b ≤ 9223372036854775807) ∧ (-9223372036854775808 ≤ p.e ∧ p.e ≤ 9223372036854775807) := by
  obtain ⟨f0, f1, hu, e0, e1⟩ : ∃ f0 f1 : Field, Try.prog.underlying 45 = some (.struct #[f0, f1]) ∧ f0.type = 3 ∧ f1.type = 3 := ⟨_, _, by rfl, rfl, rfl⟩
  have this := h.struct hu
  simp only [List.map_cons, List.map_nil, Sq] at this
  obtain ⟨a0, b0, rfl, k0, a1, b1, rfl, k1, rfl⟩ := this
  rw [e0] at k0; rw [e1] at k1
  obtain ⟨i, rfl, hi⟩ := int_of k0
  obtain ⟨j, rfl, hj⟩ := int_of k1
  exact ⟨⟨i, j⟩, rfl, hi, hj⟩
theorem cuts_law (l : List Br) (cs : List Int) (frm nm : ByteArray) (n : Int) (m : Mk) (hl : Sm l.length) (hc : Sm cs.length) : Spec Try.prog 8 [.d (.sl (l.map bD)), .d (.sl (cs.map iD)), .d (.str frm), .d (.str nm), .d (.int .i64 n), mkA m] [] (.d (.bool true)) [] := by
  refine spec_of_ev (fn := Try.f8) DX_ok 3000 Try.func8 rfl rfl (Nat.le_of_ble_eq_true rfl) ?_
  simp (maxSteps := 4000000) only [Try.f8, go_sem]
  refine ecall0 _ (great_ref l cs hl) (by simp only [go_sem]) (by simp only [go_sem]) ?_
  simp (maxSteps := 4000000) only [go_sem, Nat.reduceAdd, Nat.reduceSub, Nat.reduceLT, Nat.reduceLeDiff, Nat.reduceEqDiff, ↓reduceIte]
  cases h1 : great l cs
  case true =>
    simp (maxSteps := 4000000) only [go_sem, h1, Option.some.injEq, forall_eq', and_true, true_and, Bool.not_true, Bool.not_false, decide_true, Nat.reduceAdd, Nat.reduceSub, Nat.reduceLT, Nat.reduceLeDiff, Nat.reduceEqDiff, ↓reduceIte]
    exact wk_bool rfl
  cases h2 : decide (100 < (frm.size : Int))
  case true =>
    simp (maxSteps := 4000000) only [go_sem, h1, h2, Option.some.injEq, forall_eq', and_true, true_and, Bool.not_true, Bool.not_false, decide_true, Nat.reduceAdd, Nat.reduceSub, Nat.reduceLT, Nat.reduceLeDiff, Nat.reduceEqDiff, ↓reduceIte]
    exact wk_bool rfl
  cases h3 : decide (100 < (nm.size : Int))
  case true =>
    simp (maxSteps := 4000000) only [go_sem, h1, h2, h3, Option.some.injEq, forall_eq', and_true, true_and, Bool.not_true, Bool.not_false, decide_true, Nat.reduceAdd, Nat.reduceSub, Nat.reduceLT, Nat.reduceLeDiff, Nat.reduceEqDiff, ↓reduceIte]
    exact wk_bool rfl
  have hgl := great_len h1
  simp (maxSteps := 4000000) only [go_sem, h1, h2, h3, Option.some.injEq, forall_eq', and_true, true_and, Bool.not_true, Bool.not_false, decide_true, Nat.reduceAdd, Nat.reduceSub, Nat.reduceLT, Nat.reduceLeDiff, Nat.reduceEqDiff, ↓reduceIte]
  refine ⟨by omega, ⟨by omega, by omega⟩, ?_⟩
  refine ecall0 _ (cut_own l cs frm nm n hl hc) (by simp only [go_sem]) (by simp only [go_sem]) ?_
  simp (maxSteps := 4000000) only [go_sem, Nat.reduceAdd, Nat.reduceSub, Nat.reduceLT, Nat.reduceLeDiff, Nat.reduceEqDiff, ↓reduceIte]
  refine ECall.frz 2 rfl ?_
  simp (maxSteps := 4000000) only [go_sem, Nat.reduceAdd, Nat.reduceSub, Nat.reduceLT, Nat.reduceLeDiff, Nat.reduceEqDiff, ↓reduceIte]
  refine ecall0 _ (cut_ref l cs frm nm n hl hc) (by simp only [go_sem]) (by simp only [go_sem]) ?_
  simp (maxSteps := 4000000) only [go_sem, Nat.reduceAdd, Nat.reduceSub, Nat.reduceLT, Nat.reduceLeDiff, Nat.reduceEqDiff, ↓reduceIte]
  refine ecall0 _ (line_own l frm hl) (by simp only [go_sem]) (by simp only [go_sem]) ?_
  simp (maxSteps := 4000000) only [go_sem, Nat.reduceAdd, Nat.reduceSub, Nat.reduceLT, Nat.reduceLeDiff, Nat.reduceEqDiff, ↓reduceIte]
  refine ecall0 _ (line_ref l frm hl) (by simp only [go_sem]) (by simp only [go_sem]) ?_
  simp (maxSteps := 4000000) only [go_sem, Nat.reduceAdd, Nat.reduceSub, Nat.reduceLT, Nat.reduceLeDiff, Nat.reduceEqDiff, ↓reduceIte]
  refine ecall0 _ (has_own' l cs m hl hc) (by simp only [go_sem]) (by simp only [go_sem]) ?_
  simp (maxSteps := 4000000) only [go_sem, Nat.reduceAdd, Nat.reduceSub, Nat.reduceLT, Nat.reduceLeDiff, Nat.reduceEqDiff, ↓reduceIte]
  refine ecall0 _ (has_ref l cs m hl hc) (by simp only [go_sem]) (by simp only [go_sem]) ?_
  simp (maxSteps := 4000000) only [go_sem, Nat.reduceAdd, Nat.reduceSub, Nat.reduceLT, Nat.reduceLeDiff, Nat.reduceEqDiff, ↓reduceIte]
  have l1 := cutR_len l cs frm nm n
  have l2 := lineR_len l frm
  have l3 := hasR_len l cs m
  refine ecall0 _ (same_ref (cutR l cs frm nm n).1 (cutR l cs frm nm n).1 (by unfold Sm; omega)) (by simp only [go_sem]) (by simp only [go_sem]) ?_
  simp (maxSteps := 4000000) only [go_sem, Nat.reduceAdd, Nat.reduceSub, Nat.reduceLT, Nat.reduceLeDiff, Nat.reduceEqDiff, ↓reduceIte]
  have e1 : ((cutR l cs frm nm n).2 == (cutR l cs frm nm n).2) = true := by simp
  have e2 : ((lineR l frm).2 == (lineR l frm).2) = true := by simp
  have e3 : ((hasR l cs m).2 == (hasR l cs m).2) = true := by simp
  simp (maxSteps := 4000000) only [go_sem, e1, e2, e3, Option.some.injEq, forall_eq', and_true, true_and, Bool.not_true, Bool.not_false, decide_true, Nat.reduceAdd, Nat.reduceSub, Nat.reduceLT, Nat.reduceLeDiff, Nat.reduceEqDiff, ↓reduceIte]
  refine ecall0 _ (sameTexts_ref (lineR l frm).1 (lineR l frm).1 (by unfold Sm; omega)) (by simp only [go_sem]) (by simp only [go_sem]) ?_
  simp (maxSteps := 4000000) only [go_sem, Nat.reduceAdd, Nat.reduceSub, Nat.reduceLT, Nat.reduceLeDiff, Nat.reduceEqDiff, ↓reduceIte]
  simp (maxSteps := 4000000) only [go_sem, e1, e2, e3, Option.some.injEq, forall_eq', and_true, true_and, Bool.not_true, Bool.not_false, decide_true, Nat.reduceAdd, Nat.reduceSub, Nat.reduceLT, Nat.reduceLeDiff, Nat.reduceEqDiff, ↓reduceIte]
  refine ecall0 _ (sameTexts_ref (hasR l cs m).1 (hasR l cs m).1 (by unfold Sm; omega)) (by simp only [go_sem]) (by simp only [go_sem]) ?_
  simp (maxSteps := 4000000) only [go_sem, Nat.reduceAdd, Nat.reduceSub, Nat.reduceLT, Nat.reduceLeDiff, Nat.reduceEqDiff, ↓reduceIte]
  simp (maxSteps := 4000000) only [go_sem, e1, e2, e3, Option.some.injEq, forall_eq', and_true, true_and, Bool.not_true, Bool.not_false, decide_true, Nat.reduceAdd, Nat.reduceSub, Nat.reduceLT, Nat.reduceLeDiff, Nat.reduceEqDiff, ↓reduceIte]
  refine ecall0 _ (same_ref l l (by unfold Sm; omega)) (by simp only [go_sem]) (by simp only [go_sem]) ?_
  simp (maxSteps := 4000000) only [go_sem, Nat.reduceAdd, Nat.reduceSub, Nat.reduceLT, Nat.reduceLeDiff, Nat.reduceEqDiff, ↓reduceIte]
  simp (maxSteps := 4000000) only [go_sem, e1, e2, e3, Option.some.injEq, forall_eq', and_true, true_and, Bool.not_true, Bool.not_false, decide_true, Nat.reduceAdd, Nat.reduceSub, Nat.reduceLT, Nat.reduceLeDiff, Nat.reduceEqDiff, ↓reduceIte]
  exact wk_bool rfl
end Go.AX.Br
namespace Go.Proofs.Ytebkafjebnjcoaa
open Go.AX Go.AX.Br Go.RowKit
set_option maxRecDepth 100000 in
theorem branchCuts_lifted (os : Os) (started : os.Started) (H : Type) (enc : TypeId × Value → H) :
    ReturnsInHanded {} Try.checked os 8 .any (Rows.branchCutsSpec.pre6 enc Try.prog Try.f8 Rows.branchCutsRow.domain false) (Rows.branchCutsSpec.post enc Try.prog Try.f8 false true false false) := by
  refine Go.AX.lifted (C := Try.checked) (f := 8) (fn := Try.f8) (s := Rows.branchCutsSpec) (rt := 4) (n := 8) (by kernel_rfl) (by kernel_rfl) Try.func8 rfl ?_ rfl (by kernel_rfl) (by kernel_rfl) (by kernel_rfl) (by kernel_rfl) os started H enc
    (ChangeSpec.witness6 (enc := enc) (C := Try.checked) false ⟨#[], #[.slice none 0 0, .slice none 0 0, .string ByteArray.empty, .string ByteArray.empty, .int .i64 0, .agg #[.int .i64 0, .int .i64 0]], []⟩ 8 (by kernel_rfl) (by kernel_rfl) (by kernel_rfl) (by kernel_rfl)) ?_
  · intro H ds h
    match ds, h with
    | [a0, a1, a2, a3, a4, a5], _ => rfl
  · intro xs hx
    have hp : Try.f8.params.toList = [22, 23, 9, 9, 3, 45] := rfl
    rw [hp] at hx ⊢
    have i0 : isA Try.prog 22 = false := by kernel_rfl
    have i1 : isA Try.prog 23 = false := by kernel_rfl
    have i2 : isA Try.prog 9 = false := by kernel_rfl
    have i3 : isA Try.prog 9 = false := by kernel_rfl
    have i4 : isA Try.prog 3 = false := by kernel_rfl
    have i5 : isA Try.prog 45 = true := by kernel_rfl
    rcases xs with _ | ⟨d0, _ | ⟨d1, _ | ⟨d2, _ | ⟨d3, _ | ⟨d4, _ | ⟨d5, _ | ⟨d6, xs⟩⟩⟩⟩⟩⟩⟩ <;> simp only [Tyds, and_false] at hx
    obtain ⟨k0, k1, k2, k3, k4, k5, _⟩ := hx
    obtain ⟨l, rfl, hl, wl⟩ := branches_of k0
    obtain ⟨cs, rfl, hcs, wcs⟩ := ints_of k1
    obtain ⟨a, rfl, ha⟩ := str_of k2
    obtain ⟨b, rfl, hb⟩ := str_of k3
    obtain ⟨n, rfl, hn⟩ := int_of k4
    obtain ⟨m, rfl, hm⟩ := mark_of k5
    simp only [avs, i0, i1, i2, i3, i4, i5, dv, Bool.false_eq_true, if_false, if_true, List.headD_cons, List.map_cons, List.map_nil]
    exact cuts_law l cs a b n m hl hcs
theorem branchCuts_over : Rows.branchCutsRow.holds Try.pinned (OpenSpec.ofChange Rows.branchCutsSpec) :=
  OpenClaim.holds_of_wide 8 Try.f8 rfl rfl rfl rfl rfl rfl rfl ⟨rfl, rfl, rfl, rfl, rfl⟩ rfl rfl rfl rfl rfl (by kernel_rfl) Try.func8 (by kernel_rfl)
    (of_decide_eq_true (by kernel_rfl)) (by unfold Func.isWrapper; first | (rw [if_pos (by decide +kernel)]; kernel_rfl) | (rw [if_neg (by decide +kernel)]; exact ⟨rfl, rfl⟩))
    (fun os started H enc _ => branchCuts_lifted os started H enc)
/-- The row, under a short name, for the claim. -/
theorem branchCuts_holds : Rows.BranchCutsSaid := branchCuts_over
#print axioms branchCuts_holds
end Go.Proofs.Ytebkafjebnjcoaa

/- The order of values, by the reference; Cmp. -/
import Derived.Test.YtheliodgamcdjaaK8
import Derived.KernelRfl
set_option maxHeartbeats 8000000
set_option linter.unusedVariables false
set_option linter.unusedSimpArgs false
set_option maxRecDepth 20000
namespace Go.AX.Co
open Go.Proofs Go.RowKit Go.IntWalk
theorem cmpI_self (x : Int) : cmpI x x = 0 := by unfold cmpI; rw [if_neg (by omega), if_neg (by omega)]
theorem cmpI_ne {x y : Int} (h : x ≠ y) : cmpI x y ≠ 0 := by unfold cmpI; split <;> (try split) <;> omega
theorem cmpB_cons {x y : Int} {a b : List Int} : cmpB (x :: a) (y :: b) = if x = y then cmpB a b else cmpI x y := by
  rw [cmpB]; unfold cmpI
  by_cases h : x = y
  · subst h; rw [if_neg (by omega), if_neg (by omega), if_pos rfl]
  · rw [if_neg h]
    by_cases h1 : x < y
    · rw [if_pos h1, if_pos h1]
    · rw [if_neg h1, if_neg h1, if_pos (by omega), if_pos (by omega)]
/-- what a right value of a kind is like -/
theorem right_kind {d : Nat} {k n : Int} {b : List Int} {l : List Vl} (h : rightP (d + 1) (.mk k n b l) = true) :
    (k = 1 ∧ b = [] ∧ l = []) ∨ (k = 2 ∧ n = 0 ∧ l = []) ∨ (k = 3 ∧ n = 0 ∧ b = [] ∧ ∀ x ∈ l, rightP d x = true) := by
  have ha := right_all h
  rw [rightP] at h
  by_cases k1 : k = 1
  · rw [if_pos k1, decide_eq_true_eq] at h
    exact .inl ⟨k1, List.length_eq_zero_iff.1 (by omega), List.length_eq_zero_iff.1 (by omega)⟩
  rw [if_neg k1] at h
  by_cases k2 : k = 2
  · rw [if_pos k2] at h
    simp only [Bool.and_eq_true, beq_iff_eq, decide_eq_true_eq] at h
    exact .inr (.inl ⟨k2, h.1, List.length_eq_zero_iff.1 h.2⟩)
  rw [if_neg k2] at h
  have := ha k1 k2
  rw [if_pos this.1] at h
  simp only [Bool.and_eq_true, beq_iff_eq, decide_eq_true_eq] at h
  exact .inr (.inr ⟨this.1, h.1.1, List.length_eq_zero_iff.1 h.1.2, this.2⟩)
end Go.AX.Co
/- Cmp, of the program and of the reference. -/
set_option maxHeartbeats 8000000
set_option linter.unusedVariables false
set_option linter.unusedSimpArgs false
set_option maxRecDepth 20000
namespace Go.AX.Co
open Go.Proofs Go.RowKit Go.IntWalk
def cmpP (a b : Vl) : Int × Int := if (encP a).2 ≠ 0 then (0, (encP a).2) else if (encP b).2 ≠ 0 then (0, (encP b).2) else (ordV a b, 0)
theorem enc_right {v : Vl} (h : (encP v).2 = 0) : rightP 6 v = true := by
  rw [encP_eq] at h
  cases hr : rightP 6 v with
  | true => rfl
  | false => rw [hr, if_pos rfl] at h; cases h
/-! ### values that are great -/
/-- all lengths are those of a machine -/
inductive SmV : Vl → Prop where
  | mk (k n : Int) (b : List Int) (l : List Vl) (hk : 0 ≤ k ∧ k ≤ 255) (hn : -9223372036854775808 ≤ n ∧ n ≤ 9223372036854775807) (hbb : Bytes b) (hb : Sm b.length) (hl : Sm l.length) (h : ∀ x, x ∈ l → SmV x) : SmV (.mk k n b l)
mutual
def cntV : Vl → Nat → Nat → Nat
  | .mk _ _ _ l, most, deep => cntL l 1 most deep
def cntL : List Vl → Nat → Nat → Nat → Nat
  | [], n, _, _ => n
  | x :: r, n, most, deep => if n < most ∧ 0 < deep then cntL r (n + cntV x (most - n) (deep - 1)) most deep else n
end
/-- wide: false means at most so deep -/
def widV : Nat → Vl → Bool
  | 0, .mk _ _ b l => decide (4000 < b.length) || !l.isEmpty
  | d + 1, .mk _ _ b l => decide (4000 < b.length) || l.any (widV d)
mutual
theorem cntV_le : ∀ (v : Vl) (most deep : Nat), 1 ≤ most → 1 ≤ cntV v most deep ∧ cntV v most deep ≤ most
  | .mk k n b l, most, deep, h => by rw [cntV]; exact ⟨cntL_ge l 1 most deep h, (cntL_le l 1 most deep h)⟩
theorem cntL_le : ∀ (l : List Vl) (n most deep : Nat), n ≤ most → cntL l n most deep ≤ most
  | [], n, most, deep, h => by rw [cntL]; exact h
  | x :: r, n, most, deep, h => by
    rw [cntL]
    split
    · next q => exact cntL_le r _ most deep (by have := (cntV_le x (most - n) (deep - 1) (by omega)).2; omega)
    · exact h
theorem cntL_ge : ∀ (l : List Vl) (n most deep : Nat), n ≤ most → n ≤ cntL l n most deep
  | [], n, most, deep, h => by rw [cntL]; exact Nat.le_refl _
  | x :: r, n, most, deep, h => by
    rw [cntL]
    split
    · next q => have := cntL_ge r (n + cntV x (most - n) (deep - 1)) most deep (by have := (cntV_le x (most - n) (deep - 1) (by omega)).2; omega); omega
    · exact Nat.le_refl _
end
end Go.AX.Co
/- Values that are great. -/
set_option maxHeartbeats 8000000
set_option linter.unusedVariables false
set_option linter.unusedSimpArgs false
set_option maxRecDepth 20000
namespace Go.AX.Co
open Go.Proofs Go.RowKit Go.IntWalk
theorem count_ref {v : Vl} (hv : SmV v) : ∀ most deep : Nat, 1 ≤ most → most ≤ 1000000 → deep ≤ 1000 → Spec Try.prog 35 [vA v, .d (.int .i64 most), .d (.int .i64 deep)] [] (.d (.int .i64 (cntV v most deep))) [] := by
  induction hv with
  | mk k n b l hk hn hbb hb hl hx ih =>
  intro most deep hm hm2 hd
  unfold Sm at hl
  rw [cntV]
  generalize hF : cntL l 1 most deep = F
  refine spec_of_ev (fn := Try.f35) DX_ok 3000 Try.func35 rfl rfl (Nat.le_of_ble_eq_true rfl) ?_
  simp (maxSteps := 4000000) -implicitDefEqProofs only [Try.f35, go_sem, vA]
  refine eloop (S := Nat × Nat) (fun s => mkE 39 [(1, .d (.int .i64 most)), (2, .d (.int .i64 deep)), (3, .ptr 0 0), (7, .d (.int .i64 s.2)), (8, .d (.int .i64 s.1))]) (fun s => [.cells [.d (.int .u8 k), .d (.int .i64 n), .d (.sl (b.map bY)), .d (.sl (l.map vD))]])
    (fun s => s.1 ≤ l.length ∧ s.2 ≤ most ∧ F = cntL (l.drop s.1) s.2 most deep) (fun s => l.length - s.1) ((0, 1) : Nat × Nat) ⟨Nat.zero_le _, hm, hF.symm⟩ (Wk.sub (by (simp only [go_sem]) <;> trivial)) ?_
  intro s hs
  obtain ⟨i, c⟩ := s
  simp only at hs ⊢
  have h1 := hs.1
  have h2 := hs.2.1
  have h3 := hs.2.2
  have d1 : decide ((i : Int) < l.length) = decide (i < l.length) := by rw [Bool.eq_iff_iff]; simp
  have d2 : decide ((c : Int) < most) = decide (c < most) := by rw [Bool.eq_iff_iff]; simp
  have d3 : decide (0 < (deep : Int)) = decide (0 < deep) := by rw [Bool.eq_iff_iff]; simp
  by_cases hi : i < l.length
  case neg =>
    rw [decide_eq_false hi] at d1
    rw [List.drop_eq_nil_of_le (by omega), cntL] at h3
    rw [h3]
    simp (maxSteps := 4000000) -implicitDefEqProofs only [go_sem, d1, Option.some.injEq, forall_eq', and_true, true_and, Bool.not_true, Bool.not_false, decide_true, Nat.reduceAdd, Nat.reduceSub, Nat.reduceLT, Nat.reduceLeDiff, Nat.reduceEqDiff, ↓reduceIte]
    exact (Wk.forget (by (simp only [go_sem]) <;> trivial) (by simp only [go_sem]))
  rw [decide_eq_true hi] at d1
  obtain ⟨x, hxi⟩ : ∃ x, l[i]? = some x := ⟨l[i]'hi, List.getElem?_eq_getElem _⟩
  have hdr : l.drop i = x :: l.drop (i + 1) := by rw [List.drop_eq_getElem_cons hi, (List.getElem?_eq_some_iff.1 hxi).2]
  rw [hdr, cntL] at h3
  by_cases hc : c < most
  case neg =>
    rw [decide_eq_false hc] at d2
    rw [if_neg (fun h => hc h.1)] at h3
    rw [h3]
    simp (maxSteps := 4000000) -implicitDefEqProofs only [go_sem, d1, d2, Option.some.injEq, forall_eq', and_true, true_and, Bool.not_true, Bool.not_false, decide_true, Nat.reduceAdd, Nat.reduceSub, Nat.reduceLT, Nat.reduceLeDiff, Nat.reduceEqDiff, ↓reduceIte]
    exact (Wk.forget (by (simp only [go_sem]) <;> trivial) (by simp only [go_sem]))
  rw [decide_eq_true hc] at d2
  by_cases hdp : 0 < deep
  case neg =>
    rw [decide_eq_false hdp] at d3
    rw [if_neg (fun h => hdp h.2)] at h3
    rw [h3]
    simp (maxSteps := 4000000) -implicitDefEqProofs only [go_sem, d1, d2, d3, Option.some.injEq, forall_eq', and_true, true_and, Bool.not_true, Bool.not_false, decide_true, Nat.reduceAdd, Nat.reduceSub, Nat.reduceLT, Nat.reduceLeDiff, Nat.reduceEqDiff, ↓reduceIte]
    exact (Wk.forget (by (simp only [go_sem]) <;> trivial) (by simp only [go_sem]))
  rw [decide_eq_true hdp] at d3
  rw [if_pos ⟨hc, hdp⟩] at h3
  have hxm := List.mem_of_getElem? hxi
  have c1 := ih x hxm (most - c) (deep - 1) (by omega) (by omega) (by omega)
  have cl := cntV_le x (most - c) (deep - 1) (by omega)
  generalize cntV x (most - c) (deep - 1) = q at c1 cl h3
  have n1 : (0 ≤ (i : Int) ∧ (i : Int) < l.length) = True := eq_true (by omega)
  have n2 : (i < l.length) = True := eq_true hi
  have w1 : IntKind.i64.wrap ((i : Int) + 1) = ((i + 1 : Nat) : Int) := by rw [i64_in _ (by omega)]; simp
  have w2 : IntKind.i64.wrap ((most : Int) - c) = ((most - c : Nat) : Int) := by rw [i64_in _ (by omega)]; omega
  have w3 : IntKind.i64.wrap ((deep : Int) - 1) = ((deep - 1 : Nat) : Int) := by rw [i64_in _ (by omega)]; omega
  have w4 : IntKind.i64.wrap ((c : Int) + q) = ((c + q : Nat) : Int) := by rw [i64_in _ (by omega)]; omega
  obtain ⟨xk, xn, xb, xl⟩ := x
  simp only [vA] at c1
  simp (maxSteps := 4000000) -implicitDefEqProofs only [go_sem, d1, d2, d3, n1, n2, hxi, vD, vDs_eq, w2, w3, Option.some.injEq, forall_eq', and_true, true_and, Bool.not_true, Bool.not_false, decide_true, Nat.reduceAdd, Nat.reduceSub, Nat.reduceLT, Nat.reduceLeDiff, Nat.reduceEqDiff, ↓reduceIte]
  refine .all _ _ (c1.lift0 _ (by simp only [go_sem]) (by simp only [go_sem])) ?_
  simp (maxSteps := 4000000) -implicitDefEqProofs only [go_sem, w4, w1, Option.some.injEq, forall_eq', and_true, true_and, Bool.not_true, Bool.not_false, decide_true, Nat.reduceAdd, Nat.reduceSub, Nat.reduceLT, Nat.reduceLeDiff, Nat.reduceEqDiff, ↓reduceIte]
  exact .mk ((i + 1, c + q) : Nat × Nat) ⟨by show i + 1 ≤ l.length; omega, by show c + q ≤ most; omega, h3⟩ (by show l.length - (i + 1) < l.length - i; omega) (Wk.sub (by (simp only [go_sem]) <;> trivial))
theorem wide_below (v : Vl) : Spec Try.prog 36 [vA v, .d (.int .i64 (-1))] [] (.d (.bool true)) [] := by
  obtain ⟨k, n, b, l⟩ := v
  have d1 : decide ((-1 : Int) < 0) = true := rfl
  refine spec_of_ev (fn := Try.f36) DX_ok 3000 Try.func36 rfl rfl (Nat.le_of_ble_eq_true rfl) ?_
  simp (maxSteps := 4000000) -implicitDefEqProofs only [Try.f36, go_sem, vA]
  simp (maxSteps := 4000000) -implicitDefEqProofs only [go_sem, d1, Option.some.injEq, forall_eq', and_true, true_and, Bool.not_true, Bool.not_false, decide_true, Nat.reduceAdd, Nat.reduceSub, Nat.reduceLT, Nat.reduceLeDiff, Nat.reduceEqDiff, ↓reduceIte]
  exact wk_bool rfl
theorem wide_ref {v : Vl} (hv : SmV v) : ∀ d : Nat, d ≤ 1000 → Spec Try.prog 36 [vA v, .d (.int .i64 d)] [] (.d (.bool (widV d v))) [] := by
  induction hv with
  | mk k n b l hk hn hbb hb hl hx ih =>
  intro d hd
  unfold Sm at hl hb
  have dz : decide ((d : Int) < 0) = false := decide_eq_false (by omega)
  have d4 : decide (4000 < (b.length : Int)) = decide (4000 < b.length) := by rw [Bool.eq_iff_iff]; simp; omega
  by_cases h4 : 4000 < b.length
  · rw [decide_eq_true h4] at d4
    have e : widV d (.mk k n b l) = true := by cases d <;> simp [widV, h4]
    rw [e]
    refine spec_of_ev (fn := Try.f36) DX_ok 3000 Try.func36 rfl rfl (Nat.le_of_ble_eq_true rfl) ?_
    simp (maxSteps := 4000000) -implicitDefEqProofs only [Try.f36, go_sem, vA]
    simp (maxSteps := 4000000) -implicitDefEqProofs only [go_sem, dz, d4, Option.some.injEq, forall_eq', and_true, true_and, Bool.not_true, Bool.not_false, decide_true, Nat.reduceAdd, Nat.reduceSub, Nat.reduceLT, Nat.reduceLeDiff, Nat.reduceEqDiff, ↓reduceIte]
    exact wk_bool rfl
  rw [decide_eq_false h4] at d4
  generalize hF : widV d (.mk k n b l) = F
  refine spec_of_ev (fn := Try.f36) DX_ok 3000 Try.func36 rfl rfl (Nat.le_of_ble_eq_true rfl) ?_
  simp (maxSteps := 4000000) -implicitDefEqProofs only [Try.f36, go_sem, vA]
  simp (maxSteps := 4000000) -implicitDefEqProofs only [go_sem, dz, d4, Option.some.injEq, forall_eq', and_true, true_and, Bool.not_true, Bool.not_false, decide_true, Nat.reduceAdd, Nat.reduceSub, Nat.reduceLT, Nat.reduceLeDiff, Nat.reduceEqDiff, ↓reduceIte]
  refine eloop (S := Nat) (fun i => mkE 29 [(1, .d (.int .i64 d)), (2, .ptr 0 0), (5, .d (.int .i64 i))]) (fun i => [.cells [.d (.int .u8 k), .d (.int .i64 n), .d (.sl (b.map bY)), .d (.sl (l.map vD))]])
    (fun i => i ≤ l.length ∧ (0 < i → 0 < d) ∧ ∀ j x, l[j]? = some x → j < i → widV (d - 1) x = false) (fun i => l.length - i) 0 ⟨by omega, by omega, by omega⟩ (Wk.sub (by (simp only [go_sem]) <;> trivial)) ?_
  intro i hs
  have h1 := hs.1
  have h0 := hs.2.1
  have h2 := hs.2.2
  rcases Nat.lt_or_ge i l.length with hi | hi
  case inr =>
    have f1 : decide ((i : Int) < l.length) = false := by simp; omega
    have : F = false := by
      rw [← hF]
      cases d with
      | zero =>
        have : l = [] := List.length_eq_zero_iff.1 (by omega)
        rw [widV, decide_eq_false h4, this]; rfl
      | succ d =>
        rw [widV, decide_eq_false h4, Bool.false_or, List.any_eq_false]
        intro x hxm
        obtain ⟨j, hj⟩ := List.mem_iff_getElem?.1 hxm
        simp [show widV d x = false from h2 j x hj (by have := some_lt hj; omega)]
    rw [this]
    simp (maxSteps := 4000000) -implicitDefEqProofs only [go_sem, f1, Option.some.injEq, forall_eq', and_true, true_and, Bool.not_true, Bool.not_false, decide_true, Nat.reduceAdd, Nat.reduceSub, Nat.reduceLT, Nat.reduceLeDiff, Nat.reduceEqDiff, ↓reduceIte]
    exact wk_bool rfl
  have f1 : decide ((i : Int) < l.length) = true := by simp; omega
  obtain ⟨x, hxi⟩ : ∃ x, l[i]? = some x := ⟨l[i]'hi, List.getElem?_eq_getElem _⟩
  have hxm := List.mem_of_getElem? hxi
  have n1 : (0 ≤ (i : Int) ∧ (i : Int) < l.length) = True := eq_true (by omega)
  have n2 : (i < l.length) = True := eq_true hi
  have w1 : IntKind.i64.wrap ((i : Int) + 1) = ((i + 1 : Nat) : Int) := by rw [i64_in _ (by omega)]; simp
  cases d with
  | zero =>
    have c1 := wide_below x
    have wd : IntKind.i64.wrap (((0 : Nat) : Int) - 1) = -1 := by decide
    have wd' : IntKind.i64.wrap ((0 : Int) - 1) = -1 := by decide
    have : F = true := by
      rw [← hF, widV]
      cases l with
      | nil => simp at hi
      | cons y l => simp
    rw [this]
    obtain ⟨xk, xn, xb, xl⟩ := x
    simp only [vA] at c1
    simp (maxSteps := 4000000) -implicitDefEqProofs only [go_sem, f1, n1, n2, hxi, vD, vDs_eq, wd, wd', Option.some.injEq, forall_eq', and_true, true_and, Bool.not_true, Bool.not_false, decide_true, Nat.reduceAdd, Nat.reduceSub, Nat.reduceLT, Nat.reduceLeDiff, Nat.reduceEqDiff, ↓reduceIte]
    refine .all _ _ (c1.lift0 _ (by simp only [go_sem]) (by simp only [go_sem])) ?_
    simp (maxSteps := 4000000) -implicitDefEqProofs only [go_sem, Nat.reduceAdd, Nat.reduceSub, Nat.reduceLT, Nat.reduceLeDiff, Nat.reduceEqDiff, ↓reduceIte]
    exact wk_bool rfl
  | succ d =>
    have wd : IntKind.i64.wrap (((d + 1 : Nat) : Int) - 1) = (d : Int) := by rw [i64_in _ (by omega)]; omega
    have c1 := ih x hxm d (by omega)
    have hnext : widV d x = false → ∀ j y, l[j]? = some y → j < i + 1 → widV d y = false := fun h => upto_succ (p := fun _ y => widV d y = false) hxi h h2
    have hbad : widV d x = true → F = true := fun h => by
      rw [← hF, widV, Bool.or_eq_true, List.any_eq_true]
      exact .inr ⟨x, hxm, h⟩
    generalize widV d x = B at c1 hnext hbad
    obtain ⟨xk, xn, xb, xl⟩ := x
    simp only [vA] at c1
    simp (maxSteps := 4000000) -implicitDefEqProofs only [go_sem, f1, n1, n2, hxi, vD, vDs_eq, wd, Option.some.injEq, forall_eq', and_true, true_and, Bool.not_true, Bool.not_false, decide_true, Nat.reduceAdd, Nat.reduceSub, Nat.reduceLT, Nat.reduceLeDiff, Nat.reduceEqDiff, ↓reduceIte]
    refine .all _ _ (c1.lift0 _ (by simp only [go_sem]) (by simp only [go_sem])) ?_
    cases B with
    | true =>
      rw [hbad rfl]
      simp (maxSteps := 4000000) -implicitDefEqProofs only [go_sem, Nat.reduceAdd, Nat.reduceSub, Nat.reduceLT, Nat.reduceLeDiff, Nat.reduceEqDiff, ↓reduceIte]
      exact wk_bool rfl
    | false =>
      simp (maxSteps := 4000000) -implicitDefEqProofs only [go_sem, w1, Option.some.injEq, forall_eq', and_true, true_and, Bool.not_true, Bool.not_false, decide_true, Nat.reduceAdd, Nat.reduceSub, Nat.reduceLT, Nat.reduceLeDiff, Nat.reduceEqDiff, ↓reduceIte]
      exact .mk (i + 1) ⟨by omega, fun _ => by omega, hnext rfl⟩ (by omega) (Wk.sub (by (simp only [go_sem]) <;> trivial))
def grV (v : Vl) : Bool := decide (2000 < cntV v 2001 20) || widV 20 v
theorem great_ref {v : Vl} (hv : SmV v) : Spec Try.prog 14 [vA v] [] (.d (.bool (grV v))) [] := by
  have c1 := count_ref hv 2001 20 (by omega) (by omega) (by omega)
  have c2 := wide_ref hv 20 (by omega)
  unfold grV
  have d1 : decide (2000 < (cntV v 2001 20 : Int)) = decide (2000 < cntV v 2001 20) := by rw [Bool.eq_iff_iff]; simp; omega
  generalize cntV v 2001 20 = c at c1 d1 ⊢
  generalize widV 20 v = B at c2 ⊢
  generalize decide (2000 < c) = G at d1 ⊢
  obtain ⟨k, n, b, l⟩ := v
  simp only [vA] at c1 c2
  rw [show ((2001 : Nat) : Int) = 2001 from rfl, show ((20 : Nat) : Int) = 20 from rfl] at c1
  rw [show ((20 : Nat) : Int) = 20 from rfl] at c2
  refine spec_of_ev (fn := Try.f14) DX_ok 3000 Try.func14 rfl rfl (Nat.le_of_ble_eq_true rfl) ?_
  simp (maxSteps := 4000000) -implicitDefEqProofs only [Try.f14, go_sem, vA]
  refine .all _ _ (c1.lift0 _ (by simp only [go_sem]) (by simp only [go_sem])) ?_
  cases G with
  | true =>
    simp (maxSteps := 4000000) -implicitDefEqProofs only [go_sem, d1, Option.some.injEq, forall_eq', and_true, true_and, Bool.not_true, Bool.not_false, decide_true, Nat.reduceAdd, Nat.reduceSub, Nat.reduceLT, Nat.reduceLeDiff, Nat.reduceEqDiff, ↓reduceIte]
    exact wk_bool rfl
  | false =>
    simp (maxSteps := 4000000) -implicitDefEqProofs only [go_sem, d1, Bool.false_or, Option.some.injEq, forall_eq', and_true, true_and, Bool.not_true, Bool.not_false, decide_true, Nat.reduceAdd, Nat.reduceSub, Nat.reduceLT, Nat.reduceLeDiff, Nat.reduceEqDiff, ↓reduceIte]
    refine .all _ _ (c2.lift0 _ (by simp only [go_sem]) (by simp only [go_sem])) ?_
    simp (maxSteps := 4000000) -implicitDefEqProofs only [go_sem, Nat.reduceAdd, Nat.reduceSub, Nat.reduceLT, Nat.reduceLeDiff, Nat.reduceEqDiff, ↓reduceIte]
    exact wk_bool rfl
theorem cntL_all : ∀ (l : List Vl) (n most deep : Nat), n ≤ most → 0 < deep → cntL l n most deep < most → n + l.length ≤ cntL l n most deep ∧ ∀ x ∈ l, ∃ m, m ≤ most ∧ cntV x m (deep - 1) < m
  | [], n, most, deep, _, _, h => ⟨by rw [cntL]; simp, by simp⟩
  | x :: r, n, most, deep, hn, hd, h => by
    rw [cntL] at h ⊢
    by_cases q : n < most
    case neg => rw [if_neg (fun p => q p.1)] at h; omega
    rw [if_pos ⟨q, hd⟩] at h ⊢
    have cl := cntV_le x (most - n) (deep - 1) (by omega)
    have ge := cntL_ge r (n + cntV x (most - n) (deep - 1)) most deep (by omega)
    have ih := cntL_all r (n + cntV x (most - n) (deep - 1)) most deep (by omega) hd h
    refine ⟨by rw [List.length_cons]; omega, fun y hy => ?_⟩
    rcases List.mem_cons.1 hy with rfl | hy
    · exact ⟨most - n, by omega, by omega⟩
    · exact ih.2 y hy
theorem fit_of : ∀ (d : Nat) (v : Vl), SmV v → widV d v = false → ∀ most deep, d ≤ deep → most ≤ 2001 → cntV v most deep < most → FitB v
  | 0, .mk k n b l, hv, hw, most, deep, _, _, _ => by
    obtain ⟨_, _, _, _, hk, hn, hbb, hb, hl, hx⟩ := hv
    rw [widV, Bool.or_eq_false_iff, decide_eq_false_iff_not] at hw
    have : l = [] := by cases l with
      | nil => rfl
      | cons x r => simp at hw
    subst this
    exact .mk _ _ _ _ hk hn hbb (by omega) (by simp) (by simp)
  | d + 1, .mk k n b l, hv, hw, most, deep, hd, hm, hc => by
    obtain ⟨_, _, _, _, hk, hn, hbb, hb, hl, hx⟩ := hv
    rw [widV, Bool.or_eq_false_iff, decide_eq_false_iff_not, List.any_eq_false] at hw
    rw [cntV] at hc
    have hm1 : 1 ≤ most := by omega
    have := cntL_all l 1 most deep hm1 (by omega) hc
    refine .mk _ _ _ _ hk hn hbb (by omega) (by omega) fun x hxm => ?_
    obtain ⟨m, hm', hcm⟩ := this.2 x hxm
    exact fit_of d x (hx x hxm) (by simpa using hw.2 x hxm) m (deep - 1) (by omega) (by omega) hcm
theorem fit_great {v : Vl} (hv : SmV v) (h : grV v = false) : FitB v := by
  unfold grV at h
  rw [Bool.or_eq_false_iff, decide_eq_false_iff_not] at h
  exact fit_of 20 v hv h.2 2001 20 (by omega) (by omega) (by omega)
end Go.AX.Co
/- A law's arguments, opened, where a type may hold itself. -/
set_option maxHeartbeats 8000000
set_option linter.unusedVariables false
set_option linter.unusedSimpArgs false
set_option maxRecDepth 20000
namespace Go.AX
open Go.ChangeShapes
/-- types of data, closed under their parts -/
def okT (P : Program) (S : List TypeId) (t : TypeId) : Bool := match P.underlying t with
  | some .bool => true
  | some (.int _) => true
  | some .string => true
  | some (.slice e) => decide (0 < P.cellsOf e) && S.contains e
  | some (.struct fs) => tile P 0 fs.toList == some (P.cellsOf t) && fs.toList.all fun f => S.contains f.type
  | some (.array m e) => m * P.cellsOf e == P.cellsOf t && S.contains e
  | _ => false
theorem Sq.mono : ∀ {p q : List (List D → Prop)} {ds : List D}, p.length = q.length → (∀ (i : Nat) (a b : List D → Prop) (ds : List D), p[i]? = some a → q[i]? = some b → a ds → b ds) → Sq p ds → Sq q ds
  | [], [], ds, _, _, h => h
  | a :: p, b :: q, ds, hl, H, h => by
    obtain ⟨x, y, rfl, h1, h2⟩ := h
    exact ⟨x, y, rfl, H 0 a b _ rfl rfl h1, Sq.mono (by simpa using hl) (fun i a b ds e1 e2 => H (i + 1) a b ds (by simpa using e1) (by simpa using e2)) h2⟩
  | [], _ :: _, _, hl, _, _ => by simp at hl
  | _ :: _, [], _, hl, _, _ => by simp at hl
theorem Tyd.succ {P : Program} : ∀ {n : Nat} {t : TypeId} {ds : List D}, Tyd P n t ds → Tyd P (n + 1) t ds := by
  intro n
  induction n with
  | zero => intro t ds h; exact h.elim
  | succ n ih =>
    intro t ds h
    rw [Tyd] at h ⊢
    cases hu : P.underlying t with
    | none => rw [hu] at h; exact h.elim
    | some u =>
      rw [hu] at h
      cases u <;> simp only at h ⊢ <;> try exact h
      case slice e =>
        obtain ⟨es, rfl, h1, h2⟩ := h
        exact ⟨es, rfl, h1, fun x hx => ih (h2 x hx)⟩
      case struct fs =>
        refine Sq.mono (by simp) (fun i a b ds e1 e2 hd => ?_) h
        rw [List.getElem?_map] at e1 e2
        cases q : fs.toList[i]? with
        | none => rw [q] at e1; simp at e1
        | some f => rw [q] at e1 e2; simp at e1 e2; subst e1 e2; exact ih hd
      case array m e =>
        refine Sq.mono (by simp) (fun i a b ds e1 e2 hd => ?_) h
        rw [List.getElem?_replicate] at e1 e2
        split at e1
        · next hi => rw [if_pos hi] at e2; simp at e1 e2; subst e1 e2; exact ih hd
        · simp at e1
theorem Tyd.more {P : Program} {n : Nat} {t : TypeId} {ds : List D} : ∀ k, Tyd P n t ds → Tyd P (n + k) t ds
  | 0, h => h
  | k + 1, h => (Tyd.more k h).succ
def TydsX (P : Program) : List TypeId → List (List D) → Prop
  | [], [] => True
  | t :: ts, d :: ds => (∃ n, Tyd P (n + 8) t d) ∧ TydsX P ts ds
  | _, _ => False
section
variable {H : Type} {enc : TypeId × Value → H} {P : Program} {W : World} {base : Nat} {spare : Nat → Bool} {held : Bool}
theorem open_tydR {S : List TypeId} (hS : S.all (okT P S) = true) : ∀ (n : Nat) (t : TypeId) (cs : List Value) (x : DataW H × List MemPlace), S.contains t = true → DataW.trod enc P W base spare held n t cs = some x → (∀ k ∈ x.1.weights P t, k ≤ reachBytes) →
    ∃ ds, DRs (full W) ds cs ∧ Tyd P n t ds := by
  intro n
  induction n with
  | zero => intro t cs x _ h; simp [DataW.trod] at h
  | succ n ih =>
    intro t cs x ht hm hw
    have hp := List.all_eq_true.1 hS t (by simpa using ht)
    unfold okT at hp
    simp only [Tyd]
    cases hu : P.underlying t with
    | none => rw [hu] at hp; simp at hp
    | some u =>
      rw [hu] at hp
      cases u <;> simp only [Bool.false_eq_true] at hp ⊢ <;> try exact hp.elim
      case bool =>
        obtain ⟨b, rfl, rfl⟩ := DataW.trod_bool hu hm
        exact ⟨[.bool b], by simp [DRs, DR], b, rfl⟩
      case int k =>
        obtain ⟨i, rfl, rfl, hwf⟩ := DataW.trod_int hu hm
        exact ⟨[.int k i], by simp [DRs, DR], i, rfl, hwf⟩
      case string =>
        obtain ⟨s, rfl, rfl, hs⟩ := DataW.trod_string hu hm
        refine ⟨[.str s], by simp [DRs, DR], s, rfl, ?_⟩
        have := hw s.data.toList.length (by simp only [DataW.weights, List.mem_singleton])
        exact wf_reach (by rw [Array.length_toList] at this; exact this)
      case slice e =>
        simp only [Bool.and_eq_true, decide_eq_true_eq] at hp
        rcases DataW.trod_slice hu hm with ⟨rfl, rfl⟩ | ⟨a, len, cap, elems, rest, m', hmm, rfl, rfl, hb, hl, hcm, hlen, hel, _, _⟩

        · exact ⟨[.sl []], by simp only [DRs, DR]; exact ⟨⟨none, 0, 0, rfl, Nat.le_refl _, fun h => absurd rfl h, fun _ => trivial, by simp [DRows]⟩, trivial⟩, [], rfl, by simp, by simp⟩
        · obtain rfl : n = m' := by omega
          have hmem : ∀ k ∈ DataW.weightsAll P e (elems.map (·.1)), k ≤ reachBytes := fun k hk => hw k (by simp [DataW.weights, hu]; exact .inr (.inl hk))
          have each : ∀ i, i < len → ∃ d, ∃ cs, W.cells? base (a.add (i * P.cellsOf e)) (P.cellsOf e) = some cs ∧ DRs (full W) d cs ∧ Tyd P n e d := fun i hi => by
            have h1 := hel i hi
            rw [List.getElem?_eq_getElem (by omega)] at h1
            obtain ⟨cs, h2, h3⟩ := Option.bind_eq_some_iff.1 h1
            obtain ⟨d, h4, h5⟩ := ih e cs _ hp.2 h3 (fun k hk => hmem k (weightsAll_mem (d := (elems[i]'(by omega)).1) (List.mem_map_of_mem (List.getElem_mem _)) k hk))
            exact ⟨d, cs, h2, h4, h5⟩
          obtain ⟨es, h1, h2⟩ := list_of len each
          subst h1
          refine ⟨[.sl es], ?_, es, rfl, ?_, fun x hx => ?_⟩
          · have hspot : ∀ i x, es[i]? = some x → a.spot = none := fun i x hx => by
              obtain ⟨x0, hx0⟩ : ∃ x0, es[0]? = some x0 := by
                have hlt := some_lt hx
                exact ⟨es[0]'(by omega), List.getElem?_eq_getElem (by omega)⟩
              obtain ⟨cs, k1, k2, k3⟩ := h2 0 x0 hx0
              obtain ⟨_, k4, k5⟩ := World.cells?_some k1
              have k6 := k5 0 hp.1
              rw [List.getElem?_eq_getElem (by omega)] at k6
              exact cell_spot (a := a) (by simpa [Addr.add] using k6)
            have hDR : DR (full W) (.sl es) (.slice (some a) es.length cap) := by
              simp only [DR]
              refine ⟨some a, cap, P.cellsOf e, rfl, hl, fun hne a' ha => ?_, nofun, DRows_mk fun i x hx => ?_⟩
              · cases ha
                cases es with
                | nil => exact absurd rfl hne
                | cons y ys => exact hspot 0 y rfl
              obtain ⟨cs, k1, k2, k3⟩ := h2 i x hx
              obtain ⟨_, k4, k5⟩ := World.cells?_some k1
              have hs := hspot i x hx
              refine ⟨(DRs_length k2).trans k4, DCells_mk hs k2 fun j v hv => ?_⟩
              have := k5 j (by rw [← k4]; exact some_lt hv)
              rw [hv] at this
              rw [Nat.zero_add, ← this, addr_add' hs, addr_add' hs, addr_add, Nat.add_assoc]
            simpa only [DRs, and_true] using hDR
          · have := hw ((elems.map (·.1)).length * P.bytesOf e + (rest.map (·.1)).length * P.bytesOf e) (by simp [DataW.weights, hu, Nat.add_mul])
            have h3 : es.length * P.bytesOf e ≤ reachBytes := by
              rw [List.length_map, hlen] at this; omega
            exact wf_reach h3
          · obtain ⟨i, hi⟩ := List.mem_iff_getElem?.1 hx
            obtain ⟨cs, k1, k2, k3⟩ := h2 i x hi
            exact k3
      case struct fs =>
        simp only [Bool.and_eq_true, beq_iff_eq, List.all_eq_true] at hp
        obtain ⟨xs, m', hmm, rfl, hlen, hxl, hf⟩ := DataW.trod_struct hu hm
        obtain rfl : n = m' := by omega
        obtain ⟨ds, h1, h2⟩ := open_fields (W := W) (n := n) (cs := cs) fs.toList 0 hp.1 hlen (Nat.zero_le _) fun f hfm => by
          obtain ⟨i, hi⟩ := List.mem_iff_getElem?.1 hfm
          have h3 := hf i f (by simpa using hi)
          have hil : i < xs.length := by rw [hxl]; have := some_lt hi; simpa using this
          rw [List.getElem?_eq_getElem hil] at h3
          refine ih f.type _ _ (hp.2 f hfm) h3 fun k hk => hw k ?_
          simp only [DataW.weights, hu]
          refine DataW.weights_mem_each (j := i) (t := f.type) (d := xs[i].1) ?_ ?_ k hk
          · rw [List.getElem?_map, hi]; rfl
          · rw [List.getElem?_map, List.getElem?_eq_getElem hil]; rfl
        exact ⟨ds, by simpa using h1, h2⟩
      case array k e =>
        simp only [Bool.and_eq_true, beq_iff_eq] at hp
        obtain ⟨xs, m', hmm, rfl, hlen, hxl, hf⟩ := DataW.trod_array hu hm
        obtain rfl : n = m' := by omega
        obtain ⟨ds, h1, h2⟩ := open_elems (P := P) (W := W) (n := n) (m := k) (e := e) (cs := cs) (fun i hi => by
          have h3 := hf i hi
          have hil : i < xs.length := by rw [hxl]; exact hi
          rw [List.getElem?_eq_getElem hil] at h3
          refine ih e _ _ hp.2 h3 fun q hq => hw q ?_
          simp only [DataW.weights, hu]
          exact weightsAll_mem (List.mem_map_of_mem (List.getElem_mem _)) q hq) (by rw [hlen, hp.1]) k (Nat.le_refl _)
        exact ⟨ds, by simpa using h1, h2⟩
theorem open_argsR {S : List TypeId} (hS : S.all (okT P S) = true) {c : Cf} (hc : c.h = full W) : ∀ {ts : List TypeId} {vs : List Value} {ds : List (DataW H)} {ps : List MemPlace}, DataW.TrodAll enc P W 0 spare held ts vs ds ps → (ts.all fun t => S.contains t) = true →
    (∀ k ∈ DataW.weightsEach P ts ds, k ≤ reachBytes) → (∀ (j : Nat) (t : TypeId) (v : Value), ts[j]? = some t → vs[j]? = some v → ∃ b, Value.okWide P W .any b t v) → ∃ xs, TydsX P ts xs ∧ ARs c (avs P ts xs) vs
  | [], [], [], ps, h, _, _, _ => ⟨[], trivial, by simp [avs, ARs]⟩
  | t :: ts, v :: vs, d :: ds, ps, h, hp, hw, hv => by
    obtain ⟨p, q, h1, h2, _⟩ := h
    simp only [List.all_cons, Bool.and_eq_true] at hp
    obtain ⟨xs, h3, h4⟩ := open_argsR hS hc h2 hp.2 (fun k hk => hw k (by simp only [DataW.weightsEach, List.mem_append]; exact .inr hk)) fun j t' v' e1 e2 => hv (j + 1) t' v' (by simpa using e1) (by simpa using e2)
    obtain ⟨m, hm⟩ := h1
    obtain ⟨x, h5, h6⟩ := open_tydR hS m t _ _ hp.1 hm fun k hk => hw k (by simp only [DataW.weightsEach, List.mem_append]; exact .inl hk)
    obtain ⟨b, hb⟩ := hv 0 t v rfl rfl
    exact ⟨x :: xs, ⟨⟨m, Tyd.more 8 h6⟩, h3⟩, ARs_cons.2 ⟨av_ok hc hb h5 h6, h4⟩⟩
  | [], _ :: _, _, _, h, _, _, _ => by simp [DataW.TrodAll] at h
  | [], [], _ :: _, _, h, _, _, _ => by simp [DataW.TrodAll] at h
  | _ :: _, [], _, _, h, _, _, _ => by simp [DataW.TrodAll] at h
  | _ :: _, _ :: _, [], _, h, _, _, _ => by simp [DataW.TrodAll] at h
end
theorem liftedR {C : Checked} {f : FuncId} {fn : Func} {s : ChangeSpec} {conds : List PathCond} {rt : TypeId} (S : List TypeId) (own : ownKnob C.prog.godebug = none) (noInit : C.prog.inits.idxOf? f = none) (hfn : C.prog.funcs[f]? = some fn)
    (hvars : s.vars = []) (hs : ∀ (H : Type) (ds : List (DataW H)), ds.length = fn.params.toList.length → s.fn H ds = { results := [.lit (.bool true)], args := ds })
    (hrt : fn.resultTypes = #[rt]) (hb : C.prog.underlying rt = some .bool) (hl : laidOutB C.prog = true) (hr : (fn.params.toList.all fun t => C.prog.readableRec t && decide (t < C.prog.types.size)) = true) (hS : S.all (okT C.prog S) = true) (hp : (fn.params.toList.all fun t => S.contains t) = true)
    (os : Os) (started : os.Started) (H : Type) (enc : TypeId × Value → H)
    (witness : ∃ (w : World) (tape : Tape) (i : Input), w.os = os ∧ (w.forCall tape i).Shaped C.prog ∧ i.vars = [] ∧ Input.okWide C.prog (w.forCall tape i) .any w.heap.size f i ∧
      s.pre6 enc C.prog fn conds false (w.forCall tape i).memory i.args ∧ Assume.holds {} C.prog (lone (Frame.enter C.prog f i.args .normal) [] (w.forCall tape i)))
    (spec : ∀ xs, TydsX C.prog fn.params.toList xs → Spec C.prog f (avs C.prog fn.params.toList xs) [] (.d (.bool true)) []) :
    ReturnsInHanded {} C os f .any (s.pre6 enc C.prog fn conds false) (s.post enc C.prog fn false true false false) := by
  refine returnsInHanded_of_change_sized own started noInit hfn witness ?_
  intro W base args ds gs before hval hW hcnd hsz _
  have hW' := hW
  obtain ⟨p, q, hA, hV, rfl, hfz, hnd⟩ := hW
  rw [hvars] at hV
  obtain ⟨rfl, rfl⟩ := trodVars_none hV
  have hvt : s.plain.varTypes C.prog = [] := by simp [ChangeSpec.plain, DataSpec.varTypes, hvars]
  rw [hvt, List.append_nil, List.append_nil] at hsz
  let c : Cf := ⟨W, full W, 0, fun _ => 0, fun _ => undef⟩
  have hH : Holds c [] := ⟨rfl, fun b o v h => h, by simp, by simp, by simp, by simp⟩
  obtain ⟨xs, h1, h2⟩ := open_argsR hS (c := c) rfl hA hp (fun k hk => by have := List.all_eq_true.1 hsz k hk; simpa using this) (fun j t v e1 e2 => ⟨base, hval j t v (by simpa using e1) (by simpa using e2)⟩)
  refine ((spec xs h1).2 c args hH h2).mono ?_
  rintro e w' ⟨c', v, rfl, rfl, hv, N⟩
  simp only [AR, DR] at hv
  subst hv
  have hdl : ds.length = fn.params.toList.length := by
    have : ∀ {ts : List TypeId} {vs : List Value} {ds : List (DataW H)} {ps : List MemPlace}, DataW.TrodAll enc C.prog W 0 (fun _ => true) true ts vs ds ps → ds.length = ts.length := by
      intro ts
      induction ts with
      | nil => intro vs ds ps h; cases vs <;> cases ds <;> simp_all [DataW.TrodAll]
      | cons t ts ih => intro vs ds ps h; cases vs <;> cases ds <;> simp_all [DataW.TrodAll]; obtain ⟨p, q, _, h2, _⟩ := h; exact ih h2
    exact this hA
  refine ⟨_, rfl, ds, [], _, [], p, [], hW', ?_, ?_, ?_, N.below.frame _, fun h => by cases h⟩
  · rw [List.append_nil, hs H ds hdl, hrt]
    exact trodAll_mk1 (RowKit.shut_bool hb true)
  · rw [List.append_nil, hs H ds hdl]
    exact trodAll_carry hl N.below hA hr
  · rw [hvars]; rw [List.append_nil, hs H ds hdl]; rfl
end Go.AX
namespace Go.AX.Co
open Go.Proofs Go.RowKit Go.IntWalk
theorem agg_vD (v : Vl) : AV.agg ((vD v).map AV.d) = vA v := by
  cases v; rw [vD, vDs_eq]; rfl
theorem i64_of {n : Nat} {d : List D} (h : Tyd Try.prog (n + 1) 2 d) : ∃ i : Int, d = [.int .i64 i] ∧ (-9223372036854775808 ≤ i ∧ i ≤ 9223372036854775807) := by
  obtain ⟨i, rfl, hw⟩ := h.int Ty.under_2
  exact ⟨i, rfl, wf_i64 hw⟩
theorem int_of {n : Nat} {d : List D} (h : Tyd Try.prog (n + 1) 3 d) : ∃ i : Int, d = [.int .i64 i] ∧ (-9223372036854775808 ≤ i ∧ i ≤ 9223372036854775807) := by
  obtain ⟨i, rfl, hw⟩ := h.int Ty.under_3
  exact ⟨i, rfl, wf_i64 hw⟩
theorem under_value : ∃ f0 f1 f2 f3 : Field, Try.prog.underlying 25 = some (.struct #[f0, f1, f2, f3]) ∧ f0.type = 5 ∧ f1.type = 2 ∧ f2.type = 22 ∧ f3.type = 23 := ⟨_, _, _, _, by rfl, rfl, rfl, rfl, rfl⟩
theorem value_of : ∀ (n : Nat) {d : List D}, Tyd Try.prog n 25 d → ∃ v : Vl, d = vD v ∧ SmV v
  | 0, _, h => h.elim
  | 1, d, h => by
    obtain ⟨f0, f1, f2, f3, hu, e0, e1, e2, e3⟩ := under_value
    have this := h.struct hu
    simp only [List.map_cons, List.map_nil, Sq] at this
    obtain ⟨a0, b0, rfl, k0, _⟩ := this
    exact k0.elim
  | n + 2, d, h => by
    obtain ⟨f0, f1, f2, f3, hu, e0, e1, e2, e3⟩ := under_value
    have this := h.struct hu
    simp only [List.map_cons, List.map_nil, Sq] at this
    obtain ⟨a0, b0, rfl, k0, a1, b1, rfl, k1, a2, b2, rfl, k2, a3, b3, rfl, k3, rfl⟩ := this
    rw [e0] at k0; rw [e1] at k1; rw [e2] at k2; rw [e3] at k3
    obtain ⟨k, rfl, hk⟩ := u8_of k0
    obtain ⟨i, rfl, hi⟩ := i64_of k1
    obtain ⟨bs, rfl, hb, hbb⟩ := bytes_of k2.succ
    obtain ⟨es, rfl, h1, h2⟩ := k3.slice Ty.under_23
    obtain ⟨l, rfl, hl⟩ := rows_ofP (g := vD) (Q := SmV) fun x hx => value_of n (h2 x hx)
    refine ⟨.mk k i bs l, by rw [vD, vDs_eq]; rfl, .mk k i bs l hk hi hbb hb ?_ hl⟩
    have hbo : Try.prog.bytesOf 25 = 64 := by kernel_rfl
    rw [hbo, List.length_map] at h1
    unfold Sm; omega
end Go.AX.Co
/- Values: what is written is read, and the other way about. -/
set_option maxHeartbeats 8000000
set_option linter.unusedVariables false
set_option linter.unusedSimpArgs false
set_option maxRecDepth 20000
namespace Go.AX.Co
open Go.Proofs Go.RowKit Go.IntWalk
theorem pow7 (i : Nat) : 2 ^ (7 * (i + 1)) = 128 * 2 ^ (7 * i) := by rw [Nat.mul_add, Nat.pow_add, Nat.mul_comm]
theorem num_read : ∀ (f i a m : Nat) (r : List Int), i + f = 10 → m < 2 ^ (64 - 7 * i) → (0 < i → 1 ≤ m) → numP f i a (codeF f m ++ r) = (m * 2 ^ (7 * i) + a, r, false) ∨ f = 0
  | 0, _, _, _, _, _, _, _ => .inr rfl
  | f + 1, i, a, m, r, hf, hm, h0 => by
    left
    have hi : i ≤ 9 := by omega
    have h9 : i = 9 → m < 2 := fun h => by subst h; exact hm
    rw [codeF]
    by_cases h : 127 < m
    · rw [if_pos h, List.cons_append, numP]
      have hx : ¬ ((i = 9 ∧ (1 : Int) < ((m % 128 + 128 : Nat) : Int)) ∨ (0 < i ∧ ((m % 128 + 128 : Nat) : Int) = 0)) := by omega
      rw [if_neg hx, if_neg (by omega), Int.toNat_natCast]
      have e : (m % 128 + 128) % 128 = m % 128 := by omega
      rw [e]
      have hi8 : i ≤ 8 := by
        rcases Nat.lt_or_ge i 9 with q | q
        · omega
        · have := h9 (by omega); omega
      have hm' : m / 128 < 2 ^ (64 - 7 * (i + 1)) := by
        apply Nat.div_lt_of_lt_mul
        have : 64 - 7 * i = 7 + (64 - 7 * (i + 1)) := by omega
        rw [this, Nat.pow_add] at hm
        exact hm
      rcases num_read f (i + 1) (m % 128 * 2 ^ (7 * i) + a) (m / 128) r (by omega) hm' (fun _ => by omega) with q | q
      · rw [q, pow7]
        congr 1
        have : m / 128 * (128 * 2 ^ (7 * i)) + m % 128 * 2 ^ (7 * i) = m * 2 ^ (7 * i) := by
          rw [← Nat.mul_assoc, ← Nat.add_mul]; congr 1; omega
        omega
      · omega
    · rw [if_neg h, List.singleton_append, numP]
      have hx : ¬ ((i = 9 ∧ (1 : Int) < ((m % 256 : Nat) : Int)) ∨ (0 < i ∧ ((m % 256 : Nat) : Int) = 0)) := by
        rintro (q | q)
        · have := h9 q.1; omega
        · have := h0 q.1; omega
      rw [if_neg hx, if_pos (by omega), Int.toNat_natCast]
      have e : m % 256 % 128 = m := by omega
      rw [e]
theorem num_back (n : Nat) (hn : n < 2 ^ 64) (r : List Int) : numR (codeF 10 n ++ r) false = (n, r, false) := by
  rcases num_read 10 0 0 n r rfl hn (fun h => absurd h (Nat.lt_irrefl 0)) with h | h
  · show numP 10 0 0 _ = _
    rw [h]; simp
  · omega
theorem num_inv : ∀ (f i a N : Nat) (q r : List Int), i + f = 10 → Bytes q → numP f i a q = (N, r, false) → ∃ m, N = m * 2 ^ (7 * i) + a ∧ q = codeF f m ++ r ∧ (0 < i → 1 ≤ m)
  | 0, _, _, _, _, _, _, _, h => by simp [numP] at h
  | _ + 1, _, _, _, [], _, _, _, h => by simp [numP] at h
  | f + 1, i, a, N, x :: q, r, hf, hB, h => by
    have hx := hB x (by simp)
    rw [numP] at h
    split at h
    · simp at h
    next hb =>
    split at h
    next h1 =>
      simp only [Prod.mk.injEq, and_true] at h
      obtain ⟨rfl, rfl⟩ := h
      refine ⟨x.toNat, by congr 2; omega, ?_, fun h => by omega⟩
      rw [codeF, if_neg (by omega), List.singleton_append]
      congr 1; omega
    next h1 =>
      obtain ⟨m, e1, e2, e3⟩ := num_inv f (i + 1) _ N q r (by omega) (fun e he => hB e (by simp [he])) h
      have h3 := e3 (by omega)
      refine ⟨m * 128 + x.toNat % 128, ?_, ?_, fun _ => by omega⟩
      · rw [e1, pow7, Nat.add_mul, Nat.mul_assoc]; omega
      · rw [codeF, if_pos (by omega), List.cons_append, e2]
        congr 1
        · omega
        · congr 2; omega
theorem num_inv' {N : Nat} {q r : List Int} (hB : Bytes q) (h : numR q false = (N, r, false)) : q = codeF 10 N ++ r := by
  obtain ⟨m, e1, e2, _⟩ := num_inv 10 0 0 N q r rfl hB h
  have : N = m := by simpa using e1
  subst this; exact e2
theorem unf_fold {n : Int} : unf (foldN n) = n := by
  unfold foldN unf
  by_cases h : 0 ≤ n
  · rw [if_pos h, if_pos (by omega)]; omega
  · rw [if_neg h, if_neg (by omega)]; omega
theorem fold_unf {n : Nat} : foldN (unf n) = n := by
  unfold foldN unf
  by_cases h : n % 2 = 0
  · rw [if_pos h, if_pos (by omega)]; omega
  · rw [if_neg h, if_neg (by omega)]; omega
theorem encV_pos (v : Vl) : 1 ≤ (encV v).length := by
  cases v; rw [encV]; split
  · simp
  split
  · simp
  · simp
theorem encL_len : ∀ l : List Vl, l.length ≤ (encL l).length
  | [] => by simp
  | x :: r => by have := encV_pos x; have := encL_len r; rw [encL, List.length_append, List.length_cons]; omega
theorem lis_back {g : List Int → Vl × List Int × Bool} : ∀ (l : List Vl) (r : List Int), (∀ x ∈ l, ∀ r, g (encV x ++ r) = (x, r, false)) → lisP g l.length (encL l ++ r) false = (l, r, false)
  | [], r, _ => by rw [encL]; rfl
  | x :: l, r, h => by
    rw [encL, List.append_assoc, List.length_cons, lisP, if_neg (by simp), h x (by simp)]
    rw [lis_back l r fun y hy => h y (List.mem_cons_of_mem _ hy)]
/-- what is written is read -/
theorem val_back : ∀ (d : Nat) (v : Vl), FitW v → rightP d v = true → ∀ r, valP d (encV v ++ r) = (v, r, false)
  | 0, .mk _ _ _ _, _, h, _ => by cases h
  | d + 1, .mk k n b l, hv, h, r => by
    obtain ⟨_, _, _, _, hn, hb, hl, hx⟩ := hv
    have q := right_kind h
    rw [encV]
    by_cases k1 : k = 1
    · obtain ⟨_, rfl, rfl⟩ : k = 1 ∧ b = [] ∧ l = [] := by rcases q with q | q | q <;> first | exact q | (exfalso; omega)
      rw [if_pos k1, List.cons_append, valP, num_back _ (foldN_lt hn.1 hn.2), if_pos k1, unf_fold, k1]
    rw [if_neg k1]
    by_cases k2 : k = 2
    · obtain ⟨_, rfl, rfl⟩ : k = 2 ∧ n = 0 ∧ l = [] := by rcases q with q | q | q <;> first | exact q | (exfalso; omega)
      rw [if_pos k2, List.cons_append, List.append_assoc, valP, num_back _ (by omega), if_neg k1, if_pos k2, k2]
      have e : takeP b.length (b ++ r) false = (b, r, false) := by unfold takeP; rw [if_neg (by simp)]; simp
      simp only [e]
    rw [if_neg k2]
    obtain ⟨k3, rfl, rfl, hr⟩ : k = 3 ∧ n = 0 ∧ b = [] ∧ ∀ x ∈ l, rightP d x = true := by rcases q with q | q | q <;> first | exact q | (exfalso; omega)
    rw [List.cons_append, List.append_assoc, valP, num_back _ (by omega), if_neg k1, if_neg k2, if_pos k3, k3]
    have hlen := encL_len l
    have e : (false || decide ((encL l ++ r).length < l.length)) = false := by rw [Bool.false_or, decide_eq_false_iff_not, List.length_append]; omega
    simp only [e, lis_back l r fun x hm r => val_back d x (hx x hm) (hr x hm) r]
theorem lis_inv {g : List Int → Vl × List Int × Bool} {K : List Int → Prop} {Q : Vl → Prop} (hK : ∀ r, K r → K (g r).2.1) (hg : ∀ r, K r → (g r).2.2 = false → r = encV (g r).1 ++ (g r).2.1 ∧ Q (g r).1) :
    ∀ (n : Nat) (r : List Int) (b : Bool), K r → (lisP g n r b).2.2 = false → r = encL (lisP g n r b).1 ++ (lisP g n r b).2.1 ∧ (lisP g n r b).1.length = n ∧ b = false ∧ ∀ x ∈ (lisP g n r b).1, Q x
  | 0, r, b, _, h => ⟨by simp [lisP, encL], rfl, by simpa [lisP] using h, by simp [lisP]⟩
  | n + 1, r, b, hr, h => by
    rw [lisP] at h ⊢
    cases b with
    | true => rw [if_pos rfl] at h; cases h
    | false =>
      rw [if_neg (by simp)] at h ⊢
      obtain ⟨e1, e2, e3, e4⟩ := lis_inv hK hg n (g r).2.1 (g r).2.2 (hK r hr) h
      obtain ⟨e5, e6⟩ := hg r hr e3
      refine ⟨?_, by simp [e2], rfl, fun x hx => ?_⟩
      · rw [encL, List.append_assoc, ← e1, ← e5]
      · rcases List.mem_cons.1 hx with rfl | hx
        · exact e6
        · exact e4 x hx
/-- what is read was written -/
theorem val_inv : ∀ (d : Nat) (b : List Int), Bytes b → b.length ≤ 900000 → (valP d b).2.2 = false → b = encV (valP d b).1 ++ (valP d b).2.1 ∧ rightP d (valP d b).1 = true
  | 0, [], _, _, h => by cases h
  | _ + 1, [], _, _, h => by cases h
  | 0, x :: q, _, _, h => by cases h
  | d + 1, x :: q, hB, hlen, h => by
    have hqB : Bytes q := fun e he => hB e (by simp [he])
    have hql : q.length ≤ 900000 := by simp at hlen; omega
    have hnum := num_inv' (N := (numR q false).1) (r := (numR q false).2.1) hqB
    have hnb := valP_bad (d := d) (x := x) (q := q)
    have hb : (numR q false).2.2 = false := by
      cases hh : (numR q false).2.2 with
      | false => rfl
      | true => rw [hnb hh] at h; cases h
    have nl := numR_left q false
    have hq := hnum (Prod.ext rfl (Prod.ext rfl hb))
    rw [valP] at h ⊢
    generalize numR q false = m at h hb hq nl ⊢
    have hmB := nl.bytes hqB
    have hml := nl.len
    by_cases k1 : x = 1
    · rw [if_pos k1] at h ⊢
      refine ⟨?_, ?_⟩
      · simp only
        rw [encV, if_pos rfl, fold_unf, k1, List.cons_append, ← hq]
      · simp only; rw [rightP, if_pos rfl]; simp
    rw [if_neg k1] at h ⊢
    by_cases k2 : x = 2
    · rw [if_pos k2] at h ⊢
      have ht : ¬ (m.2.2 = true ∨ m.2.1.length < m.1) := fun hh => by
        have e : takeP m.1 m.2.1 m.2.2 = ([], m.2.1, true) := by unfold takeP; rw [if_pos hh]
        rw [e] at h; cases h
      have e : takeP m.1 m.2.1 m.2.2 = (m.2.1.take m.1, m.2.1.drop m.1, false) := by unfold takeP; rw [if_neg ht]
      rw [e]
      have hlt : (m.2.1.take m.1).length = m.1 := by rw [List.length_take]; omega
      refine ⟨?_, ?_⟩
      · simp only
        rw [encV, if_neg (by omega), if_pos rfl, hlt, List.cons_append, List.append_assoc, List.take_append_drop, ← hq, k2]
      · simp only; rw [rightP, if_neg (by omega), if_pos rfl]; simp
    rw [if_neg k2] at h ⊢
    by_cases k3 : x = 3
    · rw [if_pos k3] at h ⊢
      simp only at h ⊢
      have hinv := lis_inv (g := valP d) (K := fun r => Bytes r ∧ r.length ≤ 900000) (Q := fun v => rightP d v = true) (fun r hr => ⟨(valP_left d r).bytes hr.1, by have := (valP_left d r).len; omega⟩)
        (fun r hr hf => val_inv d r hr.1 hr.2 hf) m.1 m.2.1 (m.2.2 || decide (m.2.1.length < m.1)) ⟨hmB, by omega⟩ h
      generalize lisP (valP d) m.1 m.2.1 (m.2.2 || decide (m.2.1.length < m.1)) = F at hinv h ⊢
      obtain ⟨e1, e2, e3, e4⟩ := hinv
      refine ⟨?_, ?_⟩
      · rw [encV, if_neg (by omega), if_neg (by omega), e2, List.cons_append, List.append_assoc, ← e1, ← hq, k3]
      · rw [rightP, if_neg (by omega), if_neg (by omega), if_pos rfl]
        have : (F.1.any fun x => !rightP d x) = false := by rw [List.any_eq_false]; intro y hy; simp [e4 y hy]
        rw [this]; simp
    · rw [if_neg k3] at h; cases h
/-- one encoding for each value -/
theorem dec_enc {v : Vl} (hv : FitW v) (h : (encP v).2 = 0) : decP (encP v).1 = (v, 0) ∧ ∀ r, nextP ((encP v).1 ++ r) = (v, (encP v).1.length, 0) := by
  have hr := enc_right h
  rw [encP_eq, hr, if_neg (by simp)] at h ⊢
  by_cases hl : 3000 < (encV v).length
  · rw [if_pos hl] at h; cases h
  rw [if_neg hl] at h ⊢
  have hn : ∀ r, nextP (encV v ++ r) = (v, (encV v).length, 0) := fun r => by
    unfold nextP
    rw [val_back 6 v hv hr r]
    simp only [List.length_append, Nat.add_sub_cancel]
    rw [if_neg (by simp; omega)]
  refine ⟨?_, hn⟩
  have := hn []
  rw [List.append_nil] at this
  unfold decP
  rw [this]
  simp
theorem enc_len' (v : Vl) : (encP v).1.length ≤ 3000 := by
  rw [encP_eq]
  split
  · simp
  split
  · simp
  · show (encV v).length ≤ 3000; omega
end Go.AX.Co
/- The statements' own functions: fit, is, refused; constructors. -/
set_option maxHeartbeats 8000000
set_option linter.unusedVariables false
set_option linter.unusedSimpArgs false
set_option maxRecDepth 20000
namespace Go.AX.Co
open Go.Proofs Go.RowKit Go.IntWalk
theorem number_spec (n : Int) : Spec Try.prog 28 [.d (.int .i64 n)] [] (vA (.mk 1 n [] [])) [] := by
  refine spec_of_ev (fn := Try.f28) DX_ok 3000 Try.func28 rfl rfl (Nat.le_of_ble_eq_true rfl) ?_
  simp (maxSteps := 4000000) -implicitDefEqProofs only [Try.f28, go_sem]
  simp (maxSteps := 4000000) -implicitDefEqProofs only [go_sem, Nat.reduceAdd, Nat.reduceSub, Nat.reduceLT, Nat.reduceLeDiff, Nat.reduceEqDiff, ↓reduceIte]
  exact wk_dat (by simp only [go_sem]; rfl) (by simp only [vA, List.map_nil]) (by simp only [go_sem, vA, List.map_nil])
theorem text_spec (b : List Int) (hb : b.length ≤ 1000000) : Spec Try.prog 31 [.d (.sl (b.map bY))] [] (vA (.mk 2 0 b [])) [] := by
  refine spec_of_ev (fn := Try.f31) DX_ok 3000 Try.func31 rfl rfl (Nat.le_of_ble_eq_true rfl) ?_
  simp (maxSteps := 4000000) -implicitDefEqProofs only [Try.f31, go_sem]
  refine ⟨by decide, ⟨by omega, by omega⟩, ?_⟩
  simp (maxSteps := 4000000) -implicitDefEqProofs only [go_sem, Nat.reduceAdd, Nat.reduceSub, Nat.reduceLT, Nat.reduceLeDiff, Nat.reduceEqDiff, ↓reduceIte]
  exact wk_dat (by simp only [go_sem]; rfl) (by simp only [vA, List.map_nil]) (by simp only [go_sem, vA, List.map_nil])
theorem list_spec (l : List Vl) : Spec Try.prog 32 [.d (.sl (l.map vD))] [] (vA (.mk 3 0 [] l)) [] := by
  refine spec_of_ev (fn := Try.f32) DX_ok 3000 Try.func32 rfl rfl (Nat.le_of_ble_eq_true rfl) ?_
  simp (maxSteps := 4000000) -implicitDefEqProofs only [Try.f32, go_sem]
  simp (maxSteps := 4000000) -implicitDefEqProofs only [go_sem, Nat.reduceAdd, Nat.reduceSub, Nat.reduceLT, Nat.reduceLeDiff, Nat.reduceEqDiff, ↓reduceIte]
  exact wk_dat (by simp only [go_sem]; rfl) (by simp only [vA, List.map_nil]) (by simp only [go_sem, vA, List.map_nil])
theorem is_spec (v : Vl) (want : List Int) (hv : FitW v) (hw : Bytes want) (h : encP v = (want, 0)) : Spec Try.prog 27 [vA v, .d (.sl (want.map bY))] [] (.d (.bool true)) [] := by
  have hl : want.length ≤ 3000 := by
    have := enc_len' v
    rw [h] at this; exact this
  have c1 := encode_own v hv
  have c2 := decode_own want (by omega) hw
  have hd := (dec_enc hv (by rw [h])).1
  rw [h] at c1 hd
  rw [show decP want = (v, 0) from hd] at c2
  have c3 := sameBytes_ref want want (by unfold Sm; omega)
  rw [decide_eq_true rfl] at c3
  have c4 := same_refl hv.fitV
  obtain ⟨k, n, b, l⟩ := v
  simp only [vA] at c1 c2 c4
  have z0 : ((0 : Int) == 0) = true := rfl
  refine spec_of_ev (fn := Try.f27) DX_ok 3000 Try.func27 rfl rfl (Nat.le_of_ble_eq_true rfl) ?_
  simp (maxSteps := 4000000) -implicitDefEqProofs only [Try.f27, go_sem, vA]
  refine .all _ _ (c1.lift0 _ (by simp only [go_sem]) (by simp only [go_sem])) ?_
  simp (maxSteps := 4000000) -implicitDefEqProofs only [go_sem, Nat.reduceAdd, Nat.reduceSub, Nat.reduceLT, Nat.reduceLeDiff, Nat.reduceEqDiff, ↓reduceIte]
  refine .all _ _ (c2.lift0 _ (by simp only [go_sem]) (by simp only [go_sem])) ?_
  simp (maxSteps := 4000000) -implicitDefEqProofs only [go_sem, z0, Option.some.injEq, forall_eq', and_true, true_and, Bool.not_true, Bool.not_false, decide_true, Nat.reduceAdd, Nat.reduceSub, Nat.reduceLT, Nat.reduceLeDiff, Nat.reduceEqDiff, ↓reduceIte]
  refine .all _ _ (c3.lift0 _ (by simp only [go_sem]) (by simp only [go_sem])) ?_
  simp (maxSteps := 4000000) -implicitDefEqProofs only [go_sem, z0, Option.some.injEq, forall_eq', and_true, true_and, Bool.not_true, Bool.not_false, decide_true, Nat.reduceAdd, Nat.reduceSub, Nat.reduceLT, Nat.reduceLeDiff, Nat.reduceEqDiff, ↓reduceIte]
  refine .all _ _ (c4.lift0 _ (by simp only [go_sem]) (by simp only [go_sem])) ?_
  simp (maxSteps := 4000000) -implicitDefEqProofs only [go_sem, Nat.reduceAdd, Nat.reduceSub, Nat.reduceLT, Nat.reduceLeDiff, Nat.reduceEqDiff, ↓reduceIte]
  exact wk_bool rfl
def fitP (v : Vl) : Bool := !grV v && decide ((encP v).2 = 0)
theorem fit_spec (v : Vl) (hv : SmV v) : Spec Try.prog 24 [vA v] [] (.d (.bool (fitP v))) [] := by
  have c1 := great_ref hv
  have f1 := fit_great hv
  unfold fitP
  have c2 := fun h => check_ref v (FitB.fitW (f1 h))
  have z0 : ((encP v).2 == 0) = decide ((encP v).2 = 0) := by rw [Bool.eq_iff_iff]; simp
  generalize grV v = g at c1 f1 c2 ⊢
  generalize (encP v).2 = e at c2 z0 ⊢
  generalize decide (e = 0) = q at z0 ⊢
  obtain ⟨k, n, b, l⟩ := v
  simp only [vA] at c1 c2
  refine spec_of_ev (fn := Try.f24) DX_ok 3000 Try.func24 rfl rfl (Nat.le_of_ble_eq_true rfl) ?_
  simp (maxSteps := 4000000) -implicitDefEqProofs only [Try.f24, go_sem, vA]
  refine .all _ _ (c1.lift0 _ (by simp only [go_sem]) (by simp only [go_sem])) ?_
  cases g with
  | true =>
    have b1 : (!true) = false := rfl
    simp (maxSteps := 4000000) -implicitDefEqProofs only [go_sem, b1, Bool.false_and, Option.some.injEq, forall_eq', and_true, true_and, Bool.not_true, Bool.not_false, decide_true, Nat.reduceAdd, Nat.reduceSub, Nat.reduceLT, Nat.reduceLeDiff, Nat.reduceEqDiff, ↓reduceIte]
    exact wk_bool rfl
  | false =>
    have c2 := c2 rfl
    have b2 : (!false) = true := rfl
    simp (maxSteps := 4000000) -implicitDefEqProofs only [go_sem, b2, Bool.true_and, Option.some.injEq, forall_eq', and_true, true_and, Bool.not_true, Bool.not_false, decide_true, Nat.reduceAdd, Nat.reduceSub, Nat.reduceLT, Nat.reduceLeDiff, Nat.reduceEqDiff, ↓reduceIte]
    refine .all _ _ (c2.lift0 _ (by simp only [go_sem]) (by simp only [go_sem])) ?_
    simp (maxSteps := 4000000) -implicitDefEqProofs only [go_sem, z0, Option.some.injEq, forall_eq', and_true, true_and, Bool.not_true, Bool.not_false, decide_true, Nat.reduceAdd, Nat.reduceSub, Nat.reduceLT, Nat.reduceLeDiff, Nat.reduceEqDiff, ↓reduceIte]
    exact wk_bool rfl
/-- what starts with what -/
def stP (a b : List Int) : Bool := decide (b.length ≤ a.length) && decide (a.take b.length = b)
mutual
def sameV : Vl → Vl → Bool
  | .mk k n b l, .mk k' n' b' l' => decide (k = k') && decide (n = n') && decide (b = b') && sameL l l'
def sameL : List Vl → List Vl → Bool
  | [], [] => true
  | x :: a, y :: b => sameV x y && sameL a b
  | _, _ => false
end
mutual
theorem sameV_eq : ∀ v w : Vl, sameV v w = true ↔ v = w
  | .mk k n b l, .mk k' n' b' l' => by
    rw [sameV]
    simp only [Bool.and_eq_true, decide_eq_true_eq, sameL_eq l l', Vl.mk.injEq, and_assoc]
theorem sameL_eq : ∀ a b : List Vl, sameL a b = true ↔ a = b
  | [], [] => by rw [sameL]; simp
  | x :: a, y :: b => by rw [sameL]; simp only [Bool.and_eq_true, sameV_eq x y, sameL_eq a b, List.cons.injEq]
  | [], _ :: _ => by rw [sameL] <;> simp
  | _ :: _, [] => by rw [sameL] <;> simp
end
theorem codeF_bytes : ∀ f n, Bytes (codeF f n)
  | 0, n => fun e he => by simp only [codeF, List.mem_singleton] at he; omega
  | f + 1, n => fun e he => by
    rw [codeF] at he
    split at he
    · rcases List.mem_cons.1 he with rfl | he
      · omega
      · exact codeF_bytes f _ e he
    · simp only [List.mem_singleton] at he; omega
theorem encL_bytes : ∀ l : List Vl, (∀ x ∈ l, Bytes (encV x)) → Bytes (encL l)
  | [], _ => fun e he => by simp [encL] at he
  | x :: l, h => fun e he => by
    rw [encL] at he
    rcases List.mem_append.1 he with he | he
    · exact h x (by simp) e he
    · exact encL_bytes l (fun y hy => h y (List.mem_cons_of_mem _ hy)) e he
theorem encV_bytes {v : Vl} (h : FitB v) : Bytes (encV v) := by
  induction h with
  | mk k n b l hk hn hbb hb hl hx ih =>
  intro e he
  rw [encV] at he
  split at he
  · rcases List.mem_cons.1 he with rfl | he
    · exact hk
    · exact codeF_bytes _ _ e he
  split at he
  · rcases List.mem_cons.1 he with rfl | he
    · exact hk
    · rcases List.mem_append.1 he with he | he
      · exact codeF_bytes _ _ e he
      · exact hbb e he
  · rcases List.mem_cons.1 he with rfl | he
    · exact hk
    · rcases List.mem_append.1 he with he | he
      · exact codeF_bytes _ _ e he
      · exact encL_bytes l ih e he
theorem enc_bytes {v : Vl} (h : FitB v) : Bytes (encP v).1 := by
  rw [encP_eq]
  split
  · exact fun e he => by simp at he
  split
  · exact fun e he => by simp at he
  · exact encV_bytes h
theorem fitP_of {v : Vl} (hv : SmV v) (h : fitP v = true) : FitB v ∧ (encP v).2 = 0 := by
  unfold fitP at h
  simp only [Bool.and_eq_true, Bool.not_eq_true', decide_eq_true_eq] at h
  exact ⟨fit_great hv h.1, h.2⟩
end Go.AX.Co
/- The chapter's examples. -/
set_option maxHeartbeats 8000000
set_option linter.unusedVariables false
set_option linter.unusedSimpArgs false
set_option maxRecDepth 20000
namespace Go.AX.Co
open Go.Proofs Go.RowKit Go.IntWalk
theorem bytes_dec {l : List Int} (h : l.all (fun x => decide (0 ≤ x ∧ x ≤ 255)) = true) : Bytes l := fun e he => by
  have := List.all_eq_true.1 h e he
  simpa using this
theorem fit_num (n : Int) (h : -9223372036854775808 ≤ n ∧ n ≤ 9223372036854775807) : FitW (.mk 1 n [] []) := .mk _ _ _ _ h (by simp) (by simp) (by simp)
theorem fit_txt (b : List Int) (h : b.length ≤ 900000) : FitW (.mk 2 0 b []) := .mk _ _ _ _ (by omega) h (by simp) (by simp)
theorem fit_lst (l : List Vl) (hl : l.length ≤ 900000) (h : ∀ x ∈ l, FitW x) : FitW (.mk 3 0 [] l) := .mk _ _ _ _ (by omega) (by simp) hl h
def n300 : Vl := .mk 1 300 [] []
def sab : Vl := .mk 2 0 [97, 98] []
theorem alive_spec : Spec Try.prog 25 [] [] (.d (.bool true)) [] := by
  have c1 := number_spec 300
  have c2 := text_spec [97, 98] (by simp)
  have c3 := decode_own [1, 128, 0] (by simp) (bytes_dec (by kernel_rfl))
  have c4 := number_spec 0
  have c5 := is_spec (.mk 1 0 [] []) [1, 0] (fit_num _ (by decide)) (bytes_dec (by kernel_rfl)) (by kernel_rfl)
  have c6 := number_spec (-1)
  have c7 := is_spec (.mk 1 (-1) [] []) [1, 1] (fit_num _ (by decide)) (bytes_dec (by kernel_rfl)) (by kernel_rfl)
  have c8 := is_spec n300 [1, 216, 4] (fit_num _ (by decide)) (bytes_dec (by kernel_rfl)) (by kernel_rfl)
  have c9 := is_spec sab [2, 2, 97, 98] (fit_txt _ (by simp)) (bytes_dec (by kernel_rfl)) (by kernel_rfl)
  have c10 := list_spec [n300, sab]
  have c11 := is_spec (.mk 3 0 [] [n300, sab]) [3, 2, 1, 216, 4, 2, 2, 97, 98] (fit_lst _ (by simp) (by intro x hx; simp at hx; rcases hx with rfl | rfl; exact fit_num _ (by decide); exact fit_txt _ (by simp))) (bytes_dec (by kernel_rfl)) (by kernel_rfl)
  rw [show decP [1, 128, 0] = (v0, 12) by kernel_rfl] at c3
  simp only [vA, vD, vDs, v0, n300, sab, List.map_cons, List.map_nil, bY] at c1 c2 c3 c4 c5 c6 c7 c8 c9 c10 c11
  have z12 : ((12 : Int) == 12) = true := rfl
  have t02 : (0 < 1 + 1) = True := eq_true (by decide)
  have t02' : (0 < 2) = True := eq_true (by decide)
  refine spec_of_ev (fn := Try.f25) DX_ok 3000 Try.func25 rfl rfl (Nat.le_of_ble_eq_true rfl) ?_
  simp (maxSteps := 4000000) -implicitDefEqProofs only [Try.f25, go_sem]
  refine ecall0 _ c1 (by simp only [go_sem]) (by simp only [go_sem]) ?_
  simp (maxSteps := 4000000) -implicitDefEqProofs only [go_sem, t02, t02', Option.some.injEq, forall_eq', and_true, true_and, Bool.not_true, Bool.not_false, decide_true, Nat.reduceAdd, Nat.reduceSub, Nat.reduceLT, Nat.reduceLeDiff, Nat.reduceEqDiff, ↓reduceIte]
  refine .all _ _ (c2.lift0 _ (by simp only [go_sem]) (by simp only [go_sem])) ?_
  simp (maxSteps := 4000000) -implicitDefEqProofs only [go_sem, Nat.reduceAdd, Nat.reduceSub, Nat.reduceLT, Nat.reduceLeDiff, Nat.reduceEqDiff, ↓reduceIte]
  refine ECall.dat (by simp only [go_sem]; rfl) (by rfl) ?_
  refine .all _ _ (c3.lift0 _ (by simp only [go_sem]) (by simp only [go_sem])) ?_
  simp (maxSteps := 4000000) -implicitDefEqProofs only [go_sem, Nat.reduceAdd, Nat.reduceSub, Nat.reduceLT, Nat.reduceLeDiff, Nat.reduceEqDiff, ↓reduceIte]
  refine .all _ _ (c4.lift0 _ (by simp only [go_sem]) (by simp only [go_sem])) ?_
  simp (maxSteps := 4000000) -implicitDefEqProofs only [go_sem, Nat.reduceAdd, Nat.reduceSub, Nat.reduceLT, Nat.reduceLeDiff, Nat.reduceEqDiff, ↓reduceIte]
  refine ECall.dat (by simp only [go_sem]; rfl) (by rfl) ?_
  refine .all _ _ (c5.lift0 _ (by simp only [go_sem]) (by simp only [go_sem])) ?_
  simp (maxSteps := 4000000) -implicitDefEqProofs only [go_sem, Nat.reduceAdd, Nat.reduceSub, Nat.reduceLT, Nat.reduceLeDiff, Nat.reduceEqDiff, ↓reduceIte]
  refine .all _ _ (c6.lift0 _ (by simp only [go_sem]) (by simp only [go_sem])) ?_
  simp (maxSteps := 4000000) -implicitDefEqProofs only [go_sem, Nat.reduceAdd, Nat.reduceSub, Nat.reduceLT, Nat.reduceLeDiff, Nat.reduceEqDiff, ↓reduceIte]
  refine ECall.dat (by simp only [go_sem]; rfl) (by rfl) ?_
  refine .all _ _ (c7.lift0 _ (by simp only [go_sem]) (by simp only [go_sem])) ?_
  simp (maxSteps := 4000000) -implicitDefEqProofs only [go_sem, Nat.reduceAdd, Nat.reduceSub, Nat.reduceLT, Nat.reduceLeDiff, Nat.reduceEqDiff, ↓reduceIte]
  refine ECall.dat (by simp only [go_sem]; rfl) (by rfl) ?_
  refine .all _ _ (c8.lift0 _ (by simp only [go_sem]) (by simp only [go_sem])) ?_
  simp (maxSteps := 4000000) -implicitDefEqProofs only [go_sem, Nat.reduceAdd, Nat.reduceSub, Nat.reduceLT, Nat.reduceLeDiff, Nat.reduceEqDiff, ↓reduceIte]
  refine ECall.dat (by simp only [go_sem]; rfl) (by rfl) ?_
  refine .all _ _ (c9.lift0 _ (by simp only [go_sem]) (by simp only [go_sem])) ?_
  simp (maxSteps := 4000000) -implicitDefEqProofs only [go_sem, Nat.reduceAdd, Nat.reduceSub, Nat.reduceLT, Nat.reduceLeDiff, Nat.reduceEqDiff, ↓reduceIte]
  refine ⟨by decide, ?_⟩
  refine ECall.dat (by simp only [go_sem]; rfl) (by rfl) ?_
  refine .all _ _ (c10.lift0 _ (by simp only [go_sem]) (by simp only [go_sem])) ?_
  simp (maxSteps := 4000000) -implicitDefEqProofs only [go_sem, Nat.reduceAdd, Nat.reduceSub, Nat.reduceLT, Nat.reduceLeDiff, Nat.reduceEqDiff, ↓reduceIte]
  refine ECall.dat (by simp only [go_sem]; rfl) (by rfl) ?_
  refine .all _ _ (c11.lift0 _ (by simp only [go_sem]) (by simp only [go_sem])) ?_
  simp (maxSteps := 4000000) -implicitDefEqProofs only [go_sem, z12, Option.some.injEq, forall_eq', and_true, true_and, Bool.not_true, Bool.not_false, decide_true, Nat.reduceAdd, Nat.reduceSub, Nat.reduceLT, Nat.reduceLeDiff, Nat.reduceEqDiff, ↓reduceIte]
  exact wk_bool rfl
end Go.AX.Co
/- Cmp is an order (plain law). -/
set_option maxHeartbeats 8000000
set_option linter.unusedVariables false
set_option linter.unusedSimpArgs false
set_option maxRecDepth 20000
namespace Go.AX.Co
open Go.Proofs Go.RowKit Go.IntWalk
/-- three comparisons of three things fit -/
def Tri (x y w : Int) : Prop := (x = 0 → w = y) ∧ (y = 0 → w = x) ∧ (x < 0 → y < 0 → w < 0)
def lex (p q : Int) : Int := if p = 0 then q else p
theorem Tri.lex {x1 y1 w1 x2 y2 w2 : Int} (h : Tri x1 y1 w1) (k : Tri x2 y2 w2) : Tri (lex x1 x2) (lex y1 y2) (lex w1 w2) := by
  obtain ⟨a1, a2, a3⟩ := h
  obtain ⟨b1, b2, b3⟩ := k
  unfold Tri Co.lex
  by_cases hx : x1 = 0
  · have e := a1 hx
    by_cases hy : y1 = 0
    · rw [if_pos hx, if_pos hy, if_pos (by omega)]; exact ⟨b1, b2, b3⟩
    · rw [if_pos hx, if_neg hy, if_neg (by omega)]; exact ⟨fun _ => e, fun h => absurd h hy, fun _ h => by omega⟩
  · by_cases hy : y1 = 0
    · have e := a2 hy
      rw [if_neg hx, if_pos hy, if_neg (by omega)]; exact ⟨fun h => absurd h hx, fun _ => e, fun h _ => by omega⟩
    · rw [if_neg hx, if_neg hy]
      refine ⟨fun h => absurd h hx, fun h => absurd h hy, fun p q => ?_⟩
      have := a3 p q
      rw [if_neg (by omega)]; exact this
theorem tri_cmpI (a b c : Int) : Tri (cmpI a b) (cmpI b c) (cmpI a c) := by
  unfold Tri cmpI
  refine ⟨fun h => ?_, fun h => ?_, fun h k => ?_⟩
  · split at h
    · omega
    · split at h
      · omega
      · have : a = b := by omega
        rw [this]
  · split at h
    · omega
    · split at h
      · omega
      · have : b = c := by omega
        rw [this]
  · split at h
    · split at k
      · rw [if_pos (by omega)]; omega
      · split at k <;> omega
    · split at h <;> omega
theorem cmpB_lex {x y : Int} {a b : List Int} : cmpB (x :: a) (y :: b) = lex (cmpI x y) (cmpB a b) := by
  rw [cmpB_cons]; unfold lex
  by_cases h : x = y
  · rw [if_pos h, if_pos (by rw [h]; exact cmpI_self y)]
  · rw [if_neg h, if_neg (cmpI_ne h)]
theorem tri_cmpB : ∀ a b c : List Int, Tri (cmpB a b) (cmpB b c) (cmpB a c)
  | [], [], [] => by simp [Tri, cmpB]
  | [], [], _ :: _ => by simp [Tri, cmpB]
  | [], _ :: _, [] => by simp [Tri, cmpB]
  | [], _ :: _, _ :: _ => by simp [Tri, cmpB]
  | _ :: _, [], [] => by simp [Tri, cmpB]
  | _ :: _, [], _ :: _ => by simp [Tri, cmpB]
  | _ :: _, _ :: _, [] => by simp [Tri, cmpB]
  | x :: a, y :: b, z :: c => by rw [cmpB_lex, cmpB_lex, cmpB_lex]; exact (tri_cmpI x y z).lex (tri_cmpB a b c)
theorem ordV_lex {k n k' n' : Int} {b b' : List Int} {l l' : List Vl} : ordV (.mk k n b l) (.mk k' n' b' l') = lex (cmpI k k') (lex (cmpI n n') (lex (cmpB b b') (ordL l l'))) := by
  rw [ordV]
  simp only [first0, lex]
  split
  · split
    · split
      · split
        · next h => exact h.symm
        · rfl
      · rfl
    · rfl
  · rfl
theorem ordL_lex {x y : Vl} {a b : List Vl} : ordL (x :: a) (y :: b) = lex (ordV x y) (ordL a b) := by rw [ordL]; rfl
mutual
theorem tri_ordV : ∀ a b c : Vl, Tri (ordV a b) (ordV b c) (ordV a c)
  | .mk k n b l, .mk k' n' b' l', .mk k2 n2 b2 l2 => by
    rw [ordV_lex, ordV_lex, ordV_lex]
    exact (tri_cmpI k k' k2).lex ((tri_cmpI n n' n2).lex ((tri_cmpB b b' b2).lex (tri_ordL l l' l2)))
theorem tri_ordL : ∀ a b c : List Vl, Tri (ordL a b) (ordL b c) (ordL a c)
  | [], [], [] => by simp [Tri, ordL]
  | [], [], _ :: _ => by simp [Tri, ordL]
  | [], _ :: _, [] => by simp [Tri, ordL]
  | [], _ :: _, _ :: _ => by simp [Tri, ordL]
  | _ :: _, [], [] => by simp [Tri, ordL]
  | _ :: _, [], _ :: _ => by simp [Tri, ordL]
  | _ :: _, _ :: _, [] => by simp [Tri, ordL]
  | x :: a, y :: b, z :: c => by rw [ordL_lex, ordL_lex, ordL_lex]; exact (tri_ordV x y z).lex (tri_ordL a b c)
end
theorem lex_neg (p q : Int) : lex (-p) (-q) = - lex p q := by
  unfold lex
  by_cases h : p = 0
  · rw [if_pos h, if_pos (by omega)]
  · rw [if_neg h, if_neg (by omega)]
theorem neg_cmpI (x y : Int) : cmpI y x = -cmpI x y := by
  unfold cmpI
  by_cases h1 : x < y
  · rw [if_pos h1, if_neg (by omega), if_pos h1]; rfl
  · by_cases h2 : y < x
    · rw [if_pos h2, if_neg h1, if_pos h2]
    · rw [if_neg h2, if_neg h1, if_neg h1, if_neg h2]; rfl
theorem neg_cmpB : ∀ a b : List Int, cmpB b a = -cmpB a b
  | [], [] => rfl
  | [], _ :: _ => rfl
  | _ :: _, [] => rfl
  | x :: a, y :: b => by rw [cmpB_lex, cmpB_lex, neg_cmpI, neg_cmpB a b, lex_neg]
mutual
theorem neg_ordV : ∀ a b : Vl, ordV b a = -ordV a b
  | .mk k n b l, .mk k' n' b' l' => by
    rw [ordV_lex, ordV_lex, neg_cmpI k k', neg_cmpI n n', neg_cmpB b b', neg_ordL l l', lex_neg, lex_neg, lex_neg]
theorem neg_ordL : ∀ a b : List Vl, ordL b a = -ordL a b
  | [], [] => by rw [ordL]; rfl
  | [], _ :: _ => by rw [ordL, ordL]; rfl
  | _ :: _, [] => by rw [ordL, ordL]
  | x :: a, y :: b => by rw [ordL_lex, ordL_lex, neg_ordV x y, neg_ordL a b, lex_neg]
end
theorem lex_zero {p q : Int} : lex p q = 0 ↔ p = 0 ∧ q = 0 := by
  unfold lex
  by_cases h : p = 0
  · rw [if_pos h]; exact ⟨fun e => ⟨h, e⟩, fun e => e.2⟩
  · rw [if_neg h]; exact ⟨fun e => absurd e h, fun e => e.1⟩
theorem zero_cmpI {x y : Int} : cmpI x y = 0 ↔ x = y := ⟨fun h => Decidable.byContradiction fun q => cmpI_ne q h, fun h => by rw [h]; exact cmpI_self y⟩
theorem zero_cmpB : ∀ {a b : List Int}, cmpB a b = 0 ↔ a = b
  | [], [] => by simp [cmpB]
  | [], _ :: _ => by simp [cmpB]
  | _ :: _, [] => by simp [cmpB]
  | x :: a, y :: b => by rw [cmpB_lex, lex_zero, zero_cmpI, zero_cmpB]; simp
mutual
theorem zero_ordV : ∀ a b : Vl, ordV a b = 0 ↔ a = b
  | .mk k n b l, .mk k' n' b' l' => by
    rw [ordV_lex, lex_zero, lex_zero, lex_zero, zero_cmpI, zero_cmpI, zero_cmpB, zero_ordL l l', Vl.mk.injEq]
theorem zero_ordL : ∀ a b : List Vl, ordL a b = 0 ↔ a = b
  | [], [] => by simp [ordL]
  | [], _ :: _ => by simp [ordL]
  | _ :: _, [] => by simp [ordL]
  | x :: a, y :: b => by rw [ordL_lex, lex_zero, zero_ordV x y, zero_ordL a b]; simp
end
def Rng (x : Int) : Prop := -1 ≤ x ∧ x ≤ 1
theorem rng_lex {p q : Int} (h : Rng p) (k : Rng q) : Rng (lex p q) := by unfold lex; split <;> assumption
theorem rng_cmpI (x y : Int) : Rng (cmpI x y) := by unfold cmpI Rng; split <;> (try split) <;> omega
theorem rng_cmpB : ∀ a b : List Int, Rng (cmpB a b)
  | [], [] => by simp [Rng, cmpB]
  | [], _ :: _ => by simp [Rng, cmpB]
  | _ :: _, [] => by simp [Rng, cmpB]
  | x :: a, y :: b => by rw [cmpB_lex]; exact rng_lex (rng_cmpI x y) (rng_cmpB a b)
mutual
theorem rng_ordV : ∀ a b : Vl, Rng (ordV a b)
  | .mk k n b l, .mk k' n' b' l' => by rw [ordV_lex]; exact rng_lex (rng_cmpI _ _) (rng_lex (rng_cmpI _ _) (rng_lex (rng_cmpB _ _) (rng_ordL l l')))
theorem rng_ordL : ∀ a b : List Vl, Rng (ordL a b)
  | [], [] => by simp [Rng, ordL]
  | [], _ :: _ => by simp [Rng, ordL]
  | _ :: _, [] => by simp [Rng, ordL]
  | x :: a, y :: b => by rw [ordL_lex]; exact rng_lex (rng_ordV x y) (rng_ordL a b)
end
end Go.AX.Co

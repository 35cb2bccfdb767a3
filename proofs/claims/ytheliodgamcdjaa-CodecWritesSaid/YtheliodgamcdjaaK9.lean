/- The order of values, by the reference; Cmp. -/
import Derived.Test.YtheliodgamcdjaaK8
import Derived.KernelRfl
set_option maxHeartbeats 8000000
set_option linter.unusedVariables false
set_option linter.unusedSimpArgs false
set_option maxRecDepth 20000
namespace Go.AX.Co
open Go.Proofs Go.RowKit Go.IntWalk
theorem three_ref (x y : Int) : Spec Try.prog 58 [.d (.int .i64 x), .d (.int .i64 y)] [] (.d (.int .i64 (cmpI x y))) [] := by
  unfold cmpI
  by_cases h1 : x < y
  · have d1 : decide (x < y) = true := decide_eq_true h1
    rw [if_pos h1]
    refine spec_of_ev (fn := Try.f58) DX_ok 3000 Try.func58 rfl rfl (Nat.le_of_ble_eq_true rfl) ?_
    simp (maxSteps := 4000000) -implicitDefEqProofs only [Try.f58, go_sem, d1]
    exact (Wk.forget (by (simp only [go_sem]) <;> trivial) (by simp only [go_sem]))
  have d1 : decide (x < y) = false := decide_eq_false h1
  rw [if_neg h1]
  by_cases h2 : y < x
  · have d2 : decide (y < x) = true := decide_eq_true h2
    rw [if_pos h2]
    refine spec_of_ev (fn := Try.f58) DX_ok 3000 Try.func58 rfl rfl (Nat.le_of_ble_eq_true rfl) ?_
    simp (maxSteps := 4000000) -implicitDefEqProofs only [Try.f58, go_sem, d1, d2]
    exact (Wk.forget (by (simp only [go_sem]) <;> trivial) (by simp only [go_sem]))
  have d2 : decide (y < x) = false := decide_eq_false h2
  rw [if_neg h2]
  refine spec_of_ev (fn := Try.f58) DX_ok 3000 Try.func58 rfl rfl (Nat.le_of_ble_eq_true rfl) ?_
  simp (maxSteps := 4000000) -implicitDefEqProofs only [Try.f58, go_sem, d1, d2]
  exact (Wk.forget (by (simp only [go_sem]) <;> trivial) (by simp only [go_sem]))
theorem cmpI_self (x : Int) : cmpI x x = 0 := by unfold cmpI; rw [if_neg (by omega), if_neg (by omega)]
theorem cmpI_ne {x y : Int} (h : x ≠ y) : cmpI x y ≠ 0 := by unfold cmpI; split <;> (try split) <;> omega
theorem cmpB_cons {x y : Int} {a b : List Int} : cmpB (x :: a) (y :: b) = if x = y then cmpB a b else cmpI x y := by
  rw [cmpB]; unfold cmpI
  by_cases h : x = y
  · subst h; rw [if_neg (by omega), if_neg (by omega), if_pos rfl]
  · rw [if_neg h]
    by_cases h1 : x < y
    · rw [if_pos h1, if_pos h1]
    · rw [if_neg h1, if_neg h1, if_pos (by omega), if_pos (by omega)]
theorem cmpB_nil_l (b : List Int) : cmpB [] b = cmpI 0 b.length := by
  cases b with
  | nil => rfl
  | cons y b => rw [cmpB]; unfold cmpI; rw [if_pos (by rw [List.length_cons]; omega)]
theorem cmpB_nil_r (b : List Int) : cmpB b [] = cmpI b.length 0 := by
  cases b with
  | nil => rfl
  | cons y b => rw [cmpB]; unfold cmpI; rw [if_neg (by rw [List.length_cons]; omega), if_pos (by rw [List.length_cons]; omega)]
theorem cmpI_add (x y z : Int) : cmpI (x + z) (y + z) = cmpI x y := by
  unfold cmpI
  by_cases h1 : x < y
  · rw [if_pos h1, if_pos (by omega)]
  · rw [if_neg h1, if_neg (by omega)]
    by_cases h2 : y < x
    · rw [if_pos h2, if_pos (by omega)]
    · rw [if_neg h2, if_neg (by omega)]
theorem cmpB_drop {a b : List Int} {i : Nat} (ha : i ≤ a.length) (hb : i ≤ b.length) (h : a.length ≤ i ∨ b.length ≤ i) : cmpB (a.drop i) (b.drop i) = cmpI a.length b.length := by
  rcases h with h | h
  · rw [List.drop_eq_nil_of_le h, cmpB_nil_l, List.length_drop, ← cmpI_add _ _ (i : Int)]
    congr 1 <;> omega
  · rw [List.drop_eq_nil_of_le h, cmpB_nil_r, List.length_drop, ← cmpI_add _ _ (i : Int)]
    congr 1 <;> omega
theorem ordL_nil_l (b : List Vl) : ordL [] b = cmpI 0 b.length := by
  cases b with
  | nil => rw [ordL]; rfl
  | cons y b => rw [ordL]; unfold cmpI; rw [if_pos (by rw [List.length_cons]; omega)]
theorem ordL_nil_r (b : List Vl) : ordL b [] = cmpI b.length 0 := by
  cases b with
  | nil => rw [ordL]; rfl
  | cons y b => rw [ordL]; unfold cmpI; rw [if_neg (by rw [List.length_cons]; omega), if_pos (by rw [List.length_cons]; omega)]
theorem ordL_drop {a b : List Vl} {i : Nat} (ha : i ≤ a.length) (hb : i ≤ b.length) (h : a.length ≤ i ∨ b.length ≤ i) : ordL (a.drop i) (b.drop i) = cmpI a.length b.length := by
  rcases h with h | h
  · rw [List.drop_eq_nil_of_le h, ordL_nil_l, List.length_drop, ← cmpI_add _ _ (i : Int)]
    congr 1 <;> omega
  · rw [List.drop_eq_nil_of_le h, ordL_nil_r, List.length_drop, ← cmpI_add _ _ (i : Int)]
    congr 1 <;> omega
/-- what a right value of a kind is like -/
theorem right_kind {d : Nat} {k n : Int} {b : List Int} {l : List Vl} (h : rightP (d + 1) (.mk k n b l) = true) :
    (k = 1 ∧ b = [] ∧ l = []) ∨ (k = 2 ∧ n = 0 ∧ l = []) ∨ (k = 3 ∧ n = 0 ∧ b = [] ∧ ∀ x ∈ l, rightP d x = true) := by
  have ha := right_all h
  rw [rightP] at h
  by_cases k1 : k = 1
  · rw [if_pos k1, decide_eq_true_eq] at h
    exact .inl ⟨k1, List.length_eq_zero_iff.1 (by omega), List.length_eq_zero_iff.1 (by omega)⟩
  rw [if_neg k1] at h
  by_cases k2 : k = 2
  · rw [if_pos k2] at h
    simp only [Bool.and_eq_true, beq_iff_eq, decide_eq_true_eq] at h
    exact .inr (.inl ⟨k2, h.1, List.length_eq_zero_iff.1 h.2⟩)
  rw [if_neg k2] at h
  have := ha k1 k2
  rw [if_pos this.1] at h
  simp only [Bool.and_eq_true, beq_iff_eq, decide_eq_true_eq] at h
  exact .inr (.inr ⟨this.1, h.1.1, List.length_eq_zero_iff.1 h.1.2, this.2⟩)
theorem order_ref : ∀ (d : Nat) (v w : Vl), FitB v → FitB w → rightP d v = true → rightP d w = true → Spec Try.prog 41 [vA v, vA w] [] (.d (.int .i64 (ordV v w))) []
  | 0, .mk _ _ _ _, _, _, _, h, _ => by cases h
  | d + 1, .mk k n b l, .mk k' n' b' l', hv, hw, hr, hr' => by
    obtain ⟨_, _, _, _, hk, hn, hbb, hb, hl, hx⟩ := hv
    obtain ⟨_, _, _, _, hk', hn', hbb', hb', hl', hx'⟩ := hw
    have q := right_kind hr
    have q' := right_kind hr'
    have zk : (k != k') = !decide (k = k') := by rw [Bool.eq_iff_iff]; simp
    have wk8 : IntKind.i64.wrap k = k := i64_in _ (by omega)
    have wk8' : IntKind.i64.wrap k' = k' := i64_in _ (by omega)
    have b1 : (!true) = false := rfl
    have b2 : (!false) = true := rfl
    refine spec_of_ev (fn := Try.f41) DX_ok 3000 Try.func41 rfl rfl (Nat.le_of_ble_eq_true rfl) ?_
    simp (maxSteps := 4000000) -implicitDefEqProofs only [Try.f41, go_sem, vA]
    by_cases hkk : k = k'
    case neg =>
      rw [decide_eq_false hkk] at zk
      have c1 := three_ref k k'
      have e : ordV (.mk k n b l) (.mk k' n' b' l') = cmpI k k' := by
        rw [ordV, first0, if_neg (cmpI_ne hkk)]
      rw [e]
      simp (maxSteps := 4000000) -implicitDefEqProofs only [go_sem, zk, wk8, wk8', b2, Option.some.injEq, forall_eq', and_true, true_and, Bool.not_true, Bool.not_false, decide_true, Nat.reduceAdd, Nat.reduceSub, Nat.reduceLT, Nat.reduceLeDiff, Nat.reduceEqDiff, ↓reduceIte]
      refine .all _ _ (c1.lift0 _ (by simp only [go_sem]) (by simp only [go_sem])) ?_
      simp (maxSteps := 4000000) -implicitDefEqProofs only [go_sem, Nat.reduceAdd, Nat.reduceSub, Nat.reduceLT, Nat.reduceLeDiff, Nat.reduceEqDiff, ↓reduceIte]
      exact (Wk.forget (by (simp only [go_sem]) <;> trivial) (by simp only [go_sem]))
    rw [decide_eq_true hkk] at zk
    by_cases k1 : k = 1
    · have z1 : (k == 1) = true := by simp [k1]
      have c1 := three_ref n n'
      have e : ordV (.mk k n b l) (.mk k' n' b' l') = cmpI n n' := by
        have qb : b = [] ∧ l = [] := by rcases q with q | q | q <;> first | exact q.2 | (exfalso; omega)
        have qb' : b' = [] ∧ l' = [] := by rcases q' with q | q | q <;> first | exact q.2 | (exfalso; omega)
        rw [ordV, qb.1, qb.2, qb'.1, qb'.2, hkk, ordL, cmpB]
        simp only [first0, cmpI_self, if_true]
        split
        · next h => exact h.symm
        · rfl
      rw [e]
      simp (maxSteps := 4000000) -implicitDefEqProofs only [go_sem, zk, b1, z1, Option.some.injEq, forall_eq', and_true, true_and, Bool.not_true, Bool.not_false, decide_true, Nat.reduceAdd, Nat.reduceSub, Nat.reduceLT, Nat.reduceLeDiff, Nat.reduceEqDiff, ↓reduceIte]
      refine .all _ _ (c1.lift0 _ (by simp only [go_sem]) (by simp only [go_sem])) ?_
      simp (maxSteps := 4000000) -implicitDefEqProofs only [go_sem, Nat.reduceAdd, Nat.reduceSub, Nat.reduceLT, Nat.reduceLeDiff, Nat.reduceEqDiff, ↓reduceIte]
      exact (Wk.forget (by (simp only [go_sem]) <;> trivial) (by simp only [go_sem]))
    have z1 : (k == 1) = false := by simp [k1]
    have hnn : n = 0 := by rcases q with q | q | q <;> first | exact q.2.1 | (exfalso; omega)
    have hnn' : n' = 0 := by rcases q' with q | q | q <;> first | exact q.2.1 | (exfalso; omega)
    -- one of the two is empty on both sides
    have hbl : (l = [] ∧ l' = []) ∨ (b = [] ∧ b' = [] ∧ (∀ x ∈ l, rightP d x = true) ∧ ∀ x ∈ l', rightP d x = true) := by
      rcases q with q | q | q
      · exact absurd q.1 k1
      · rcases q' with q' | q' | q'
        · exact absurd (hkk.trans q'.1) k1
        · exact .inl ⟨q.2.2, q'.2.2⟩
        · exfalso; omega
      · rcases q' with q' | q' | q'
        · exact absurd (hkk.trans q'.1) k1
        · exfalso; omega
        · exact .inr ⟨q.2.2.1, q'.2.2.1, q.2.2.2, q'.2.2.2⟩
    have e : ordV (.mk k n b l) (.mk k' n' b' l') = if cmpB b b' = 0 then ordL l l' else cmpB b b' := by
      rw [ordV, hkk, hnn, hnn']
      simp only [first0, cmpI_self, if_true]
      split
      · split
        · next h => exact h.symm
        · rfl
      · rfl
    rw [e]
    generalize hF : (if cmpB b b' = 0 then ordL l l' else cmpB b b') = F
    simp (maxSteps := 4000000) -implicitDefEqProofs only [go_sem, zk, b1, z1, Option.some.injEq, forall_eq', and_true, true_and, Bool.not_true, Bool.not_false, decide_true, Nat.reduceAdd, Nat.reduceSub, Nat.reduceLT, Nat.reduceLeDiff, Nat.reduceEqDiff, ↓reduceIte]
    refine eloop (S := Nat) (fun i => mkE 109 [(2, .ptr 0 0), (3, .ptr 1 0), (5, .d (.int .i64 i))]) (fun i => [.cells [.d (.int .u8 k), .d (.int .i64 n), .d (.sl (b.map bY)), .d (.sl (l.map vD))], .cells [.d (.int .u8 k'), .d (.int .i64 n'), .d (.sl (b'.map bY)), .d (.sl (l'.map vD))]])
      (fun i => i ≤ b.length ∧ i ≤ b'.length ∧ cmpB b b' = cmpB (b.drop i) (b'.drop i)) (fun i => b.length - i) 0 ⟨by omega, by omega, rfl⟩ (Wk.sub (by (simp only [go_sem]) <;> trivial)) ?_
    intro i hs
    have h1 := hs.1
    have h2 := hs.2.1
    have h3 := hs.2.2
    by_cases hi : i < b.length ∧ i < b'.length
    · have f1 : decide ((i : Int) < b.length) = true := by simp; omega
      have f2 : decide ((i : Int) < b'.length) = true := by simp; omega
      apply Exists.elim (show ∃ x, b[i]? = some x from ⟨b[i]'hi.1, List.getElem?_eq_getElem _⟩)
      intro x hxi
      apply Exists.elim (show ∃ x, b'[i]? = some x from ⟨b'[i]'hi.2, List.getElem?_eq_getElem _⟩)
      intro y hyi
      have hdx : b.drop i = x :: b.drop (i + 1) := by rw [List.drop_eq_getElem_cons hi.1, (List.getElem?_eq_some_iff.1 hxi).2]
      have hdy : b'.drop i = y :: b'.drop (i + 1) := by rw [List.drop_eq_getElem_cons hi.2, (List.getElem?_eq_some_iff.1 hyi).2]
      have n1 : (0 ≤ (i : Int) ∧ (i : Int) < b.length) = True := eq_true (by omega)
      have n2 : (i < b.length) = True := eq_true hi.1
      have n3 : (0 ≤ (i : Int) ∧ (i : Int) < b'.length) = True := eq_true (by omega)
      have n4 : (i < b'.length) = True := eq_true hi.2
      have w1 : IntKind.i64.wrap ((i : Int) + 1) = ((i + 1 : Nat) : Int) := by rw [i64_in _ (by omega)]; simp
      rw [hdx, hdy, cmpB_cons] at h3
      have bx := hbb x (List.mem_of_getElem? hxi)
      have by' := hbb' y (List.mem_of_getElem? hyi)
      have wx : IntKind.i64.wrap x = x := i64_in _ (by omega)
      have wy : IntKind.i64.wrap y = y := i64_in _ (by omega)
      have zx : (x != y) = !decide (x = y) := by rw [Bool.eq_iff_iff]; simp
      by_cases hxy : x = y
      · rw [decide_eq_true hxy] at zx
        rw [if_pos hxy] at h3
        simp (maxSteps := 4000000) -implicitDefEqProofs only [go_sem, f1, f2, Option.some.injEq, forall_eq', and_true, true_and, Bool.not_true, Bool.not_false, decide_true, Nat.reduceAdd, Nat.reduceSub, Nat.reduceLT, Nat.reduceLeDiff, Nat.reduceEqDiff, ↓reduceIte]
        refine DX.plain (.take 0 false (.take 1 false (.take 2 false (.take 3 false (.take 4 false (.take 5 false (.take 6 false (.take 7 false (.take 8 false (.take 9 false (.take 10 false .done))))))))))) (by kernel_rfl) (by kernel_rfl) Ty.mixed ?_
        simp (maxSteps := 4000000) -implicitDefEqProofs only [go_sem, n1, n2, n3, n4, hxi, hyi, zx, b1, w1, Option.some.injEq, forall_eq', and_true, true_and, Bool.not_true, Bool.not_false, decide_true, Nat.reduceAdd, Nat.reduceSub, Nat.reduceLT, Nat.reduceLeDiff, Nat.reduceEqDiff, ↓reduceIte]
        exact .mk (i + 1) ⟨by omega, by omega, h3⟩ (by omega) (Wk.sub (by (simp only [go_sem]) <;> trivial))
      · rw [decide_eq_false hxy] at zx
        rw [if_neg hxy] at h3
        have c1 := three_ref x y
        have e9 : F = cmpI x y := by rw [← hF, h3, if_neg (cmpI_ne hxy)]
        rw [e9]
        simp (maxSteps := 4000000) -implicitDefEqProofs only [go_sem, f1, f2, Option.some.injEq, forall_eq', and_true, true_and, Bool.not_true, Bool.not_false, decide_true, Nat.reduceAdd, Nat.reduceSub, Nat.reduceLT, Nat.reduceLeDiff, Nat.reduceEqDiff, ↓reduceIte]
        refine DX.plain (.take 0 false (.take 1 false (.take 2 false (.take 3 false (.take 4 false (.take 5 false (.take 6 false (.take 7 false (.take 8 false (.take 9 false (.take 10 false .done))))))))))) (by kernel_rfl) (by kernel_rfl) Ty.mixed ?_
        simp (maxSteps := 4000000) -implicitDefEqProofs only [go_sem, n1, n2, n3, n4, hxi, hyi, zx, b2, Option.some.injEq, forall_eq', and_true, true_and, Bool.not_true, Bool.not_false, decide_true, Nat.reduceAdd, Nat.reduceSub, Nat.reduceLT, Nat.reduceLeDiff, Nat.reduceEqDiff, ↓reduceIte]
        refine DX.plain (.take 0 false (.take 1 false (.take 2 false (.take 3 false (.take 4 false (.take 5 false (.take 6 false (.take 7 false (.take 8 false (.take 9 false (.take 10 false (.take 11 false (.take 12 false (.take 13 false .done)))))))))))))) (by kernel_rfl) (by kernel_rfl) Ty.mixed ?_
        simp (maxSteps := 4000000) -implicitDefEqProofs only [go_sem, n1, n2, n3, n4, hxi, hyi, wx, wy, Option.some.injEq, forall_eq', and_true, true_and, Bool.not_true, Bool.not_false, decide_true, Nat.reduceAdd, Nat.reduceSub, Nat.reduceLT, Nat.reduceLeDiff, Nat.reduceEqDiff, ↓reduceIte]
        refine ⟨_, _, c1.lift0 _ (by simp only [go_sem]) (by simp only [go_sem]), rfl, ?_⟩
        exact (Wk.forget (by (simp only [go_sem]) <;> trivial) (by simp only [go_sem]))
    have hcb : cmpB b b' = cmpI b.length b'.length := by rw [h3]; exact cmpB_drop h1 h2 (by omega)
    have hcond : (decide ((i : Int) < b.length) = false) ∨ (decide ((i : Int) < b.length) = true ∧ decide ((i : Int) < b'.length) = false) := by
      by_cases h : i < b.length
      · exact .inr ⟨by simp; omega, by simp; omega⟩
      · exact .inl (by simp; omega)
    apply Or.elim hcond
    all_goals
      intro hc
      first | (have f1 := hc; have f2 := hc; simp (maxSteps := 4000000) -implicitDefEqProofs only [go_sem, f1, Option.some.injEq, forall_eq', and_true, true_and, Bool.not_true, Bool.not_false, decide_true, Nat.reduceAdd, Nat.reduceSub, Nat.reduceLT, Nat.reduceLeDiff, Nat.reduceEqDiff, ↓reduceIte]) | (have f1 := hc.1; have f2 := hc.2; simp (maxSteps := 4000000) -implicitDefEqProofs only [go_sem, f1, f2, Option.some.injEq, forall_eq', and_true, true_and, Bool.not_true, Bool.not_false, decide_true, Nat.reduceAdd, Nat.reduceSub, Nat.reduceLT, Nat.reduceLeDiff, Nat.reduceEqDiff, ↓reduceIte])
      refine eloop (S := Nat) (fun i => mkE 109 [(2, .ptr 0 0), (3, .ptr 1 0), (6, .d (.int .i64 i))]) (fun i => [.cells [.d (.int .u8 k), .d (.int .i64 n), .d (.sl (b.map bY)), .d (.sl (l.map vD))], .cells [.d (.int .u8 k'), .d (.int .i64 n'), .d (.sl (b'.map bY)), .d (.sl (l'.map vD))]])
        (fun i => i ≤ l.length ∧ i ≤ l'.length ∧ ordL l l' = ordL (l.drop i) (l'.drop i)) (fun i => l.length - i) 0 ⟨by omega, by omega, rfl⟩ (Wk.sub (by (simp only [go_sem]) <;> trivial)) ?_
      clear hc f1 f2 hcond hi h3 h2 h1 hs
      intro j hs
      have h1 := hs.1
      have h2 := hs.2.1
      have h3 := hs.2.2
      by_cases hi : j < l.length ∧ j < l'.length
      · have f1 : decide ((j : Int) < l.length) = true := by simp; omega
        have f2 : decide ((j : Int) < l'.length) = true := by simp; omega
        apply Exists.elim (show ∃ x, l[j]? = some x from ⟨l[j]'hi.1, List.getElem?_eq_getElem _⟩)
        intro x hxi
        apply Exists.elim (show ∃ x, l'[j]? = some x from ⟨l'[j]'hi.2, List.getElem?_eq_getElem _⟩)
        intro y hyi
        have hdx : l.drop j = x :: l.drop (j + 1) := by rw [List.drop_eq_getElem_cons hi.1, (List.getElem?_eq_some_iff.1 hxi).2]
        have hdy : l'.drop j = y :: l'.drop (j + 1) := by rw [List.drop_eq_getElem_cons hi.2, (List.getElem?_eq_some_iff.1 hyi).2]
        have n1 : (0 ≤ (j : Int) ∧ (j : Int) < l.length) = True := eq_true (by omega)
        have n2 : (j < l.length) = True := eq_true hi.1
        have n3 : (0 ≤ (j : Int) ∧ (j : Int) < l'.length) = True := eq_true (by omega)
        have n4 : (j < l'.length) = True := eq_true hi.2
        have w1 : IntKind.i64.wrap ((j : Int) + 1) = ((j + 1 : Nat) : Int) := by rw [i64_in _ (by omega)]; simp
        have hB : b = [] ∧ b' = [] ∧ (∀ x ∈ l, rightP d x = true) ∧ ∀ x ∈ l', rightP d x = true := by
          rcases hbl with h | h
          · rw [h.1] at hi; simp at hi
          · exact h
        have hxm := List.mem_of_getElem? hxi
        have hym := List.mem_of_getElem? hyi
        have c1 := order_ref d x y (hx x hxm) (hx' y hym) (hB.2.2.1 x hxm) (hB.2.2.2 y hym)
        have hF' : F = ordL l l' := by rw [← hF, hB.1, hB.2.1, cmpB, if_pos rfl]
        rw [hdx, hdy, ordL] at h3
        generalize ordV x y = O at c1 h3
        obtain ⟨xk, xn, xb, xl⟩ := x
        obtain ⟨yk, yn, yb, yl⟩ := y
        simp only [vA] at c1
        simp (maxSteps := 4000000) -implicitDefEqProofs only [go_sem, f1, f2, Option.some.injEq, forall_eq', and_true, true_and, Bool.not_true, Bool.not_false, decide_true, Nat.reduceAdd, Nat.reduceSub, Nat.reduceLT, Nat.reduceLeDiff, Nat.reduceEqDiff, ↓reduceIte]
        refine DX.plain (.take 0 false (.take 1 false (.take 2 false (.take 3 false (.take 4 false (.take 5 false (.take 6 false (.take 7 false (.take 8 false (.take 9 false (.take 10 false (.take 11 false .done)))))))))))) (by kernel_rfl) (by kernel_rfl) Ty.mixed ?_
        simp (maxSteps := 4000000) -implicitDefEqProofs only [go_sem, n1, n2, n3, n4, hxi, hyi, vD, vDs_eq, Option.some.injEq, forall_eq', and_true, true_and, Bool.not_true, Bool.not_false, decide_true, Nat.reduceAdd, Nat.reduceSub, Nat.reduceLT, Nat.reduceLeDiff, Nat.reduceEqDiff, ↓reduceIte]
        refine ⟨_, _, c1.lift0 _ (by simp only [go_sem]) (by simp only [go_sem]), rfl, ?_⟩
        by_cases hz : O = 0
        · have z : (O != 0) = false := by simp [hz]
          rw [if_pos hz] at h3
          simp (maxSteps := 4000000) -implicitDefEqProofs only [go_sem, z, w1, Option.some.injEq, forall_eq', and_true, true_and, Bool.not_true, Bool.not_false, decide_true, Nat.reduceAdd, Nat.reduceSub, Nat.reduceLT, Nat.reduceLeDiff, Nat.reduceEqDiff, ↓reduceIte]
          exact .mk (j + 1) ⟨by omega, by omega, h3⟩ (by omega) (Wk.sub (by (simp only [go_sem]) <;> trivial))
        · have z : (O != 0) = true := by simp [hz]
          rw [if_neg hz] at h3
          rw [hF', h3]
          simp (maxSteps := 4000000) -implicitDefEqProofs only [go_sem, z, Option.some.injEq, forall_eq', and_true, true_and, Bool.not_true, Bool.not_false, decide_true, Nat.reduceAdd, Nat.reduceSub, Nat.reduceLT, Nat.reduceLeDiff, Nat.reduceEqDiff, ↓reduceIte]
          exact (Wk.forget (by (simp only [go_sem]) <;> trivial) (by simp only [go_sem]))
      have hcl : ordL l l' = cmpI l.length l'.length := by rw [h3]; exact ordL_drop h1 h2 (by omega)
      have hF' : F = cmpI ((b.length : Int) + l.length) ((b'.length : Int) + l'.length) := by
        rw [← hF, hcb, hcl]
        rcases hbl with h | h
        · rw [h.1, h.2]
          simp only [List.length_nil, Int.natCast_zero, Int.add_zero, cmpI_self]
          split
          · next h => exact h.symm
          · rfl
        · rw [h.1, h.2.1]
          simp only [List.length_nil, Int.natCast_zero, Int.zero_add, cmpI_self, if_true]
      have ws : IntKind.i64.wrap ((b.length : Int) + l.length) = (b.length : Int) + l.length := i64_in _ (by omega)
      have ws' : IntKind.i64.wrap ((b'.length : Int) + l'.length) = (b'.length : Int) + l'.length := i64_in _ (by omega)
      have c1 := three_ref ((b.length : Int) + l.length) ((b'.length : Int) + l'.length)
      rw [hF']
      have hcond : (decide ((j : Int) < l.length) = false) ∨ (decide ((j : Int) < l.length) = true ∧ decide ((j : Int) < l'.length) = false) := by
        by_cases h : j < l.length
        · exact .inr ⟨by simp; omega, by simp; omega⟩
        · exact .inl (by simp; omega)
      apply Or.elim hcond
      all_goals
        intro hc
        first | (have f1 := hc; have f2 := hc; simp (maxSteps := 4000000) -implicitDefEqProofs only [go_sem, f1, ws, ws', Option.some.injEq, forall_eq', and_true, true_and, Bool.not_true, Bool.not_false, decide_true, Nat.reduceAdd, Nat.reduceSub, Nat.reduceLT, Nat.reduceLeDiff, Nat.reduceEqDiff, ↓reduceIte]) | (have f1 := hc.1; have f2 := hc.2; simp (maxSteps := 4000000) -implicitDefEqProofs only [go_sem, f1, f2, ws, ws', Option.some.injEq, forall_eq', and_true, true_and, Bool.not_true, Bool.not_false, decide_true, Nat.reduceAdd, Nat.reduceSub, Nat.reduceLT, Nat.reduceLeDiff, Nat.reduceEqDiff, ↓reduceIte])
        refine .all _ _ (c1.lift0 _ (by simp only [go_sem]) (by simp only [go_sem])) ?_
        simp (maxSteps := 4000000) -implicitDefEqProofs only [go_sem, Nat.reduceAdd, Nat.reduceSub, Nat.reduceLT, Nat.reduceLeDiff, Nat.reduceEqDiff, ↓reduceIte]
        exact (Wk.forget (by (simp only [go_sem]) <;> trivial) (by simp only [go_sem]))
end Go.AX.Co
/- Cmp, of the program and of the reference. -/
set_option maxHeartbeats 8000000
set_option linter.unusedVariables false
set_option linter.unusedSimpArgs false
set_option maxRecDepth 20000
namespace Go.AX.Co
open Go.Proofs Go.RowKit Go.IntWalk
def cmpP (a b : Vl) : Int × Int := if (encP a).2 ≠ 0 then (0, (encP a).2) else if (encP b).2 ≠ 0 then (0, (encP b).2) else (ordV a b, 0)
theorem cmp_own (a b : Vl) (ha : FitB a) (hb : FitB b) : Spec Try.prog 19 [vA a, vA b] [] (.tup [.d (.int .i64 (cmpP a b).1), .d (.int .i64 (cmpP a b).2)]) [] := by
  have c1 := check_own a ha.fitW
  have c2 := check_own b hb.fitW
  have c3 := order_own ha b hb
  generalize hR : cmpP a b = R
  unfold cmpP at hR
  generalize (encP a).2 = e at c1 hR
  generalize (encP b).2 = f at c2 hR
  generalize ordV a b = o at c3 hR
  obtain ⟨k, n, b, l⟩ := a
  rename_i bb
  obtain ⟨k', n', b', l'⟩ := bb
  simp only [vA] at c1 c2 c3
  refine spec_of_ev (fn := Try.f19) DX_ok 3000 Try.func19 rfl rfl (Nat.le_of_ble_eq_true rfl) ?_
  simp (maxSteps := 4000000) -implicitDefEqProofs only [Try.f19, go_sem, vA]
  refine .all _ _ (c1.lift0 _ (by simp only [go_sem]) (by simp only [go_sem])) ?_
  by_cases h1 : e = 0
  case neg =>
    have z1 : (e != 0) = true := by simp [h1]
    rw [if_pos h1] at hR
    subst hR
    simp (maxSteps := 4000000) -implicitDefEqProofs only [go_sem, z1, Option.some.injEq, forall_eq', and_true, true_and, Bool.not_true, Bool.not_false, decide_true, Nat.reduceAdd, Nat.reduceSub, Nat.reduceLT, Nat.reduceLeDiff, Nat.reduceEqDiff, ↓reduceIte]
    exact (Wk.forget (by (simp only [go_sem]) <;> trivial) (by simp only [go_sem]))
  have z1 : (e != 0) = false := by simp [h1]
  rw [if_neg (fun h => h h1)] at hR
  simp (maxSteps := 4000000) -implicitDefEqProofs only [go_sem, z1, Option.some.injEq, forall_eq', and_true, true_and, Bool.not_true, Bool.not_false, decide_true, Nat.reduceAdd, Nat.reduceSub, Nat.reduceLT, Nat.reduceLeDiff, Nat.reduceEqDiff, ↓reduceIte]
  refine .all _ _ (c2.lift0 _ (by simp only [go_sem]) (by simp only [go_sem])) ?_
  by_cases h2 : f = 0
  case neg =>
    have z2 : (f != 0) = true := by simp [h2]
    rw [if_pos h2] at hR
    subst hR
    simp (maxSteps := 4000000) -implicitDefEqProofs only [go_sem, z2, Option.some.injEq, forall_eq', and_true, true_and, Bool.not_true, Bool.not_false, decide_true, Nat.reduceAdd, Nat.reduceSub, Nat.reduceLT, Nat.reduceLeDiff, Nat.reduceEqDiff, ↓reduceIte]
    exact (Wk.forget (by (simp only [go_sem]) <;> trivial) (by simp only [go_sem]))
  have z2 : (f != 0) = false := by simp [h2]
  rw [if_neg (fun h => h h2)] at hR
  subst hR
  simp (maxSteps := 4000000) -implicitDefEqProofs only [go_sem, z2, Option.some.injEq, forall_eq', and_true, true_and, Bool.not_true, Bool.not_false, decide_true, Nat.reduceAdd, Nat.reduceSub, Nat.reduceLT, Nat.reduceLeDiff, Nat.reduceEqDiff, ↓reduceIte]
  refine .all _ _ (c3.lift0 _ (by simp only [go_sem]) (by simp only [go_sem])) ?_
  simp (maxSteps := 4000000) -implicitDefEqProofs only [go_sem, Nat.reduceAdd, Nat.reduceSub, Nat.reduceLT, Nat.reduceLeDiff, Nat.reduceEqDiff, ↓reduceIte]
  exact (Wk.forget (by (simp only [go_sem]) <;> trivial) (by simp only [go_sem]))
theorem enc_right {v : Vl} (h : (encP v).2 = 0) : rightP 6 v = true := by
  rw [encP_eq] at h
  cases hr : rightP 6 v with
  | true => rfl
  | false => rw [hr, if_pos rfl] at h; cases h
theorem cmp_ref (a b : Vl) (ha : FitB a) (hb : FitB b) : Spec Try.prog 20 [vA a, vA b] [] (.tup [.d (.int .i64 (cmpP a b).1), .d (.int .i64 (cmpP a b).2)]) [] := by
  have c1 := check_ref a ha.fitW
  have c2 := check_ref b hb.fitW
  have c3 := order_ref 6 a b ha hb
  have r1 := enc_right (v := a)
  have r2 := enc_right (v := b)
  generalize rightP 6 a = ra at c3 r1
  generalize rightP 6 b = rb at c3 r2
  generalize hR : cmpP a b = R
  unfold cmpP at hR
  generalize (encP a).2 = e at c1 hR r1
  generalize (encP b).2 = f at c2 hR r2
  generalize ordV a b = o at c3 hR
  obtain ⟨k, n, b, l⟩ := a
  rename_i bb
  obtain ⟨k', n', b', l'⟩ := bb
  simp only [vA] at c1 c2 c3
  refine spec_of_ev (fn := Try.f20) DX_ok 3000 Try.func20 rfl rfl (Nat.le_of_ble_eq_true rfl) ?_
  simp (maxSteps := 4000000) -implicitDefEqProofs only [Try.f20, go_sem, vA]
  refine .all _ _ (c1.lift0 _ (by simp only [go_sem]) (by simp only [go_sem])) ?_
  by_cases h1 : e = 0
  case neg =>
    have z1 : (e != 0) = true := by simp [h1]
    rw [if_pos h1] at hR
    subst hR
    simp (maxSteps := 4000000) -implicitDefEqProofs only [go_sem, z1, Option.some.injEq, forall_eq', and_true, true_and, Bool.not_true, Bool.not_false, decide_true, Nat.reduceAdd, Nat.reduceSub, Nat.reduceLT, Nat.reduceLeDiff, Nat.reduceEqDiff, ↓reduceIte]
    refine .all _ _ (c1.lift0 _ (by simp only [go_sem]) (by simp only [go_sem])) ?_
    simp (maxSteps := 4000000) -implicitDefEqProofs only [go_sem, Nat.reduceAdd, Nat.reduceSub, Nat.reduceLT, Nat.reduceLeDiff, Nat.reduceEqDiff, ↓reduceIte]
    exact (Wk.forget (by (simp only [go_sem]) <;> trivial) (by simp only [go_sem]))
  have z1 : (e != 0) = false := by simp [h1]
  rw [if_neg (fun h => h h1)] at hR
  simp (maxSteps := 4000000) -implicitDefEqProofs only [go_sem, z1, Option.some.injEq, forall_eq', and_true, true_and, Bool.not_true, Bool.not_false, decide_true, Nat.reduceAdd, Nat.reduceSub, Nat.reduceLT, Nat.reduceLeDiff, Nat.reduceEqDiff, ↓reduceIte]
  refine .all _ _ (c2.lift0 _ (by simp only [go_sem]) (by simp only [go_sem])) ?_
  by_cases h2 : f = 0
  case neg =>
    have z2 : (f != 0) = true := by simp [h2]
    rw [if_pos h2] at hR
    subst hR
    simp (maxSteps := 4000000) -implicitDefEqProofs only [go_sem, z2, Option.some.injEq, forall_eq', and_true, true_and, Bool.not_true, Bool.not_false, decide_true, Nat.reduceAdd, Nat.reduceSub, Nat.reduceLT, Nat.reduceLeDiff, Nat.reduceEqDiff, ↓reduceIte]
    refine .all _ _ (c2.lift0 _ (by simp only [go_sem]) (by simp only [go_sem])) ?_
    simp (maxSteps := 4000000) -implicitDefEqProofs only [go_sem, Nat.reduceAdd, Nat.reduceSub, Nat.reduceLT, Nat.reduceLeDiff, Nat.reduceEqDiff, ↓reduceIte]
    exact (Wk.forget (by (simp only [go_sem]) <;> trivial) (by simp only [go_sem]))
  have z2 : (f != 0) = false := by simp [h2]
  rw [if_neg (fun h => h h2)] at hR
  subst hR
  have c3 := c3 (r1 h1) (r2 h2)
  simp (maxSteps := 4000000) -implicitDefEqProofs only [go_sem, z2, Option.some.injEq, forall_eq', and_true, true_and, Bool.not_true, Bool.not_false, decide_true, Nat.reduceAdd, Nat.reduceSub, Nat.reduceLT, Nat.reduceLeDiff, Nat.reduceEqDiff, ↓reduceIte]
  refine .all _ _ (c3.lift0 _ (by simp only [go_sem]) (by simp only [go_sem])) ?_
  simp (maxSteps := 4000000) -implicitDefEqProofs only [go_sem, Nat.reduceAdd, Nat.reduceSub, Nat.reduceLT, Nat.reduceLeDiff, Nat.reduceEqDiff, ↓reduceIte]
  exact (Wk.forget (by (simp only [go_sem]) <;> trivial) (by simp only [go_sem]))
/-! ### values that are great -/
/-- all lengths are those of a machine -/
inductive SmV : Vl → Prop where
  | mk (k n : Int) (b : List Int) (l : List Vl) (hk : 0 ≤ k ∧ k ≤ 255) (hn : -9223372036854775808 ≤ n ∧ n ≤ 9223372036854775807) (hbb : Bytes b) (hb : Sm b.length) (hl : Sm l.length) (h : ∀ x, x ∈ l → SmV x) : SmV (.mk k n b l)
mutual
def cntV : Vl → Nat → Nat → Nat
  | .mk _ _ _ l, most, deep => cntL l 1 most deep
def cntL : List Vl → Nat → Nat → Nat → Nat
  | [], n, _, _ => n
  | x :: r, n, most, deep => if n < most ∧ 0 < deep then cntL r (n + cntV x (most - n) (deep - 1)) most deep else n
end
/-- wide: false means at most so deep -/
def widV : Nat → Vl → Bool
  | 0, .mk _ _ b l => decide (4000 < b.length) || !l.isEmpty
  | d + 1, .mk _ _ b l => decide (4000 < b.length) || l.any (widV d)
mutual
theorem cntV_le : ∀ (v : Vl) (most deep : Nat), 1 ≤ most → 1 ≤ cntV v most deep ∧ cntV v most deep ≤ most
  | .mk k n b l, most, deep, h => by rw [cntV]; exact ⟨cntL_ge l 1 most deep h, (cntL_le l 1 most deep h)⟩
theorem cntL_le : ∀ (l : List Vl) (n most deep : Nat), n ≤ most → cntL l n most deep ≤ most
  | [], n, most, deep, h => by rw [cntL]; exact h
  | x :: r, n, most, deep, h => by
    rw [cntL]
    split
    · next q => exact cntL_le r _ most deep (by have := (cntV_le x (most - n) (deep - 1) (by omega)).2; omega)
    · exact h
theorem cntL_ge : ∀ (l : List Vl) (n most deep : Nat), n ≤ most → n ≤ cntL l n most deep
  | [], n, most, deep, h => by rw [cntL]; exact Nat.le_refl _
  | x :: r, n, most, deep, h => by
    rw [cntL]
    split
    · next q => have := cntL_ge r (n + cntV x (most - n) (deep - 1)) most deep (by have := (cntV_le x (most - n) (deep - 1) (by omega)).2; omega); omega
    · exact Nat.le_refl _
end
end Go.AX.Co
/- Values that are great. -/
set_option maxHeartbeats 8000000
set_option linter.unusedVariables false
set_option linter.unusedSimpArgs false
set_option maxRecDepth 20000
namespace Go.AX.Co
open Go.Proofs Go.RowKit Go.IntWalk
theorem count_ref {v : Vl} (hv : SmV v) : ∀ most deep : Nat, 1 ≤ most → most ≤ 1000000 → deep ≤ 1000 → Spec Try.prog 35 [vA v, .d (.int .i64 most), .d (.int .i64 deep)] [] (.d (.int .i64 (cntV v most deep))) [] := by
  induction hv with
  | mk k n b l hk hn hbb hb hl hx ih =>
  intro most deep hm hm2 hd
  unfold Sm at hl
  rw [cntV]
  generalize hF : cntL l 1 most deep = F
  refine spec_of_ev (fn := Try.f35) DX_ok 3000 Try.func35 rfl rfl (Nat.le_of_ble_eq_true rfl) ?_
  simp (maxSteps := 4000000) -implicitDefEqProofs only [Try.f35, go_sem, vA]
  refine eloop (S := Nat × Nat) (fun s => mkE 39 [(1, .d (.int .i64 most)), (2, .d (.int .i64 deep)), (3, .ptr 0 0), (7, .d (.int .i64 s.2)), (8, .d (.int .i64 s.1))]) (fun s => [.cells [.d (.int .u8 k), .d (.int .i64 n), .d (.sl (b.map bY)), .d (.sl (l.map vD))]])
    (fun s => s.1 ≤ l.length ∧ s.2 ≤ most ∧ F = cntL (l.drop s.1) s.2 most deep) (fun s => l.length - s.1) ((0, 1) : Nat × Nat) ⟨Nat.zero_le _, hm, hF.symm⟩ (Wk.sub (by (simp only [go_sem]) <;> trivial)) ?_
  intro s hs
  obtain ⟨i, c⟩ := s
  simp only at hs ⊢
  have h1 := hs.1
  have h2 := hs.2.1
  have h3 := hs.2.2
  have d1 : decide ((i : Int) < l.length) = decide (i < l.length) := by rw [Bool.eq_iff_iff]; simp
  have d2 : decide ((c : Int) < most) = decide (c < most) := by rw [Bool.eq_iff_iff]; simp
  have d3 : decide (0 < (deep : Int)) = decide (0 < deep) := by rw [Bool.eq_iff_iff]; simp
  by_cases hi : i < l.length
  case neg =>
    rw [decide_eq_false hi] at d1
    rw [List.drop_eq_nil_of_le (by omega), cntL] at h3
    rw [h3]
    simp (maxSteps := 4000000) -implicitDefEqProofs only [go_sem, d1, Option.some.injEq, forall_eq', and_true, true_and, Bool.not_true, Bool.not_false, decide_true, Nat.reduceAdd, Nat.reduceSub, Nat.reduceLT, Nat.reduceLeDiff, Nat.reduceEqDiff, ↓reduceIte]
    exact (Wk.forget (by (simp only [go_sem]) <;> trivial) (by simp only [go_sem]))
  rw [decide_eq_true hi] at d1
  obtain ⟨x, hxi⟩ : ∃ x, l[i]? = some x := ⟨l[i]'hi, List.getElem?_eq_getElem _⟩
  have hdr : l.drop i = x :: l.drop (i + 1) := by rw [List.drop_eq_getElem_cons hi, (List.getElem?_eq_some_iff.1 hxi).2]
  rw [hdr, cntL] at h3
  by_cases hc : c < most
  case neg =>
    rw [decide_eq_false hc] at d2
    rw [if_neg (fun h => hc h.1)] at h3
    rw [h3]
    simp (maxSteps := 4000000) -implicitDefEqProofs only [go_sem, d1, d2, Option.some.injEq, forall_eq', and_true, true_and, Bool.not_true, Bool.not_false, decide_true, Nat.reduceAdd, Nat.reduceSub, Nat.reduceLT, Nat.reduceLeDiff, Nat.reduceEqDiff, ↓reduceIte]
    exact (Wk.forget (by (simp only [go_sem]) <;> trivial) (by simp only [go_sem]))
  rw [decide_eq_true hc] at d2
  by_cases hdp : 0 < deep
  case neg =>
    rw [decide_eq_false hdp] at d3
    rw [if_neg (fun h => hdp h.2)] at h3
    rw [h3]
    simp (maxSteps := 4000000) -implicitDefEqProofs only [go_sem, d1, d2, d3, Option.some.injEq, forall_eq', and_true, true_and, Bool.not_true, Bool.not_false, decide_true, Nat.reduceAdd, Nat.reduceSub, Nat.reduceLT, Nat.reduceLeDiff, Nat.reduceEqDiff, ↓reduceIte]
    exact (Wk.forget (by (simp only [go_sem]) <;> trivial) (by simp only [go_sem]))
  rw [decide_eq_true hdp] at d3
  rw [if_pos ⟨hc, hdp⟩] at h3
  have hxm := List.mem_of_getElem? hxi
  have c1 := ih x hxm (most - c) (deep - 1) (by omega) (by omega) (by omega)
  have cl := cntV_le x (most - c) (deep - 1) (by omega)
  generalize cntV x (most - c) (deep - 1) = q at c1 cl h3
  have n1 : (0 ≤ (i : Int) ∧ (i : Int) < l.length) = True := eq_true (by omega)
  have n2 : (i < l.length) = True := eq_true hi
  have w1 : IntKind.i64.wrap ((i : Int) + 1) = ((i + 1 : Nat) : Int) := by rw [i64_in _ (by omega)]; simp
  have w2 : IntKind.i64.wrap ((most : Int) - c) = ((most - c : Nat) : Int) := by rw [i64_in _ (by omega)]; omega
  have w3 : IntKind.i64.wrap ((deep : Int) - 1) = ((deep - 1 : Nat) : Int) := by rw [i64_in _ (by omega)]; omega
  have w4 : IntKind.i64.wrap ((c : Int) + q) = ((c + q : Nat) : Int) := by rw [i64_in _ (by omega)]; omega
  obtain ⟨xk, xn, xb, xl⟩ := x
  simp only [vA] at c1
  simp (maxSteps := 4000000) -implicitDefEqProofs only [go_sem, d1, d2, d3, n1, n2, hxi, vD, vDs_eq, w2, w3, Option.some.injEq, forall_eq', and_true, true_and, Bool.not_true, Bool.not_false, decide_true, Nat.reduceAdd, Nat.reduceSub, Nat.reduceLT, Nat.reduceLeDiff, Nat.reduceEqDiff, ↓reduceIte]
  refine .all _ _ (c1.lift0 _ (by simp only [go_sem]) (by simp only [go_sem])) ?_
  simp (maxSteps := 4000000) -implicitDefEqProofs only [go_sem, w4, w1, Option.some.injEq, forall_eq', and_true, true_and, Bool.not_true, Bool.not_false, decide_true, Nat.reduceAdd, Nat.reduceSub, Nat.reduceLT, Nat.reduceLeDiff, Nat.reduceEqDiff, ↓reduceIte]
  exact .mk ((i + 1, c + q) : Nat × Nat) ⟨by show i + 1 ≤ l.length; omega, by show c + q ≤ most; omega, h3⟩ (by show l.length - (i + 1) < l.length - i; omega) (Wk.sub (by (simp only [go_sem]) <;> trivial))
theorem wide_below (v : Vl) : Spec Try.prog 36 [vA v, .d (.int .i64 (-1))] [] (.d (.bool true)) [] := by
  obtain ⟨k, n, b, l⟩ := v
  have d1 : decide ((-1 : Int) < 0) = true := rfl
  refine spec_of_ev (fn := Try.f36) DX_ok 3000 Try.func36 rfl rfl (Nat.le_of_ble_eq_true rfl) ?_
  simp (maxSteps := 4000000) -implicitDefEqProofs only [Try.f36, go_sem, vA]
  simp (maxSteps := 4000000) -implicitDefEqProofs only [go_sem, d1, Option.some.injEq, forall_eq', and_true, true_and, Bool.not_true, Bool.not_false, decide_true, Nat.reduceAdd, Nat.reduceSub, Nat.reduceLT, Nat.reduceLeDiff, Nat.reduceEqDiff, ↓reduceIte]
  exact wk_bool rfl
theorem wide_ref {v : Vl} (hv : SmV v) : ∀ d : Nat, d ≤ 1000 → Spec Try.prog 36 [vA v, .d (.int .i64 d)] [] (.d (.bool (widV d v))) [] := by
  induction hv with
  | mk k n b l hk hn hbb hb hl hx ih =>
  intro d hd
  unfold Sm at hl hb
  have dz : decide ((d : Int) < 0) = false := decide_eq_false (by omega)
  have d4 : decide (4000 < (b.length : Int)) = decide (4000 < b.length) := by rw [Bool.eq_iff_iff]; simp; omega
  by_cases h4 : 4000 < b.length
  · rw [decide_eq_true h4] at d4
    have e : widV d (.mk k n b l) = true := by cases d <;> simp [widV, h4]
    rw [e]
    refine spec_of_ev (fn := Try.f36) DX_ok 3000 Try.func36 rfl rfl (Nat.le_of_ble_eq_true rfl) ?_
    simp (maxSteps := 4000000) -implicitDefEqProofs only [Try.f36, go_sem, vA]
    simp (maxSteps := 4000000) -implicitDefEqProofs only [go_sem, dz, d4, Option.some.injEq, forall_eq', and_true, true_and, Bool.not_true, Bool.not_false, decide_true, Nat.reduceAdd, Nat.reduceSub, Nat.reduceLT, Nat.reduceLeDiff, Nat.reduceEqDiff, ↓reduceIte]
    exact wk_bool rfl
  rw [decide_eq_false h4] at d4
  generalize hF : widV d (.mk k n b l) = F
  refine spec_of_ev (fn := Try.f36) DX_ok 3000 Try.func36 rfl rfl (Nat.le_of_ble_eq_true rfl) ?_
  simp (maxSteps := 4000000) -implicitDefEqProofs only [Try.f36, go_sem, vA]
  simp (maxSteps := 4000000) -implicitDefEqProofs only [go_sem, dz, d4, Option.some.injEq, forall_eq', and_true, true_and, Bool.not_true, Bool.not_false, decide_true, Nat.reduceAdd, Nat.reduceSub, Nat.reduceLT, Nat.reduceLeDiff, Nat.reduceEqDiff, ↓reduceIte]
  refine eloop (S := Nat) (fun i => mkE 29 [(1, .d (.int .i64 d)), (2, .ptr 0 0), (5, .d (.int .i64 i))]) (fun i => [.cells [.d (.int .u8 k), .d (.int .i64 n), .d (.sl (b.map bY)), .d (.sl (l.map vD))]])
    (fun i => i ≤ l.length ∧ (0 < i → 0 < d) ∧ ∀ j x, l[j]? = some x → j < i → widV (d - 1) x = false) (fun i => l.length - i) 0 ⟨by omega, by omega, by omega⟩ (Wk.sub (by (simp only [go_sem]) <;> trivial)) ?_
  intro i hs
  have h1 := hs.1
  have h0 := hs.2.1
  have h2 := hs.2.2
  rcases Nat.lt_or_ge i l.length with hi | hi
  case inr =>
    have f1 : decide ((i : Int) < l.length) = false := by simp; omega
    have : F = false := by
      rw [← hF]
      cases d with
      | zero =>
        have : l = [] := List.length_eq_zero_iff.1 (by omega)
        rw [widV, decide_eq_false h4, this]; rfl
      | succ d =>
        rw [widV, decide_eq_false h4, Bool.false_or, List.any_eq_false]
        intro x hxm
        obtain ⟨j, hj⟩ := List.mem_iff_getElem?.1 hxm
        simp [show widV d x = false from h2 j x hj (by have := some_lt hj; omega)]
    rw [this]
    simp (maxSteps := 4000000) -implicitDefEqProofs only [go_sem, f1, Option.some.injEq, forall_eq', and_true, true_and, Bool.not_true, Bool.not_false, decide_true, Nat.reduceAdd, Nat.reduceSub, Nat.reduceLT, Nat.reduceLeDiff, Nat.reduceEqDiff, ↓reduceIte]
    exact wk_bool rfl
  have f1 : decide ((i : Int) < l.length) = true := by simp; omega
  obtain ⟨x, hxi⟩ : ∃ x, l[i]? = some x := ⟨l[i]'hi, List.getElem?_eq_getElem _⟩
  have hxm := List.mem_of_getElem? hxi
  have n1 : (0 ≤ (i : Int) ∧ (i : Int) < l.length) = True := eq_true (by omega)
  have n2 : (i < l.length) = True := eq_true hi
  have w1 : IntKind.i64.wrap ((i : Int) + 1) = ((i + 1 : Nat) : Int) := by rw [i64_in _ (by omega)]; simp
  cases d with
  | zero =>
    have c1 := wide_below x
    have wd : IntKind.i64.wrap (((0 : Nat) : Int) - 1) = -1 := by decide
    have wd' : IntKind.i64.wrap ((0 : Int) - 1) = -1 := by decide
    have : F = true := by
      rw [← hF, widV]
      cases l with
      | nil => simp at hi
      | cons y l => simp
    rw [this]
    obtain ⟨xk, xn, xb, xl⟩ := x
    simp only [vA] at c1
    simp (maxSteps := 4000000) -implicitDefEqProofs only [go_sem, f1, n1, n2, hxi, vD, vDs_eq, wd, wd', Option.some.injEq, forall_eq', and_true, true_and, Bool.not_true, Bool.not_false, decide_true, Nat.reduceAdd, Nat.reduceSub, Nat.reduceLT, Nat.reduceLeDiff, Nat.reduceEqDiff, ↓reduceIte]
    refine .all _ _ (c1.lift0 _ (by simp only [go_sem]) (by simp only [go_sem])) ?_
    simp (maxSteps := 4000000) -implicitDefEqProofs only [go_sem, Nat.reduceAdd, Nat.reduceSub, Nat.reduceLT, Nat.reduceLeDiff, Nat.reduceEqDiff, ↓reduceIte]
    exact wk_bool rfl
  | succ d =>
    have wd : IntKind.i64.wrap (((d + 1 : Nat) : Int) - 1) = (d : Int) := by rw [i64_in _ (by omega)]; omega
    have c1 := ih x hxm d (by omega)
    have hnext : widV d x = false → ∀ j y, l[j]? = some y → j < i + 1 → widV d y = false := fun h => upto_succ (p := fun _ y => widV d y = false) hxi h h2
    have hbad : widV d x = true → F = true := fun h => by
      rw [← hF, widV, Bool.or_eq_true, List.any_eq_true]
      exact .inr ⟨x, hxm, h⟩
    generalize widV d x = B at c1 hnext hbad
    obtain ⟨xk, xn, xb, xl⟩ := x
    simp only [vA] at c1
    simp (maxSteps := 4000000) -implicitDefEqProofs only [go_sem, f1, n1, n2, hxi, vD, vDs_eq, wd, Option.some.injEq, forall_eq', and_true, true_and, Bool.not_true, Bool.not_false, decide_true, Nat.reduceAdd, Nat.reduceSub, Nat.reduceLT, Nat.reduceLeDiff, Nat.reduceEqDiff, ↓reduceIte]
    refine .all _ _ (c1.lift0 _ (by simp only [go_sem]) (by simp only [go_sem])) ?_
    cases B with
    | true =>
      rw [hbad rfl]
      simp (maxSteps := 4000000) -implicitDefEqProofs only [go_sem, Nat.reduceAdd, Nat.reduceSub, Nat.reduceLT, Nat.reduceLeDiff, Nat.reduceEqDiff, ↓reduceIte]
      exact wk_bool rfl
    | false =>
      simp (maxSteps := 4000000) -implicitDefEqProofs only [go_sem, w1, Option.some.injEq, forall_eq', and_true, true_and, Bool.not_true, Bool.not_false, decide_true, Nat.reduceAdd, Nat.reduceSub, Nat.reduceLT, Nat.reduceLeDiff, Nat.reduceEqDiff, ↓reduceIte]
      exact .mk (i + 1) ⟨by omega, fun _ => by omega, hnext rfl⟩ (by omega) (Wk.sub (by (simp only [go_sem]) <;> trivial))
def grV (v : Vl) : Bool := decide (2000 < cntV v 2001 20) || widV 20 v
theorem great_ref {v : Vl} (hv : SmV v) : Spec Try.prog 14 [vA v] [] (.d (.bool (grV v))) [] := by
  have c1 := count_ref hv 2001 20 (by omega) (by omega) (by omega)
  have c2 := wide_ref hv 20 (by omega)
  unfold grV
  have d1 : decide (2000 < (cntV v 2001 20 : Int)) = decide (2000 < cntV v 2001 20) := by rw [Bool.eq_iff_iff]; simp; omega
  generalize cntV v 2001 20 = c at c1 d1 ⊢
  generalize widV 20 v = B at c2 ⊢
  generalize decide (2000 < c) = G at d1 ⊢
  obtain ⟨k, n, b, l⟩ := v
  simp only [vA] at c1 c2
  rw [show ((2001 : Nat) : Int) = 2001 from rfl, show ((20 : Nat) : Int) = 20 from rfl] at c1
  rw [show ((20 : Nat) : Int) = 20 from rfl] at c2
  refine spec_of_ev (fn := Try.f14) DX_ok 3000 Try.func14 rfl rfl (Nat.le_of_ble_eq_true rfl) ?_
  simp (maxSteps := 4000000) -implicitDefEqProofs only [Try.f14, go_sem, vA]
  refine .all _ _ (c1.lift0 _ (by simp only [go_sem]) (by simp only [go_sem])) ?_
  cases G with
  | true =>
    simp (maxSteps := 4000000) -implicitDefEqProofs only [go_sem, d1, Option.some.injEq, forall_eq', and_true, true_and, Bool.not_true, Bool.not_false, decide_true, Nat.reduceAdd, Nat.reduceSub, Nat.reduceLT, Nat.reduceLeDiff, Nat.reduceEqDiff, ↓reduceIte]
    exact wk_bool rfl
  | false =>
    simp (maxSteps := 4000000) -implicitDefEqProofs only [go_sem, d1, Bool.false_or, Option.some.injEq, forall_eq', and_true, true_and, Bool.not_true, Bool.not_false, decide_true, Nat.reduceAdd, Nat.reduceSub, Nat.reduceLT, Nat.reduceLeDiff, Nat.reduceEqDiff, ↓reduceIte]
    refine .all _ _ (c2.lift0 _ (by simp only [go_sem]) (by simp only [go_sem])) ?_
    simp (maxSteps := 4000000) -implicitDefEqProofs only [go_sem, Nat.reduceAdd, Nat.reduceSub, Nat.reduceLT, Nat.reduceLeDiff, Nat.reduceEqDiff, ↓reduceIte]
    exact wk_bool rfl
theorem cntL_all : ∀ (l : List Vl) (n most deep : Nat), n ≤ most → 0 < deep → cntL l n most deep < most → n + l.length ≤ cntL l n most deep ∧ ∀ x ∈ l, ∃ m, m ≤ most ∧ cntV x m (deep - 1) < m
  | [], n, most, deep, _, _, h => ⟨by rw [cntL]; simp, by simp⟩
  | x :: r, n, most, deep, hn, hd, h => by
    rw [cntL] at h ⊢
    by_cases q : n < most
    case neg => rw [if_neg (fun p => q p.1)] at h; omega
    rw [if_pos ⟨q, hd⟩] at h ⊢
    have cl := cntV_le x (most - n) (deep - 1) (by omega)
    have ge := cntL_ge r (n + cntV x (most - n) (deep - 1)) most deep (by omega)
    have ih := cntL_all r (n + cntV x (most - n) (deep - 1)) most deep (by omega) hd h
    refine ⟨by rw [List.length_cons]; omega, fun y hy => ?_⟩
    rcases List.mem_cons.1 hy with rfl | hy
    · exact ⟨most - n, by omega, by omega⟩
    · exact ih.2 y hy
theorem fit_of : ∀ (d : Nat) (v : Vl), SmV v → widV d v = false → ∀ most deep, d ≤ deep → most ≤ 2001 → cntV v most deep < most → FitB v
  | 0, .mk k n b l, hv, hw, most, deep, _, _, _ => by
    obtain ⟨_, _, _, _, hk, hn, hbb, hb, hl, hx⟩ := hv
    rw [widV, Bool.or_eq_false_iff, decide_eq_false_iff_not] at hw
    have : l = [] := by cases l with
      | nil => rfl
      | cons x r => simp at hw
    subst this
    exact .mk _ _ _ _ hk hn hbb (by omega) (by simp) (by simp)
  | d + 1, .mk k n b l, hv, hw, most, deep, hd, hm, hc => by
    obtain ⟨_, _, _, _, hk, hn, hbb, hb, hl, hx⟩ := hv
    rw [widV, Bool.or_eq_false_iff, decide_eq_false_iff_not, List.any_eq_false] at hw
    rw [cntV] at hc
    have hm1 : 1 ≤ most := by omega
    have := cntL_all l 1 most deep hm1 (by omega) hc
    refine .mk _ _ _ _ hk hn hbb (by omega) (by omega) fun x hxm => ?_
    obtain ⟨m, hm', hcm⟩ := this.2 x hxm
    exact fit_of d x (hx x hxm) (by simpa using hw.2 x hxm) m (deep - 1) (by omega) (by omega) hcm
theorem fit_great {v : Vl} (hv : SmV v) (h : grV v = false) : FitB v := by
  unfold grV at h
  rw [Bool.or_eq_false_iff, decide_eq_false_iff_not] at h
  exact fit_of 20 v hv h.2 2001 20 (by omega) (by omega) (by omega)
end Go.AX.Co
/- A law's arguments, opened, where a type may hold itself. -/
set_option maxHeartbeats 8000000
set_option linter.unusedVariables false
set_option linter.unusedSimpArgs false
set_option maxRecDepth 20000
namespace Go.AX
open Go.ChangeShapes
/-- types of data, closed under their parts -/
def okT (P : Program) (S : List TypeId) (t : TypeId) : Bool := match P.underlying t with
  | some .bool => true
  | some (.int _) => true
  | some .string => true
  | some (.slice e) => decide (0 < P.cellsOf e) && S.contains e
  | some (.struct fs) => tile P 0 fs.toList == some (P.cellsOf t) && fs.toList.all fun f => S.contains f.type
  | some (.array m e) => m * P.cellsOf e == P.cellsOf t && S.contains e
  | _ => false
theorem Sq.mono : ∀ {p q : List (List D → Prop)} {ds : List D}, p.length = q.length → (∀ (i : Nat) (a b : List D → Prop) (ds : List D), p[i]? = some a → q[i]? = some b → a ds → b ds) → Sq p ds → Sq q ds
  | [], [], ds, _, _, h => h
  | a :: p, b :: q, ds, hl, H, h => by
    obtain ⟨x, y, rfl, h1, h2⟩ := h
    exact ⟨x, y, rfl, H 0 a b _ rfl rfl h1, Sq.mono (by simpa using hl) (fun i a b ds e1 e2 => H (i + 1) a b ds (by simpa using e1) (by simpa using e2)) h2⟩
  | [], _ :: _, _, hl, _, _ => by simp at hl
  | _ :: _, [], _, hl, _, _ => by simp at hl
theorem Tyd.succ {P : Program} : ∀ {n : Nat} {t : TypeId} {ds : List D}, Tyd P n t ds → Tyd P (n + 1) t ds := by
  intro n
  induction n with
  | zero => intro t ds h; exact h.elim
  | succ n ih =>
    intro t ds h
    rw [Tyd] at h ⊢
    cases hu : P.underlying t with
    | none => rw [hu] at h; exact h.elim
    | some u =>
      rw [hu] at h
      cases u <;> simp only at h ⊢ <;> try exact h
      case slice e =>
        obtain ⟨es, rfl, h1, h2⟩ := h
        exact ⟨es, rfl, h1, fun x hx => ih (h2 x hx)⟩
      case struct fs =>
        refine Sq.mono (by simp) (fun i a b ds e1 e2 hd => ?_) h
        rw [List.getElem?_map] at e1 e2
        cases q : fs.toList[i]? with
        | none => rw [q] at e1; simp at e1
        | some f => rw [q] at e1 e2; simp at e1 e2; subst e1 e2; exact ih hd
      case array m e =>
        refine Sq.mono (by simp) (fun i a b ds e1 e2 hd => ?_) h
        rw [List.getElem?_replicate] at e1 e2
        split at e1
        · next hi => rw [if_pos hi] at e2; simp at e1 e2; subst e1 e2; exact ih hd
        · simp at e1
theorem Tyd.more {P : Program} {n : Nat} {t : TypeId} {ds : List D} : ∀ k, Tyd P n t ds → Tyd P (n + k) t ds
  | 0, h => h
  | k + 1, h => (Tyd.more k h).succ
def TydsX (P : Program) : List TypeId → List (List D) → Prop
  | [], [] => True
  | t :: ts, d :: ds => (∃ n, Tyd P (n + 8) t d) ∧ TydsX P ts ds
  | _, _ => False
section
variable {H : Type} {enc : TypeId × Value → H} {P : Program} {W : World} {base : Nat} {spare : Nat → Bool} {held : Bool}
theorem open_tydR {S : List TypeId} (hS : S.all (okT P S) = true) : ∀ (n : Nat) (t : TypeId) (cs : List Value) (x : DataW H × List MemPlace), S.contains t = true → DataW.trod enc P W base spare held n t cs = some x → (∀ k ∈ x.1.weights P t, k ≤ reachBytes) →
    ∃ ds, DRs (full W) ds cs ∧ Tyd P n t ds := by
  intro n
  induction n with
  | zero => intro t cs x _ h; simp [DataW.trod] at h
  | succ n ih =>
    intro t cs x ht hm hw
    have hp := List.all_eq_true.1 hS t (by simpa using ht)
    unfold okT at hp
    simp only [Tyd]
    cases hu : P.underlying t with
    | none => rw [hu] at hp; simp at hp
    | some u =>
      rw [hu] at hp
      cases u <;> simp only [Bool.false_eq_true] at hp ⊢ <;> try exact hp.elim
      case bool =>
        obtain ⟨b, rfl, rfl⟩ := DataW.trod_bool hu hm
        exact ⟨[.bool b], by simp [DRs, DR], b, rfl⟩
      case int k =>
        obtain ⟨i, rfl, rfl, hwf⟩ := DataW.trod_int hu hm
        exact ⟨[.int k i], by simp [DRs, DR], i, rfl, hwf⟩
      case string =>
        obtain ⟨s, rfl, rfl, hs⟩ := DataW.trod_string hu hm
        refine ⟨[.str s], by simp [DRs, DR], s, rfl, ?_⟩
        have := hw s.data.toList.length (by simp only [DataW.weights, List.mem_singleton])
        exact wf_reach (by rw [Array.length_toList] at this; exact this)
      case slice e =>
        simp only [Bool.and_eq_true, decide_eq_true_eq] at hp
        rcases DataW.trod_slice hu hm with ⟨rfl, rfl⟩ | ⟨a, len, cap, elems, rest, m', hmm, rfl, rfl, hb, hl, hcm, hlen, hel, _, _⟩

        · exact ⟨[.sl []], by simp only [DRs, DR]; exact ⟨⟨none, 0, 0, rfl, Nat.le_refl _, fun h => absurd rfl h, fun _ => trivial, by simp [DRows]⟩, trivial⟩, [], rfl, by simp, by simp⟩
        · obtain rfl : n = m' := by omega
          have hmem : ∀ k ∈ DataW.weightsAll P e (elems.map (·.1)), k ≤ reachBytes := fun k hk => hw k (by simp [DataW.weights, hu]; exact .inr (.inl hk))
          have each : ∀ i, i < len → ∃ d, ∃ cs, W.cells? base (a.add (i * P.cellsOf e)) (P.cellsOf e) = some cs ∧ DRs (full W) d cs ∧ Tyd P n e d := fun i hi => by
            have h1 := hel i hi
            rw [List.getElem?_eq_getElem (by omega)] at h1
            obtain ⟨cs, h2, h3⟩ := Option.bind_eq_some_iff.1 h1
            obtain ⟨d, h4, h5⟩ := ih e cs _ hp.2 h3 (fun k hk => hmem k (weightsAll_mem (d := (elems[i]'(by omega)).1) (List.mem_map_of_mem (List.getElem_mem _)) k hk))
            exact ⟨d, cs, h2, h4, h5⟩
          obtain ⟨es, h1, h2⟩ := list_of len each
          subst h1
          refine ⟨[.sl es], ?_, es, rfl, ?_, fun x hx => ?_⟩
          · have hspot : ∀ i x, es[i]? = some x → a.spot = none := fun i x hx => by
              obtain ⟨x0, hx0⟩ : ∃ x0, es[0]? = some x0 := by
                have hlt := some_lt hx
                exact ⟨es[0]'(by omega), List.getElem?_eq_getElem (by omega)⟩
              obtain ⟨cs, k1, k2, k3⟩ := h2 0 x0 hx0
              obtain ⟨_, k4, k5⟩ := World.cells?_some k1
              have k6 := k5 0 hp.1
              rw [List.getElem?_eq_getElem (by omega)] at k6
              exact cell_spot (a := a) (by simpa [Addr.add] using k6)
            have hDR : DR (full W) (.sl es) (.slice (some a) es.length cap) := by
              simp only [DR]
              refine ⟨some a, cap, P.cellsOf e, rfl, hl, fun hne a' ha => ?_, nofun, DRows_mk fun i x hx => ?_⟩
              · cases ha
                cases es with
                | nil => exact absurd rfl hne
                | cons y ys => exact hspot 0 y rfl
              obtain ⟨cs, k1, k2, k3⟩ := h2 i x hx
              obtain ⟨_, k4, k5⟩ := World.cells?_some k1
              have hs := hspot i x hx
              refine ⟨(DRs_length k2).trans k4, DCells_mk hs k2 fun j v hv => ?_⟩
              have := k5 j (by rw [← k4]; exact some_lt hv)
              rw [hv] at this
              rw [Nat.zero_add, ← this, addr_add' hs, addr_add' hs, addr_add, Nat.add_assoc]
            simpa only [DRs, and_true] using hDR
          · have := hw ((elems.map (·.1)).length * P.bytesOf e + (rest.map (·.1)).length * P.bytesOf e) (by simp [DataW.weights, hu, Nat.add_mul])
            have h3 : es.length * P.bytesOf e ≤ reachBytes := by
              rw [List.length_map, hlen] at this; omega
            exact wf_reach h3
          · obtain ⟨i, hi⟩ := List.mem_iff_getElem?.1 hx
            obtain ⟨cs, k1, k2, k3⟩ := h2 i x hi
            exact k3
      case struct fs =>
        simp only [Bool.and_eq_true, beq_iff_eq, List.all_eq_true] at hp
        obtain ⟨xs, m', hmm, rfl, hlen, hxl, hf⟩ := DataW.trod_struct hu hm
        obtain rfl : n = m' := by omega
        obtain ⟨ds, h1, h2⟩ := open_fields (W := W) (n := n) (cs := cs) fs.toList 0 hp.1 hlen (Nat.zero_le _) fun f hfm => by
          obtain ⟨i, hi⟩ := List.mem_iff_getElem?.1 hfm
          have h3 := hf i f (by simpa using hi)
          have hil : i < xs.length := by rw [hxl]; have := some_lt hi; simpa using this
          rw [List.getElem?_eq_getElem hil] at h3
          refine ih f.type _ _ (hp.2 f hfm) h3 fun k hk => hw k ?_
          simp only [DataW.weights, hu]
          refine DataW.weights_mem_each (j := i) (t := f.type) (d := xs[i].1) ?_ ?_ k hk
          · rw [List.getElem?_map, hi]; rfl
          · rw [List.getElem?_map, List.getElem?_eq_getElem hil]; rfl
        exact ⟨ds, by simpa using h1, h2⟩
      case array k e =>
        simp only [Bool.and_eq_true, beq_iff_eq] at hp
        obtain ⟨xs, m', hmm, rfl, hlen, hxl, hf⟩ := DataW.trod_array hu hm
        obtain rfl : n = m' := by omega
        obtain ⟨ds, h1, h2⟩ := open_elems (P := P) (W := W) (n := n) (m := k) (e := e) (cs := cs) (fun i hi => by
          have h3 := hf i hi
          have hil : i < xs.length := by rw [hxl]; exact hi
          rw [List.getElem?_eq_getElem hil] at h3
          refine ih e _ _ hp.2 h3 fun q hq => hw q ?_
          simp only [DataW.weights, hu]
          exact weightsAll_mem (List.mem_map_of_mem (List.getElem_mem _)) q hq) (by rw [hlen, hp.1]) k (Nat.le_refl _)
        exact ⟨ds, by simpa using h1, h2⟩
theorem open_argsR {S : List TypeId} (hS : S.all (okT P S) = true) {c : Cf} (hc : c.h = full W) : ∀ {ts : List TypeId} {vs : List Value} {ds : List (DataW H)} {ps : List MemPlace}, DataW.TrodAll enc P W 0 spare held ts vs ds ps → (ts.all fun t => S.contains t) = true →
    (∀ k ∈ DataW.weightsEach P ts ds, k ≤ reachBytes) → (∀ (j : Nat) (t : TypeId) (v : Value), ts[j]? = some t → vs[j]? = some v → ∃ b, Value.okWide P W .any b t v) → ∃ xs, TydsX P ts xs ∧ ARs c (avs P ts xs) vs
  | [], [], [], ps, h, _, _, _ => ⟨[], trivial, by simp [avs, ARs]⟩
  | t :: ts, v :: vs, d :: ds, ps, h, hp, hw, hv => by
    obtain ⟨p, q, h1, h2, _⟩ := h
    simp only [List.all_cons, Bool.and_eq_true] at hp
    obtain ⟨xs, h3, h4⟩ := open_argsR hS hc h2 hp.2 (fun k hk => hw k (by simp only [DataW.weightsEach, List.mem_append]; exact .inr hk)) fun j t' v' e1 e2 => hv (j + 1) t' v' (by simpa using e1) (by simpa using e2)
    obtain ⟨m, hm⟩ := h1
    obtain ⟨x, h5, h6⟩ := open_tydR hS m t _ _ hp.1 hm fun k hk => hw k (by simp only [DataW.weightsEach, List.mem_append]; exact .inl hk)
    obtain ⟨b, hb⟩ := hv 0 t v rfl rfl
    exact ⟨x :: xs, ⟨⟨m, Tyd.more 8 h6⟩, h3⟩, ARs_cons.2 ⟨av_ok hc hb h5 h6, h4⟩⟩
  | [], _ :: _, _, _, h, _, _, _ => by simp [DataW.TrodAll] at h
  | [], [], _ :: _, _, h, _, _, _ => by simp [DataW.TrodAll] at h
  | _ :: _, [], _, _, h, _, _, _ => by simp [DataW.TrodAll] at h
  | _ :: _, _ :: _, [], _, h, _, _, _ => by simp [DataW.TrodAll] at h
end
theorem liftedR {C : Checked} {f : FuncId} {fn : Func} {s : ChangeSpec} {conds : List PathCond} {rt : TypeId} (S : List TypeId) (own : ownKnob C.prog.godebug = none) (noInit : C.prog.inits.idxOf? f = none) (hfn : C.prog.funcs[f]? = some fn)
    (hvars : s.vars = []) (hs : ∀ (H : Type) (ds : List (DataW H)), ds.length = fn.params.toList.length → s.fn H ds = { results := [.lit (.bool true)], args := ds })
    (hrt : fn.resultTypes = #[rt]) (hb : C.prog.underlying rt = some .bool) (hl : laidOutB C.prog = true) (hr : (fn.params.toList.all fun t => C.prog.readableRec t && decide (t < C.prog.types.size)) = true) (hS : S.all (okT C.prog S) = true) (hp : (fn.params.toList.all fun t => S.contains t) = true)
    (os : Os) (started : os.Started) (H : Type) (enc : TypeId × Value → H)
    (witness : ∃ (w : World) (tape : Tape) (i : Input), w.os = os ∧ (w.forCall tape i).Shaped C.prog ∧ i.vars = [] ∧ Input.okWide C.prog (w.forCall tape i) .any w.heap.size f i ∧
      s.pre6 enc C.prog fn conds false (w.forCall tape i).memory i.args ∧ Assume.holds {} C.prog (lone (Frame.enter C.prog f i.args .normal) [] (w.forCall tape i)))
    (spec : ∀ xs, TydsX C.prog fn.params.toList xs → Spec C.prog f (avs C.prog fn.params.toList xs) [] (.d (.bool true)) []) :
    ReturnsInHanded {} C os f .any (s.pre6 enc C.prog fn conds false) (s.post enc C.prog fn false true false false) := by
  refine returnsInHanded_of_change_sized own started noInit hfn witness ?_
  intro W base args ds gs before hval hW hcnd hsz _
  have hW' := hW
  obtain ⟨p, q, hA, hV, rfl, hfz, hnd⟩ := hW
  rw [hvars] at hV
  obtain ⟨rfl, rfl⟩ := trodVars_none hV
  have hvt : s.plain.varTypes C.prog = [] := by simp [ChangeSpec.plain, DataSpec.varTypes, hvars]
  rw [hvt, List.append_nil, List.append_nil] at hsz
  let c : Cf := ⟨W, full W, 0, fun _ => 0, fun _ => undef⟩
  have hH : Holds c [] := ⟨rfl, fun b o v h => h, by simp, by simp, by simp, by simp⟩
  obtain ⟨xs, h1, h2⟩ := open_argsR hS (c := c) rfl hA hp (fun k hk => by have := List.all_eq_true.1 hsz k hk; simpa using this) (fun j t v e1 e2 => ⟨base, hval j t v (by simpa using e1) (by simpa using e2)⟩)
  refine ((spec xs h1).2 c args hH h2).mono ?_
  rintro e w' ⟨c', v, rfl, rfl, hv, N⟩
  simp only [AR, DR] at hv
  subst hv
  have hdl : ds.length = fn.params.toList.length := by
    have : ∀ {ts : List TypeId} {vs : List Value} {ds : List (DataW H)} {ps : List MemPlace}, DataW.TrodAll enc C.prog W 0 (fun _ => true) true ts vs ds ps → ds.length = ts.length := by
      intro ts
      induction ts with
      | nil => intro vs ds ps h; cases vs <;> cases ds <;> simp_all [DataW.TrodAll]
      | cons t ts ih => intro vs ds ps h; cases vs <;> cases ds <;> simp_all [DataW.TrodAll]; obtain ⟨p, q, _, h2, _⟩ := h; exact ih h2
    exact this hA
  refine ⟨_, rfl, ds, [], _, [], p, [], hW', ?_, ?_, ?_, N.below.frame _, fun h => by cases h⟩
  · rw [List.append_nil, hs H ds hdl, hrt]
    exact trodAll_mk1 (RowKit.shut_bool hb true)
  · rw [List.append_nil, hs H ds hdl]
    exact trodAll_carry hl N.below hA hr
  · rw [hvars]; rw [List.append_nil, hs H ds hdl]; rfl
end Go.AX
namespace Go.AX.Co
open Go.Proofs Go.RowKit Go.IntWalk
theorem agg_vD (v : Vl) : AV.agg ((vD v).map AV.d) = vA v := by
  cases v; rw [vD, vDs_eq]; rfl
theorem i64_of {n : Nat} {d : List D} (h : Tyd Try.prog (n + 1) 2 d) : ∃ i : Int, d = [.int .i64 i] ∧ (-9223372036854775808 ≤ i ∧ i ≤ 9223372036854775807) := by
  obtain ⟨i, rfl, hw⟩ := h.int Ty.under_2
  exact ⟨i, rfl, wf_i64 hw⟩
theorem under_value : ∃ f0 f1 f2 f3 : Field, Try.prog.underlying 25 = some (.struct #[f0, f1, f2, f3]) ∧ f0.type = 5 ∧ f1.type = 2 ∧ f2.type = 22 ∧ f3.type = 23 := ⟨_, _, _, _, by rfl, rfl, rfl, rfl, rfl⟩
theorem value_of : ∀ (n : Nat) {d : List D}, Tyd Try.prog n 25 d → ∃ v : Vl, d = vD v ∧ SmV v
  | 0, _, h => h.elim
  | 1, d, h => by
    obtain ⟨f0, f1, f2, f3, hu, e0, e1, e2, e3⟩ := under_value
    have this := h.struct hu
    simp only [List.map_cons, List.map_nil, Sq] at this
    obtain ⟨a0, b0, rfl, k0, _⟩ := this
    exact k0.elim
  | n + 2, d, h => by
    obtain ⟨f0, f1, f2, f3, hu, e0, e1, e2, e3⟩ := under_value
    have this := h.struct hu
    simp only [List.map_cons, List.map_nil, Sq] at this
    obtain ⟨a0, b0, rfl, k0, a1, b1, rfl, k1, a2, b2, rfl, k2, a3, b3, rfl, k3, rfl⟩ := this
    rw [e0] at k0; rw [e1] at k1; rw [e2] at k2; rw [e3] at k3
    obtain ⟨k, rfl, hk⟩ := u8_of k0
    obtain ⟨i, rfl, hi⟩ := i64_of k1
    obtain ⟨bs, rfl, hb, hbb⟩ := bytes_of k2.succ
    obtain ⟨es, rfl, h1, h2⟩ := k3.slice Ty.under_23
    obtain ⟨l, rfl, hl⟩ := rows_ofP (g := vD) (Q := SmV) fun x hx => value_of n (h2 x hx)
    refine ⟨.mk k i bs l, by rw [vD, vDs_eq]; rfl, .mk k i bs l hk hi hbb hb ?_ hl⟩
    have hbo : Try.prog.bytesOf 25 = 64 := by kernel_rfl
    rw [hbo, List.length_map] at h1
    unfold Sm; omega
end Go.AX.Co

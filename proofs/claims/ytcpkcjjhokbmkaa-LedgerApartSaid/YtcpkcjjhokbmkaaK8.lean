/- LedgerDiffers: whatever the input, the law returns true, and its arguments read as they did. No condition. -/
import Derived.Test.YtcpkcjjhokbmkaaK7
set_option maxHeartbeats 8000000
set_option linter.unusedVariables false
set_option linter.unusedSimpArgs false
set_option maxRecDepth 20000
namespace Go.AX.Lg
open Go.Proofs Go.RowKit Go.IntWalk Go.AX.Br
def hasI (l : List Int) (n : Int) : Bool := l.any fun x => x == n
theorem has_lref (l : List Int) (n : Int) (hl : Sm l.length) : Spec Try.prog 31 [.d (.sl (l.map iD)), .d (.int .i64 n)] [] (.d (.bool (hasI l n))) [] := by
  unfold Sm at hl
  obtain ⟨R, hR⟩ : ∃ R, R = hasI l n := ⟨_, rfl⟩
  rw [← hR]
  refine spec_of_ev (fn := Try.f31) DX_ok 3000 Try.func31 rfl rfl (Nat.le_of_ble_eq_true rfl) ?_
  simp (maxSteps := 4000000) -implicitDefEqProofs only [Try.f31, go_sem]
  refine eloop (S := Nat) (fun i => mkE 18 [(0, .d (.sl (l.map iD))), (1, .d (.int .i64 n)), (5, .d (.int .i64 i))]) (fun i => []) (fun i => i ≤ l.length ∧ ∀ j x, l[j]? = some x → j < i → (x == n) = false) (fun i => l.length - i) 0 ⟨by omega, by omega⟩ (Wk.sub (by (simp only [go_sem]) <;> trivial)) ?_
  rintro i ⟨hi, hj⟩
  rcases Nat.lt_or_ge i l.length with h2 | h2
  · have d2 : decide ((i : Int) < l.length) = true := by simp; omega
    obtain ⟨x, hx⟩ : ∃ x, l[i]? = some x := ⟨l[i]'(by omega), List.getElem?_eq_getElem _⟩
    have n1 : (0 ≤ (i : Int) ∧ (i : Int) < l.length) = True := eq_true (by omega)
    have n3 : (i < l.length) = True := eq_true (by omega)
    have w1 : IntKind.i64.wrap ((i : Int) + 1) = i + 1 := i64_in _ (by omega)
    cases h3 : x == n
    · simp (maxSteps := 4000000) -implicitDefEqProofs only [go_sem, d2, n1, n3, hx, h3, w1, Option.some.injEq, forall_eq', and_true, true_and, Bool.not_true, Bool.not_false, decide_true, Nat.reduceAdd, Nat.reduceSub, Nat.reduceLT, Nat.reduceLeDiff, Nat.reduceEqDiff, ↓reduceIte]
      exact .mk (i + 1) ⟨by omega, upto_succ hx h3 hj⟩ (by omega) (Wk.sub (by (simp only [go_sem]) <;> trivial))
    · simp (maxSteps := 4000000) -implicitDefEqProofs only [go_sem, d2, n1, n3, hx, h3, Option.some.injEq, forall_eq', and_true, true_and, Bool.not_true, Bool.not_false, decide_true, Nat.reduceAdd, Nat.reduceSub, Nat.reduceLT, Nat.reduceLeDiff, Nat.reduceEqDiff, ↓reduceIte]
      exact wk_bool (by rw [hR, hasI, any_t hx h3])
  · have d2 : decide ((i : Int) < l.length) = false := by simp; omega
    simp (maxSteps := 4000000) -implicitDefEqProofs only [go_sem, d2, Option.some.injEq, forall_eq', and_true, true_and, Bool.not_true, Bool.not_false, decide_true, Nat.reduceAdd, Nat.reduceSub, Nat.reduceLT, Nat.reduceLeDiff, Nat.reduceEqDiff, ↓reduceIte]
    exact wk_bool (by rw [hR, hasI, any_f fun j x hx => hj j x hx (by have := some_lt hx; omega)])
/-! ### lists of classes -/
theorem hasI_eff (l : Lg) (s : List Ev) (c : Nat) (hc : c < 30) : hasI (effL l s) c = inR l s c := by
  rw [Bool.eq_iff_iff]
  simp only [hasI, effL, effN, List.any_eq_true, List.mem_map, List.mem_filter, List.mem_range, beq_iff_eq]
  constructor
  · rintro ⟨x, ⟨a, ⟨_, h⟩, rfl⟩, e⟩
    have : a = c := by have : (a : Int) = c := e; omega
    subst this; exact h
  · intro h; exact ⟨c, ⟨c, ⟨hc, h⟩, rfl⟩, rfl⟩
theorem hasI_only (p q : Nat → Bool) (c : Nat) (hc : c < 30) : hasI (onlyN p q 30) c = (p c && !q c) := by
  rw [Bool.eq_iff_iff]
  simp only [hasI, onlyN, List.any_eq_true, List.mem_map, List.mem_filter, List.mem_range, beq_iff_eq]
  constructor
  · rintro ⟨x, ⟨a, ⟨_, h⟩, rfl⟩, e⟩
    have : a = c := by have : (a : Int) = c := e; omega
    subst this; exact h
  · intro h; exact ⟨c, ⟨c, ⟨hc, h⟩, rfl⟩, rfl⟩
theorem count_only (p q : Nat → Bool) : ∀ n, ((onlyN p q n).length : Int) - (onlyN q p n).length = (((List.range n).filter p).length : Int) - ((List.range n).filter q).length
  | 0 => rfl
  | n + 1 => by
    have ih := count_only p q n
    simp only [onlyN, List.length_map] at ih ⊢
    simp only [List.range_succ, List.filter_append, List.length_append, List.filter_cons, List.filter_nil]
    cases p n <;> cases q n <;> simp <;> omega
theorem LOk.view {l : Lg} (lo : LOk l) {i : Nat} {x : Br} {s : List Ev} {v : List Mk} (a : At l i x s v) : lview l x.name = (v, 0) := by
  unfold lview
  rw [if_neg (by have := lo.chk; omega)]
  exact vname lo.tab a
theorem LOk.eff {l : Lg} (lo : LOk l) {i : Nat} {x : Br} {s : List Ev} {v : List Mk} (a : At l i x s v) : effR l x.name = (effL l (preE l i ++ s), 0) := by
  rw [effR, lo.view a]; simp only [ne_eq, not_true_eq_false, if_false, a.seen]
theorem differs_law (l : Lg) (ii kk : Int) (hl : LSm l) (hii : -9223372036854775808 ≤ ii ∧ ii ≤ 9223372036854775807) (hkk : -9223372036854775808 ≤ kk ∧ kk ≤ 9223372036854775807) : Spec Try.prog 6 [lA l, .d (.int .i64 ii), .d (.int .i64 kk)] [] (.d (.bool true)) [] := by
  have c0 := alive_spec
  have c1 := great_lref l hl.k hl.b hl.e hl.s
  simp only [lA] at c1
  refine spec_of_ev (fn := Try.f6) DX_ok 3000 Try.func6 rfl rfl (Nat.le_of_ble_eq_true rfl) ?_
  simp (maxSteps := 4000000) -implicitDefEqProofs only [Try.f6, go_sem, lA]
  refine ecall0 _ c0 (by simp only [go_sem]) (by simp only [go_sem]) ?_
  simp (maxSteps := 4000000) -implicitDefEqProofs only [go_sem, Nat.reduceAdd, Nat.reduceSub, Nat.reduceLT, Nat.reduceLeDiff, Nat.reduceEqDiff, ↓reduceIte]
  refine ecall0 _ c1 (by simp only [go_sem]) (by simp only [go_sem]) ?_
  cases g1 : greatL l
  case true =>
    simp (maxSteps := 4000000) -implicitDefEqProofs only [go_sem, g1, Option.some.injEq, forall_eq', and_true, true_and, Bool.not_true, Bool.not_false, decide_true, Nat.reduceAdd, Nat.reduceSub, Nat.reduceLT, Nat.reduceLeDiff, Nat.reduceEqDiff, ↓reduceIte]
    exact wk_bool rfl
  have f := fit_of g1
  have fk := f.k
  have fb := f.b
  have fe := f.e
  have c2 := lcheck_ref l (by omega) (by omega) (by omega)
  simp only [lA] at c2
  simp (maxSteps := 4000000) -implicitDefEqProofs only [go_sem, g1, Option.some.injEq, forall_eq', and_true, true_and, Bool.not_true, Bool.not_false, decide_true, Nat.reduceAdd, Nat.reduceSub, Nat.reduceLT, Nat.reduceLeDiff, Nat.reduceEqDiff, ↓reduceIte]
  refine ecall0 _ c2 (by simp only [go_sem]) (by simp only [go_sem]) ?_
  cases g2 : (lcheck l != 0)
  case true =>
    simp (maxSteps := 4000000) -implicitDefEqProofs only [go_sem, g2, Option.some.injEq, forall_eq', and_true, true_and, Bool.not_true, Bool.not_false, decide_true, Nat.reduceAdd, Nat.reduceSub, Nat.reduceLT, Nat.reduceLeDiff, Nat.reduceEqDiff, ↓reduceIte]
    exact wk_bool rfl
  have lo := lok_of (l := l) (by simpa using g2)
  cases g3 : decide (ii < 0)
  case true =>
    simp (maxSteps := 4000000) -implicitDefEqProofs only [go_sem, g2, g3, Option.some.injEq, forall_eq', and_true, true_and, Bool.not_true, Bool.not_false, decide_true, Nat.reduceAdd, Nat.reduceSub, Nat.reduceLT, Nat.reduceLeDiff, Nat.reduceEqDiff, ↓reduceIte]
    exact wk_bool rfl
  cases g4 : decide ((l.br.length : Int) ≤ ii)
  case true =>
    simp (maxSteps := 4000000) -implicitDefEqProofs only [go_sem, g2, g3, g4, Option.some.injEq, forall_eq', and_true, true_and, Bool.not_true, Bool.not_false, decide_true, Nat.reduceAdd, Nat.reduceSub, Nat.reduceLT, Nat.reduceLeDiff, Nat.reduceEqDiff, ↓reduceIte]
    exact wk_bool rfl
  cases g5 : decide (kk < 0)
  case true =>
    simp (maxSteps := 4000000) -implicitDefEqProofs only [go_sem, g2, g3, g4, g5, Option.some.injEq, forall_eq', and_true, true_and, Bool.not_true, Bool.not_false, decide_true, Nat.reduceAdd, Nat.reduceSub, Nat.reduceLT, Nat.reduceLeDiff, Nat.reduceEqDiff, ↓reduceIte]
    exact wk_bool rfl
  cases g6 : decide ((l.br.length : Int) ≤ kk)
  case true =>
    simp (maxSteps := 4000000) -implicitDefEqProofs only [go_sem, g2, g3, g4, g5, g6, Option.some.injEq, forall_eq', and_true, true_and, Bool.not_true, Bool.not_false, decide_true, Nat.reduceAdd, Nat.reduceSub, Nat.reduceLT, Nat.reduceLeDiff, Nat.reduceEqDiff, ↓reduceIte]
    exact wk_bool rfl
  obtain ⟨i, rfl⟩ : ∃ n : Nat, ii = n := ⟨ii.toNat, by have := of_decide_eq_false g3; omega⟩
  obtain ⟨k, rfl⟩ : ∃ n : Nat, kk = n := ⟨kk.toNat, by have := of_decide_eq_false g5; omega⟩
  have hi : i < l.br.length := by have := of_decide_eq_false g4; omega
  have hk : k < l.br.length := by have := of_decide_eq_false g6; omega
  obtain ⟨x, s, v, a⟩ := at_of lo.tab hi
  obtain ⟨y, t, w, b⟩ := at_of lo.tab hk
  have hx := a.hx
  have hy := b.hx
  have c3 := Effect_own l x.name (by omega) (by omega) (by omega)
  have c4 := Effect_own l y.name (by omega) (by omega) (by omega)
  have c5 := Differ_own l x.name y.name (by omega) (by omega) (by omega)
  rw [lo.eff a] at c3
  rw [lo.eff b] at c4
  have ed : difR l x.name y.name = (onlyL l (preE l i ++ s) (preE l k ++ t), onlyL l (preE l k ++ t) (preE l i ++ s), 0) := by
    rw [difR, lo.view a, lo.view b]; simp only [ne_eq, not_true_eq_false, if_false, a.seen, b.seen]
  rw [ed] at c5
  have n1 : (0 ≤ (i : Int) ∧ (i : Int) < l.br.length) = True := eq_true (by omega)
  have n2 : (i < l.br.length) = True := eq_true (by omega)
  have n3 : (0 ≤ (k : Int) ∧ (k : Int) < l.br.length) = True := eq_true (by omega)
  have n4 : (k < l.br.length) = True := eq_true (by omega)
  have z0 : ((0 : Int) != 0) = false := rfl
  obtain ⟨P, hP⟩ : ∃ P, P = fun c : Nat => inR l (preE l i ++ s) c := ⟨_, rfl⟩
  obtain ⟨Q, hQ⟩ : ∃ P, P = fun c : Nat => inR l (preE l k ++ t) c := ⟨_, rfl⟩
  obtain ⟨A, hA⟩ : ∃ A, A = effL l (preE l i ++ s) := ⟨_, rfl⟩
  obtain ⟨B, hB⟩ : ∃ A, A = effL l (preE l k ++ t) := ⟨_, rfl⟩
  obtain ⟨X, hX⟩ : ∃ A, A = onlyL l (preE l i ++ s) (preE l k ++ t) := ⟨_, rfl⟩
  obtain ⟨Y, hY⟩ : ∃ A, A = onlyL l (preE l k ++ t) (preE l i ++ s) := ⟨_, rfl⟩
  have la : A.length ≤ 30 := by rw [hA]; exact effN_len _ _ _
  have lb : B.length ≤ 30 := by rw [hB]; exact effN_len _ _ _
  have lx : X.length ≤ 30 := by rw [hX]; exact onlyN_len _ _ _
  have ly : Y.length ≤ 30 := by rw [hY]; exact onlyN_len _ _ _
  have pa : ∀ c : Nat, c < 30 → hasI A c = P c := fun c hc => by rw [hA, hP]; exact hasI_eff _ _ _ hc
  have pb : ∀ c : Nat, c < 30 → hasI B c = Q c := fun c hc => by rw [hB, hQ]; exact hasI_eff _ _ _ hc
  have px : ∀ c : Nat, c < 30 → hasI X c = (P c && !Q c) := fun c hc => by rw [hX, hP, hQ]; exact hasI_only _ _ _ hc
  have py : ∀ c : Nat, c < 30 → hasI Y c = (Q c && !P c) := fun c hc => by rw [hY, hP, hQ]; exact hasI_only _ _ _ hc
  have cnt : (X.length : Int) - Y.length = A.length - B.length := by
    have := count_only P Q 30
    rw [hX, hY, hA, hB]
    simp only [onlyL, effL, effN, List.length_map]
    rw [hP, hQ] at this
    exact this
  rw [← hA] at c3
  rw [← hB] at c4
  rw [← hX, ← hY] at c5
  simp only [lA] at c3 c4 c5
  clear hA hB hX hY hP hQ ed
  simp (maxSteps := 4000000) -implicitDefEqProofs only [go_sem, g2, g3, g4, g5, g6, Option.some.injEq, forall_eq', and_true, true_and, Bool.not_true, Bool.not_false, decide_true, Nat.reduceAdd, Nat.reduceSub, Nat.reduceLT, Nat.reduceLeDiff, Nat.reduceEqDiff, ↓reduceIte]
  refine DX.plain (.take 0 false (.take 1 false (.take 2 false (.take 3 false (.take 4 false (.take 5 false (.take 6 false (.take 7 false (.take 8 false (.take 9 false (.take 10 false (.take 11 false (.take 12 false .done))))))))))))) (by kernel_rfl) (by kernel_rfl) Ty.mixed ?_
  simp (maxSteps := 4000000) -implicitDefEqProofs only [go_sem, n1, n2, hx, Option.some.injEq, forall_eq', and_true, true_and, Bool.not_true, Bool.not_false, decide_true, Nat.reduceAdd, Nat.reduceSub, Nat.reduceLT, Nat.reduceLeDiff, Nat.reduceEqDiff, ↓reduceIte]
  refine ⟨_, _, c3.lift0 _ (by simp only [go_sem]) (by simp only [go_sem]), rfl, ?_⟩
  simp (maxSteps := 4000000) -implicitDefEqProofs only [go_sem, Nat.reduceAdd, Nat.reduceSub, Nat.reduceLT, Nat.reduceLeDiff, Nat.reduceEqDiff, ↓reduceIte]
  refine DX.plain (.take 0 false (.take 1 false (.take 2 false (.take 3 false (.take 4 false (.take 5 false (.take 6 false (.take 7 false (.take 8 false (.take 9 false (.take 10 false (.take 11 false (.take 12 false .done))))))))))))) (by kernel_rfl) (by kernel_rfl) Ty.mixed ?_
  simp (maxSteps := 4000000) -implicitDefEqProofs only [go_sem, n3, n4, hy, Option.some.injEq, forall_eq', and_true, true_and, Bool.not_true, Bool.not_false, decide_true, Nat.reduceAdd, Nat.reduceSub, Nat.reduceLT, Nat.reduceLeDiff, Nat.reduceEqDiff, ↓reduceIte]
  refine ⟨_, _, c4.lift0 _ (by simp only [go_sem]) (by simp only [go_sem]), rfl, ?_⟩
  simp (maxSteps := 4000000) -implicitDefEqProofs only [go_sem, Nat.reduceAdd, Nat.reduceSub, Nat.reduceLT, Nat.reduceLeDiff, Nat.reduceEqDiff, ↓reduceIte]
  refine DX.plain (.take 0 false (.take 1 false (.take 2 false (.take 3 false (.take 4 false (.take 5 false (.take 6 false (.take 7 false (.take 8 false (.take 9 false (.take 10 false (.take 11 false (.take 12 false (.take 13 false (.take 14 false (.take 15 false (.take 16 false (.take 17 false (.take 18 false (.take 19 false (.take 20 false .done))))))))))))))))))))) (by kernel_rfl) (by kernel_rfl) Ty.mixed ?_
  simp (maxSteps := 4000000) -implicitDefEqProofs only [go_sem, n1, n2, hx, n3, n4, hy, Option.some.injEq, forall_eq', and_true, true_and, Bool.not_true, Bool.not_false, decide_true, Nat.reduceAdd, Nat.reduceSub, Nat.reduceLT, Nat.reduceLeDiff, Nat.reduceEqDiff, ↓reduceIte]
  refine ⟨_, _, c5.lift0 _ (by simp only [go_sem]) (by simp only [go_sem]), rfl, ?_⟩
  simp (maxSteps := 4000000) -implicitDefEqProofs only [go_sem, z0, Option.some.injEq, forall_eq', and_true, true_and, Bool.not_true, Bool.not_false, decide_true, Nat.reduceAdd, Nat.reduceSub, Nat.reduceLT, Nat.reduceLeDiff, Nat.reduceEqDiff, ↓reduceIte]
  refine eloop (S := Nat) (fun c => mkE 147 [(3, .ptr 0 0), (7, .d (.bool true)), (8, .d (.sl (A.map iD))), (10, .d (.sl (B.map iD))), (12, .d (.sl (X.map iD))), (13, .d (.sl (Y.map iD))), (15, .d (.int .i64 c))]) (fun i => [lH l]) (fun c => c ≤ 30) (fun c => 30 - c) 0 (by omega) (Wk.via [0] (by (simp only [go_sem, ↓reduceIte]) <;> trivial) (by first | (simp (maxSteps := 4000000) -implicitDefEqProofs only [go_sem, Nat.reduceAdd, Nat.reduceSub, Nat.reduceLT, Nat.reduceLeDiff, Nat.reduceEqDiff, ↓reduceIte]; done) | ((simp (maxSteps := 4000000) -implicitDefEqProofs only [go_sem, Nat.reduceAdd, Nat.reduceSub, Nat.reduceLT, Nat.reduceLeDiff, Nat.reduceEqDiff, ↓reduceIte]) <;> omega)) (by simp) (by first | (simp; done) | (simp [so]; done)) (by (simp (maxSteps := 4000000) -implicitDefEqProofs only [go_sem, Nat.reduceAdd, Nat.reduceSub, Nat.reduceLT, Nat.reduceLeDiff, Nat.reduceEqDiff, ↓reduceIte]) <;> trivial) (by first | (simp only [go_sem]; done) | ((simp (maxSteps := 4000000) -implicitDefEqProofs only [go_sem, Nat.reduceAdd, Nat.reduceSub, Nat.reduceLT, Nat.reduceLeDiff, Nat.reduceEqDiff, ↓reduceIte]) <;> omega)) (Nat.zero_le _) (fun i h => absurd h (Nat.not_lt_zero i))) ?_
  intro c hc
  rcases Nat.lt_or_ge c 30 with h2 | h2
  case inr =>
    have : c = 30 := by omega
    subst this
    have f1 : decide (((30 : Nat) : Int) < 30) = false := rfl
    have w1 : IntKind.i64.wrap ((X.length : Int) - Y.length) = (X.length : Int) - Y.length := i64_in _ (by omega)
    have w2 : IntKind.i64.wrap ((A.length : Int) - B.length) = (A.length : Int) - B.length := i64_in _ (by omega)
    have e1 : ((X.length : Int) - Y.length == A.length - B.length) = true := by rw [cnt]; simp
    simp (maxSteps := 4000000) -implicitDefEqProofs only [go_sem, f1, w1, w2, e1, Option.some.injEq, forall_eq', and_true, true_and, Bool.not_true, Bool.not_false, decide_true, Nat.reduceAdd, Nat.reduceSub, Nat.reduceLT, Nat.reduceLeDiff, Nat.reduceEqDiff, ↓reduceIte]
    exact wk_bool rfl
  have f1 : decide ((c : Int) < 30) = true := by simp; omega
  have w1 : IntKind.i64.wrap ((c : Int) + 1) = ((c + 1 : Nat) : Int) := by rw [i64_in _ (by omega)]; simp
  have d1 := has_lref A c (by unfold Sm; omega)
  have d2 := has_lref B c (by unfold Sm; omega)
  have d3 := has_lref X c (by unfold Sm; omega)
  have d4 := has_lref Y c (by unfold Sm; omega)
  rw [pa c h2] at d1
  rw [pb c h2] at d2
  rw [px c h2] at d3
  rw [py c h2] at d4
  obtain ⟨p, hp⟩ : ∃ p, p = P c := ⟨_, rfl⟩
  obtain ⟨q, hq⟩ : ∃ p, p = Q c := ⟨_, rfl⟩
  rw [← hp] at d1
  rw [← hq] at d2
  rw [← hp, ← hq] at d3 d4
  clear pa pb px py
  have b1 : (!true) = false := rfl
  have b2 : (!false) = true := rfl
  simp (maxSteps := 4000000) -implicitDefEqProofs only [go_sem, f1, Option.some.injEq, forall_eq', and_true, true_and, Bool.not_true, Bool.not_false, decide_true, Nat.reduceAdd, Nat.reduceSub, Nat.reduceLT, Nat.reduceLeDiff, Nat.reduceEqDiff, ↓reduceIte]
  refine ecall0 _ d1 (by simp only [go_sem]) (by simp only [go_sem]) ?_
  simp (maxSteps := 4000000) -implicitDefEqProofs only [go_sem, Nat.reduceAdd, Nat.reduceSub, Nat.reduceLT, Nat.reduceLeDiff, Nat.reduceEqDiff, ↓reduceIte]
  refine ecall0 _ d2 (by simp only [go_sem]) (by simp only [go_sem]) ?_
  simp (maxSteps := 4000000) -implicitDefEqProofs only [go_sem, Nat.reduceAdd, Nat.reduceSub, Nat.reduceLT, Nat.reduceLeDiff, Nat.reduceEqDiff, ↓reduceIte]
  refine ecall0 _ d3 (by simp only [go_sem]) (by simp only [go_sem]) ?_
  clear hp hq
  cases p <;> cases q
  all_goals (simp (maxSteps := 4000000) -implicitDefEqProofs only [go_sem, b1, b2, Bool.and_true, Bool.and_false, w1, Option.some.injEq, forall_eq', and_true, true_and, Bool.not_true, Bool.not_false, decide_true, Nat.reduceAdd, Nat.reduceSub, Nat.reduceLT, Nat.reduceLeDiff, Nat.reduceEqDiff, ↓reduceIte])
  all_goals refine ecall0 _ d4 (by simp only [go_sem]) (by simp only [go_sem]) ?_
  all_goals (simp (maxSteps := 4000000) -implicitDefEqProofs only [go_sem, b1, b2, Bool.and_true, Bool.and_false, w1, Option.some.injEq, forall_eq', and_true, true_and, Bool.not_true, Bool.not_false, decide_true, Nat.reduceAdd, Nat.reduceSub, Nat.reduceLT, Nat.reduceLeDiff, Nat.reduceEqDiff, ↓reduceIte])
  all_goals exact .mk (c + 1) (by omega) (by omega) (Wk.via [0] (by (simp only [go_sem, ↓reduceIte]) <;> trivial) (by first | (simp (maxSteps := 4000000) -implicitDefEqProofs only [go_sem, Nat.reduceAdd, Nat.reduceSub, Nat.reduceLT, Nat.reduceLeDiff, Nat.reduceEqDiff, ↓reduceIte]; done) | ((simp (maxSteps := 4000000) -implicitDefEqProofs only [go_sem, Nat.reduceAdd, Nat.reduceSub, Nat.reduceLT, Nat.reduceLeDiff, Nat.reduceEqDiff, ↓reduceIte]) <;> omega)) (by simp) (by first | (simp; done) | (simp [so]; done)) (by (simp (maxSteps := 4000000) -implicitDefEqProofs only [go_sem, Nat.reduceAdd, Nat.reduceSub, Nat.reduceLT, Nat.reduceLeDiff, Nat.reduceEqDiff, ↓reduceIte]) <;> trivial) (by first | (simp only [go_sem]; done) | ((simp (maxSteps := 4000000) -implicitDefEqProofs only [go_sem, Nat.reduceAdd, Nat.reduceSub, Nat.reduceLT, Nat.reduceLeDiff, Nat.reduceEqDiff, ↓reduceIte]) <;> omega)) (Nat.zero_le _) (fun i h => absurd h (Nat.not_lt_zero i)))
end Go.AX.Lg
namespace Go.Proofs.Ytcpkcjjhokbmkaa
open Go.AX Go.AX.Lg Go.RowKit
set_option maxRecDepth 100000 in
theorem ledgerDiffers_lifted (os : Os) (started : os.Started) (H : Type) (enc : TypeId × Value → H) :
    ReturnsInHanded {} Try.checked os 6 .any (Rows.ledgerDiffersSpec.pre6 enc Try.prog Try.f6 Rows.ledgerDiffersRow.domain false) (Rows.ledgerDiffersSpec.post enc Try.prog Try.f6 false true false false) := by
  refine Go.AX.lifted (C := Try.checked) (f := 6) (fn := Try.f6) (s := Rows.ledgerDiffersSpec) (rt := 4) (n := 8) (by kernel_rfl) (by kernel_rfl) Try.func6 rfl ?_ rfl (by kernel_rfl) (by kernel_rfl) (by kernel_rfl) (by kernel_rfl) os started H enc
    (ChangeSpec.witness6 (enc := enc) (C := Try.checked) false ⟨#[], #[.agg #[.slice none 0 0, .slice none 0 0, .slice none 0 0], .int .i64 0, .int .i64 0], []⟩ 8 (by kernel_rfl) (by kernel_rfl) (by kernel_rfl) (by kernel_rfl)) ?_
  · intro H ds h
    match ds, h with
    | [a0, a1, a2], _ => rfl
  · intro xs hx
    have hp : Try.f6.params.toList = [26, 3, 3] := rfl
    rw [hp] at hx ⊢
    have i0 : isA Try.prog 26 = true := by kernel_rfl
    have i1 : isA Try.prog 3 = false := by kernel_rfl
    have i2 : isA Try.prog 3 = false := by kernel_rfl
    rcases xs with _ | ⟨d0, _ | ⟨d1, _ | ⟨d2, _ | ⟨d3, xs⟩⟩⟩⟩ <;> simp only [Tyds, and_false] at hx
    obtain ⟨k0, k1, k2, _⟩ := hx
    obtain ⟨l, rfl, hl⟩ := ledger_of k0
    obtain ⟨ii, rfl, hii⟩ := int_of k1
    obtain ⟨kk, rfl, hkk⟩ := int_of k2
    simp only [avs, i0, i1, i2, dv, Bool.false_eq_true, if_false, if_true, List.headD_cons, List.map_cons, List.map_nil]
    exact differs_law l ii kk hl hii hkk
theorem ledgerDiffers_over : Rows.ledgerDiffersRow.holds Try.pinned (OpenSpec.ofChange Rows.ledgerDiffersSpec) :=
  OpenClaim.holds_of_wide 6 Try.f6 rfl rfl rfl rfl rfl rfl rfl ⟨rfl, rfl, rfl, rfl, rfl⟩ rfl rfl rfl rfl rfl (by kernel_rfl) Try.func6 (by kernel_rfl)
    (of_decide_eq_true (by kernel_rfl)) (by unfold Func.isWrapper; first | (rw [if_pos (by decide +kernel)]; kernel_rfl) | (rw [if_neg (by decide +kernel)]; exact ⟨rfl, rfl⟩))
    (fun os started H enc _ => ledgerDiffers_lifted os started H enc)
/-- The row, under a short name, for the claim. -/
theorem ledgerDiffers_holds : Rows.LedgerDiffersSaid := ledgerDiffers_over
#print axioms ledgerDiffers_holds
end Go.Proofs.Ytcpkcjjhokbmkaa

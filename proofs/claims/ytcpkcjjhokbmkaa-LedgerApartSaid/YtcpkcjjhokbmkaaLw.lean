/- LedgerApart: whatever the input, the law returns true, and its arguments read as they did. No condition. -/
import Derived.Test.YtcpkcjjhokbmkaaK10
set_option maxHeartbeats 8000000
set_option linter.unusedVariables false
set_option linter.unusedSimpArgs false
set_option maxRecDepth 20000
namespace Go.AX.Lg
open Go.Proofs Go.RowKit Go.IntWalk Go.AX.Br
theorem filter_get {α : Type} {p : α → Bool} {l : List α} {k : Nat} {x : α} (h : l[k]? = some x) (hp : p x = true) : (l.filter p)[((l.take k).filter p).length]? = some x ∧ ((l.take (k + 1)).filter p).length = ((l.take k).filter p).length + 1 ∧ ((l.take k).filter p).length < (l.filter p).length := by
  have hk := some_lt h
  have e : l = l.take k ++ x :: l.drop (k + 1) := by
    have := List.take_append_drop k l
    rw [List.drop_eq_getElem_cons hk, (List.getElem?_eq_some_iff.1 h).2] at this
    exact this.symm
  have e2 : l.filter p = (l.take k).filter p ++ x :: (l.drop (k + 1)).filter p := by
    conv => lhs; rw [e]
    rw [List.filter_append, List.filter_cons_of_pos hp]
  refine ⟨?_, ?_, ?_⟩
  · rw [e2, List.getElem?_append_right (Nat.le_refl _), Nat.sub_self]; rfl
  · rw [List.take_add_one, h, Option.toList_some, List.filter_append, List.filter_cons_of_pos hp, List.filter_nil, List.length_append]; rfl
  · rw [e2, List.length_append]; simp
theorem filter_skip {α : Type} {p : α → Bool} {l : List α} {k : Nat} {x : α} (h : l[k]? = some x) (hp : p x = false) : ((l.take (k + 1)).filter p).length = ((l.take k).filter p).length := by
  rw [List.take_add_one, h, Option.toList_some, List.filter_append, List.filter_cons_of_neg (by simp [hp]), List.filter_nil, List.append_nil]
def ne (c : Int) (x : Int) : Bool := !(x == c)
theorem changed_t (more : Bool) (A B : List Int) (c : Int) (hA : A = B.filter (ne c)) (hB : B.length = A.length + 1) (hl : B.length ≤ 1000) :
    Spec Try.prog 17 [.d (.sl ((if more then A else B).map iD)), .d (.sl ((if more then B else A).map iD)), .d (.int .i64 c), .d (.bool more)] [] (.d (.bool true)) [] := by
  have w0 : IntKind.i64.wrap ((A.length : Int) + 1) = ((A.length : Int) + 1) := i64_in _ (by omega)
  have z0 : ((B.length : Int) != A.length + 1) = false := by simp [hB]
  have b1 : (!true) = false := rfl
  have b2 : (!false) = true := rfl
  refine spec_of_ev (fn := Try.f17) DX_ok 3000 Try.func17 rfl rfl (Nat.le_of_ble_eq_true rfl) ?_
  simp (maxSteps := 4000000) -implicitDefEqProofs only [Try.f17, go_sem]
  cases more
  all_goals simp only [Bool.false_eq_true, if_false, if_true]
  all_goals (simp (maxSteps := 4000000) -implicitDefEqProofs only [go_sem, w0, z0, b1, b2, Option.some.injEq, forall_eq', and_true, true_and, Bool.not_true, Bool.not_false, decide_true, Nat.reduceAdd, Nat.reduceSub, Nat.reduceLT, Nat.reduceLeDiff, Nat.reduceEqDiff, ↓reduceIte])
  all_goals refine eloop (S := Nat) (fun k => mkE 54 [(0, .d (.sl (A.map iD))), (1, .d (.sl (B.map iD))), (2, .d (.int .i64 c)), (9, .d (.int .i64 ((B.take k).filter (ne c)).length)), (10, .d (.int .i64 k))]) (fun k => []) (fun k => k ≤ B.length) (fun k => B.length - k) 0 (by omega) (by simp only [List.take_zero, List.filter_nil, List.length_nil]; exact (Wk.sub (by (simp only [go_sem]) <;> trivial))) ?_
  all_goals intro k hk
  all_goals rcases Nat.lt_or_ge k B.length with h2 | h2
  case' false.inr | true.inr =>
    have f1 : decide ((k : Int) < B.length) = false := by simp; omega
    have e : (((B.take k).filter (ne c)).length : Int) = A.length := by rw [List.take_of_length_le h2, ← hA]
    have z1 : ((A.length : Int) == A.length) = true := by simp
    rw [e]
    simp (maxSteps := 4000000) -implicitDefEqProofs only [go_sem, f1, z1, Option.some.injEq, forall_eq', and_true, true_and, Bool.not_true, Bool.not_false, decide_true, Nat.reduceAdd, Nat.reduceSub, Nat.reduceLT, Nat.reduceLeDiff, Nat.reduceEqDiff, ↓reduceIte]
  case false.inr | true.inr => exact wk_bool rfl
  all_goals
    have f1 : decide ((k : Int) < B.length) = true := by simp; omega
    obtain ⟨x, hx⟩ : ∃ x, B[k]? = some x := ⟨B[k]'(by omega), List.getElem?_eq_getElem _⟩
    have n1 : (0 ≤ (k : Int) ∧ (k : Int) < B.length) = True := eq_true (by omega)
    have n2 : (k < B.length) = True := eq_true (by omega)
    have w1 : IntKind.i64.wrap ((k : Int) + 1) = ((k + 1 : Nat) : Int) := by rw [i64_in _ (by omega)]; simp
    cases q : x == c
    case true =>
      have e := filter_skip (p := ne c) hx (by simp [ne, q])
      simp (maxSteps := 4000000) -implicitDefEqProofs only [go_sem, f1, n1, n2, hx, q, w1, Option.some.injEq, forall_eq', and_true, true_and, Bool.not_true, Bool.not_false, decide_true, Nat.reduceAdd, Nat.reduceSub, Nat.reduceLT, Nat.reduceLeDiff, Nat.reduceEqDiff, ↓reduceIte]
      exact .mk (k + 1) (by omega) (by omega) (by rw [e]; exact (Wk.sub (by (simp only [go_sem]) <;> trivial)))
    obtain ⟨e1, e2, e3⟩ := filter_get (p := ne c) hx (by simp [ne, q])
    obtain ⟨t, ht⟩ : ∃ t, t = ((B.take k).filter (ne c)).length := ⟨_, rfl⟩
    rw [← ht, ← hA] at e1 e3
    rw [← ht] at e2
    rw [← ht]
    have d1 : decide ((A.length : Int) ≤ t) = false := decide_eq_false (by omega)
    have n3 : (0 ≤ (t : Int) ∧ (t : Int) < A.length) = True := eq_true (by omega)
    have n4 : (t < A.length) = True := eq_true (by omega)
    have w2 : IntKind.i64.wrap ((t : Int) + 1) = ((t + 1 : Nat) : Int) := by rw [i64_in _ (by omega)]; simp
    have z1 : (x != x) = false := by simp
    simp (maxSteps := 4000000) -implicitDefEqProofs only [go_sem, f1, n1, n2, hx, q, Option.some.injEq, forall_eq', and_true, true_and, Bool.not_true, Bool.not_false, decide_true, Nat.reduceAdd, Nat.reduceSub, Nat.reduceLT, Nat.reduceLeDiff, Nat.reduceEqDiff, ↓reduceIte]
    refine DX.plain (.take 0 false (.take 1 false (.take 2 false (.take 3 false (.take 4 false (.take 5 false (.take 6 false (.take 7 false (.take 8 false (.take 9 false (.take 10 false (.take 11 false (.take 12 false (.take 13 false (.take 14 false .done))))))))))))))) (by kernel_rfl) (by kernel_rfl) Ty.mixed ?_
    simp (maxSteps := 4000000) -implicitDefEqProofs only [go_sem, n1, n2, hx, d1, n3, n4, e1, z1, w1, w2, Option.some.injEq, forall_eq', and_true, true_and, Bool.not_true, Bool.not_false, decide_true, Nat.reduceAdd, Nat.reduceSub, Nat.reduceLT, Nat.reduceLeDiff, Nat.reduceEqDiff, ↓reduceIte]
    exact .mk (k + 1) (by omega) (by omega) (by rw [e2]; exact (Wk.sub (by (simp only [go_sem]) <;> trivial)))
theorem effN_ne {l : Lg} {s t : List Ev} {c : Int} (h : ∀ d : Nat, inR l s d = (inR l t d && !decide ((d : Int) = c))) : ∀ n, effN l s n = (effN l t n).filter (ne c)
  | 0 => rfl
  | n + 1 => by
    have ih := effN_ne h n
    have hn := h n
    cases a : inR l t n
    · rw [a, Bool.false_and] at hn
      rw [effN_no hn, effN_no a, ih]
    · rw [a, Bool.true_and] at hn
      by_cases e : (n : Int) = c
      · rw [decide_eq_true e] at hn
        rw [effN_no hn, effN_yes a, List.filter_append, ih, List.filter_cons_of_neg (by simp [ne, e]), List.filter_nil, List.append_nil]
      · rw [decide_eq_false e] at hn
        rw [effN_yes hn, effN_yes a, List.filter_append, ih, List.filter_cons_of_pos (by simp [ne, e]), List.filter_nil]
theorem effN_one {l : Lg} {s t : List Ev} {c : Nat} (h : ∀ d : Nat, inR l s d = (inR l t d && !decide ((d : Int) = c))) (ht : inR l t c = true) : ∀ n, (effN l t n).length = (effN l s n).length + if c < n then 1 else 0
  | 0 => rfl
  | n + 1 => by
    have ih := effN_one h ht n
    have hn := h n
    by_cases e : n = c
    · subst e
      rw [if_neg (by omega)] at ih
      rw [ht, decide_eq_true rfl] at hn
      rw [if_pos (by omega), effN_yes ht, effN_no hn, List.length_append, ih]; rfl
    · rw [decide_eq_false (by omega)] at hn
      cases a : inR l t n
      · rw [a] at hn
        rw [effN_no hn, effN_no a, ih]
        congr 1; split <;> split <;> omega
      · rw [a] at hn
        rw [effN_yes hn, effN_yes a, List.length_append, List.length_append, ih]
        simp only [List.length_singleton]
        split <;> split <;> omega
/-- an event that is allowed turns its class over -/
theorem all_turn {l : Lg} {S : List Ev} {e : Ev} {c : Nat} (hc : classN l e.ch = some (c : Int)) (ha : allR l S e = 0) : inR l S c = decide (e.kd = 3) ∧ (∀ d : Nat, d ≠ c → inR l (S ++ [e]) d = inR l S d) ∧ inR l (S ++ [e]) c = decide (e.kd ≠ 3) := by
  have hr := classR_of hc
  refine ⟨?_, fun d hd => ?_, ?_⟩
  · unfold allR at ha
    simp only [hr] at ha
    split at ha
    · cases ha
    split at ha
    · cases ha
    next h2 =>
    split at ha
    · cases ha
    split at ha
    · cases ha
    next h4 =>
    by_cases q : e.kd = 3
    · rw [decide_eq_true q]
      cases z : inR l S c
      · exact absurd (.inl ⟨q, z⟩) h4
      · rfl
    · rw [decide_eq_false q]
      cases z : inR l S c
      · rfl
      · exact absurd ⟨z, q⟩ h2
  · rw [inR_snoc, hr, if_neg (by omega)]
  · rw [inR_snoc, hr, if_pos rfl]
    by_cases q : e.kd = 3 <;> simp [q]
theorem apart_law (l : Lg) (ii : Int) (e : Ev) (hl : LSm l) (hii : -9223372036854775808 ≤ ii ∧ ii ≤ 9223372036854775807) : Spec Try.prog 3 [lA l, .d (.int .i64 ii), .agg [.d (.int .u8 e.kd), .d (.str e.ch)]] [] (.d (.bool true)) [] := by
  have c0 := alive_spec
  have c1 := great_lref l hl.k hl.b hl.e hl.s
  simp only [lA] at c1
  refine spec_of_ev (fn := Try.f3) DX_ok 3000 Try.func3 rfl rfl (Nat.le_of_ble_eq_true rfl) ?_
  simp (maxSteps := 4000000) -implicitDefEqProofs only [Try.f3, go_sem, lA]
  refine ecall0 _ c0 (by simp only [go_sem]) (by simp only [go_sem]) ?_
  simp (maxSteps := 4000000) -implicitDefEqProofs only [go_sem, Nat.reduceAdd, Nat.reduceSub, Nat.reduceLT, Nat.reduceLeDiff, Nat.reduceEqDiff, ↓reduceIte]
  refine ecall0 _ c1 (by simp only [go_sem]) (by simp only [go_sem]) ?_
  cases g1 : greatL l
  case true =>
    simp (maxSteps := 4000000) -implicitDefEqProofs only [go_sem, g1, Option.some.injEq, forall_eq', and_true, true_and, Bool.not_true, Bool.not_false, decide_true, Nat.reduceAdd, Nat.reduceSub, Nat.reduceLT, Nat.reduceLeDiff, Nat.reduceEqDiff, ↓reduceIte]
    exact wk_bool rfl
  have f := fit_of g1
  have fk := f.k
  have fb := f.b
  have fe := f.e
  have c2 := lcheck_ref l (by omega) (by omega) (by omega)
  simp only [lA] at c2
  simp (maxSteps := 4000000) -implicitDefEqProofs only [go_sem, g1, Option.some.injEq, forall_eq', and_true, true_and, Bool.not_true, Bool.not_false, decide_true, Nat.reduceAdd, Nat.reduceSub, Nat.reduceLT, Nat.reduceLeDiff, Nat.reduceEqDiff, ↓reduceIte]
  refine ecall0 _ c2 (by simp only [go_sem]) (by simp only [go_sem]) ?_
  cases g2 : (lcheck l != 0)
  case true =>
    simp (maxSteps := 4000000) -implicitDefEqProofs only [go_sem, g2, Option.some.injEq, forall_eq', and_true, true_and, Bool.not_true, Bool.not_false, decide_true, Nat.reduceAdd, Nat.reduceSub, Nat.reduceLT, Nat.reduceLeDiff, Nat.reduceEqDiff, ↓reduceIte]
    exact wk_bool rfl
  have lo := lok_of (l := l) (by simpa using g2)
  cases g3 : decide (ii < 0)
  case true =>
    simp (maxSteps := 4000000) -implicitDefEqProofs only [go_sem, g2, g3, Option.some.injEq, forall_eq', and_true, true_and, Bool.not_true, Bool.not_false, decide_true, Nat.reduceAdd, Nat.reduceSub, Nat.reduceLT, Nat.reduceLeDiff, Nat.reduceEqDiff, ↓reduceIte]
    exact wk_bool rfl
  cases g4 : decide ((l.br.length : Int) ≤ ii)
  case true =>
    simp (maxSteps := 4000000) -implicitDefEqProofs only [go_sem, g2, g3, g4, Option.some.injEq, forall_eq', and_true, true_and, Bool.not_true, Bool.not_false, decide_true, Nat.reduceAdd, Nat.reduceSub, Nat.reduceLT, Nat.reduceLeDiff, Nat.reduceEqDiff, ↓reduceIte]
    exact wk_bool rfl
  cases g5 : decide ((100 : Int) < e.ch.size)
  case true =>
    simp (maxSteps := 4000000) -implicitDefEqProofs only [go_sem, g2, g3, g4, g5, Option.some.injEq, forall_eq', and_true, true_and, Bool.not_true, Bool.not_false, decide_true, Nat.reduceAdd, Nat.reduceSub, Nat.reduceLT, Nat.reduceLeDiff, Nat.reduceEqDiff, ↓reduceIte]
    exact wk_bool rfl
  obtain ⟨i, rfl⟩ : ∃ n : Nat, ii = n := ⟨ii.toNat, by have := of_decide_eq_false g3; omega⟩
  have hi : i < l.br.length := by have := of_decide_eq_false g4; omega
  obtain ⟨x, s, v, a⟩ := at_of lo.tab hi
  have hx := a.hx
  have vl := vlen_le lo a
  have n1 : (0 ≤ (i : Int) ∧ (i : Int) < l.br.length) = True := eq_true (by omega)
  have n2 : (i < l.br.length) = True := eq_true (by omega)
  have z0 : ((0 : Int) != 0) = false := rfl
  have z1 : ((0 : Int) == 0) = true := rfl
  have z2 : (((0 : Nat) : Int) == 0) = true := rfl
  have c3 := append_lown l x.name e (by omega) (by omega) (by omega)
  have hin := lo.tab.g.ok.name i x hx
  have hgs : l.ev.getD i [] = s := by rw [List.getD_eq_getElem?_getD, a.hs]; rfl
  have happ : ∀ (e : Ev), appR l x.name e = if classN l e.ch = none then (lg0, 6) else if s.length = 40 then (lg0, 4) else if allR l (preE l i ++ s) e ≠ 0 then (lg0, allR l (preE l i ++ s) e) else (addE l i e, 0) := fun e => by
    unfold appR
    rw [lo.view a, hin, Int.toNat_natCast, hgs]
    simp only [ne_eq, not_true_eq_false, if_false, a.seen]
  rw [happ e] at c3
  have bad : ∀ n : Int, n ≠ 0 → appR l x.name e = (lg0, n) → True := fun _ _ _ => trivial
  have h40 := lo.own i s a.hs
  -- whether it is appended
  have dich : (∃ n : Int, n ≠ 0 ∧ appR l x.name e = (lg0, n)) ∨ (∃ c : Nat, s.length ≠ 40 ∧ classN l e.ch = some (c : Int) ∧ allR l (preE l i ++ s) e = 0 ∧ appR l x.name e = (addE l i e, 0)) := by
    rw [happ e]
    cases hc : classN l e.ch with
    | none => exact .inl ⟨6, by omega, by rw [if_pos rfl]⟩
    | some c =>
      have hcr := classN_range lo.kv hc
      by_cases h4 : s.length = 40
      · exact .inl ⟨4, by omega, by rw [if_neg (by simp), if_pos h4]⟩
      · by_cases h5 : allR l (preE l i ++ s) e = 0
        · exact .inr ⟨c.toNat, h4, by rw [Int.toNat_of_nonneg hcr.1], h5, by rw [if_neg (by simp), if_neg h4, if_neg (by omega)]⟩
        · exact .inl ⟨_, h5, by rw [if_neg (by simp), if_neg h4, if_pos h5]⟩
  rw [← happ e] at c3
  rcases dich with ⟨n, hn, hr⟩ | ⟨c, h4, hc, hal, hr⟩
  · rw [hr] at c3
    have z3 : (n != 0) = true := by simp [hn]
    simp only [lA, lg0] at c3
    simp (maxSteps := 4000000) -implicitDefEqProofs only [go_sem, g2, g3, g4, g5, n1, n2, hx, Option.some.injEq, forall_eq', and_true, true_and, Bool.not_true, Bool.not_false, decide_true, Nat.reduceAdd, Nat.reduceSub, Nat.reduceLT, Nat.reduceLeDiff, Nat.reduceEqDiff, ↓reduceIte]
    refine ecall0 _ c3 (by simp only [go_sem]) (by simp only [go_sem]) ?_
    simp (maxSteps := 4000000) -implicitDefEqProofs only [go_sem, z3, z2, Option.some.injEq, forall_eq', and_true, true_and, Bool.not_true, Bool.not_false, decide_true, Nat.reduceAdd, Nat.reduceSub, Nat.reduceLT, Nat.reduceLeDiff, Nat.reduceEqDiff, ↓reduceIte]
    exact wk_bool rfl
  rw [hr] at c3
  obtain ⟨k1, k2, w, b, hpre⟩ := add_ok lo a h4 hc hal
  have kmn : (addE l i e).kn = l.kn := rfl
  have kmb : (addE l i e).br = l.br := rfl
  obtain ⟨m, hm⟩ : ∃ m, m = addE l i e := ⟨_, rfl⟩
  have kme : m.ev.length = l.ev.length := by rw [hm]; simp [addE]
  rw [← hm] at c3 k1 k2 b hpre kmn kmb
  have m1 : m.kn.length ≤ 1000 := by rw [kmn]; omega
  have m2 : m.br.length ≤ 1000 := by rw [kmb]; omega
  have m3 : m.ev.length ≤ 1000 := by omega
  have c4 := lcheck_ref m m1 m2 m3
  rw [k1.chk] at c4
  have c5 := class_ref l e.ch (by unfold Sm; omega)
  rw [classR_of hc] at c5
  have hcr := classN_range lo.kv hc
  obtain ⟨t1, t2, t3⟩ := all_turn hc hal
  have c6 := fun nm => Effect_own l nm (by omega) (by omega) (by omega)
  have c7 := fun nm => Effect_own m nm m1 m2 m3
  obtain ⟨S, hS⟩ : ∃ S, S = preE l i ++ s := ⟨_, rfl⟩
  have hSe : preE l i ++ (s ++ [e]) = S ++ [e] := by rw [hS, List.append_assoc]
  rw [← hS] at t1 t2 t3
  have chg : Spec Try.prog 17 [.d (.sl ((effL l S).map iD)), .d (.sl ((effL l (S ++ [e])).map iD)), .d (.int .i64 c), .d (.bool (e.kd != 3))] [] (.d (.bool true)) [] := by
    by_cases q : e.kd = 3
    · have hd : ∀ d : Nat, inR l (S ++ [e]) d = (inR l S d && !decide ((d : Int) = c)) := fun d => by
        by_cases h : d = c
        · subst h; rw [t3, t1]; simp [q]
        · rw [t2 d h, decide_eq_false (by omega)]; simp
      have ht : inR l S c = true := by rw [t1]; exact decide_eq_true q
      have := changed_t false (effL l (S ++ [e])) (effL l S) c (effN_ne hd 30) (by have := effN_one hd ht 30; rw [if_pos (by omega)] at this; exact this) (by have := effN_len l S 30; unfold effL; omega)
      simp only [Bool.false_eq_true, if_false] at this
      rw [show (e.kd != 3) = false by simp [q]]
      exact this
    · have hd : ∀ d : Nat, inR l S d = (inR l (S ++ [e]) d && !decide ((d : Int) = c)) := fun d => by
        by_cases h : d = c
        · subst h; rw [t3, t1]; simp [q]
        · rw [t2 d h, decide_eq_false (by omega)]; simp
      have ht : inR l (S ++ [e]) c = true := by rw [t3]; exact decide_eq_true q
      have := changed_t true (effL l S) (effL l (S ++ [e])) c (effN_ne hd 30) (by have := effN_one hd ht 30; rw [if_pos (by omega)] at this; exact this) (by have := effN_len l (S ++ [e]) 30; unfold effL; omega)
      simp only [if_true] at this
      rw [show (e.kd != 3) = true by simp [q]]
      exact this
  have eu := fun (k : Nat) (y : Br) (t : List Ev) (w : List Mk) (b : At l k y t w) => lo.eff b
  have em := k2
  have e1 : effR l x.name = (effL l S, 0) := by rw [hS]; exact lo.eff a
  have e2 : effR m x.name = (effL l (S ++ [e]), 0) := by
    have := k2 i x s v a
    rw [if_pos rfl, hSe] at this
    exact this
  -- the second append
  have c8 := append_lown m x.name ⟨3, e.ch⟩ m1 m2 m3
  have hgm : m.ev.getD i [] = s ++ [e] := by rw [List.getD_eq_getElem?_getD, b.hs]; rfl
  have hinm : idx (has x.name) m.br = i := by rw [kmb]; exact hin
  have mS : preE m i ++ (s ++ [e]) = S ++ [e] := by rw [hpre, hSe]
  have kmc : classN m e.ch = some (c : Int) := by rw [kn_classN kmn]; exact hc
  have second : e.kd ≠ 3 → (appR m x.name ⟨3, e.ch⟩ = (lg0, 4)) ∨ (appR m x.name ⟨3, e.ch⟩ = (addE m i ⟨3, e.ch⟩, 0) ∧ effR (addE m i ⟨3, e.ch⟩) x.name = (effL l S, 0)) := fun q => by
    have hall : allR m (S ++ [e]) ⟨3, e.ch⟩ = 0 := by
      rw [kn_allR kmn]
      unfold allR
      simp only [classR_of hc]
      have ht : inR l (S ++ [e]) c = true := by rw [t3]; exact decide_eq_true q
      rw [ht]
      simp
    have ha : appR m x.name ⟨3, e.ch⟩ = if (s ++ [e]).length = 40 then (lg0, 4) else (addE m i ⟨3, e.ch⟩, 0) := by
      unfold appR
      rw [k1.view b, hinm, Int.toNat_natCast, hgm, b.seen, mS, hall, kmc]
      simp
    rw [ha]
    by_cases h : (s ++ [e]).length = 40
    · exact .inl (by rw [if_pos h])
    · refine .inr ⟨by rw [if_neg h], ?_⟩
      obtain ⟨j1, j2, -⟩ := add_ok k1 b (e := ⟨3, e.ch⟩) h kmc (by rw [mS]; exact hall)
      have := j2 i x _ _ b
      rw [if_pos rfl, ← List.append_assoc, mS] at this
      rw [this]
      rw [kn_effL kmn]
      congr 1
      unfold effL effN
      congr 1
      refine List.filter_congr fun d hd => ?_
      rw [inR_snoc, classR_of hc]
      by_cases z : d = c
      · subst z
        rw [if_pos rfl, t1]; simp [q]
      · rw [if_neg (by omega), t2 d z]
  have c9 := fun nm (N : Lg) (h1 : N.kn.length ≤ 1000) (h2 : N.br.length ≤ 1000) (h3 : N.ev.length ≤ 1000) => Effect_own N nm h1 h2 h3
  have c10 := fun (Z : List Int) (hz : Z.length ≤ 30) => sameInts_ref Z Z (by unfold Sm; omega)
  have kmn2 : (addE m i ⟨3, e.ch⟩).kn.length ≤ 1000 := m1
  have kmb2 : (addE m i ⟨3, e.ch⟩).br.length ≤ 1000 := m2
  have kme2 : (addE m i ⟨3, e.ch⟩).ev.length ≤ 1000 := by simp [addE]; omega
  obtain ⟨Sl, hSl⟩ : ∃ Z, Z = effL l S := ⟨_, rfl⟩
  have sll : Sl.length ≤ 30 := by rw [hSl]; exact effN_len _ _ _
  have bx : x.name = x.name := rfl
  simp only [lA] at c3 c4 c5 c6 c7 c8 c9
  clear hm hal happ bad
  simp (maxSteps := 4000000) -implicitDefEqProofs only [go_sem, g2, g3, g4, g5, n1, n2, hx, Option.some.injEq, forall_eq', and_true, true_and, Bool.not_true, Bool.not_false, decide_true, Nat.reduceAdd, Nat.reduceSub, Nat.reduceLT, Nat.reduceLeDiff, Nat.reduceEqDiff, ↓reduceIte]
  refine ecall0 _ c3 (by simp only [go_sem]) (by simp only [go_sem]) ?_
  simp (maxSteps := 4000000) -implicitDefEqProofs only [go_sem, z0, Option.some.injEq, forall_eq', and_true, true_and, Bool.not_true, Bool.not_false, decide_true, Nat.reduceAdd, Nat.reduceSub, Nat.reduceLT, Nat.reduceLeDiff, Nat.reduceEqDiff, ↓reduceIte]
  refine ecall0 _ c4 (by simp only [go_sem]) (by simp only [go_sem]) ?_
  simp (maxSteps := 4000000) -implicitDefEqProofs only [go_sem, z0, Option.some.injEq, forall_eq', and_true, true_and, Bool.not_true, Bool.not_false, decide_true, Nat.reduceAdd, Nat.reduceSub, Nat.reduceLT, Nat.reduceLeDiff, Nat.reduceEqDiff, ↓reduceIte]
  refine ecall0 _ c5 (by simp only [go_sem]) (by simp only [go_sem]) ?_
  simp (maxSteps := 4000000) -implicitDefEqProofs only [go_sem, Nat.reduceAdd, Nat.reduceSub, Nat.reduceLT, Nat.reduceLeDiff, Nat.reduceEqDiff, ↓reduceIte]
  refine eloop (S := Nat) (fun k => mkE 191 [(1, .d (.int .i64 i)), (3, .ptr 0 0), (5, .ptr 1 0), (7, .d (.bool true)), (8, .d (.str x.name)), (9, .ptr 2 0), (11, .d (.int .i64 c)), (12, .d (.int .i64 k))]) (fun k => [lH l, .cells [.d (.int .u8 e.kd), .d (.str e.ch)], lH m]) (fun k => k ≤ l.br.length) (fun k => l.br.length - k) 0 (by omega) (Wk.via [0, 1, 2] (by (simp only [go_sem, ↓reduceIte]) <;> trivial) (by first | (simp (maxSteps := 4000000) -implicitDefEqProofs only [go_sem, Nat.reduceAdd, Nat.reduceSub, Nat.reduceLT, Nat.reduceLeDiff, Nat.reduceEqDiff, ↓reduceIte]; done) | ((simp (maxSteps := 4000000) -implicitDefEqProofs only [go_sem, Nat.reduceAdd, Nat.reduceSub, Nat.reduceLT, Nat.reduceLeDiff, Nat.reduceEqDiff, ↓reduceIte]) <;> omega)) (by simp) (by first | (simp; done) | (simp [so]; done)) (by (simp (maxSteps := 4000000) -implicitDefEqProofs only [go_sem, Nat.reduceAdd, Nat.reduceSub, Nat.reduceLT, Nat.reduceLeDiff, Nat.reduceEqDiff, ↓reduceIte]) <;> trivial) (by first | (simp only [go_sem]; done) | ((simp (maxSteps := 4000000) -implicitDefEqProofs only [go_sem, Nat.reduceAdd, Nat.reduceSub, Nat.reduceLT, Nat.reduceLeDiff, Nat.reduceEqDiff, ↓reduceIte]) <;> omega)) (Nat.zero_le _) (fun i h => absurd h (Nat.not_lt_zero i))) ?_
  intro k hk
  rcases Nat.lt_or_ge k l.br.length with h2 | h2
  case inl =>
    have f1 : decide ((k : Int) < l.br.length) = true := by simp; omega
    obtain ⟨y, t, w', b'⟩ := at_of lo.tab h2
    have hy := b'.hx
    have n3 : (0 ≤ (k : Int) ∧ (k : Int) < l.br.length) = True := eq_true (by omega)
    have n4 : (k < l.br.length) = True := eq_true (by omega)
    have w1 : IntKind.i64.wrap ((k : Int) + 1) = ((k + 1 : Nat) : Int) := by rw [i64_in _ (by omega)]; simp
    have d1 := c6 y.name
    have d2 := c7 y.name
    rw [eu k y t w' b'] at d1
    rw [em k y t w' b'] at d2
    by_cases q : k = i
    · subst q
      have et : t = s := by have := b'.hs; rw [a.hs] at this; cases this; rfl
      subst et
      rw [if_pos rfl, hSe] at d2
      rw [← hS] at d1
      have z3 : ((k : Int) != k) = false := by simp
      have z4 : ((k : Int) == k) = true := by simp
      have b1 : (!true) = false := rfl
      obtain ⟨X, hX⟩ : ∃ Z, Z = effL l S := ⟨_, rfl⟩
      obtain ⟨Y, hY⟩ : ∃ Z, Z = effL l (S ++ [e]) := ⟨_, rfl⟩
      rw [← hX] at d1
      rw [← hY] at d2
      rw [← hX, ← hY] at chg
      clear hX hY
      simp (maxSteps := 4000000) -implicitDefEqProofs only [go_sem, f1, Option.some.injEq, forall_eq', and_true, true_and, Bool.not_true, Bool.not_false, decide_true, Nat.reduceAdd, Nat.reduceSub, Nat.reduceLT, Nat.reduceLeDiff, Nat.reduceEqDiff, ↓reduceIte]
      refine DX.plain (.take 0 false (.take 1 false (.take 2 false (.take 3 false (.take 4 false (.take 5 false (.take 6 false (.take 7 false (.take 8 false (.take 9 false (.take 10 false (.take 11 false (.take 12 false .done))))))))))))) (by kernel_rfl) (by kernel_rfl) Ty.mixed ?_
      simp (maxSteps := 4000000) -implicitDefEqProofs only [go_sem, n3, n4, hy, Option.some.injEq, forall_eq', and_true, true_and, Bool.not_true, Bool.not_false, decide_true, Nat.reduceAdd, Nat.reduceSub, Nat.reduceLT, Nat.reduceLeDiff, Nat.reduceEqDiff, ↓reduceIte]
      refine ⟨_, _, d1.lift0 _ (by simp only [go_sem]) (by simp only [go_sem]), rfl, ?_⟩
      simp (maxSteps := 4000000) -implicitDefEqProofs only [go_sem, Nat.reduceAdd, Nat.reduceSub, Nat.reduceLT, Nat.reduceLeDiff, Nat.reduceEqDiff, ↓reduceIte]
      refine DX.plain (.take 0 false (.take 1 false (.take 2 false (.take 3 false (.take 4 false (.take 5 false (.take 6 false (.take 7 false (.take 8 false (.take 9 false (.take 10 false (.take 11 false (.take 12 false .done))))))))))))) (by kernel_rfl) (by kernel_rfl) Ty.mixed ?_
      simp (maxSteps := 4000000) -implicitDefEqProofs only [go_sem, n3, n4, hy, Option.some.injEq, forall_eq', and_true, true_and, Bool.not_true, Bool.not_false, decide_true, Nat.reduceAdd, Nat.reduceSub, Nat.reduceLT, Nat.reduceLeDiff, Nat.reduceEqDiff, ↓reduceIte]
      refine ⟨_, _, d2.lift0 _ (by simp only [go_sem]) (by simp only [go_sem]), rfl, ?_⟩
      simp (maxSteps := 4000000) -implicitDefEqProofs only [go_sem, z0, z3, z4, Option.some.injEq, forall_eq', and_true, true_and, Bool.not_true, Bool.not_false, decide_true, Nat.reduceAdd, Nat.reduceSub, Nat.reduceLT, Nat.reduceLeDiff, Nat.reduceEqDiff, ↓reduceIte]
      refine ecall0 _ chg (by simp only [go_sem]) (by simp only [go_sem]) ?_
      simp (maxSteps := 4000000) -implicitDefEqProofs only [go_sem, b1, w1, Option.some.injEq, forall_eq', and_true, true_and, Bool.not_true, Bool.not_false, decide_true, Nat.reduceAdd, Nat.reduceSub, Nat.reduceLT, Nat.reduceLeDiff, Nat.reduceEqDiff, ↓reduceIte]
      exact .mk (k + 1) (by omega) (by omega) (Wk.via [0, 1, 2] (by (simp only [go_sem, ↓reduceIte]) <;> trivial) (by first | (simp (maxSteps := 4000000) -implicitDefEqProofs only [go_sem, Nat.reduceAdd, Nat.reduceSub, Nat.reduceLT, Nat.reduceLeDiff, Nat.reduceEqDiff, ↓reduceIte]; done) | ((simp (maxSteps := 4000000) -implicitDefEqProofs only [go_sem, Nat.reduceAdd, Nat.reduceSub, Nat.reduceLT, Nat.reduceLeDiff, Nat.reduceEqDiff, ↓reduceIte]) <;> omega)) (by simp) (by first | (simp; done) | (simp [so]; done)) (by (simp (maxSteps := 4000000) -implicitDefEqProofs only [go_sem, Nat.reduceAdd, Nat.reduceSub, Nat.reduceLT, Nat.reduceLeDiff, Nat.reduceEqDiff, ↓reduceIte]) <;> trivial) (by first | (simp only [go_sem]; done) | ((simp (maxSteps := 4000000) -implicitDefEqProofs only [go_sem, Nat.reduceAdd, Nat.reduceSub, Nat.reduceLT, Nat.reduceLeDiff, Nat.reduceEqDiff, ↓reduceIte]) <;> omega)) (Nat.zero_le _) (fun i h => absurd h (Nat.not_lt_zero i)))
    · rw [if_neg q] at d2
      have z3 : ((k : Int) != i) = true := by simp; omega
      have z4 : ((k : Int) == i) = false := by simp; omega
      have b1 : (!true) = false := rfl
      obtain ⟨X, hX⟩ : ∃ Z, Z = effL l (preE l k ++ t) := ⟨_, rfl⟩
      have xl : X.length ≤ 30 := by rw [hX]; exact effN_len _ _ _
      rw [← hX] at d1 d2
      have d3 := c10 X xl
      rw [decide_eq_true rfl] at d3
      clear hX
      simp (maxSteps := 4000000) -implicitDefEqProofs only [go_sem, f1, Option.some.injEq, forall_eq', and_true, true_and, Bool.not_true, Bool.not_false, decide_true, Nat.reduceAdd, Nat.reduceSub, Nat.reduceLT, Nat.reduceLeDiff, Nat.reduceEqDiff, ↓reduceIte]
      refine DX.plain (.take 0 false (.take 1 false (.take 2 false (.take 3 false (.take 4 false (.take 5 false (.take 6 false (.take 7 false (.take 8 false (.take 9 false (.take 10 false (.take 11 false (.take 12 false .done))))))))))))) (by kernel_rfl) (by kernel_rfl) Ty.mixed ?_
      simp (maxSteps := 4000000) -implicitDefEqProofs only [go_sem, n3, n4, hy, Option.some.injEq, forall_eq', and_true, true_and, Bool.not_true, Bool.not_false, decide_true, Nat.reduceAdd, Nat.reduceSub, Nat.reduceLT, Nat.reduceLeDiff, Nat.reduceEqDiff, ↓reduceIte]
      refine ⟨_, _, d1.lift0 _ (by simp only [go_sem]) (by simp only [go_sem]), rfl, ?_⟩
      simp (maxSteps := 4000000) -implicitDefEqProofs only [go_sem, Nat.reduceAdd, Nat.reduceSub, Nat.reduceLT, Nat.reduceLeDiff, Nat.reduceEqDiff, ↓reduceIte]
      refine DX.plain (.take 0 false (.take 1 false (.take 2 false (.take 3 false (.take 4 false (.take 5 false (.take 6 false (.take 7 false (.take 8 false (.take 9 false (.take 10 false (.take 11 false (.take 12 false .done))))))))))))) (by kernel_rfl) (by kernel_rfl) Ty.mixed ?_
      simp (maxSteps := 4000000) -implicitDefEqProofs only [go_sem, n3, n4, hy, Option.some.injEq, forall_eq', and_true, true_and, Bool.not_true, Bool.not_false, decide_true, Nat.reduceAdd, Nat.reduceSub, Nat.reduceLT, Nat.reduceLeDiff, Nat.reduceEqDiff, ↓reduceIte]
      refine ⟨_, _, d2.lift0 _ (by simp only [go_sem]) (by simp only [go_sem]), rfl, ?_⟩
      simp (maxSteps := 4000000) -implicitDefEqProofs only [go_sem, z0, z3, z4, Option.some.injEq, forall_eq', and_true, true_and, Bool.not_true, Bool.not_false, decide_true, Nat.reduceAdd, Nat.reduceSub, Nat.reduceLT, Nat.reduceLeDiff, Nat.reduceEqDiff, ↓reduceIte]
      refine ecall0 _ d3 (by simp only [go_sem]) (by simp only [go_sem]) ?_
      simp (maxSteps := 4000000) -implicitDefEqProofs only [go_sem, b1, z4, w1, Option.some.injEq, forall_eq', and_true, true_and, Bool.not_true, Bool.not_false, decide_true, Nat.reduceAdd, Nat.reduceSub, Nat.reduceLT, Nat.reduceLeDiff, Nat.reduceEqDiff, ↓reduceIte]
      exact .mk (k + 1) (by omega) (by omega) (Wk.via [0, 1, 2] (by (simp only [go_sem, ↓reduceIte]) <;> trivial) (by first | (simp (maxSteps := 4000000) -implicitDefEqProofs only [go_sem, Nat.reduceAdd, Nat.reduceSub, Nat.reduceLT, Nat.reduceLeDiff, Nat.reduceEqDiff, ↓reduceIte]; done) | ((simp (maxSteps := 4000000) -implicitDefEqProofs only [go_sem, Nat.reduceAdd, Nat.reduceSub, Nat.reduceLT, Nat.reduceLeDiff, Nat.reduceEqDiff, ↓reduceIte]) <;> omega)) (by simp) (by first | (simp; done) | (simp [so]; done)) (by (simp (maxSteps := 4000000) -implicitDefEqProofs only [go_sem, Nat.reduceAdd, Nat.reduceSub, Nat.reduceLT, Nat.reduceLeDiff, Nat.reduceEqDiff, ↓reduceIte]) <;> trivial) (by first | (simp only [go_sem]; done) | ((simp (maxSteps := 4000000) -implicitDefEqProofs only [go_sem, Nat.reduceAdd, Nat.reduceSub, Nat.reduceLT, Nat.reduceLeDiff, Nat.reduceEqDiff, ↓reduceIte]) <;> omega)) (Nat.zero_le _) (fun i h => absurd h (Nat.not_lt_zero i)))
  have f1 : decide ((k : Int) < l.br.length) = false := by simp; omega
  by_cases q : e.kd = 3
  · have z3 : (e.kd == 3) = true := by simp [q]
    simp (maxSteps := 4000000) -implicitDefEqProofs only [go_sem, f1, z3, Option.some.injEq, forall_eq', and_true, true_and, Bool.not_true, Bool.not_false, decide_true, Nat.reduceAdd, Nat.reduceSub, Nat.reduceLT, Nat.reduceLeDiff, Nat.reduceEqDiff, ↓reduceIte]
    exact wk_bool rfl
  have z3 : (e.kd == 3) = false := by simp [q]
  rcases second q with hr2 | ⟨hr2, he2⟩
  · rw [hr2] at c8
    have z4 : ((4 : Int) == 4) = true := rfl
    simp (maxSteps := 4000000) -implicitDefEqProofs only [go_sem, f1, z3, Option.some.injEq, forall_eq', and_true, true_and, Bool.not_true, Bool.not_false, decide_true, Nat.reduceAdd, Nat.reduceSub, Nat.reduceLT, Nat.reduceLeDiff, Nat.reduceEqDiff, ↓reduceIte]
    refine ecall0 _ c8 (by simp only [go_sem]) (by simp only [go_sem]) ?_
    simp (maxSteps := 4000000) -implicitDefEqProofs only [go_sem, z4, Option.some.injEq, forall_eq', and_true, true_and, Bool.not_true, Bool.not_false, decide_true, Nat.reduceAdd, Nat.reduceSub, Nat.reduceLT, Nat.reduceLeDiff, Nat.reduceEqDiff, ↓reduceIte]
    exact wk_bool rfl
  rw [hr2] at c8
  have d1 := c6 x.name
  have d2 := c9 x.name (addE m i ⟨3, e.ch⟩) kmn2 kmb2 kme2
  rw [e1, ← hSl] at d1
  rw [he2, ← hSl] at d2
  have d3 := c10 Sl sll
  rw [decide_eq_true rfl] at d3
  have z4 : ((0 : Int) == 4) = false := rfl
  obtain ⟨N, hN⟩ : ∃ N, N = addE m i ⟨3, e.ch⟩ := ⟨_, rfl⟩
  rw [← hN] at c8 d2
  simp (maxSteps := 4000000) -implicitDefEqProofs only [go_sem, f1, z3, Option.some.injEq, forall_eq', and_true, true_and, Bool.not_true, Bool.not_false, decide_true, Nat.reduceAdd, Nat.reduceSub, Nat.reduceLT, Nat.reduceLeDiff, Nat.reduceEqDiff, ↓reduceIte]
  refine ecall0 _ c8 (by simp only [go_sem]) (by simp only [go_sem]) ?_
  simp (maxSteps := 4000000) -implicitDefEqProofs only [go_sem, z4, Option.some.injEq, forall_eq', and_true, true_and, Bool.not_true, Bool.not_false, decide_true, Nat.reduceAdd, Nat.reduceSub, Nat.reduceLT, Nat.reduceLeDiff, Nat.reduceEqDiff, ↓reduceIte]
  refine ecall0 _ d1 (by simp only [go_sem]) (by simp only [go_sem]) ?_
  simp (maxSteps := 4000000) -implicitDefEqProofs only [go_sem, Nat.reduceAdd, Nat.reduceSub, Nat.reduceLT, Nat.reduceLeDiff, Nat.reduceEqDiff, ↓reduceIte]
  refine ecall0 _ d2 (by simp only [go_sem]) (by simp only [go_sem]) ?_
  simp (maxSteps := 4000000) -implicitDefEqProofs only [go_sem, z1, Option.some.injEq, forall_eq', and_true, true_and, Bool.not_true, Bool.not_false, decide_true, Nat.reduceAdd, Nat.reduceSub, Nat.reduceLT, Nat.reduceLeDiff, Nat.reduceEqDiff, ↓reduceIte]
  refine ecall0 _ d3 (by simp only [go_sem]) (by simp only [go_sem]) ?_
  simp (maxSteps := 4000000) -implicitDefEqProofs only [go_sem, z1, Option.some.injEq, forall_eq', and_true, true_and, Bool.not_true, Bool.not_false, decide_true, Nat.reduceAdd, Nat.reduceSub, Nat.reduceLT, Nat.reduceLeDiff, Nat.reduceEqDiff, ↓reduceIte]
  exact wk_bool rfl
end Go.AX.Lg
namespace Go.Proofs.Ytcpkcjjhokbmkaa
open Go.AX Go.AX.Lg Go.RowKit
set_option maxRecDepth 100000 in
theorem ledgerApart_lifted (os : Os) (started : os.Started) (H : Type) (enc : TypeId × Value → H) :
    ReturnsInHanded {} Try.checked os 3 .any (Rows.ledgerApartSpec.pre6 enc Try.prog Try.f3 Rows.ledgerApartRow.domain false) (Rows.ledgerApartSpec.post enc Try.prog Try.f3 false true false false) := by
  refine Go.AX.lifted (C := Try.checked) (f := 3) (fn := Try.f3) (s := Rows.ledgerApartSpec) (rt := 4) (n := 8) (by kernel_rfl) (by kernel_rfl) Try.func3 rfl ?_ rfl (by kernel_rfl) (by kernel_rfl) (by kernel_rfl) (by kernel_rfl) os started H enc
    (ChangeSpec.witness6 (enc := enc) (C := Try.checked) false ⟨#[], #[.agg #[.slice none 0 0, .slice none 0 0, .slice none 0 0], .int .i64 0, .agg #[.int .u8 0, .string ByteArray.empty]], []⟩ 8 (by kernel_rfl) (by kernel_rfl) (by kernel_rfl) (by kernel_rfl)) ?_
  · intro H ds h
    match ds, h with
    | [a0, a1, a2], _ => rfl
  · intro xs hx
    have hp : Try.f3.params.toList = [26, 3, 28] := rfl
    rw [hp] at hx ⊢
    have i0 : isA Try.prog 26 = true := by kernel_rfl
    have i1 : isA Try.prog 3 = false := by kernel_rfl
    have i2 : isA Try.prog 28 = true := by kernel_rfl
    rcases xs with _ | ⟨d0, _ | ⟨d1, _ | ⟨d2, _ | ⟨d3, xs⟩⟩⟩⟩ <;> simp only [Tyds, and_false] at hx
    obtain ⟨k0, k1, k2, _⟩ := hx
    obtain ⟨l, rfl, hl⟩ := ledger_of k0
    obtain ⟨ii, rfl, hii⟩ := int_of k1
    obtain ⟨e, rfl, he⟩ := event_of k2
    simp only [avs, i0, i1, i2, dv, Bool.false_eq_true, if_false, if_true, List.headD_cons, List.map_cons, List.map_nil]
    exact apart_law l ii e hl hii
theorem ledgerApart_over : Rows.ledgerApartRow.holds Try.pinned (OpenSpec.ofChange Rows.ledgerApartSpec) :=
  OpenClaim.holds_of_wide 3 Try.f3 rfl rfl rfl rfl rfl rfl rfl ⟨rfl, rfl, rfl, rfl, rfl⟩ rfl rfl rfl rfl rfl (by kernel_rfl) Try.func3 (by kernel_rfl)
    (of_decide_eq_true (by kernel_rfl)) (by unfold Func.isWrapper; first | (rw [if_pos (by decide +kernel)]; kernel_rfl) | (rw [if_neg (by decide +kernel)]; exact ⟨rfl, rfl⟩))
    (fun os started H enc _ => ledgerApart_lifted os started H enc)
/-- The row, under a short name, for the claim. -/
theorem ledgerApart_holds : Rows.LedgerApartSaid := ledgerApart_over
#print axioms ledgerApart_holds
end Go.Proofs.Ytcpkcjjhokbmkaa

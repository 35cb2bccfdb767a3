/- WindowSlack: the law returns true. No condition but the law's own guard. -/
import Derived.Test.YtnmgmlmiijljmaaWl
set_option maxHeartbeats 8000000
set_option linter.unusedVariables false
set_option linter.unusedSimpArgs false
set_option maxRecDepth 20000
namespace Go.AX.Wn
open Go.Proofs Go.RowKit Go.IntWalk Go.AX.Br
theorem sum_add {a b c : Int} (h1 : a ≤ b) (h2 : b ≤ c) : ∀ {W : List Hd}, (∀ w ∈ W, w.fr < w.to) → sumOv W a b + sumOv W b c = sumOv W a c
  | [], _ => rfl
  | w :: W, h => by
    have := h w (by simp)
    have ih := sum_add h1 h2 (W := W) fun x hx => h x (by simp [hx])
    simp only [sumOv]; omega
theorem slack_add {W : List Hd} (C : Can W) {a b c : Int} (h1 : a ≤ b) (h2 : b ≤ c) : slR W a b + slR W b c = slR W a c := by
  have := sum_add h1 h2 (W := W) C.2
  unfold slR; omega
theorem sum_le {f t : Int} : ∀ {W : List Hd} (p : Int), Can W → (∀ w ∈ W, p ≤ w.fr) → sumOv W f t ≤ max 0 (t - max f p)
  | [], p, _, _ => by simp only [sumOv]; omega
  | w :: W, p, C, h => by
    have h1 := h w (by simp)
    have h2 := C.2 w (by simp)
    have ih := sum_le (f := f) (t := t) w.to (can_tail C) fun x hx => by have := (List.pairwise_cons.1 C.1).1 x hx; omega
    simp only [sumOv]; omega
theorem sum_ge (f t : Int) : ∀ W : List Hd, 0 ≤ sumOv W f t
  | [] => by simp [sumOv]
  | w :: W => by have := sum_ge f t W; simp only [sumOv]; omega
theorem slack_range {W : List Hd} (C : Can W) (h0 : ∀ w ∈ W, 0 ≤ w.fr) {a b : Int} (ha : 0 ≤ a) (h : a ≤ b) : 0 ≤ slR W a b ∧ slR W a b ≤ b - a := by
  have h1 := sum_le (f := a) (t := b) 0 C h0
  have h2 := sum_ge a b W
  unfold slR; omega
theorem slack_one {W : List Hd} (C : Can W) (a : Int) : (cov W a → slR W a (a + 1) = 0) ∧ (¬ cov W a → slR W a (a + 1) = 1) := by
  cases h : look W a with
  | none =>
    refine ⟨fun hc => absurd hc (none_cov h), fun _ => ?_⟩
    rw [slack_none h]; omega
  | some w =>
    obtain ⟨_, _, _, _, q, _, _, _, _⟩ := look_some C h
    refine ⟨fun hc => ?_, fun hc => ?_⟩
    · rw [slack_held C h ((look_cov C h).1 hc) (by omega), if_neg (by omega)]
    · have : a < w.fr := by
        rcases Int.lt_or_le a w.fr with p | p
        · exact p
        · exact absurd ((look_cov C h).2 p) hc
      rw [slack_open C h this (by omega), if_neg (by omega)]; omega
theorem slack_mono {W V : List Hd} (CW : Can W) (CV : Can V) (h : ∀ t, cov W t → cov V t) : ∀ (n : Nat) (a : Int), slR V a (a + n) ≤ slR W a (a + n)
  | 0, a => by
    have e : ∀ U : List Hd, Can U → slR U a (a + (0 : Nat)) = 0 := fun U CU => by
      have h1 := sum_zero' CU
      unfold slR
      simp only [Int.natCast_zero, Int.add_zero]
      have : sumOv U a a = 0 := h1 a
      omega
    rw [e V CV, e W CW]; exact Int.le_refl _
  | n + 1, a => by
    have ih := slack_mono CW CV h n (a + 1)
    have e1 := slack_add CW (a := a) (b := a + 1) (c := a + (n + 1 : Nat)) (by omega) (by omega)
    have e2 := slack_add CV (a := a) (b := a + 1) (c := a + (n + 1 : Nat)) (by omega) (by omega)
    have e3 : a + 1 + (n : Int) = a + (n + 1 : Nat) := by omega
    rw [e3] at ih
    have o1 := slack_one CW a
    have o2 := slack_one CV a
    by_cases c1 : cov W a
    · have := o1.1 c1; have := o2.1 (h a c1); omega
    · have := o1.2 c1
      by_cases c2 : cov V a
      · have := o2.1 c2; omega
      · have := o2.2 c2; omega
where
  sum_zero' {U : List Hd} (CU : Can U) (a : Int) : sumOv U a a = 0 := by
    have h2 := CU.2
    clear CU
    induction U with
    | nil => rfl
    | cons x U ih =>
      have := h2 x (by simp)
      rw [sumOv, ih fun y hy => h2 y (by simp [hy])]; omega
theorem asked_pair {l : List Hd} {a b : Int} (h : wcheck l = 0) (ha : 0 ≤ a ∧ a ≤ 1000000) (hb : 0 ≤ b ∧ b ≤ 1000000) : asked l [a, b] = 0 := by
  have b1 : badT a = false := by simp only [badT, Bool.or_eq_false_iff, decide_eq_false_iff_not]; omega
  have b2 : badT b = false := by simp only [badT, Bool.or_eq_false_iff, decide_eq_false_iff_not]; omega
  simp [asked, h, b1, b2]
theorem slack_law (l : List Hd) (n : ByteArray) (a b c : Int) (m : Hd) (hl : Sm l.length) : Spec Try.prog 9 [.d (.sl (l.map hD)), .d (.str n), .d (.int .i64 a), .d (.int .i64 b), .d (.int .i64 c), hA m] [] (.d (.bool true)) [] := by
  have a0 := asked_ref l a b hl
  refine spec_of_ev (fn := Try.f9) DX_ok 3000 Try.func9 rfl rfl (Nat.le_of_ble_eq_true rfl) ?_
  simp (maxSteps := 4000000) -implicitDefEqProofs only [Try.f9, go_sem]
  refine ecall0 _ alive_spec (by simp only [go_sem]) (by simp only [go_sem]) ?_
  simp (maxSteps := 4000000) -implicitDefEqProofs only [go_sem, Nat.reduceAdd, Nat.reduceSub, Nat.reduceLT, Nat.reduceLeDiff, Nat.reduceEqDiff, ↓reduceIte]
  refine ecall0 _ (great_ref l hl) (by simp only [go_sem]) (by simp only [go_sem]) ?_
  simp (maxSteps := 4000000) -implicitDefEqProofs only [go_sem, Nat.reduceAdd, Nat.reduceSub, Nat.reduceLT, Nat.reduceLeDiff, Nat.reduceEqDiff, ↓reduceIte]
  cases h1 : wgreat l
  case true =>
    simp (maxSteps := 4000000) -implicitDefEqProofs only [go_sem, h1, Option.some.injEq, forall_eq', and_true, true_and, Bool.not_true, Bool.not_false, decide_true, Nat.reduceAdd, Nat.reduceSub, Nat.reduceLT, Nat.reduceLeDiff, Nat.reduceEqDiff, ↓reduceIte]
    exact wk_bool rfl
  cases h2 : decide (100 < (n.size : Int))
  case true =>
    simp (maxSteps := 4000000) -implicitDefEqProofs only [go_sem, h1, h2, Option.some.injEq, forall_eq', and_true, true_and, Bool.not_true, Bool.not_false, decide_true, Nat.reduceAdd, Nat.reduceSub, Nat.reduceLT, Nat.reduceLeDiff, Nat.reduceEqDiff, ↓reduceIte]
    exact wk_bool rfl
  simp (maxSteps := 4000000) -implicitDefEqProofs only [go_sem, h1, h2, Option.some.injEq, forall_eq', and_true, true_and, Bool.not_true, Bool.not_false, decide_true, Nat.reduceAdd, Nat.reduceSub, Nat.reduceLT, Nat.reduceLeDiff, Nat.reduceEqDiff, ↓reduceIte]
  refine ecall0 _ a0 (by simp only [go_sem]) (by simp only [go_sem]) ?_
  by_cases h3 : asked l [a, b] = 0
  case neg =>
    have d1 : (asked l [a, b] != 0) = true := by simp [h3]
    simp (maxSteps := 4000000) -implicitDefEqProofs only [go_sem, d1, Option.some.injEq, forall_eq', and_true, true_and, Bool.not_true, Bool.not_false, decide_true, Nat.reduceAdd, Nat.reduceSub, Nat.reduceLT, Nat.reduceLeDiff, Nat.reduceEqDiff, ↓reduceIte]
    exact wk_bool rfl
  have d1 : (asked l [a, b] != 0) = false := by simp [h3]
  obtain ⟨g1, g2⟩ := asked_ok h3
  have ha := g2 a (by simp)
  have hb := g2 b (by simp)
  simp (maxSteps := 4000000) -implicitDefEqProofs only [go_sem, d1, Option.some.injEq, forall_eq', and_true, true_and, Bool.not_true, Bool.not_false, decide_true, Nat.reduceAdd, Nat.reduceSub, Nat.reduceLT, Nat.reduceLeDiff, Nat.reduceEqDiff, ↓reduceIte]
  refine ecall0 _ (tick_ref c) (by simp only [go_sem]) (by simp only [go_sem]) ?_
  simp (maxSteps := 4000000) -implicitDefEqProofs only [go_sem, Nat.reduceAdd, Nat.reduceSub, Nat.reduceLT, Nat.reduceLeDiff, Nat.reduceEqDiff, ↓reduceIte]
  cases h4 : tick c
  case false =>
    simp (maxSteps := 4000000) -implicitDefEqProofs only [go_sem, h4, Option.some.injEq, forall_eq', and_true, true_and, Bool.not_true, Bool.not_false, decide_true, Nat.reduceAdd, Nat.reduceSub, Nat.reduceLT, Nat.reduceLeDiff, Nat.reduceEqDiff, ↓reduceIte]
    exact wk_bool rfl
  have hc : 0 ≤ c ∧ c ≤ 1000000 := by simpa [tick] using h4
  rcases Int.lt_or_le b a with h5 | h5
  · have d5 : decide (b < a) = true := decide_eq_true h5
    simp (maxSteps := 4000000) -implicitDefEqProofs only [go_sem, h4, d5, Option.some.injEq, forall_eq', and_true, true_and, Bool.not_true, Bool.not_false, decide_true, Nat.reduceAdd, Nat.reduceSub, Nat.reduceLT, Nat.reduceLeDiff, Nat.reduceEqDiff, ↓reduceIte]
    exact wk_bool rfl
  have d5 : decide (b < a) = false := decide_eq_false (by omega)
  rcases Int.lt_or_le c b with h6 | h6
  · have d6 : decide (c < b) = true := decide_eq_true h6
    simp (maxSteps := 4000000) -implicitDefEqProofs only [go_sem, h4, d5, d6, Option.some.injEq, forall_eq', and_true, true_and, Bool.not_true, Bool.not_false, decide_true, Nat.reduceAdd, Nat.reduceSub, Nat.reduceLT, Nat.reduceLeDiff, Nat.reduceEqDiff, ↓reduceIte]
    exact wk_bool rfl
  have d6 : decide (c < b) = false := decide_eq_false (by omega)
  have O := okw n g1
  have ol := O.len
  have C := O.can
  have hW0 : ∀ w ∈ winL l n, 0 ≤ w.fr := fun w hw => (O.bounds hw).1
  have b1 := slack_own l n a b hl
  have b2 := slack_own l n b c hl
  have b3 := slack_own l n a c hl
  have e1 : slackR l n a b = (slR (winL l n) a b, 0) := by rw [slackR, if_neg (by omega), if_neg (by omega)]
  have e2 : slackR l n b c = (slR (winL l n) b c, 0) := by rw [slackR, if_neg (by rw [asked_pair g1 hb hc]; omega), if_neg (by omega)]
  have e3 : slackR l n a c = (slR (winL l n) a c, 0) := by rw [slackR, if_neg (by rw [asked_pair g1 ha hc]; omega), if_neg (by omega)]
  rw [e1] at b1; rw [e2] at b2; rw [e3] at b3
  have sadd := slack_add C h5 h6
  have r1 := slack_range C hW0 ha.1 h5
  have r2 := slack_range C hW0 hb.1 h6
  have s1 := slack_one C a
  obtain ⟨x, hx⟩ : ∃ x, x = slR (winL l n) a b := ⟨_, rfl⟩
  obtain ⟨y, hy⟩ : ∃ x, x = slR (winL l n) b c := ⟨_, rfl⟩
  obtain ⟨z, hz⟩ : ∃ x, x = slR (winL l n) a c := ⟨_, rfl⟩
  rw [← hx] at b1 sadd r1
  rw [← hy] at b2 sadd r2
  rw [← hz] at b3 sadd
  have c0 : ((0 : Int) != 0) = false := rfl
  have w1 : IntKind.i64.wrap (x + y) = z := by rw [i64_in _ (by omega)]; exact sadd
  have c1 : (z != z) = false := by simp
  have d7 : decide (x < 0) = false := decide_eq_false (by omega)
  have w2 : IntKind.i64.wrap (b - a) = b - a := i64_in _ (by omega)
  have d8 : decide (b - a < x) = false := decide_eq_false (by omega)
  simp (maxSteps := 4000000) -implicitDefEqProofs only [go_sem, h4, d5, d6, Option.some.injEq, forall_eq', and_true, true_and, Bool.not_true, Bool.not_false, decide_true, Nat.reduceAdd, Nat.reduceSub, Nat.reduceLT, Nat.reduceLeDiff, Nat.reduceEqDiff, ↓reduceIte]
  refine ecall0 _ b1 (by simp only [go_sem]) (by simp only [go_sem]) ?_
  simp (maxSteps := 4000000) -implicitDefEqProofs only [go_sem, Nat.reduceAdd, Nat.reduceSub, Nat.reduceLT, Nat.reduceLeDiff, Nat.reduceEqDiff, ↓reduceIte]
  refine ecall0 _ b2 (by simp only [go_sem]) (by simp only [go_sem]) ?_
  simp (maxSteps := 4000000) -implicitDefEqProofs only [go_sem, Nat.reduceAdd, Nat.reduceSub, Nat.reduceLT, Nat.reduceLeDiff, Nat.reduceEqDiff, ↓reduceIte]
  refine ecall0 _ b3 (by simp only [go_sem]) (by simp only [go_sem]) ?_
  have hh := held_ref l n a hl
  obtain ⟨H, hH⟩ : ∃ H, H = held l n a := ⟨_, rfl⟩
  rw [← hH] at hh
  cases d9 : decide (a < b)
  case' false => simp (maxSteps := 4000000) -implicitDefEqProofs only [go_sem, c0, w1, c1, d7, w2, d8, d9, Option.some.injEq, forall_eq', and_true, true_and, Bool.not_true, Bool.not_false, decide_true, Nat.reduceAdd, Nat.reduceSub, Nat.reduceLT, Nat.reduceLeDiff, Nat.reduceEqDiff, ↓reduceIte]
  case' true => cases d10 : (b - a == 1)
  case' true.false => simp (maxSteps := 4000000) -implicitDefEqProofs only [go_sem, c0, w1, c1, d7, w2, d8, d9, d10, Option.some.injEq, forall_eq', and_true, true_and, Bool.not_true, Bool.not_false, decide_true, Nat.reduceAdd, Nat.reduceSub, Nat.reduceLT, Nat.reduceLeDiff, Nat.reduceEqDiff, ↓reduceIte]
  case' true.true =>
    have hba : b = a + 1 := by have : b - a = 1 := by simpa using d10
                               omega
    have hxH : ((x == 0) == H) = true := by
      cases H with
      | true =>
        have := s1.1 ((O.heldC a).1 hH.symm)
        have : x = 0 := by rw [hx, hba]; exact this
        simp [this]
      | false =>
        have := s1.2 ((O.nheld a).1 hH.symm)
        have : x = 1 := by rw [hx, hba]; exact this
        simp [this]
    simp (maxSteps := 4000000) -implicitDefEqProofs only [go_sem, c0, w1, c1, d7, w2, d8, d9, d10, Option.some.injEq, forall_eq', and_true, true_and, Bool.not_true, Bool.not_false, decide_true, Nat.reduceAdd, Nat.reduceSub, Nat.reduceLT, Nat.reduceLeDiff, Nat.reduceEqDiff, ↓reduceIte]
    refine ecall0 _ hh (by simp only [go_sem]) (by simp only [go_sem]) ?_
    simp (maxSteps := 4000000) -implicitDefEqProofs only [go_sem, hxH, Option.some.injEq, forall_eq', and_true, true_and, Bool.not_true, Bool.not_false, decide_true, Nat.reduceAdd, Nat.reduceSub, Nat.reduceLT, Nat.reduceLeDiff, Nat.reduceEqDiff, ↓reduceIte]
  all_goals
    refine DX.join (mkE 190 [(0, .d (.sl (l.map hD))), (1, .d (.str n)), (2, .d (.int .i64 a)), (4, .d (.int .i64 c)), (11, .ptr 0 0), (13, .d (.bool true)), (18, .d (.int .i64 z)), (20, .own 1)]) [.cells [.d (.str m.br), .d (.int .i64 m.fr), .d (.int .i64 m.to), .d (.str m.rs)], .row 4 ((l ++ [m]).map hD)]
      (.take 1 true (.take 3 true (.run [0, 4] (fun _ => [true, true]) fun i => if i = 0 then .run [2, 4] (fun _ => [true, true]) (fun j => .run [6 - j] (fun _ => [true, true]) fun _ => .run [5] (fun _ => [true, true]) fun _ => .take 6 false .done) else .run [0] (fun _ => [true, true]) fun _ => .run [2] (fun _ => [true, true]) fun _ => .run [5] (fun _ => [true, true]) fun _ => .take 6 false .done))) (by kernel_rfl) (by kernel_rfl) Ty.mixed ?_ ?_
    · have e3 : l.map hD ++ [[D.str m.br, D.int .i64 m.fr, D.int .i64 m.to, D.str m.rs]] = (l ++ [m]).map hD := by simp [hD]
      simp (maxSteps := 4000000) -implicitDefEqProofs only [go_sem, Nat.reduceAdd, Nat.reduceSub, Nat.reduceLT, Nat.reduceLeDiff, Nat.reduceEqDiff, ↓reduceIte]
      repeat' with_reducible apply And.intro
      all_goals first | omega | (intro e he; simp at he; subst he; rfl) | skip
      all_goals
        rw [e3]
        exact (Wk.via [0, 4] (by (simp only [go_sem, ↓reduceIte]) <;> trivial) (by simp (maxSteps := 4000000) -implicitDefEqProofs only [go_sem, Nat.reduceAdd, Nat.reduceSub, Nat.reduceLT, Nat.reduceLeDiff, Nat.reduceEqDiff, ↓reduceIte]) (by simp) (by simp) (by (simp (maxSteps := 4000000) -implicitDefEqProofs only [go_sem, Nat.reduceAdd, Nat.reduceSub, Nat.reduceLT, Nat.reduceLeDiff, Nat.reduceEqDiff, ↓reduceIte]) <;> trivial) (by simp only [go_sem]) (Nat.zero_le _) (fun i h => absurd h (Nat.not_lt_zero i)))
    obtain ⟨L, hL⟩ : ∃ L, L = l ++ [m] := ⟨_, rfl⟩
    have hLl : L.length = l.length + 1 := by rw [hL]; simp
    rw [← hL]
    have hLs : Sm L.length := by unfold Sm; omega
    simp (maxSteps := 4000000) -implicitDefEqProofs only [go_sem, Nat.reduceAdd, Nat.reduceSub, Nat.reduceLT, Nat.reduceLeDiff, Nat.reduceEqDiff, ↓reduceIte]
    refine ECall.frz 1 rfl ?_
    simp only [go_sem, ↓reduceIte]
    refine ecall0 _ (great_ref L hLs) (by simp only [go_sem]) (by simp only [go_sem]) ?_
    cases k1 : wgreat L
    case true =>
      simp (maxSteps := 4000000) -implicitDefEqProofs only [go_sem, k1, Option.some.injEq, forall_eq', and_true, true_and, Bool.not_true, Bool.not_false, decide_true, Nat.reduceAdd, Nat.reduceSub, Nat.reduceLT, Nat.reduceLeDiff, Nat.reduceEqDiff, ↓reduceIte]
      exact wk_bool rfl
    simp (maxSteps := 4000000) -implicitDefEqProofs only [go_sem, k1, Option.some.injEq, forall_eq', and_true, true_and, Bool.not_true, Bool.not_false, decide_true, Nat.reduceAdd, Nat.reduceSub, Nat.reduceLT, Nat.reduceLeDiff, Nat.reduceEqDiff, ↓reduceIte]
    refine ecall0 _ (wcheck_ref L hLs) (by simp only [go_sem]) (by simp only [go_sem]) ?_
    by_cases k2 : wcheck L = 0
    case neg =>
      have d1 : (wcheck L != 0) = true := by simp [k2]
      simp (maxSteps := 4000000) -implicitDefEqProofs only [go_sem, d1, Option.some.injEq, forall_eq', and_true, true_and, Bool.not_true, Bool.not_false, decide_true, Nat.reduceAdd, Nat.reduceSub, Nat.reduceLT, Nat.reduceLeDiff, Nat.reduceEqDiff, ↓reduceIte]
      exact wk_bool rfl
    have d1 : (wcheck L != 0) = false := by simp [k2]
    have OL := okw n k2
    have q1 := slack_own L n a c hLs
    have q2 := frozen_own L n a hLs
    have m1 : slackR L n a c = (slR (winL L n) a c, 0) := by rw [slackR, if_neg (by rw [asked_pair k2 ha hc]; omega), if_neg (by omega)]
    have ak : asked L [a] = 0 := by
      have := asked_pair k2 ha ha
      rw [asked2] at this; exact this
    have m2 : frozenR L n a = (held L n a, 0) := by rw [frozenR, if_neg (by omega)]
    have hmon : slR (winL L n) a c ≤ z := by
      have := slack_mono C OL.can (fun t ht => by
        rw [← OL.heldC t]
        rw [← O.heldC t] at ht
        rw [hL]
        simp only [held, List.any_append, Bool.or_eq_true] at ht ⊢
        exact .inl ht) (c - a).toNat a
      rw [hz]
      have e : a + ((c - a).toNat : Int) = c := by omega
      rwa [e] at this
    have hLm : held L n a = (H || held [m] n a) := by rw [hL, hH]; simp [held]
    obtain ⟨G, hG⟩ : ∃ G, G = held [m] n a := ⟨_, rfl⟩
    have q3 := held_ref [m] n a (by unfold Sm; simp)
    rw [m1] at q1
    rw [m2] at q2
    rw [hLm] at q2
    rw [← hG] at q2 q3
    have d2 : decide (slR (winL L n) a c ≤ z) = true := decide_eq_true hmon
    have c9 : ((0 : Int) == 0) = true := rfl
    simp (maxSteps := 4000000) -implicitDefEqProofs only [go_sem, d1, Option.some.injEq, forall_eq', and_true, true_and, Bool.not_true, Bool.not_false, decide_true, Nat.reduceAdd, Nat.reduceSub, Nat.reduceLT, Nat.reduceLeDiff, Nat.reduceEqDiff, ↓reduceIte]
    refine ecall0 _ q1 (by simp only [go_sem]) (by simp only [go_sem]) ?_
    simp (maxSteps := 4000000) -implicitDefEqProofs only [go_sem, Nat.reduceAdd, Nat.reduceSub, Nat.reduceLT, Nat.reduceLeDiff, Nat.reduceEqDiff, ↓reduceIte]
    refine ecall0 _ q2 (by simp only [go_sem]) (by simp only [go_sem]) ?_
    simp (maxSteps := 4000000) -implicitDefEqProofs only [go_sem, c9, d2, Option.some.injEq, forall_eq', and_true, true_and, Bool.not_true, Bool.not_false, decide_true, Nat.reduceAdd, Nat.reduceSub, Nat.reduceLT, Nat.reduceLeDiff, Nat.reduceEqDiff, ↓reduceIte]
    refine ecall0 _ hh (by simp only [go_sem]) (by simp only [go_sem]) ?_
    cases H with
    | true =>
      have c10 : (true == (true || G)) = true := by simp
      simp only [Bool.true_or]
      simp (maxSteps := 4000000) -implicitDefEqProofs only [go_sem, Nat.reduceAdd, Nat.reduceSub, Nat.reduceLT, Nat.reduceLeDiff, Nat.reduceEqDiff, ↓reduceIte]
      exact wk_bool rfl
    | false =>
      simp only [Bool.false_or]
      simp (maxSteps := 4000000) -implicitDefEqProofs only [go_sem, Nat.reduceAdd, Nat.reduceSub, Nat.reduceLT, Nat.reduceLeDiff, Nat.reduceEqDiff, ↓reduceIte]
      try refine ⟨by omega, ?_⟩
      refine ECall.dat (by simp only [go_sem]; rfl) (by rfl) ?_
      refine ecall0 _ q3 (by simp only [go_sem]) (by simp only [go_sem]) ?_
      have c10 : (G == G) = true := by simp
      simp (maxSteps := 4000000) -implicitDefEqProofs only [go_sem, c10, Option.some.injEq, forall_eq', and_true, true_and, Bool.not_true, Bool.not_false, decide_true, Nat.reduceAdd, Nat.reduceSub, Nat.reduceLT, Nat.reduceLeDiff, Nat.reduceEqDiff, ↓reduceIte]
      exact wk_bool rfl
end Go.AX.Wn
namespace Go.Proofs.Ytnmgmlmiijljmaa
open Go.AX Go.AX.Wn Go.RowKit
set_option maxRecDepth 100000 in
theorem windowSlack_lifted (os : Os) (started : os.Started) (H : Type) (enc : TypeId × Value → H) :
    ReturnsInHanded {} Try.checked os 9 .any (Rows.windowSlackSpec.pre6 enc Try.prog Try.f9 Rows.windowSlackRow.domain false) (Rows.windowSlackSpec.post enc Try.prog Try.f9 false true false false) := by
  refine Go.AX.lifted (C := Try.checked) (f := 9) (fn := Try.f9) (s := Rows.windowSlackSpec) (rt := 4) (n := 8) (by kernel_rfl) (by kernel_rfl) Try.func9 rfl ?_ rfl (by kernel_rfl) (by kernel_rfl) (by kernel_rfl) (by kernel_rfl) os started H enc
    (ChangeSpec.witness6 (enc := enc) (C := Try.checked) false ⟨#[], #[.slice none 0 0, .string ByteArray.empty, .int .i64 0, .int .i64 0, .int .i64 0, .agg #[.string ByteArray.empty, .int .i64 0, .int .i64 0, .string ByteArray.empty]], []⟩ 8 (by kernel_rfl) (by kernel_rfl) (by kernel_rfl) (by kernel_rfl)) ?_
  · intro H ds h
    match ds, h with
    | [a0, a1, a2, a3, a4, a5], _ => rfl
  · intro xs hx
    have hp : Try.f9.params.toList = [22, 9, 3, 3, 3, 53] := rfl
    rw [hp] at hx ⊢
    have i0 : isA Try.prog 22 = false := by kernel_rfl
    have i1 : isA Try.prog 9 = false := by kernel_rfl
    have i2 : isA Try.prog 3 = false := by kernel_rfl
    have i3 : isA Try.prog 3 = false := by kernel_rfl
    have i4 : isA Try.prog 3 = false := by kernel_rfl
    have i5 : isA Try.prog 53 = true := by kernel_rfl
    rcases xs with _ | ⟨d0, _ | ⟨d1, _ | ⟨d2, _ | ⟨d3, _ | ⟨d4, _ | ⟨d5, _ | ⟨d6, xs⟩⟩⟩⟩⟩⟩⟩ <;> simp only [Tyds, and_false] at hx
    obtain ⟨k0, k1, k2, k3, k4, k5, _⟩ := hx
    obtain ⟨l, rfl, hl, wl⟩ := holds_of k0
    obtain ⟨n, rfl, hn⟩ := str_of k1
    obtain ⟨a, rfl, ha⟩ := int_of k2
    obtain ⟨b, rfl, hb⟩ := int_of k3
    obtain ⟨c, rfl, hc⟩ := int_of k4
    obtain ⟨m, rfl, hm⟩ := hold_of k5
    simp only [avs, i0, i1, i2, i3, i4, i5, dv, Bool.false_eq_true, if_false, if_true, List.headD_cons, List.map_cons, List.map_nil]
    exact slack_law l n a b c m hl
theorem windowSlack_over : Rows.windowSlackRow.holds Try.pinned (OpenSpec.ofChange Rows.windowSlackSpec) :=
  OpenClaim.holds_of_wide 9 Try.f9 rfl rfl rfl rfl rfl rfl rfl ⟨rfl, rfl, rfl, rfl, rfl⟩ rfl rfl rfl rfl rfl (by kernel_rfl) Try.func9 (by kernel_rfl)
    (of_decide_eq_true (by kernel_rfl)) (by unfold Func.isWrapper; first | (rw [if_pos (by decide +kernel)]; kernel_rfl) | (rw [if_neg (by decide +kernel)]; exact ⟨rfl, rfl⟩))
    (fun os started H enc _ => windowSlack_lifted os started H enc)
/-- The row, under a short name, for the claim. -/
theorem windowSlack_holds : Rows.WindowSlackSaid := windowSlack_over
#print axioms windowSlack_holds
end Go.Proofs.Ytnmgmlmiijljmaa

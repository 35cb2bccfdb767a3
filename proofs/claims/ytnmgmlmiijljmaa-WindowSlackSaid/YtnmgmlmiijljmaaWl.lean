/- WindowOrder: the law returns true. No condition but the law's own guard. -/
import Derived.Test.YtnmgmlmiijljmaaWk
set_option maxHeartbeats 8000000
set_option linter.unusedVariables false
set_option linter.unusedSimpArgs false
set_option maxRecDepth 20000
namespace Go.AX.Wn
open Go.Proofs Go.RowKit Go.IntWalk Go.AX.Br
def iv (w : Hd) : Int × Int := (w.fr, w.to)
theorem head_le {v : Hd} {V : List Hd} (C : Can (v :: V)) {y : Hd} (hy : y ∈ v :: V) : v.fr ≤ y.fr := by
  rcases List.mem_cons.1 hy with rfl | hy
  · exact Int.le_refl _
  · have := (List.pairwise_cons.1 C.1).1 y hy
    have := C.2 v (by simp)
    omega
theorem can_tail {w : Hd} {W : List Hd} (C : Can (w :: W)) : Can W := ⟨(List.pairwise_cons.1 C.1).2, fun x hx => C.2 x (by simp [hx])⟩
theorem cov_tail {w : Hd} {W : List Hd} (C : Can (w :: W)) (t : Int) : cov W t ↔ cov (w :: W) t ∧ w.to ≤ t := by
  constructor
  · rintro ⟨x, hx, h1, h2⟩
    have := (List.pairwise_cons.1 C.1).1 x hx
    exact ⟨⟨x, by simp [hx], h1, h2⟩, by omega⟩
  · rintro ⟨⟨x, hx, h1, h2⟩, h3⟩
    rcases List.mem_cons.1 hx with rfl | hx
    · omega
    · exact ⟨x, hx, h1, h2⟩
theorem uniq : ∀ (W V : List Hd), Can W → Can V → (∀ t, cov W t ↔ cov V t) → W.map iv = V.map iv
  | [], [], _, _, _ => rfl
  | [], v :: V, _, C, h => by
    obtain ⟨x, hx, _⟩ := (h v.fr).2 ⟨v, by simp, Int.le_refl _, C.2 v (by simp)⟩
    simp at hx
  | w :: W, [], C, _, h => by
    obtain ⟨x, hx, _⟩ := (h w.fr).1 ⟨w, by simp, Int.le_refl _, C.2 w (by simp)⟩
    simp at hx
  | w :: W, v :: V, CW, CV, h => by
    have hw := CW.2 w (by simp)
    have hv := CV.2 v (by simp)
    have e1 : w.fr = v.fr := by
      obtain ⟨x, hx, h1, _⟩ := (h w.fr).1 ⟨w, by simp, Int.le_refl _, hw⟩
      obtain ⟨y, hy, h2, _⟩ := (h v.fr).2 ⟨v, by simp, Int.le_refl _, hv⟩
      have := head_le CV hx
      have := head_le CW hy
      omega
    have e2 : w.to = v.to := by
      have n1 : ¬ cov (v :: V) w.to := fun hc => CW.end_open (w := w) (by simp) ((h _).2 hc)
      have n2 : ¬ cov (w :: W) v.to := fun hc => CV.end_open (w := v) (by simp) ((h _).1 hc)
      have a1 : ¬ w.to < v.to := fun q => n1 ⟨v, by simp, by omega, q⟩
      have a2 : ¬ v.to < w.to := fun q => n2 ⟨w, by simp, by omega, q⟩
      omega
    have ih := uniq W V (can_tail CW) (can_tail CV) fun t => by rw [cov_tail CW, cov_tail CV, h t, e2]
    simp only [List.map_cons, ih, iv, e1, e2]
theorem wcheck_sub {l m : List Hd} (h : wcheck l = 0) (h1 : m.length ≤ l.length) (h2 : ∀ x ∈ m, x ∈ l) : wcheck m = 0 := by
  simp only [wcheck] at h ⊢
  split at h
  · omega
  split at h
  · omega
  · next g1 g2 =>
    have g2 : l.any wrong = false := by simpa using g2
    have g3 : m.any wrong = false := by
      rw [List.any_eq_false]
      intro x hx
      exact List.any_eq_false.1 g2 x (h2 x hx)
    rw [if_neg (by omega), g3]; rfl
theorem order_law (l : List Hd) (b : ByteArray) (hl : Sm l.length) : Spec Try.prog 6 [.d (.sl (l.map hD)), .d (.str b)] [] (.d (.bool true)) [] := by
  have a0 := wcheck_ref l hl
  refine spec_of_ev (fn := Try.f6) DX_ok 3000 Try.func6 rfl rfl (Nat.le_of_ble_eq_true rfl) ?_
  simp (maxSteps := 4000000) -implicitDefEqProofs only [Try.f6, go_sem]
  refine ecall0 _ alive_spec (by simp only [go_sem]) (by simp only [go_sem]) ?_
  simp (maxSteps := 4000000) -implicitDefEqProofs only [go_sem, Nat.reduceAdd, Nat.reduceSub, Nat.reduceLT, Nat.reduceLeDiff, Nat.reduceEqDiff, ↓reduceIte]
  refine ecall0 _ (great_ref l hl) (by simp only [go_sem]) (by simp only [go_sem]) ?_
  simp (maxSteps := 4000000) -implicitDefEqProofs only [go_sem, Nat.reduceAdd, Nat.reduceSub, Nat.reduceLT, Nat.reduceLeDiff, Nat.reduceEqDiff, ↓reduceIte]
  cases h1 : wgreat l
  case true =>
    simp (maxSteps := 4000000) -implicitDefEqProofs only [go_sem, h1, Option.some.injEq, forall_eq', and_true, true_and, Bool.not_true, Bool.not_false, decide_true, Nat.reduceAdd, Nat.reduceSub, Nat.reduceLT, Nat.reduceLeDiff, Nat.reduceEqDiff, ↓reduceIte]
    exact wk_bool rfl
  cases h2 : decide (100 < (b.size : Int))
  case true =>
    simp (maxSteps := 4000000) -implicitDefEqProofs only [go_sem, h1, h2, Option.some.injEq, forall_eq', and_true, true_and, Bool.not_true, Bool.not_false, decide_true, Nat.reduceAdd, Nat.reduceSub, Nat.reduceLT, Nat.reduceLeDiff, Nat.reduceEqDiff, ↓reduceIte]
    exact wk_bool rfl
  simp (maxSteps := 4000000) -implicitDefEqProofs only [go_sem, h1, h2, Option.some.injEq, forall_eq', and_true, true_and, Bool.not_true, Bool.not_false, decide_true, Nat.reduceAdd, Nat.reduceSub, Nat.reduceLT, Nat.reduceLeDiff, Nat.reduceEqDiff, ↓reduceIte]
  refine ecall0 _ a0 (by simp only [go_sem]) (by simp only [go_sem]) ?_
  by_cases h3 : wcheck l = 0
  case neg =>
    have d1 : (wcheck l != 0) = true := by simp [h3]
    simp (maxSteps := 4000000) -implicitDefEqProofs only [go_sem, d1, Option.some.injEq, forall_eq', and_true, true_and, Bool.not_true, Bool.not_false, decide_true, Nat.reduceAdd, Nat.reduceSub, Nat.reduceLT, Nat.reduceLeDiff, Nat.reduceEqDiff, ↓reduceIte]
    exact wk_bool rfl
  have d1 : (wcheck l != 0) = false := by simp [h3]
  have O := okw b h3
  have ol := O.len
  have w0 : IntKind.i64.wrap ((l.length : Int) - 1) = (l.length : Int) - 1 := i64_in _ (by omega)
  simp (maxSteps := 4000000) -implicitDefEqProofs only [go_sem, d1, w0, Option.some.injEq, forall_eq', and_true, true_and, Bool.not_true, Bool.not_false, decide_true, Nat.reduceAdd, Nat.reduceSub, Nat.reduceLT, Nat.reduceLeDiff, Nat.reduceEqDiff, ↓reduceIte]
  refine eloop (S := Nat) (fun j => mkE 150 [(0, .d (.sl (l.map hD))), (1, .d (.str b)), (5, .d (.bool true)), (6, .own 0), (7, .nil), (8, .d (.int .i64 ((j : Int) - 1)))]) (fun j => [.row 4 ((l.drop j).reverse.map hD)]) (fun j => j ≤ l.length) (fun j => j) l.length (Nat.le_refl _) (by
    have e0 : (l.drop l.length).reverse = [] := by simp
    rw [e0]
    exact Wk.trans (Wk.nil 6 4 rfl) (Wk.via1 0 (by (simp only [go_sem, ↓reduceIte]) <;> trivial) (by simp (maxSteps := 4000000) -implicitDefEqProofs only [go_sem, Nat.reduceAdd, Nat.reduceSub, Nat.reduceLT, Nat.reduceLeDiff, Nat.reduceEqDiff, ↓reduceIte]) (by simp) (by (simp only [go_sem]) <;> trivial) (by trivial))) ?_
  intro j hj
  cases j with
  | succ i =>
    have w1 : ((i + 1 : Nat) : Int) - 1 = (i : Int) := by omega
    have f2 : decide (0 ≤ (i : Int)) = true := decide_eq_true (by omega)
    obtain ⟨x, hx⟩ : ∃ x, l[i]? = some x := ⟨l[i]'(by omega), List.getElem?_eq_getElem _⟩
    have n1 : (0 ≤ (i : Int) ∧ (i : Int) < l.length) = True := eq_true (by omega)
    have n2 : (i < l.length) = True := eq_true (by omega)
    have w2 : IntKind.i64.wrap ((i : Int) - 1) = (i : Int) - 1 := i64_in _ (by omega)
    have e1 : (l.drop i).reverse = (l.drop (i + 1)).reverse ++ [x] := by rw [List.drop_eq_getElem_cons (by omega), (List.getElem?_eq_some_iff.1 hx).2]; simp
    have e3 : (l.drop (i + 1)).reverse.map hD ++ [[D.str x.br, D.int .i64 x.fr, D.int .i64 x.to, D.str x.rs]] = ((l.drop (i + 1)).reverse ++ [x]).map hD := by simp [hD]
    have ml : (l.drop (i + 1)).reverse.length ≤ 16 := by simp; omega
    simp (maxSteps := 4000000) -implicitDefEqProofs only [go_sem, w1, f2, n1, n2, hx, Option.some.injEq, forall_eq', and_true, true_and, Bool.not_true, Bool.not_false, decide_true, Nat.reduceAdd, Nat.reduceSub, Nat.reduceLT, Nat.reduceLeDiff, Nat.reduceEqDiff, ↓reduceIte]
    refine ⟨by omega, ⟨fun e he => by simp at he; subst he; rfl, by omega, by omega⟩, ?_⟩
    simp (maxSteps := 4000000) -implicitDefEqProofs only [go_sem, w2, Option.some.injEq, forall_eq', and_true, true_and, Bool.not_true, Bool.not_false, decide_true, Nat.reduceAdd, Nat.reduceSub, Nat.reduceLT, Nat.reduceLeDiff, Nat.reduceEqDiff, ↓reduceIte]
    rw [e3]
    exact .mk i (by omega) (by omega) (by rw [e1]; exact (Wk.via1 2 (by (simp only [go_sem, ↓reduceIte]) <;> trivial) (by simp (maxSteps := 4000000) -implicitDefEqProofs only [go_sem, Nat.reduceAdd, Nat.reduceSub, Nat.reduceLT, Nat.reduceLeDiff, Nat.reduceEqDiff, ↓reduceIte]) (by simp) (by (simp only [go_sem]) <;> trivial) (by trivial)))
  | zero =>
  have f2 : decide (0 ≤ ((0 : Nat) : Int) - 1) = false := rfl
  simp (maxSteps := 4000000) -implicitDefEqProofs only [go_sem, f2, Option.some.injEq, forall_eq', and_true, true_and, Bool.not_true, Bool.not_false, decide_true, Nat.reduceAdd, Nat.reduceSub, Nat.reduceLT, Nat.reduceLeDiff, Nat.reduceEqDiff, ↓reduceIte]
  refine eloop (S := Nat) (fun i => mkE 150 [(0, .d (.sl (l.map hD))), (1, .d (.str b)), (5, .d (.bool true)), (6, .own 0), (7, .own 1), (9, .d (.int .i64 i))]) (fun i => [.row 4 (l.reverse.map hD), .row 4 ((mine b (l.take i)).map hD)]) (fun i => i ≤ l.length) (fun i => l.length - i) 0 (by omega) (Wk.trans (Wk.nil 7 4 rfl) (Wk.via [0, 1] (by (simp only [go_sem, ↓reduceIte]) <;> trivial) (by simp (maxSteps := 4000000) -implicitDefEqProofs only [go_sem, Nat.reduceAdd, Nat.reduceSub, Nat.reduceLT, Nat.reduceLeDiff, Nat.reduceEqDiff, ↓reduceIte]) (by simp) (by simp) (by (simp (maxSteps := 4000000) -implicitDefEqProofs only [go_sem, Nat.reduceAdd, Nat.reduceSub, Nat.reduceLT, Nat.reduceLeDiff, Nat.reduceEqDiff, ↓reduceIte]) <;> trivial) (by simp only [go_sem]) (Nat.zero_le _) (fun i h => absurd h (Nat.not_lt_zero i)))) ?_
  intro i hi
  rcases Nat.lt_or_ge i l.length with h4 | h4
  · have f1 : decide ((i : Int) < l.length) = true := by simp; omega
    obtain ⟨x, hx⟩ : ∃ x, l[i]? = some x := ⟨l[i]'h4, List.getElem?_eq_getElem _⟩
    have n1 : (0 ≤ (i : Int) ∧ (i : Int) < l.length) = True := eq_true (by omega)
    have n2 : (i < l.length) = True := eq_true (by omega)
    have w1 : IntKind.i64.wrap ((i : Int) + 1) = ((i + 1 : Nat) : Int) := by rw [i64_in _ (by omega)]; simp
    have ml := mine_len b (l.take i)
    rw [List.length_take] at ml
    by_cases e1 : x.br = b
    case neg =>
      have d2 : decide (x.br = b) = false := decide_eq_false e1
      have e2 := mine_no hx e1
      simp (maxSteps := 4000000) -implicitDefEqProofs only [go_sem, f1, n1, n2, hx, d2, w1, Option.some.injEq, forall_eq', and_true, true_and, Bool.not_true, Bool.not_false, decide_true, Nat.reduceAdd, Nat.reduceSub, Nat.reduceLT, Nat.reduceLeDiff, Nat.reduceEqDiff, ↓reduceIte]
      exact .mk (i + 1) h4 (by omega) (by rw [e2]; exact (Wk.via [0, 1] (by (simp only [go_sem, ↓reduceIte]) <;> trivial) (by simp (maxSteps := 4000000) -implicitDefEqProofs only [go_sem, Nat.reduceAdd, Nat.reduceSub, Nat.reduceLT, Nat.reduceLeDiff, Nat.reduceEqDiff, ↓reduceIte]) (by simp) (by simp) (by (simp (maxSteps := 4000000) -implicitDefEqProofs only [go_sem, Nat.reduceAdd, Nat.reduceSub, Nat.reduceLT, Nat.reduceLeDiff, Nat.reduceEqDiff, ↓reduceIte]) <;> trivial) (by simp only [go_sem]) (Nat.zero_le _) (fun i h => absurd h (Nat.not_lt_zero i))))
    have d2 : decide (x.br = b) = true := decide_eq_true e1
    have e2 := mine_yes hx e1
    have e3 : (mine b (l.take i)).map hD ++ [[D.str x.br, D.int .i64 x.fr, D.int .i64 x.to, D.str x.rs]] = (mine b (l.take i) ++ [x]).map hD := by simp [hD]
    simp (maxSteps := 4000000) -implicitDefEqProofs only [go_sem, f1, n1, n2, hx, d2, Option.some.injEq, forall_eq', and_true, true_and, Bool.not_true, Bool.not_false, decide_true, Nat.reduceAdd, Nat.reduceSub, Nat.reduceLT, Nat.reduceLeDiff, Nat.reduceEqDiff, ↓reduceIte]
    refine ⟨by omega, ⟨fun e he => by simp at he; subst he; rfl, by omega, by omega⟩, ?_⟩
    simp (maxSteps := 4000000) -implicitDefEqProofs only [go_sem, w1, Option.some.injEq, forall_eq', and_true, true_and, Bool.not_true, Bool.not_false, decide_true, Nat.reduceAdd, Nat.reduceSub, Nat.reduceLT, Nat.reduceLeDiff, Nat.reduceEqDiff, ↓reduceIte]
    rw [e3]
    exact .mk (i + 1) h4 (by omega) (by rw [e2]; exact (Wk.via [0, 3] (by (simp only [go_sem, ↓reduceIte]) <;> trivial) (by simp (maxSteps := 4000000) -implicitDefEqProofs only [go_sem, Nat.reduceAdd, Nat.reduceSub, Nat.reduceLT, Nat.reduceLeDiff, Nat.reduceEqDiff, ↓reduceIte]) (by simp) (by simp) (by (simp (maxSteps := 4000000) -implicitDefEqProofs only [go_sem, Nat.reduceAdd, Nat.reduceSub, Nat.reduceLT, Nat.reduceLeDiff, Nat.reduceEqDiff, ↓reduceIte]) <;> trivial) (by simp only [go_sem]) (Nat.zero_le _) (fun i h => absurd h (Nat.not_lt_zero i))))
  have f1 : decide ((i : Int) < l.length) = false := by simp; omega
  rw [List.take_of_length_le h4]
  have hm0 : wcheck (mine b l) = 0 := wcheck_sub h3 (mine_len b l) fun x hx => (List.mem_filter.1 hx).1
  have hr0 : wcheck l.reverse = 0 := wcheck_sub h3 (by simp) fun x hx => by simpa using hx
  have OR := okw b hr0
  have b1 := windowsR_own l b hl
  have b2 := windowsR_own l.reverse b (by unfold Sm; simp; omega)
  have b3 := windowsR_own (mine b l) b (by unfold Sm; have := mine_len b l; omega)
  have e1 : windowsR l b = (winL l b, 0) := by rw [windowsR, if_neg (by omega)]
  have e2 : windowsR l.reverse b = (winL l.reverse b, 0) := by rw [windowsR, if_neg (by omega)]
  have e3 : windowsR (mine b l) b = (winL l b, 0) := by
    rw [windowsR, if_neg (by omega)]
    unfold winL mine
    rw [List.filter_filter]
    simp only [Bool.and_self]
  rw [e1] at b1; rw [e2] at b2; rw [e3] at b3
  have hu : (winL l b).map iv = (winL l.reverse b).map iv := uniq _ _ O.can OR.can fun t => by
    rw [← O.heldC t, ← OR.heldC t]
    simp [held]
  have hWbr : ∀ w ∈ winL l b, w.br = b := fun w hw => by
    obtain ⟨_, _, _, _, h, _⟩ := O.first hw
    exact h
  have wl := winL_len l b
  obtain ⟨W, hW⟩ : ∃ W, W = winL l b := ⟨_, rfl⟩
  obtain ⟨V, hV⟩ : ∃ V, V = winL l.reverse b := ⟨_, rfl⟩
  rw [← hW] at b1 b3 hu hWbr wl
  rw [← hV] at b2 hu
  have hlen : W.length = V.length := by have := congrArg List.length hu; simpa using this
  have sm := same_ref W W (by unfold Sm; omega)
  rw [show decide (W = W) = true from decide_eq_true rfl] at sm
  have c0 : ((0 : Int) != 0) = false := rfl
  have c1 : ((W.length : Int) != V.length) = false := by simp [hlen]
  simp (maxSteps := 4000000) -implicitDefEqProofs only [go_sem, f1, Option.some.injEq, forall_eq', and_true, true_and, Bool.not_true, Bool.not_false, decide_true, Nat.reduceAdd, Nat.reduceSub, Nat.reduceLT, Nat.reduceLeDiff, Nat.reduceEqDiff, ↓reduceIte]
  refine ecall0 _ b1 (by simp only [go_sem]) (by simp only [go_sem]) ?_
  simp (maxSteps := 4000000) -implicitDefEqProofs only [go_sem, Nat.reduceAdd, Nat.reduceSub, Nat.reduceLT, Nat.reduceLeDiff, Nat.reduceEqDiff, ↓reduceIte]
  refine ECall.dat (by simp only [go_sem]; rfl) (by rfl) ?_
  refine ecall0 _ b2 (by simp only [go_sem]) (by simp only [go_sem]) ?_
  simp (maxSteps := 4000000) -implicitDefEqProofs only [go_sem, Nat.reduceAdd, Nat.reduceSub, Nat.reduceLT, Nat.reduceLeDiff, Nat.reduceEqDiff, ↓reduceIte]
  refine ECall.dat (by simp only [go_sem]; rfl) (by rfl) ?_
  refine ecall0 _ b3 (by simp only [go_sem]) (by simp only [go_sem]) ?_
  simp (maxSteps := 4000000) -implicitDefEqProofs only [go_sem, c0, c1, Option.some.injEq, forall_eq', and_true, true_and, Bool.not_true, Bool.not_false, decide_true, Nat.reduceAdd, Nat.reduceSub, Nat.reduceLT, Nat.reduceLeDiff, Nat.reduceEqDiff, ↓reduceIte]
  refine ecall0 _ sm (by simp only [go_sem]) (by simp only [go_sem]) ?_
  simp (maxSteps := 4000000) -implicitDefEqProofs only [go_sem, Nat.reduceAdd, Nat.reduceSub, Nat.reduceLT, Nat.reduceLeDiff, Nat.reduceEqDiff, ↓reduceIte]
  refine eloop (S := Nat) (fun i => mkE 150 [(1, .d (.str b)), (5, .d (.bool true)), (10, .d (.sl (W.map hD))), (12, .d (.sl (V.map hD))), (16, .d (.int .i64 i))]) (fun i => []) (fun i => i ≤ W.length) (fun i => W.length - i) 0 (by omega) (Wk.forget (by (simp only [go_sem]) <;> trivial) (by simp only [go_sem])) ?_
  clear hi h4 f1 i
  intro i hi
  rcases Nat.lt_or_ge i W.length with h4 | h4
  · have f1 : decide ((i : Int) < W.length) = true := by simp; omega
    obtain ⟨x, hx⟩ : ∃ x, W[i]? = some x := ⟨W[i]'h4, List.getElem?_eq_getElem _⟩
    obtain ⟨y, hy⟩ : ∃ x, V[i]? = some x := ⟨V[i]'(by omega), List.getElem?_eq_getElem _⟩
    have n1 : (0 ≤ (i : Int) ∧ (i : Int) < W.length) = True := eq_true (by omega)
    have n2 : (i < W.length) = True := eq_true (by omega)
    have n3 : (0 ≤ (i : Int) ∧ (i : Int) < V.length) = True := eq_true (by omega)
    have n4 : (i < V.length) = True := eq_true (by omega)
    have w1 : IntKind.i64.wrap ((i : Int) + 1) = ((i + 1 : Nat) : Int) := by rw [i64_in _ (by omega)]; simp
    have hxy : iv x = iv y := by
      have := congrArg (fun z => z[i]?) hu
      simp only [List.getElem?_map, hx, hy, Option.map_some, Option.some.injEq] at this
      exact this
    simp only [iv, Prod.mk.injEq] at hxy
    have g1 : (x.fr != y.fr) = false := by simp [hxy.1]
    have g2 : (x.to != y.to) = false := by simp [hxy.2]
    have g3 : decide (x.br = b) = true := decide_eq_true (hWbr x (List.mem_of_getElem? hx))
    simp (maxSteps := 4000000) -implicitDefEqProofs only [go_sem, f1, Option.some.injEq, forall_eq', and_true, true_and, Bool.not_true, Bool.not_false, decide_true, Nat.reduceAdd, Nat.reduceSub, Nat.reduceLT, Nat.reduceLeDiff, Nat.reduceEqDiff, ↓reduceIte]
    refine DX.plain (.take 0 false (.take 1 false (.take 2 false (.take 3 false (.take 4 false (.take 5 false (.take 6 false (.take 7 false (.take 8 false (.take 9 false (.take 10 false (.take 11 false (.take 12 false (.take 13 false (.take 14 false (.take 15 false (.take 16 false (.take 17 false (.take 18 false (.take 19 false (.take 20 false (.take 21 false (.take 22 false (.take 23 false (.take 24 false (.take 25 false (.take 26 false (.take 27 false (.take 28 false (.take 29 false (.take 30 false (.take 31 false (.take 32 false .done))))))))))))))))))))))))))))))))) (by kernel_rfl) (by kernel_rfl) Ty.mixed ?_
    simp (maxSteps := 4000000) -implicitDefEqProofs only [go_sem, n1, n2, n3, n4, hx, hy, g1, g2, g3, w1, Option.some.injEq, forall_eq', and_true, true_and, Bool.not_true, Bool.not_false, decide_true, Nat.reduceAdd, Nat.reduceSub, Nat.reduceLT, Nat.reduceLeDiff, Nat.reduceEqDiff, ↓reduceIte]
    exact .mk (i + 1) h4 (by omega) (Wk.forget (by (simp only [go_sem]) <;> trivial) (by simp only [go_sem]))
  have f1 : decide ((i : Int) < W.length) = false := by simp; omega
  simp (maxSteps := 4000000) -implicitDefEqProofs only [go_sem, f1, Option.some.injEq, forall_eq', and_true, true_and, Bool.not_true, Bool.not_false, decide_true, Nat.reduceAdd, Nat.reduceSub, Nat.reduceLT, Nat.reduceLeDiff, Nat.reduceEqDiff, ↓reduceIte]
  exact wk_bool rfl
end Go.AX.Wn
namespace Go.Proofs.Ytnmgmlmiijljmaa
open Go.AX Go.AX.Wn Go.RowKit
set_option maxRecDepth 100000 in
theorem windowOrder_lifted (os : Os) (started : os.Started) (H : Type) (enc : TypeId × Value → H) :
    ReturnsInHanded {} Try.checked os 6 .any (Rows.windowOrderSpec.pre6 enc Try.prog Try.f6 Rows.windowOrderRow.domain false) (Rows.windowOrderSpec.post enc Try.prog Try.f6 false true false false) := by
  refine Go.AX.lifted (C := Try.checked) (f := 6) (fn := Try.f6) (s := Rows.windowOrderSpec) (rt := 4) (n := 8) (by kernel_rfl) (by kernel_rfl) Try.func6 rfl ?_ rfl (by kernel_rfl) (by kernel_rfl) (by kernel_rfl) (by kernel_rfl) os started H enc
    (ChangeSpec.witness6 (enc := enc) (C := Try.checked) false ⟨#[], #[.slice none 0 0, .string ByteArray.empty], []⟩ 8 (by kernel_rfl) (by kernel_rfl) (by kernel_rfl) (by kernel_rfl)) ?_
  · intro H ds h
    match ds, h with
    | [a0, a1], _ => rfl
  · intro xs hx
    have hp : Try.f6.params.toList = [22, 9] := rfl
    rw [hp] at hx ⊢
    have i0 : isA Try.prog 22 = false := by kernel_rfl
    have i1 : isA Try.prog 9 = false := by kernel_rfl
    rcases xs with _ | ⟨d0, _ | ⟨d1, _ | ⟨d2, xs⟩⟩⟩ <;> simp only [Tyds, and_false] at hx
    obtain ⟨k0, k1, _⟩ := hx
    obtain ⟨l, rfl, hl, wl⟩ := holds_of k0
    obtain ⟨b, rfl, hb⟩ := str_of k1
    simp only [avs, i0, i1, dv, Bool.false_eq_true, if_false, if_true, List.headD_cons, List.map_cons, List.map_nil]
    exact order_law l b hl
theorem windowOrder_over : Rows.windowOrderRow.holds Try.pinned (OpenSpec.ofChange Rows.windowOrderSpec) :=
  OpenClaim.holds_of_wide 6 Try.f6 rfl rfl rfl rfl rfl rfl rfl ⟨rfl, rfl, rfl, rfl, rfl⟩ rfl rfl rfl rfl rfl (by kernel_rfl) Try.func6 (by kernel_rfl)
    (of_decide_eq_true (by kernel_rfl)) (by unfold Func.isWrapper; first | (rw [if_pos (by decide +kernel)]; kernel_rfl) | (rw [if_neg (by decide +kernel)]; exact ⟨rfl, rfl⟩))
    (fun os started H enc _ => windowOrder_lifted os started H enc)
/-- The row, under a short name, for the claim. -/
theorem windowOrder_holds : Rows.WindowOrderSaid := windowOrder_over
#print axioms windowOrder_holds
end Go.Proofs.Ytnmgmlmiijljmaa

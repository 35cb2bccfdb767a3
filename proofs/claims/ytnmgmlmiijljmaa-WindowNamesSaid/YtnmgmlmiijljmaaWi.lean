/- Windows: the reference's windows, slack, fit, next. -/
import Derived.Test.YtnmgmlmiijljmaaWh
set_option maxHeartbeats 8000000
set_option linter.unusedVariables false
set_option linter.unusedSimpArgs false
set_option maxRecDepth 20000
namespace Go.AX.Wn
open Go.Proofs Go.RowKit Go.IntWalk Go.AX.Br
def rsn (b : ByteArray) (t : Int) (l : List Hd) : ByteArray := match l.find? (holds b t) with
  | some h => h.rs
  | none => ByteArray.empty
theorem windows_ref (l : List Hd) (b : ByteArray) (O : Okw l b) : Spec Try.prog 40 [.d (.sl (l.map hD)), .d (.str b)] [] (.d (.sl ((winL l b).map hD))) [] := by
  have ol := O.len
  have hl : Sm l.length := by unfold Sm; omega
  have wl := winL_len l b
  have C := O.can
  obtain ⟨W, hW⟩ : ∃ W, W = winL l b := ⟨_, rfl⟩
  have hWb : ∀ w ∈ W, 0 ≤ w.fr ∧ w.fr < w.to ∧ w.to ≤ 1000000 := fun w hw => O.bounds (by rw [← hW]; exact hw)
  have hWf : ∀ w ∈ W, w.br = b ∧ rsn b w.fr l = w.rs := fun w hw => by
    obtain ⟨h, h1, h2, h3, h4, h5, h6⟩ := O.first (w := w) (by rw [← hW]; exact hw)
    refine ⟨h4, ?_⟩
    have h5 : l.find? (holds b w.fr) = some h := h5
    rw [rsn, h5]; exact h6
  have sz := stop_ref l b 0 O (by omega)
  rw [← hW] at sz C wl ⊢
  rw [stop_zero C fun w hw => (hWb w hw).1] at sz
  refine spec_of_ev (fn := Try.f40) DX_ok 3000 Try.func40 rfl rfl (Nat.le_of_ble_eq_true rfl) ?_
  simp (maxSteps := 4000000) -implicitDefEqProofs only [Try.f40, go_sem]
  refine ecall0 _ sz (by simp only [go_sem]) (by simp only [go_sem]) ?_
  simp (maxSteps := 4000000) -implicitDefEqProofs only [go_sem, Nat.reduceAdd, Nat.reduceSub, Nat.reduceLT, Nat.reduceLeDiff, Nat.reduceEqDiff, ↓reduceIte]
  refine eloop (S := Nat) (fun k => mkE 52 [(0, .d (.sl (l.map hD))), (1, .d (.str b)), (5, .own 0), (6, .d (.int .i64 (atK W k)))]) (fun k => [.row 4 ((W.take k).map hD)]) (fun k => k ≤ W.length) (fun k => W.length - k) 0 (by omega) (Wk.trans (Wk.nil 5 4 rfl) (Wk.via1 0 (by (simp only [go_sem, ↓reduceIte]) <;> trivial) (by simp (maxSteps := 4000000) -implicitDefEqProofs only [go_sem, Nat.reduceAdd, Nat.reduceSub, Nat.reduceLT, Nat.reduceLeDiff, Nat.reduceEqDiff, ↓reduceIte]) (by simp) (by (simp only [go_sem]) <;> trivial) (by trivial))) ?_
  intro k hk
  rcases Nat.lt_or_ge k W.length with h2 | h2
  case inr =>
    have e : atK W k = 1000001 := by rw [atK, List.getElem?_eq_none h2]
    have f1 : decide ((1000001 : Int) ≤ 1000000) = false := rfl
    simp (maxSteps := 4000000) -implicitDefEqProofs only [go_sem, e, f1, Option.some.injEq, forall_eq', and_true, true_and, Bool.not_true, Bool.not_false, decide_true, Nat.reduceAdd, Nat.reduceSub, Nat.reduceLT, Nat.reduceLeDiff, Nat.reduceEqDiff, ↓reduceIte]
    rw [List.take_of_length_le h2]
    exact wk_dat (r' := .d (.sl (W.map hD))) (by simp only [go_sem]; rfl) rfl trivial
  obtain ⟨w, hw⟩ : ∃ x, W[k]? = some x := ⟨W[k]'h2, List.getElem?_eq_getElem _⟩
  have hwm := List.mem_of_getElem? hw
  have wb := hWb w hwm
  obtain ⟨wbr, wrs⟩ := hWf w hwm
  have e : atK W k = w.fr := by rw [atK, hw]
  have f1 : decide (w.fr ≤ 1000000) = true := decide_eq_true (by omega)
  have nx := next1_ref l b w.fr O (by omega)
  have en : nextW W w.fr = w.to := by
    unfold nextW
    rw [look_at C hwm (Int.le_refl _) wb.2.1]
    simp
  rw [← hW, en] at nx
  have sn := stop_ref l b w.to O (by omega)
  rw [← hW, stop_next C hw] at sn
  have w0 : IntKind.i64.wrap ((l.length : Int) - 1) = (l.length : Int) - 1 := i64_in _ (by omega)
  have e2 : W.take (k + 1) = W.take k ++ [w] := by rw [List.take_add_one, hw]; rfl
  have e3 : (W.take k).map hD ++ [[D.str b, D.int .i64 w.fr, D.int .i64 w.to, D.str w.rs]] = (W.take k ++ [w]).map hD := by simp [hD, wbr]
  have wtl : (W.take k).length = k := by simp; omega
  simp (maxSteps := 4000000) -implicitDefEqProofs only [go_sem, e, f1, Option.some.injEq, forall_eq', and_true, true_and, Bool.not_true, Bool.not_false, decide_true, Nat.reduceAdd, Nat.reduceSub, Nat.reduceLT, Nat.reduceLeDiff, Nat.reduceEqDiff, ↓reduceIte]
  refine ecall0 _ nx (by simp only [go_sem]) (by simp only [go_sem]) ?_
  simp (maxSteps := 4000000) -implicitDefEqProofs only [go_sem, w0, Option.some.injEq, forall_eq', and_true, true_and, Bool.not_true, Bool.not_false, decide_true, Nat.reduceAdd, Nat.reduceSub, Nat.reduceLT, Nat.reduceLeDiff, Nat.reduceEqDiff, ↓reduceIte]
  refine eloop (S := Nat) (fun j => mkE 52 [(0, .d (.sl (l.map hD))), (1, .d (.str b)), (5, .own 0), (6, .d (.int .i64 w.fr)), (7, .ptr 1 0), (8, .d (.int .i64 ((j : Int) - 1)))]) (fun j => [.row 4 ((W.take k).map hD), .cells [.d (.str b), .d (.int .i64 w.fr), .d (.int .i64 w.to), .d (.str (rsn b w.fr (l.drop j)))]]) (fun j => j ≤ l.length) (fun j => j) l.length (Nat.le_refl _) ?_ ?_
  · have e0 : rsn b w.fr (l.drop l.length) = ByteArray.empty := by simp [rsn]
    rw [e0]
    exact (Wk.via [0, 1] (by (simp only [go_sem, ↓reduceIte]) <;> trivial) (by simp (maxSteps := 4000000) -implicitDefEqProofs only [go_sem, Nat.reduceAdd, Nat.reduceSub, Nat.reduceLT, Nat.reduceLeDiff, Nat.reduceEqDiff, ↓reduceIte]) (by simp) (by simp) (by (simp (maxSteps := 4000000) -implicitDefEqProofs only [go_sem, Nat.reduceAdd, Nat.reduceSub, Nat.reduceLT, Nat.reduceLeDiff, Nat.reduceEqDiff, ↓reduceIte]) <;> trivial) (by simp only [go_sem]) (Nat.zero_le _) (fun i h => absurd h (Nat.not_lt_zero i)))
  intro j hj
  cases j with
  | zero =>
    have f2 : decide (0 ≤ ((0 : Nat) : Int) - 1) = false := rfl
    simp (maxSteps := 4000000) -implicitDefEqProofs only [go_sem, f2, Option.some.injEq, forall_eq', and_true, true_and, Bool.not_true, Bool.not_false, decide_true, Nat.reduceAdd, Nat.reduceSub, Nat.reduceLT, Nat.reduceLeDiff, Nat.reduceEqDiff, ↓reduceIte]
    rw [wrs]
    refine ⟨by omega, ⟨fun e he => by simp at he; subst he; rfl, by omega, by omega⟩, ?_⟩
    refine ecall0 _ sn (by simp only [go_sem]) (by simp only [go_sem]) ?_
    simp (maxSteps := 4000000) -implicitDefEqProofs only [go_sem, Nat.reduceAdd, Nat.reduceSub, Nat.reduceLT, Nat.reduceLeDiff, Nat.reduceEqDiff, ↓reduceIte]
    rw [e3]
    exact .mk (k + 1) (by omega) (by omega) (by rw [e2]; exact (Wk.via1 3 (by (simp only [go_sem, ↓reduceIte]) <;> trivial) (by simp (maxSteps := 4000000) -implicitDefEqProofs only [go_sem, Nat.reduceAdd, Nat.reduceSub, Nat.reduceLT, Nat.reduceLeDiff, Nat.reduceEqDiff, ↓reduceIte]) (by simp) (by (simp only [go_sem]) <;> trivial) (by trivial)))
  | succ i =>
    have w1 : ((i + 1 : Nat) : Int) - 1 = (i : Int) := by omega
    have f2 : decide (0 ≤ (i : Int)) = true := decide_eq_true (by omega)
    obtain ⟨x, hx⟩ : ∃ x, l[i]? = some x := ⟨l[i]'(by omega), List.getElem?_eq_getElem _⟩
    have n1 : (0 ≤ (i : Int) ∧ (i : Int) < l.length) = True := eq_true (by omega)
    have n2 : (i < l.length) = True := eq_true (by omega)
    have w2 : IntKind.i64.wrap ((i : Int) - 1) = (i : Int) - 1 := i64_in _ (by omega)
    have hd : l.drop i = x :: l.drop (i + 1) := by rw [List.drop_eq_getElem_cons (by omega), (List.getElem?_eq_some_iff.1 hx).2]
    have hh := holding_ref x b w.fr
    simp only [hA] at hh
    simp (maxSteps := 4000000) -implicitDefEqProofs only [go_sem, w1, f2, n1, n2, hx, Option.some.injEq, forall_eq', and_true, true_and, Bool.not_true, Bool.not_false, decide_true, Nat.reduceAdd, Nat.reduceSub, Nat.reduceLT, Nat.reduceLeDiff, Nat.reduceEqDiff, ↓reduceIte]
    refine ecall0 _ hh (by simp only [go_sem]) (by simp only [go_sem]) ?_
    cases g1 : holds b w.fr x
    case false =>
      have er : rsn b w.fr (l.drop i) = rsn b w.fr (l.drop (i + 1)) := by rw [hd]; simp [rsn, List.find?_cons, g1]
      simp (maxSteps := 4000000) -implicitDefEqProofs only [go_sem, g1, w2, Option.some.injEq, forall_eq', and_true, true_and, Bool.not_true, Bool.not_false, decide_true, Nat.reduceAdd, Nat.reduceSub, Nat.reduceLT, Nat.reduceLeDiff, Nat.reduceEqDiff, ↓reduceIte]
      exact .mk i (by omega) (by omega) (by rw [er]; exact (Wk.via [0, 1] (by (simp only [go_sem, ↓reduceIte]) <;> trivial) (by simp (maxSteps := 4000000) -implicitDefEqProofs only [go_sem, Nat.reduceAdd, Nat.reduceSub, Nat.reduceLT, Nat.reduceLeDiff, Nat.reduceEqDiff, ↓reduceIte]) (by simp) (by simp) (by (simp (maxSteps := 4000000) -implicitDefEqProofs only [go_sem, Nat.reduceAdd, Nat.reduceSub, Nat.reduceLT, Nat.reduceLeDiff, Nat.reduceEqDiff, ↓reduceIte]) <;> trivial) (by simp only [go_sem]) (Nat.zero_le _) (fun i h => absurd h (Nat.not_lt_zero i))))
    have er : rsn b w.fr (l.drop i) = x.rs := by rw [hd]; simp [rsn, List.find?_cons, g1]
    simp (maxSteps := 4000000) -implicitDefEqProofs only [go_sem, g1, n1, n2, hx, w2, Option.some.injEq, forall_eq', and_true, true_and, Bool.not_true, Bool.not_false, decide_true, Nat.reduceAdd, Nat.reduceSub, Nat.reduceLT, Nat.reduceLeDiff, Nat.reduceEqDiff, ↓reduceIte]
    exact .mk i (by omega) (by omega) (by rw [er]; exact (Wk.via [0, 1] (by (simp only [go_sem, ↓reduceIte]) <;> trivial) (by simp (maxSteps := 4000000) -implicitDefEqProofs only [go_sem, Nat.reduceAdd, Nat.reduceSub, Nat.reduceLT, Nat.reduceLeDiff, Nat.reduceEqDiff, ↓reduceIte]) (by simp) (by simp) (by (simp (maxSteps := 4000000) -implicitDefEqProofs only [go_sem, Nat.reduceAdd, Nat.reduceSub, Nat.reduceLT, Nat.reduceLeDiff, Nat.reduceEqDiff, ↓reduceIte]) <;> trivial) (by simp only [go_sem]) (Nat.zero_le _) (fun i h => absurd h (Nat.not_lt_zero i))))
theorem windowsR_ref (l : List Hd) (b : ByteArray) (hl : Sm l.length) : Spec Try.prog 21 [.d (.sl (l.map hD)), .d (.str b)] [] (.tup [.d (.sl ((windowsR l b).1.map hD)), .d (.int .i64 (windowsR l b).2)]) [] := by
  have a1 := wcheck_ref l hl
  refine spec_of_ev (fn := Try.f21) DX_ok 3000 Try.func21 rfl rfl (Nat.le_of_ble_eq_true rfl) ?_
  simp (maxSteps := 4000000) -implicitDefEqProofs only [Try.f21, go_sem]
  refine ecall0 _ a1 (by simp only [go_sem]) (by simp only [go_sem]) ?_
  by_cases h1 : wcheck l = 0
  case neg =>
    have d1 : (wcheck l != 0) = true := by simp [h1]
    have e : windowsR l b = ([], wcheck l) := by rw [windowsR, if_pos h1]
    simp (maxSteps := 4000000) -implicitDefEqProofs only [go_sem, d1, Option.some.injEq, forall_eq', and_true, true_and, Bool.not_true, Bool.not_false, decide_true, Nat.reduceAdd, Nat.reduceSub, Nat.reduceLT, Nat.reduceLeDiff, Nat.reduceEqDiff, ↓reduceIte]
    refine ecall0 _ a1 (by simp only [go_sem]) (by simp only [go_sem]) ?_
    simp (maxSteps := 4000000) -implicitDefEqProofs only [go_sem, Nat.reduceAdd, Nat.reduceSub, Nat.reduceLT, Nat.reduceLeDiff, Nat.reduceEqDiff, ↓reduceIte]
    rw [e]
    exact wk_dat (r' := .tup [.d (.sl []), .d (.int .i64 (wcheck l))]) (by simp only [go_sem]; rfl) rfl (by simp only [go_sem])
  have d1 : (wcheck l != 0) = false := by simp [h1]
  have e : windowsR l b = (winL l b, 0) := by rw [windowsR, if_neg (by omega)]
  simp (maxSteps := 4000000) -implicitDefEqProofs only [go_sem, d1, Option.some.injEq, forall_eq', and_true, true_and, Bool.not_true, Bool.not_false, decide_true, Nat.reduceAdd, Nat.reduceSub, Nat.reduceLT, Nat.reduceLeDiff, Nat.reduceEqDiff, ↓reduceIte]
  refine ecall0 _ (windows_ref l b (okw b h1)) (by simp only [go_sem]) (by simp only [go_sem]) ?_
  simp (maxSteps := 4000000) -implicitDefEqProofs only [go_sem, Nat.reduceAdd, Nat.reduceSub, Nat.reduceLT, Nat.reduceLeDiff, Nat.reduceEqDiff, ↓reduceIte]
  rw [e]
  exact wk_dat (r' := .tup [.d (.sl ((winL l b).map hD)), .d (.int .i64 0)]) (by simp only [go_sem]; rfl) rfl (by simp only [go_sem])
theorem sum_snoc {W : List Hd} {i : Nat} {w : Hd} (hw : W[i]? = some w) (f t : Int) : sumOv (W.take (i + 1)) f t = sumOv (W.take i) f t + max 0 (min t w.to - max f w.fr) := by
  rw [List.take_add_one, hw, sum_app]; simp [sumOv]
theorem sum_bound (f t : Int) (hf : 0 ≤ f) (ht : t ≤ 1000000) : ∀ W : List Hd, 0 ≤ sumOv W f t ∧ sumOv W f t ≤ W.length * 1000000
  | [] => by simp [sumOv]
  | w :: W => by
    have := sum_bound f t hf ht W
    simp only [sumOv, List.length_cons]; omega
theorem slack_ref (l : List Hd) (b : ByteArray) (f t : Int) (hl : Sm l.length) : Spec Try.prog 23 [.d (.sl (l.map hD)), .d (.str b), .d (.int .i64 f), .d (.int .i64 t)] [] (.tup [.d (.int .i64 (slackR l b f t).1), .d (.int .i64 (slackR l b f t).2)]) [] := by
  have a1 := asked_ref l f t hl
  refine spec_of_ev (fn := Try.f23) DX_ok 3000 Try.func23 rfl rfl (Nat.le_of_ble_eq_true rfl) ?_
  simp (maxSteps := 4000000) -implicitDefEqProofs only [Try.f23, go_sem]
  refine ecall0 _ a1 (by simp only [go_sem]) (by simp only [go_sem]) ?_
  by_cases h1 : asked l [f, t] = 0
  case neg =>
    have d1 : (asked l [f, t] != 0) = true := by simp [h1]
    have e : slackR l b f t = (0, asked l [f, t]) := by rw [slackR, if_pos h1]
    simp (maxSteps := 4000000) -implicitDefEqProofs only [go_sem, d1, Option.some.injEq, forall_eq', and_true, true_and, Bool.not_true, Bool.not_false, decide_true, Nat.reduceAdd, Nat.reduceSub, Nat.reduceLT, Nat.reduceLeDiff, Nat.reduceEqDiff, ↓reduceIte]
    refine ecall0 _ a1 (by simp only [go_sem]) (by simp only [go_sem]) ?_
    simp (maxSteps := 4000000) -implicitDefEqProofs only [go_sem, Nat.reduceAdd, Nat.reduceSub, Nat.reduceLT, Nat.reduceLeDiff, Nat.reduceEqDiff, ↓reduceIte]
    rw [e]
    exact wk_dat (r' := .tup [.d (.int .i64 0), .d (.int .i64 (asked l [f, t]))]) (by simp only [go_sem]; rfl) rfl (by simp only [go_sem])
  have d1 : (asked l [f, t] != 0) = false := by simp [h1]
  rcases Int.lt_or_le t f with h2 | h2
  · have d2 : decide (t < f) = true := decide_eq_true h2
    have e : slackR l b f t = (0, 2) := by rw [slackR, if_neg (by omega), if_pos h2]
    simp (maxSteps := 4000000) -implicitDefEqProofs only [go_sem, d1, d2, Option.some.injEq, forall_eq', and_true, true_and, Bool.not_true, Bool.not_false, decide_true, Nat.reduceAdd, Nat.reduceSub, Nat.reduceLT, Nat.reduceLeDiff, Nat.reduceEqDiff, ↓reduceIte]
    rw [e]
    exact wk_dat (r' := .tup [.d (.int .i64 0), .d (.int .i64 2)]) (by simp only [go_sem]; rfl) rfl (by simp only [go_sem])
  have d2 : decide (t < f) = false := decide_eq_false (by omega)
  have e : slackR l b f t = (slR (winL l b) f t, 0) := by rw [slackR, if_neg (by omega), if_neg (by omega)]
  obtain ⟨g1, g2⟩ := asked_ok h1
  have hf := g2 f (by simp)
  have ht := g2 t (by simp)
  have O := okw b g1
  have wl := winL_len l b
  have ol := O.len
  have w0 : IntKind.i64.wrap (t - f) = t - f := i64_in _ (by omega)
  obtain ⟨W, hW⟩ : ∃ W, W = winL l b := ⟨_, rfl⟩
  have hwr := windows_ref l b O
  have hWb : ∀ w ∈ W, 0 ≤ w.fr ∧ w.fr < w.to ∧ w.to ≤ 1000000 := fun w hw => O.bounds (by rw [← hW]; exact hw)
  rw [← hW] at e hwr wl
  simp (maxSteps := 4000000) -implicitDefEqProofs only [go_sem, d1, d2, w0, Option.some.injEq, forall_eq', and_true, true_and, Bool.not_true, Bool.not_false, decide_true, Nat.reduceAdd, Nat.reduceSub, Nat.reduceLT, Nat.reduceLeDiff, Nat.reduceEqDiff, ↓reduceIte]
  refine ecall0 _ hwr (by simp only [go_sem]) (by simp only [go_sem]) ?_
  simp (maxSteps := 4000000) -implicitDefEqProofs only [go_sem, Nat.reduceAdd, Nat.reduceSub, Nat.reduceLT, Nat.reduceLeDiff, Nat.reduceEqDiff, ↓reduceIte]
  rw [e]
  refine eloop (S := Nat) (fun i => mkE 56 [(2, .d (.int .i64 f)), (3, .d (.int .i64 t)), (10, .d (.int .i64 (t - f - sumOv (W.take i) f t))), (11, .d (.sl (W.map hD))), (12, .d (.int .i64 i))]) (fun _ => []) (fun i => i ≤ W.length) (fun i => W.length - i) 0 (by omega) (by
    have e0 : t - f - sumOv (W.take 0) f t = t - f := by simp [sumOv]
    rw [e0]; exact (Wk.forget (by (simp only [go_sem]) <;> trivial) (by simp only [go_sem]))) ?_
  intro i hi
  rcases Nat.lt_or_ge i W.length with h3 | h3
  case inr =>
    have f1 : decide ((i : Int) < W.length) = false := by simp; omega
    simp (maxSteps := 4000000) -implicitDefEqProofs only [go_sem, f1, Option.some.injEq, forall_eq', and_true, true_and, Bool.not_true, Bool.not_false, decide_true, Nat.reduceAdd, Nat.reduceSub, Nat.reduceLT, Nat.reduceLeDiff, Nat.reduceEqDiff, ↓reduceIte]
    rw [List.take_of_length_le h3]
    exact wk_dat (r' := .tup [.d (.int .i64 (slR W f t)), .d (.int .i64 0)]) (by simp only [go_sem, slR]; rfl) rfl (by simp only [go_sem])
  have f1 : decide ((i : Int) < W.length) = true := by simp; omega
  obtain ⟨w, hw⟩ : ∃ x, W[i]? = some x := ⟨W[i]'h3, List.getElem?_eq_getElem _⟩
  have wb := hWb w (List.mem_of_getElem? hw)
  have n1 : (0 ≤ (i : Int) ∧ (i : Int) < W.length) = True := eq_true (by omega)
  have n2 : (i < W.length) = True := eq_true (by omega)
  have w1 : IntKind.i64.wrap ((i : Int) + 1) = ((i + 1 : Nat) : Int) := by rw [i64_in _ (by omega)]; simp
  have ss := sum_snoc hw f t
  have sb := sum_bound f t hf.1 ht.2 (W.take i)
  rw [List.length_take] at sb
  obtain ⟨n, hn⟩ : ∃ n, n = t - f - sumOv (W.take i) f t := ⟨_, rfl⟩
  have hn2 : t - f - sumOv (W.take (i + 1)) f t = n - max 0 (min t w.to - max f w.fr) := by rw [ss, hn]; omega
  rw [← hn]
  have m1 : (if w.to < t then w.to else t) = min t w.to := by split <;> omega
  have m2 : (if f < w.fr then w.fr else f) = max f w.fr := by split <;> omega
  have m3 : (if (0 : Int) < min t w.to - max f w.fr then min t w.to - max f w.fr else 0) = max 0 (min t w.to - max f w.fr) := by split <;> omega
  have w2 : IntKind.i64.wrap (min t w.to - max f w.fr) = min t w.to - max f w.fr := i64_in _ (by omega)
  have w3 : IntKind.i64.wrap (n - max 0 (min t w.to - max f w.fr)) = n - max 0 (min t w.to - max f w.fr) := i64_in _ (by omega)
  simp (maxSteps := 4000000) -implicitDefEqProofs only [go_sem, f1, Option.some.injEq, forall_eq', and_true, true_and, Bool.not_true, Bool.not_false, decide_true, Nat.reduceAdd, Nat.reduceSub, Nat.reduceLT, Nat.reduceLeDiff, Nat.reduceEqDiff, ↓reduceIte]
  refine DX.plain (.take 0 false (.take 1 false (.take 2 false (.take 3 false (.take 4 false (.take 5 false (.take 6 false (.take 7 false (.take 8 false (.take 9 false (.take 10 false (.take 11 false (.take 12 false (.take 13 false (.take 14 false (.take 15 false (.take 16 false (.take 17 false (.run [18] (fun _ => []) fun _ => .done))))))))))))))))))) (by kernel_rfl) (by kernel_rfl) Ty.mixed ?_
  simp (maxSteps := 4000000) -implicitDefEqProofs only [go_sem, n1, n2, hw, m1, m2, m3, w2, w3, w1, Option.some.injEq, forall_eq', and_true, true_and, Bool.not_true, Bool.not_false, decide_true, Nat.reduceAdd, Nat.reduceSub, Nat.reduceLT, Nat.reduceLeDiff, Nat.reduceEqDiff, ↓reduceIte]
  rw [← hn2]
  exact .mk (i + 1) h3 (by omega) (Wk.forget (by (simp only [go_sem]) <;> trivial) (by simp only [go_sem]))
theorem fit_ref (l : List Hd) (b : ByteArray) (t n : Int) (hl : Sm l.length) : Spec Try.prog 25 [.d (.sl (l.map hD)), .d (.str b), .d (.int .i64 t), .d (.int .i64 n)] [] (.tup [.d (.int .i64 (fitRR l b t n).1), .d (.int .i64 (fitRR l b t n).2)]) [] := by
  have a1 := asked_ref l t t hl
  rw [asked2] at a1
  refine spec_of_ev (fn := Try.f25) DX_ok 3000 Try.func25 rfl rfl (Nat.le_of_ble_eq_true rfl) ?_
  simp (maxSteps := 4000000) -implicitDefEqProofs only [Try.f25, go_sem]
  refine ecall0 _ a1 (by simp only [go_sem]) (by simp only [go_sem]) ?_
  by_cases h1 : asked l [t] = 0
  case neg =>
    have d1 : (asked l [t] != 0) = true := by simp [h1]
    have e : fitRR l b t n = (0, asked l [t]) := by rw [fitRR, if_pos h1]
    simp (maxSteps := 4000000) -implicitDefEqProofs only [go_sem, d1, Option.some.injEq, forall_eq', and_true, true_and, Bool.not_true, Bool.not_false, decide_true, Nat.reduceAdd, Nat.reduceSub, Nat.reduceLT, Nat.reduceLeDiff, Nat.reduceEqDiff, ↓reduceIte]
    refine ecall0 _ a1 (by simp only [go_sem]) (by simp only [go_sem]) ?_
    simp (maxSteps := 4000000) -implicitDefEqProofs only [go_sem, Nat.reduceAdd, Nat.reduceSub, Nat.reduceLT, Nat.reduceLeDiff, Nat.reduceEqDiff, ↓reduceIte]
    rw [e]
    exact wk_dat (r' := .tup [.d (.int .i64 0), .d (.int .i64 (asked l [t]))]) (by simp only [go_sem]; rfl) rfl (by simp only [go_sem])
  have d1 : (asked l [t] != 0) = false := by simp [h1]
  rcases Int.lt_or_le n 1 with h2 | h2
  · have d2 : decide (n < 1) = true := decide_eq_true h2
    have e : fitRR l b t n = (0, 2) := by rw [fitRR, if_neg (by omega), if_pos h2]
    simp (maxSteps := 4000000) -implicitDefEqProofs only [go_sem, d1, d2, Option.some.injEq, forall_eq', and_true, true_and, Bool.not_true, Bool.not_false, decide_true, Nat.reduceAdd, Nat.reduceSub, Nat.reduceLT, Nat.reduceLeDiff, Nat.reduceEqDiff, ↓reduceIte]
    rw [e]
    exact wk_dat (r' := .tup [.d (.int .i64 0), .d (.int .i64 2)]) (by simp only [go_sem]; rfl) rfl (by simp only [go_sem])
  have d2 : decide (n < 1) = false := decide_eq_false (by omega)
  have e : fitRR l b t n = fitR (winL l b) t n := by rw [fitRR, if_neg (by omega), if_neg (by omega)]
  obtain ⟨g1, g2⟩ := asked_ok h1
  have ht := g2 t (by simp)
  have O := okw b g1
  have wl := winL_len l b
  have ol := O.len
  have nx := next1_ref l b t O ht
  obtain ⟨W, hW⟩ : ∃ W, W = winL l b := ⟨_, rfl⟩
  have C := O.can
  have hWb : ∀ w ∈ W, 0 ≤ w.fr ∧ w.fr < w.to ∧ w.to ≤ 1000000 := fun w hw => O.bounds (by rw [← hW]; exact hw)
  rw [← hW] at e nx C wl
  -- the next open tick
  have nk : ∀ s, 0 ≤ s → s ≤ 1000000 → 0 ≤ nextW W s ∧ nextW W s ≤ 1000000 ∧ ¬ cov W (nextW W s) ∧ fitR W (nextW W s) n = fitR W s n := fun s s1 s2 => by
    unfold nextW
    cases h : look W s with
    | none => exact ⟨s1, s2, none_cov h, rfl⟩
    | some w =>
      obtain ⟨_, _, _, _, q, _, _, _, hm⟩ := look_some C h
      have := hWb w hm
      simp only
      split
      · next hw => exact ⟨by omega, by omega, C.end_open hm, (fit_held C h hw).symm⟩
      · next hw => exact ⟨s1, s2, fun hc => hw ((look_cov C h).1 hc), rfl⟩
  simp (maxSteps := 4000000) -implicitDefEqProofs only [go_sem, d1, d2, Option.some.injEq, forall_eq', and_true, true_and, Bool.not_true, Bool.not_false, decide_true, Nat.reduceAdd, Nat.reduceSub, Nat.reduceLT, Nat.reduceLeDiff, Nat.reduceEqDiff, ↓reduceIte]
  refine ecall0 _ nx (by simp only [go_sem]) (by simp only [go_sem]) ?_
  simp (maxSteps := 4000000) -implicitDefEqProofs only [go_sem, Nat.reduceAdd, Nat.reduceSub, Nat.reduceLT, Nat.reduceLeDiff, Nat.reduceEqDiff, ↓reduceIte]
  rw [e]
  obtain ⟨F, hF⟩ : ∃ F, F = fitR W t n := ⟨_, rfl⟩
  rw [← hF]
  obtain ⟨p1, p2, p3, p4⟩ := nk t ht.1 ht.2
  refine eloop (S := Int) (fun s => mkE 47 [(0, .d (.sl (l.map hD))), (1, .d (.str b)), (3, .d (.int .i64 n)), (10, .d (.int .i64 s))]) (fun _ => []) (fun s => 0 ≤ s ∧ s ≤ 1000000 ∧ ¬ cov W s ∧ fitR W s n = F) (fun s => (late W s).length) (nextW W t) ⟨p1, p2, p3, by rw [p4, hF]⟩ (Wk.forget (by (simp only [go_sem]) <;> trivial) (by simp only [go_sem])) ?_
  intro s hs
  obtain ⟨s1, s2, s3, s4⟩ := hs
  have st := stop_ref l b s O (by omega)
  rw [← hW] at st
  refine ?_
  cases hlk : look W s with
  | none =>
    have es : stopW W s = 1000001 := by rw [stopW, hlk]
    have fe := fit_end (n := n) hlk
    rw [s4] at fe
    rw [es] at st
    have w1 : IntKind.i64.wrap ((1000001 : Int) - s) = 1000001 - s := i64_in _ (by omega)
    simp (maxSteps := 4000000) -implicitDefEqProofs only [go_sem, Nat.reduceAdd, Nat.reduceSub, Nat.reduceLT, Nat.reduceLeDiff, Nat.reduceEqDiff, ↓reduceIte]
    refine ecall0 _ st (by simp only [go_sem]) (by simp only [go_sem]) ?_
    rcases Int.lt_or_le (1000001 - s) n with q | q
    · have d3 : decide (1000001 - s < n) = true := decide_eq_true q
      have d4 : decide ((1000000 : Int) < 1000001) = true := rfl
      rw [if_neg (by omega)] at fe
      subst fe
      simp (maxSteps := 4000000) -implicitDefEqProofs only [go_sem, w1, d3, Option.some.injEq, forall_eq', and_true, true_and, Bool.not_true, Bool.not_false, decide_true, Nat.reduceAdd, Nat.reduceSub, Nat.reduceLT, Nat.reduceLeDiff, Nat.reduceEqDiff, ↓reduceIte]
      refine ecall0 _ st (by simp only [go_sem]) (by simp only [go_sem]) ?_
      simp (maxSteps := 4000000) -implicitDefEqProofs only [go_sem, d4, Option.some.injEq, forall_eq', and_true, true_and, Bool.not_true, Bool.not_false, decide_true, Nat.reduceAdd, Nat.reduceSub, Nat.reduceLT, Nat.reduceLeDiff, Nat.reduceEqDiff, ↓reduceIte]
      exact wk_dat (r' := .tup [.d (.int .i64 0), .d (.int .i64 6)]) (by simp only [go_sem]; rfl) rfl (by simp only [go_sem])
    · have d3 : decide (1000001 - s < n) = false := decide_eq_false (by omega)
      rw [if_pos q] at fe
      subst fe
      simp (maxSteps := 4000000) -implicitDefEqProofs only [go_sem, w1, d3, Option.some.injEq, forall_eq', and_true, true_and, Bool.not_true, Bool.not_false, decide_true, Nat.reduceAdd, Nat.reduceSub, Nat.reduceLT, Nat.reduceLeDiff, Nat.reduceEqDiff, ↓reduceIte]
      exact wk_dat (r' := .tup [.d (.int .i64 s), .d (.int .i64 0)]) (by simp only [go_sem]; rfl) rfl (by simp only [go_sem])
  | some w =>
    obtain ⟨_, _, _, _, q, _, _, _, hm⟩ := look_some C hlk
    have wb := hWb w hm
    have hlt : s < w.fr := by
      rcases Int.lt_or_le s w.fr with q | q
      · exact q
      · exact absurd ((look_cov C hlk).2 q) s3
    have es : stopW W s = w.fr := by rw [stopW, hlk]; simp only; omega
    rw [es] at st
    have w1 : IntKind.i64.wrap (w.fr - s) = w.fr - s := i64_in _ (by omega)
    have n2 := next1_ref l b w.fr O (by omega)
    have en : nextW W w.fr = w.to := by
      unfold nextW
      rw [look_at C hm (Int.le_refl _) wb.2.1]
      simp
    rw [← hW, en] at n2
    have lt := late_lt C hlk
    simp (maxSteps := 4000000) -implicitDefEqProofs only [go_sem, Nat.reduceAdd, Nat.reduceSub, Nat.reduceLT, Nat.reduceLeDiff, Nat.reduceEqDiff, ↓reduceIte]
    refine ecall0 _ st (by simp only [go_sem]) (by simp only [go_sem]) ?_
    rcases Int.lt_or_le (w.fr - s) n with p | p
    · have d3 : decide (w.fr - s < n) = true := decide_eq_true p
      have d4 : decide ((1000000 : Int) < w.fr) = false := decide_eq_false (by omega)
      have fn := fit_no C hlk hlt p
      simp (maxSteps := 4000000) -implicitDefEqProofs only [go_sem, w1, d3, Option.some.injEq, forall_eq', and_true, true_and, Bool.not_true, Bool.not_false, decide_true, Nat.reduceAdd, Nat.reduceSub, Nat.reduceLT, Nat.reduceLeDiff, Nat.reduceEqDiff, ↓reduceIte]
      refine ecall0 _ st (by simp only [go_sem]) (by simp only [go_sem]) ?_
      simp (maxSteps := 4000000) -implicitDefEqProofs only [go_sem, d4, Option.some.injEq, forall_eq', and_true, true_and, Bool.not_true, Bool.not_false, decide_true, Nat.reduceAdd, Nat.reduceSub, Nat.reduceLT, Nat.reduceLeDiff, Nat.reduceEqDiff, ↓reduceIte]
      refine ecall0 _ st (by simp only [go_sem]) (by simp only [go_sem]) ?_
      simp (maxSteps := 4000000) -implicitDefEqProofs only [go_sem, Nat.reduceAdd, Nat.reduceSub, Nat.reduceLT, Nat.reduceLeDiff, Nat.reduceEqDiff, ↓reduceIte]
      refine ecall0 _ n2 (by simp only [go_sem]) (by simp only [go_sem]) ?_
      simp (maxSteps := 4000000) -implicitDefEqProofs only [go_sem, Nat.reduceAdd, Nat.reduceSub, Nat.reduceLT, Nat.reduceLeDiff, Nat.reduceEqDiff, ↓reduceIte]
      exact .mk w.to ⟨by omega, by omega, C.end_open hm, by rw [← fn, s4]⟩ (by omega) (Wk.forget (by (simp only [go_sem]) <;> trivial) (by simp only [go_sem]))
    · have d3 : decide (w.fr - s < n) = false := decide_eq_false (by omega)
      have fy := fit_yes C hlk hlt p
      rw [s4] at fy
      subst fy
      simp (maxSteps := 4000000) -implicitDefEqProofs only [go_sem, w1, d3, Option.some.injEq, forall_eq', and_true, true_and, Bool.not_true, Bool.not_false, decide_true, Nat.reduceAdd, Nat.reduceSub, Nat.reduceLT, Nat.reduceLeDiff, Nat.reduceEqDiff, ↓reduceIte]
      exact wk_dat (r' := .tup [.d (.int .i64 s), .d (.int .i64 0)]) (by simp only [go_sem]; rfl) rfl (by simp only [go_sem])
/-- the next open tick is a fit of one -/
theorem fit_one {l : List Hd} {b : ByteArray} (O : Okw l b) {t : Int} (ht : 0 ≤ t ∧ t ≤ 1000000) : fitR (winL l b) t 1 = (nextW (winL l b) t, 0) := by
  have open_ : ∀ s, 0 ≤ s → s ≤ 1000000 → ¬ cov (winL l b) s → fitR (winL l b) s 1 = (s, 0) := fun s s1 s2 hc => by
    cases h : look (winL l b) s with
    | none => rw [fit_end h, if_pos (by omega)]
    | some w =>
      have : s < w.fr := by
        rcases Int.lt_or_le s w.fr with q | q
        · exact q
        · exact absurd ((look_cov O.can h).2 q) hc
      exact fit_yes O.can h this (by omega)
  unfold nextW
  cases h : look (winL l b) t with
  | none => exact open_ t ht.1 ht.2 (none_cov h)
  | some w =>
    obtain ⟨_, _, _, _, q, _, _, _, hm⟩ := look_some O.can h
    have := O.bounds hm
    simp only
    split
    · next hw => rw [fit_held O.can h hw]; exact open_ _ (by omega) (by omega) (O.can.end_open hm)
    · next hw => exact open_ t ht.1 ht.2 fun hc => hw ((look_cov O.can h).1 hc)
theorem next_ref (l : List Hd) (b : ByteArray) (t : Int) (hl : Sm l.length) : Spec Try.prog 16 [.d (.sl (l.map hD)), .d (.str b), .d (.int .i64 t)] [] (.tup [.d (.int .i64 (fitRR l b t 1).1), .d (.int .i64 (fitRR l b t 1).2)]) [] := by
  have a1 := asked_ref l t t hl
  rw [asked2] at a1
  refine spec_of_ev (fn := Try.f16) DX_ok 3000 Try.func16 rfl rfl (Nat.le_of_ble_eq_true rfl) ?_
  simp (maxSteps := 4000000) -implicitDefEqProofs only [Try.f16, go_sem]
  refine ecall0 _ a1 (by simp only [go_sem]) (by simp only [go_sem]) ?_
  by_cases h1 : asked l [t] = 0
  case neg =>
    have d1 : (asked l [t] != 0) = true := by simp [h1]
    have e : fitRR l b t 1 = (0, asked l [t]) := by rw [fitRR, if_pos h1]
    simp (maxSteps := 4000000) -implicitDefEqProofs only [go_sem, d1, Option.some.injEq, forall_eq', and_true, true_and, Bool.not_true, Bool.not_false, decide_true, Nat.reduceAdd, Nat.reduceSub, Nat.reduceLT, Nat.reduceLeDiff, Nat.reduceEqDiff, ↓reduceIte]
    refine ecall0 _ a1 (by simp only [go_sem]) (by simp only [go_sem]) ?_
    simp (maxSteps := 4000000) -implicitDefEqProofs only [go_sem, Nat.reduceAdd, Nat.reduceSub, Nat.reduceLT, Nat.reduceLeDiff, Nat.reduceEqDiff, ↓reduceIte]
    rw [e]
    exact wk_dat (r' := .tup [.d (.int .i64 0), .d (.int .i64 (asked l [t]))]) (by simp only [go_sem]; rfl) rfl (by simp only [go_sem])
  have d1 : (asked l [t] != 0) = false := by simp [h1]
  obtain ⟨g1, g2⟩ := asked_ok h1
  have ht := g2 t (by simp)
  have O := okw b g1
  have e : fitRR l b t 1 = (nextW (winL l b) t, 0) := by rw [fitRR, if_neg (by omega), if_neg (by omega), fit_one O ht]
  simp (maxSteps := 4000000) -implicitDefEqProofs only [go_sem, d1, Option.some.injEq, forall_eq', and_true, true_and, Bool.not_true, Bool.not_false, decide_true, Nat.reduceAdd, Nat.reduceSub, Nat.reduceLT, Nat.reduceLeDiff, Nat.reduceEqDiff, ↓reduceIte]
  refine ecall0 _ (next1_ref l b t O ht) (by simp only [go_sem]) (by simp only [go_sem]) ?_
  simp (maxSteps := 4000000) -implicitDefEqProofs only [go_sem, Nat.reduceAdd, Nat.reduceSub, Nat.reduceLT, Nat.reduceLeDiff, Nat.reduceEqDiff, ↓reduceIte]
  rw [e]
  exact wk_dat (r' := .tup [.d (.int .i64 (nextW (winL l b) t)), .d (.int .i64 0)]) (by simp only [go_sem]; rfl) rfl (by simp only [go_sem])
end Go.AX.Wn

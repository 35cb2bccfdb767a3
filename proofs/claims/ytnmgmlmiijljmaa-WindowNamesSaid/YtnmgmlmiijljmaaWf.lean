/- Windows: the program's functions. -/
import Derived.Test.YtnmgmlmiijljmaaWe
set_option maxHeartbeats 8000000
set_option linter.unusedVariables false
set_option linter.unusedSimpArgs false
set_option maxRecDepth 20000
namespace Go.AX.Wn
open Go.Proofs Go.RowKit Go.IntWalk Go.AX.Br
theorem find_at_idx {p : Hd → Bool} : ∀ W : List Hd, W.find? p = W[W.findIdx p]?
  | [] => rfl
  | w :: W => by
    rw [List.find?_cons, List.findIdx_cons]
    cases h : p w with
    | true => simp
    | false => simp [find_at_idx W]
theorem in_own (W : List Hd) (t : Int) (C : Can W) (hW : W.length ≤ 16) : Spec Try.prog 32 [.d (.sl (W.map hD)), .d (.int .i64 t)] [] (.tup [hA (inR W t).1, .d (.bool (inR W t).2)]) [] := by
  have a1 := search_own W t C hW
  have e1 : look W t = W[W.findIdx fun w => decide (t < w.to)]? := find_at_idx W
  obtain ⟨i, hi⟩ : ∃ i, i = W.findIdx fun w => decide (t < w.to) := ⟨_, rfl⟩
  rw [← hi] at a1 e1
  have hil : i ≤ W.length := by rw [hi]; exact List.findIdx_le_length
  refine spec_of_ev (fn := Try.f32) DX_ok 3000 Try.func32 rfl rfl (Nat.le_of_ble_eq_true rfl) ?_
  simp (maxSteps := 4000000) -implicitDefEqProofs only [Try.f32, go_sem]
  refine ecall0 _ a1 (by simp only [go_sem]) (by simp only [go_sem]) ?_
  rcases Nat.lt_or_ge i W.length with h2 | h2
  · have f1 : ((i : Int) == W.length) = false := by simp; omega
    obtain ⟨w, hw⟩ : ∃ x, W[i]? = some x := ⟨W[i]'h2, List.getElem?_eq_getElem _⟩
    have n1 : (0 ≤ (i : Int) ∧ (i : Int) < W.length) = True := eq_true (by omega)
    have n2 : (i < W.length) = True := eq_true (by omega)
    have e2 : inR W t = (w, decide (w.fr ≤ t)) := by rw [inR, e1, hw]
    simp (maxSteps := 4000000) -implicitDefEqProofs only [go_sem, f1, Option.some.injEq, forall_eq', and_true, true_and, Bool.not_true, Bool.not_false, decide_true, Nat.reduceAdd, Nat.reduceSub, Nat.reduceLT, Nat.reduceLeDiff, Nat.reduceEqDiff, ↓reduceIte]
    refine DX.plain (.take 0 false (.take 1 false (.take 2 false (.take 3 false (.take 4 true (.take 5 true (.take 6 true (.take 7 true (.take 8 true (.take 9 true (.take 10 true (.run [11] (fun _ => [true, true, true, true, true, true, true]) fun _ => (.run [12] (fun _ => [false, false, false, false, false, false, false]) fun _ => .done))))))))))))) (by kernel_rfl) (by kernel_rfl) Ty.mixed ?_
    simp (maxSteps := 4000000) -implicitDefEqProofs only [go_sem, n1, n2, hw, Option.some.injEq, forall_eq', and_true, true_and, Bool.not_true, Bool.not_false, decide_true, Nat.reduceAdd, Nat.reduceSub, Nat.reduceLT, Nat.reduceLeDiff, Nat.reduceEqDiff, ↓reduceIte]
    refine ⟨⟨hD w, by rw [List.getElem?_map, hw]; rfl, rfl, rfl⟩, ?_⟩
    rw [e2]
    exact wk_dat (r' := .tup [hA w, .d (.bool (decide (w.fr ≤ t)))]) (by simp only [go_sem]; rfl) rfl (by simp only [go_sem])
  · have f1 : ((i : Int) == W.length) = true := by simp; omega
    have e2 : inR W t = (endH, false) := by rw [inR, e1, List.getElem?_eq_none h2]
    simp (maxSteps := 4000000) -implicitDefEqProofs only [go_sem, f1, Option.some.injEq, forall_eq', and_true, true_and, Bool.not_true, Bool.not_false, decide_true, Nat.reduceAdd, Nat.reduceSub, Nat.reduceLT, Nat.reduceLeDiff, Nat.reduceEqDiff, ↓reduceIte]
    rw [e2]
    exact wk_dat (r' := .tup [hA endH, .d (.bool false)]) (by simp only [go_sem, endH]; rfl) rfl (by simp only [go_sem])
def frozenR (l : List Hd) (b : ByteArray) (t : Int) : Bool × Int := if asked l [t] ≠ 0 then (false, asked l [t]) else (held l b t, 0)
def whyL (b : ByteArray) (t : Int) (l : List Hd) : List ByteArray := (l.filter (holds b t)).map (·.rs)
def whyR (l : List Hd) (b : ByteArray) (t : Int) : List ByteArray × Int := if asked l [t] ≠ 0 then ([], asked l [t]) else (whyL b t l, 0)
def fitRR (l : List Hd) (b : ByteArray) (t n : Int) : Int × Int := if asked l [t] ≠ 0 then (0, asked l [t]) else if n < 1 then (0, 2) else fitR (winL l b) t n
def slackR (l : List Hd) (b : ByteArray) (f t : Int) : Int × Int := if asked l [f, t] ≠ 0 then (0, asked l [f, t]) else if t < f then (0, 2) else (slR (winL l b) f t, 0)
def windowsR (l : List Hd) (b : ByteArray) : List Hd × Int := if wcheck l ≠ 0 then ([], wcheck l) else (winL l b, 0)
theorem asked_ok {l : List Hd} {ts : List Int} (h : asked l ts = 0) : wcheck l = 0 ∧ ∀ t ∈ ts, 0 ≤ t ∧ t ≤ 1000000 := by
  unfold asked at h
  split at h
  · omega
  · next h1 =>
    split at h
    · omega
    · next h2 =>
      refine ⟨by omega, fun t ht => ?_⟩
      have h2 : ts.any badT = false := by simpa using h2
      have := List.any_eq_false.1 h2 t ht
      simp only [badT, Bool.or_eq_true, decide_eq_true_eq, not_or] at this
      omega
theorem frozen_own (l : List Hd) (b : ByteArray) (t : Int) (hl : Sm l.length) : Spec Try.prog 11 [.d (.sl (l.map hD)), .d (.str b), .d (.int .i64 t)] [] (.tup [.d (.bool (frozenR l b t).1), .d (.int .i64 (frozenR l b t).2)]) [] := by
  have a1 := asked_own l [t] hl (by unfold Sm; simp)
  simp only [List.map_cons, List.map_nil, iD] at a1
  refine spec_of_ev (fn := Try.f11) DX_ok 3000 Try.func11 rfl rfl (Nat.le_of_ble_eq_true rfl) ?_
  simp (maxSteps := 4000000) -implicitDefEqProofs only [Try.f11, go_sem]
  simp (maxSteps := 4000000) -implicitDefEqProofs only [go_sem, Nat.reduceAdd, Nat.reduceSub, Nat.reduceLT, Nat.reduceLeDiff, Nat.reduceEqDiff, ↓reduceIte]
  try refine ⟨by omega, ?_⟩
  refine ECall.dat (by simp only [go_sem]; rfl) (by rfl) ?_
  refine ecall0 _ a1 (by simp only [go_sem]) (by simp only [go_sem]) ?_
  by_cases h1 : asked l [t] = 0
  case neg =>
    have d1 : (asked l [t] != 0) = true := by simp [h1]
    have e : frozenR l b t = (false, asked l [t]) := by rw [frozenR, if_pos h1]
    simp (maxSteps := 4000000) -implicitDefEqProofs only [go_sem, d1, Option.some.injEq, forall_eq', and_true, true_and, Bool.not_true, Bool.not_false, decide_true, Nat.reduceAdd, Nat.reduceSub, Nat.reduceLT, Nat.reduceLeDiff, Nat.reduceEqDiff, ↓reduceIte]
    rw [e]
    exact wk_dat (r' := .tup [.d (.bool false), .d (.int .i64 (asked l [t]))]) (by simp only [go_sem]; rfl) rfl (by simp only [go_sem])
  have d1 : (asked l [t] != 0) = false := by simp [h1]
  have O := okw b (asked_ok h1).1
  have wl := winL_len l b
  have ol := O.len
  have e : frozenR l b t = ((inR (winL l b) t).2, 0) := by
    rw [frozenR, if_neg (by omega)]
    congr 1
    rw [Bool.eq_iff_iff, in_cov O.can, O.heldC]
  simp (maxSteps := 4000000) -implicitDefEqProofs only [go_sem, d1, Option.some.injEq, forall_eq', and_true, true_and, Bool.not_true, Bool.not_false, decide_true, Nat.reduceAdd, Nat.reduceSub, Nat.reduceLT, Nat.reduceLeDiff, Nat.reduceEqDiff, ↓reduceIte]
  refine ecall0 _ (windows_own l b O) (by simp only [go_sem]) (by simp only [go_sem]) ?_
  simp (maxSteps := 4000000) -implicitDefEqProofs only [go_sem, Nat.reduceAdd, Nat.reduceSub, Nat.reduceLT, Nat.reduceLeDiff, Nat.reduceEqDiff, ↓reduceIte]
  refine ecall0 _ (in_own (winL l b) t O.can (by omega)) (by simp only [go_sem]) (by simp only [go_sem]) ?_
  simp (maxSteps := 4000000) -implicitDefEqProofs only [go_sem, Nat.reduceAdd, Nat.reduceSub, Nat.reduceLT, Nat.reduceLeDiff, Nat.reduceEqDiff, ↓reduceIte]
  rw [e]
  exact wk_dat (r' := .tup [.d (.bool (inR (winL l b) t).2), .d (.int .i64 0)]) (by simp only [go_sem]; rfl) rfl (by simp only [go_sem])
theorem windowsR_own (l : List Hd) (b : ByteArray) (hl : Sm l.length) : Spec Try.prog 20 [.d (.sl (l.map hD)), .d (.str b)] [] (.tup [.d (.sl ((windowsR l b).1.map hD)), .d (.int .i64 (windowsR l b).2)]) [] := by
  have a1 := wcheck_own l hl
  refine spec_of_ev (fn := Try.f20) DX_ok 3000 Try.func20 rfl rfl (Nat.le_of_ble_eq_true rfl) ?_
  simp (maxSteps := 4000000) -implicitDefEqProofs only [Try.f20, go_sem]
  refine ecall0 _ a1 (by simp only [go_sem]) (by simp only [go_sem]) ?_
  by_cases h1 : wcheck l = 0
  case neg =>
    have d1 : (wcheck l != 0) = true := by simp [h1]
    have e : windowsR l b = ([], wcheck l) := by rw [windowsR, if_pos h1]
    simp (maxSteps := 4000000) -implicitDefEqProofs only [go_sem, d1, Option.some.injEq, forall_eq', and_true, true_and, Bool.not_true, Bool.not_false, decide_true, Nat.reduceAdd, Nat.reduceSub, Nat.reduceLT, Nat.reduceLeDiff, Nat.reduceEqDiff, ↓reduceIte]
    rw [e]
    exact wk_dat (r' := .tup [.d (.sl []), .d (.int .i64 (wcheck l))]) (by simp only [go_sem]; rfl) rfl (by simp only [go_sem])
  have d1 : (wcheck l != 0) = false := by simp [h1]
  have e : windowsR l b = (winL l b, 0) := by rw [windowsR, if_neg (by omega)]
  simp (maxSteps := 4000000) -implicitDefEqProofs only [go_sem, d1, Option.some.injEq, forall_eq', and_true, true_and, Bool.not_true, Bool.not_false, decide_true, Nat.reduceAdd, Nat.reduceSub, Nat.reduceLT, Nat.reduceLeDiff, Nat.reduceEqDiff, ↓reduceIte]
  refine ecall0 _ (windows_own l b (okw b h1)) (by simp only [go_sem]) (by simp only [go_sem]) ?_
  simp (maxSteps := 4000000) -implicitDefEqProofs only [go_sem, Nat.reduceAdd, Nat.reduceSub, Nat.reduceLT, Nat.reduceLeDiff, Nat.reduceEqDiff, ↓reduceIte]
  rw [e]
  exact wk_dat (r' := .tup [.d (.sl ((winL l b).map hD)), .d (.int .i64 0)]) (by simp only [go_sem]; rfl) rfl (by simp only [go_sem])
theorem in_bounds {l : List Hd} {b : ByteArray} (O : Okw l b) (t : Int) : (inR (winL l b) t).1 = endH ∧ (inR (winL l b) t).2 = false ∧ look (winL l b) t = none ∨ ∃ w, look (winL l b) t = some w ∧ inR (winL l b) t = (w, decide (w.fr ≤ t)) ∧ w ∈ winL l b ∧ t < w.to := by
  unfold inR
  cases h : look (winL l b) t with
  | none => exact .inl ⟨rfl, rfl, rfl⟩
  | some w =>
    obtain ⟨_, _, _, _, q, _, _, _, hm⟩ := look_some O.can h
    exact .inr ⟨w, rfl, rfl, hm, q⟩
theorem fit_own (l : List Hd) (b : ByteArray) (t n : Int) (hl : Sm l.length) : Spec Try.prog 24 [.d (.sl (l.map hD)), .d (.str b), .d (.int .i64 t), .d (.int .i64 n)] [] (.tup [.d (.int .i64 (fitRR l b t n).1), .d (.int .i64 (fitRR l b t n).2)]) [] := by
  have a1 := asked_own l [t] hl (by unfold Sm; simp)
  simp only [List.map_cons, List.map_nil, iD] at a1
  refine spec_of_ev (fn := Try.f24) DX_ok 3000 Try.func24 rfl rfl (Nat.le_of_ble_eq_true rfl) ?_
  simp (maxSteps := 4000000) -implicitDefEqProofs only [Try.f24, go_sem]
  simp (maxSteps := 4000000) -implicitDefEqProofs only [go_sem, Nat.reduceAdd, Nat.reduceSub, Nat.reduceLT, Nat.reduceLeDiff, Nat.reduceEqDiff, ↓reduceIte]
  try refine ⟨by omega, ?_⟩
  refine ECall.dat (by simp only [go_sem]; rfl) (by rfl) ?_
  refine ecall0 _ a1 (by simp only [go_sem]) (by simp only [go_sem]) ?_
  by_cases h1 : asked l [t] = 0
  case neg =>
    have d1 : (asked l [t] != 0) = true := by simp [h1]
    have e : fitRR l b t n = (0, asked l [t]) := by rw [fitRR, if_pos h1]
    simp (maxSteps := 4000000) -implicitDefEqProofs only [go_sem, d1, Option.some.injEq, forall_eq', and_true, true_and, Bool.not_true, Bool.not_false, decide_true, Nat.reduceAdd, Nat.reduceSub, Nat.reduceLT, Nat.reduceLeDiff, Nat.reduceEqDiff, ↓reduceIte]
    rw [e]
    exact wk_dat (r' := .tup [.d (.int .i64 0), .d (.int .i64 (asked l [t]))]) (by simp only [go_sem]; rfl) rfl (by simp only [go_sem])
  have d1 : (asked l [t] != 0) = false := by simp [h1]
  rcases Int.lt_or_le n 1 with h2 | h2
  · have d2 : decide (n < 1) = true := decide_eq_true h2
    have e : fitRR l b t n = (0, 2) := by rw [fitRR, if_neg (by omega), if_pos h2]
    simp (maxSteps := 4000000) -implicitDefEqProofs only [go_sem, d1, d2, Option.some.injEq, forall_eq', and_true, true_and, Bool.not_true, Bool.not_false, decide_true, Nat.reduceAdd, Nat.reduceSub, Nat.reduceLT, Nat.reduceLeDiff, Nat.reduceEqDiff, ↓reduceIte]
    rw [e]
    exact wk_dat (r' := .tup [.d (.int .i64 0), .d (.int .i64 2)]) (by simp only [go_sem]; rfl) rfl (by simp only [go_sem])
  have d2 : decide (n < 1) = false := decide_eq_false (by omega)
  have e : fitRR l b t n = fitR (winL l b) t n := by rw [fitRR, if_neg (by omega), if_neg (by omega)]
  obtain ⟨g1, g2⟩ := asked_ok h1
  have ht := g2 t (by simp)
  have O := okw b g1
  have wl := winL_len l b
  have ol := O.len
  simp (maxSteps := 4000000) -implicitDefEqProofs only [go_sem, d1, d2, Option.some.injEq, forall_eq', and_true, true_and, Bool.not_true, Bool.not_false, decide_true, Nat.reduceAdd, Nat.reduceSub, Nat.reduceLT, Nat.reduceLeDiff, Nat.reduceEqDiff, ↓reduceIte]
  refine ecall0 _ (windows_own l b O) (by simp only [go_sem]) (by simp only [go_sem]) ?_
  simp (maxSteps := 4000000) -implicitDefEqProofs only [go_sem, Nat.reduceAdd, Nat.reduceSub, Nat.reduceLT, Nat.reduceLeDiff, Nat.reduceEqDiff, ↓reduceIte]
  rw [e]
  obtain ⟨F, hF⟩ : ∃ F, F = fitR (winL l b) t n := ⟨_, rfl⟩
  rw [← hF]
  refine eloop (S := Int) (fun s => mkE 50 [(2, .d (.int .i64 s)), (3, .d (.int .i64 n)), (11, .d (.sl ((winL l b).map hD)))]) (fun _ => []) (fun s => 0 ≤ s ∧ s ≤ 1000000 ∧ fitR (winL l b) s n = F) (fun s => 2 * (late (winL l b) s).length + 1) t ⟨ht.1, ht.2, hF.symm⟩ (Wk.forget (by (simp only [go_sem]) <;> trivial) (by simp only [go_sem])) ?_
  intro s hs
  obtain ⟨s1, s2, s3⟩ := hs
  have a2 := in_own (winL l b) s O.can (by omega)
  rcases in_bounds O s with ⟨b1, b2, b3⟩ | ⟨w, b1, b2, b3, b4⟩
  · rw [b1, b2] at a2
    have w1 : IntKind.i64.wrap ((1000001 : Int) - s) = 1000001 - s := i64_in _ (by omega)
    have fe := fit_end (n := n) b3
    rw [s3] at fe
    simp only [endH, hA] at a2
    simp (maxSteps := 4000000) -implicitDefEqProofs only [go_sem, Nat.reduceAdd, Nat.reduceSub, Nat.reduceLT, Nat.reduceLeDiff, Nat.reduceEqDiff, ↓reduceIte]
    refine ecall0 _ a2 (by simp only [go_sem]) (by simp only [go_sem]) ?_
    rcases Int.lt_or_le (1000001 - s) n with q | q
    · have d3 : decide (n ≤ 1000001 - s) = false := decide_eq_false (by omega)
      have d4 : decide ((1000000 : Int) < 1000001) = true := rfl
      rw [if_neg (by omega)] at fe
      subst fe
      simp (maxSteps := 4000000) -implicitDefEqProofs only [go_sem, w1, d3, d4, Option.some.injEq, forall_eq', and_true, true_and, Bool.not_true, Bool.not_false, decide_true, Nat.reduceAdd, Nat.reduceSub, Nat.reduceLT, Nat.reduceLeDiff, Nat.reduceEqDiff, ↓reduceIte]
      exact wk_dat (r' := .tup [.d (.int .i64 0), .d (.int .i64 6)]) (by simp only [go_sem]; rfl) rfl (by simp only [go_sem])
    · have d3 : decide (n ≤ 1000001 - s) = true := decide_eq_true q
      rw [if_pos q] at fe
      subst fe
      simp (maxSteps := 4000000) -implicitDefEqProofs only [go_sem, w1, d3, Option.some.injEq, forall_eq', and_true, true_and, Bool.not_true, Bool.not_false, decide_true, Nat.reduceAdd, Nat.reduceSub, Nat.reduceLT, Nat.reduceLeDiff, Nat.reduceEqDiff, ↓reduceIte]
      exact wk_dat (r' := .tup [.d (.int .i64 s), .d (.int .i64 0)]) (by simp only [go_sem]; rfl) rfl (by simp only [go_sem])
  · rw [b2] at a2
    have wb := O.bounds b3
    have hlt := late_lt O.can b1
    simp only [hA] at a2
    have w1 : IntKind.i64.wrap (w.fr - s) = w.fr - s := i64_in _ (by omega)
    simp (maxSteps := 4000000) -implicitDefEqProofs only [go_sem, Nat.reduceAdd, Nat.reduceSub, Nat.reduceLT, Nat.reduceLeDiff, Nat.reduceEqDiff, ↓reduceIte]
    refine ecall0 _ a2 (by simp only [go_sem]) (by simp only [go_sem]) ?_
    rcases Int.lt_or_le s w.fr with q | q
    · have d3 : decide (w.fr ≤ s) = false := decide_eq_false (by omega)
      rcases Int.lt_or_le (w.fr - s) n with p | p
      · have d4 : decide (n ≤ w.fr - s) = false := decide_eq_false (by omega)
        have d5 : decide ((1000000 : Int) < w.fr) = false := decide_eq_false (by omega)
        have fn := fit_no O.can b1 q p
        simp (maxSteps := 4000000) -implicitDefEqProofs only [go_sem, d3, w1, d4, d5, Option.some.injEq, forall_eq', and_true, true_and, Bool.not_true, Bool.not_false, decide_true, Nat.reduceAdd, Nat.reduceSub, Nat.reduceLT, Nat.reduceLeDiff, Nat.reduceEqDiff, ↓reduceIte]
        exact .mk w.to ⟨by omega, by omega, by rw [← fn, s3]⟩ (by omega) (Wk.forget (by (simp only [go_sem]) <;> trivial) (by simp only [go_sem]))
      · have d4 : decide (n ≤ w.fr - s) = true := decide_eq_true p
        have fy := fit_yes O.can b1 q p
        rw [s3] at fy
        subst fy
        simp (maxSteps := 4000000) -implicitDefEqProofs only [go_sem, d3, w1, d4, Option.some.injEq, forall_eq', and_true, true_and, Bool.not_true, Bool.not_false, decide_true, Nat.reduceAdd, Nat.reduceSub, Nat.reduceLT, Nat.reduceLeDiff, Nat.reduceEqDiff, ↓reduceIte]
        exact wk_dat (r' := .tup [.d (.int .i64 s), .d (.int .i64 0)]) (by simp only [go_sem]; rfl) rfl (by simp only [go_sem])
    · have d3 : decide (w.fr ≤ s) = true := decide_eq_true q
      have fh := fit_held (n := n) O.can b1 q
      simp (maxSteps := 4000000) -implicitDefEqProofs only [go_sem, d3, Option.some.injEq, forall_eq', and_true, true_and, Bool.not_true, Bool.not_false, decide_true, Nat.reduceAdd, Nat.reduceSub, Nat.reduceLT, Nat.reduceLeDiff, Nat.reduceEqDiff, ↓reduceIte]
      exact .mk w.to ⟨by omega, by omega, by rw [← fh, s3]⟩ (by omega) (Wk.forget (by (simp only [go_sem]) <;> trivial) (by simp only [go_sem]))
theorem next_own (l : List Hd) (b : ByteArray) (t : Int) (hl : Sm l.length) : Spec Try.prog 15 [.d (.sl (l.map hD)), .d (.str b), .d (.int .i64 t)] [] (.tup [.d (.int .i64 (fitRR l b t 1).1), .d (.int .i64 (fitRR l b t 1).2)]) [] := by
  have a1 := fit_own l b t 1 hl
  obtain ⟨F, hF⟩ : ∃ F, F = fitRR l b t 1 := ⟨_, rfl⟩
  rw [← hF] at a1 ⊢
  refine spec_of_ev (fn := Try.f15) DX_ok 3000 Try.func15 rfl rfl (Nat.le_of_ble_eq_true rfl) ?_
  simp (maxSteps := 4000000) -implicitDefEqProofs only [Try.f15, go_sem]
  refine ecall0 _ a1 (by simp only [go_sem]) (by simp only [go_sem]) ?_
  simp (maxSteps := 4000000) -implicitDefEqProofs only [go_sem, Nat.reduceAdd, Nat.reduceSub, Nat.reduceLT, Nat.reduceLeDiff, Nat.reduceEqDiff, ↓reduceIte]
  exact wk_dat (r' := .tup [.d (.int .i64 F.1), .d (.int .i64 F.2)]) (by simp only [go_sem]; rfl) rfl (by simp only [go_sem])
end Go.AX.Wn

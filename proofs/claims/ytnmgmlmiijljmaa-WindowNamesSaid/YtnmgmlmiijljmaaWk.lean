/- WindowNext: the law returns true. No condition but the law's own guard. -/
import Derived.Test.YtnmgmlmiijljmaaWj
set_option maxHeartbeats 8000000
set_option linter.unusedVariables false
set_option linter.unusedSimpArgs false
set_option maxRecDepth 20000
namespace Go.AX.Wn
open Go.Proofs Go.RowKit Go.IntWalk Go.AX.Br
def nMain : ByteArray := ⟨#[109, 97, 105, 110]⟩
def nRel : ByteArray := ⟨#[114, 101, 108, 101, 97, 115, 101]⟩
def nAud : ByteArray := ⟨#[97, 117, 100, 105, 116]⟩
def nLun : ByteArray := ⟨#[108, 117, 110, 99, 104]⟩
def exL : List Hd := [⟨nMain, 2, 5, nRel⟩, ⟨nMain, 4, 7, nAud⟩, ⟨nMain, 7, 8, nLun⟩]
theorem ex1 : whyR exL nMain 4 = ([nRel, nAud], 0) := by kernel_rfl
theorem ex2 : fitRR exL nMain 3 1 = (8, 0) := by kernel_rfl
theorem ex3 : windowsR exL nMain = ([⟨nMain, 2, 8, nRel⟩], 0) := by kernel_rfl
theorem ex4 : slackR exL nMain 0 10 = (4, 0) := by kernel_rfl
theorem ex5 : fitRR exL nMain 0 3 = (8, 0) := by kernel_rfl

theorem example_spec : Spec Try.prog 42 [] [] (.own 0) [.row 4 (exL.map hD)] := by
  refine spec_of_ev (fn := Try.f42) DX_ok 3000 Try.func42 rfl rfl (Nat.le_of_ble_eq_true rfl) ?_
  simp (maxSteps := 4000000) -implicitDefEqProofs only [Try.f42, go_sem]
  simp (maxSteps := 4000000) -implicitDefEqProofs only [go_sem, Nat.reduceAdd, Nat.reduceSub, Nat.reduceLT, Nat.reduceLeDiff, Nat.reduceEqDiff, ↓reduceIte]
  refine ⟨by omega, ?_⟩
  exact Wk.refl _ _ _
theorem alive_spec : Spec Try.prog 27 [] [] (.d (.bool true)) [] := by
  have sl : Sm exL.length := by unfold Sm; decide
  have s1 := why_own exL nMain 4 sl
  rw [ex1] at s1
  have s2 := next_own exL nMain 3 sl
  rw [ex2] at s2
  have s3 := windowsR_own exL nMain sl
  rw [ex3] at s3
  have s4 := slack_own exL nMain 0 10 sl
  rw [ex4] at s4
  have s5 := fit_own exL nMain 0 3 sl
  rw [ex5] at s5
  have s6 := texts_ref [nRel, nAud] [nRel, nAud] (by unfold Sm; decide)
  rw [show decide ([nRel, nAud] = [nRel, nAud]) = true from decide_eq_true rfl] at s6
  have s7 := same_ref [⟨nMain, 2, 8, nRel⟩] [⟨nMain, 2, 8, nRel⟩] (by unfold Sm; decide)
  rw [show decide ([(⟨nMain, 2, 8, nRel⟩ : Hd)] = [⟨nMain, 2, 8, nRel⟩]) = true from decide_eq_true rfl] at s7
  have e0 : ((0 : Int) == 0) = true := rfl
  have e8 : ((8 : Int) == 8) = true := rfl
  have e4 : ((4 : Int) == 4) = true := rfl
  refine spec_of_ev (fn := Try.f27) DX_ok 3000 Try.func27 rfl rfl (Nat.le_of_ble_eq_true rfl) ?_
  simp (maxSteps := 4000000) -implicitDefEqProofs only [Try.f27, go_sem]
  refine ecallN _ _ example_spec (by simp -implicitDefEqProofs only [go_sem]) ?_
  simp (maxSteps := 4000000) -implicitDefEqProofs only [go_sem, Nat.reduceAdd, Nat.reduceSub, Nat.reduceLT, Nat.reduceLeDiff, Nat.reduceEqDiff, ↓reduceIte]
  refine ECall.dat (by simp -implicitDefEqProofs only [go_sem]; rfl) (by rfl) ?_
  refine ecall0 _ s1 (by simp -implicitDefEqProofs only [go_sem]) (by simp -implicitDefEqProofs only [go_sem]) ?_
  simp (maxSteps := 4000000) -implicitDefEqProofs only [go_sem, Nat.reduceAdd, Nat.reduceSub, Nat.reduceLT, Nat.reduceLeDiff, Nat.reduceEqDiff, ↓reduceIte]
  refine ecallN _ _ example_spec (by simp -implicitDefEqProofs only [go_sem]) ?_
  simp (maxSteps := 4000000) -implicitDefEqProofs only [go_sem, Nat.reduceAdd, Nat.reduceSub, Nat.reduceLT, Nat.reduceLeDiff, Nat.reduceEqDiff, ↓reduceIte]
  refine ECall.dat (by simp -implicitDefEqProofs only [go_sem]; rfl) (by rfl) ?_
  refine ecall0 _ s2 (by simp -implicitDefEqProofs only [go_sem]) (by simp -implicitDefEqProofs only [go_sem]) ?_
  simp (maxSteps := 4000000) -implicitDefEqProofs only [go_sem, Nat.reduceAdd, Nat.reduceSub, Nat.reduceLT, Nat.reduceLeDiff, Nat.reduceEqDiff, ↓reduceIte]
  refine ecallN _ _ example_spec (by simp -implicitDefEqProofs only [go_sem]) ?_
  simp (maxSteps := 4000000) -implicitDefEqProofs only [go_sem, Nat.reduceAdd, Nat.reduceSub, Nat.reduceLT, Nat.reduceLeDiff, Nat.reduceEqDiff, ↓reduceIte]
  refine ECall.dat (by simp -implicitDefEqProofs only [go_sem]; rfl) (by rfl) ?_
  refine ecall0 _ s3 (by simp -implicitDefEqProofs only [go_sem]) (by simp -implicitDefEqProofs only [go_sem]) ?_
  simp (maxSteps := 4000000) -implicitDefEqProofs only [go_sem, Nat.reduceAdd, Nat.reduceSub, Nat.reduceLT, Nat.reduceLeDiff, Nat.reduceEqDiff, ↓reduceIte]
  refine ecallN _ _ example_spec (by simp -implicitDefEqProofs only [go_sem]) ?_
  simp (maxSteps := 4000000) -implicitDefEqProofs only [go_sem, Nat.reduceAdd, Nat.reduceSub, Nat.reduceLT, Nat.reduceLeDiff, Nat.reduceEqDiff, ↓reduceIte]
  refine ECall.dat (by simp -implicitDefEqProofs only [go_sem]; rfl) (by rfl) ?_
  refine ecall0 _ s4 (by simp -implicitDefEqProofs only [go_sem]) (by simp -implicitDefEqProofs only [go_sem]) ?_
  simp (maxSteps := 4000000) -implicitDefEqProofs only [go_sem, Nat.reduceAdd, Nat.reduceSub, Nat.reduceLT, Nat.reduceLeDiff, Nat.reduceEqDiff, ↓reduceIte]
  refine ecallN _ _ example_spec (by simp -implicitDefEqProofs only [go_sem]) ?_
  simp (maxSteps := 4000000) -implicitDefEqProofs only [go_sem, Nat.reduceAdd, Nat.reduceSub, Nat.reduceLT, Nat.reduceLeDiff, Nat.reduceEqDiff, ↓reduceIte]
  refine ECall.dat (by simp -implicitDefEqProofs only [go_sem]; rfl) (by rfl) ?_
  refine ecall0 _ s5 (by simp -implicitDefEqProofs only [go_sem]) (by simp -implicitDefEqProofs only [go_sem]) ?_
  simp (maxSteps := 4000000) -implicitDefEqProofs only [go_sem, e0, Option.some.injEq, forall_eq', and_true, true_and, Bool.not_true, Bool.not_false, decide_true, Nat.reduceAdd, Nat.reduceSub, Nat.reduceLT, Nat.reduceLeDiff, Nat.reduceEqDiff, ↓reduceIte]
  try refine ⟨by omega, ?_⟩
  refine ECall.dat (by simp -implicitDefEqProofs only [go_sem]; rfl) (by rfl) ?_
  refine ecall0 _ s6 (by simp -implicitDefEqProofs only [go_sem]) (by simp -implicitDefEqProofs only [go_sem]) ?_
  simp (maxSteps := 4000000) -implicitDefEqProofs only [go_sem, e0, e8, Option.some.injEq, forall_eq', and_true, true_and, Bool.not_true, Bool.not_false, decide_true, Nat.reduceAdd, Nat.reduceSub, Nat.reduceLT, Nat.reduceLeDiff, Nat.reduceEqDiff, ↓reduceIte]
  try refine ⟨by omega, ?_⟩
  refine ECall.dat (by simp -implicitDefEqProofs only [go_sem]; rfl) (by rfl) ?_
  refine ecall0 _ s7 (by simp -implicitDefEqProofs only [go_sem]) (by simp -implicitDefEqProofs only [go_sem]) ?_
  simp (maxSteps := 4000000) -implicitDefEqProofs only [go_sem, e0, e4, e8, Option.some.injEq, forall_eq', and_true, true_and, Bool.not_true, Bool.not_false, decide_true, Nat.reduceAdd, Nat.reduceSub, Nat.reduceLT, Nat.reduceLeDiff, Nat.reduceEqDiff, ↓reduceIte]
  exact wk_bool rfl

/-! ### a fit -/
theorem fitA_ok {n s e : Int} (hn : 1 ≤ n) : ∀ (B : List Hd) (t : Int), Can B → (∀ w ∈ B, w.to ≤ 1000000) → (∀ w ∈ B, t < w.to) → fitA B t n = (s, e) → (e = 6 ∧ s = 0) ∨ (e = 0 ∧ t ≤ s ∧ s + n ≤ 1000001 ∧ ∀ w ∈ B, w.to ≤ s ∨ s + n ≤ w.fr)
  | [], t, _, _, _, h => by
    simp only [fitA] at h
    split at h
    · simp only [Prod.mk.injEq] at h; exact .inr ⟨by omega, by omega, by omega, by simp⟩
    · simp only [Prod.mk.injEq] at h; exact .inl ⟨by omega, by omega⟩
  | w :: B, t, C, hb, hl, h => by
    obtain ⟨c1, c2⟩ := C
    obtain ⟨p1, p2⟩ := List.pairwise_cons.1 c1
    have hw := c2 w (by simp)
    have hwb := hb w (by simp)
    have hwl := hl w (by simp)
    have hB : ∀ x ∈ B, w.to < x.fr ∧ x.fr < x.to := fun x hx => ⟨p1 x hx, c2 x (by simp [hx])⟩
    have ih := fitA_ok (s := s) (e := e) hn B w.to ⟨p2, fun x hx => (hB x hx).2⟩ (fun x hx => hb x (by simp [hx])) (fun x hx => by have := hB x hx; omega)
    have go : fitA B w.to n = (s, e) → (e = 6 ∧ s = 0) ∨ (e = 0 ∧ t ≤ s ∧ s + n ≤ 1000001 ∧ ∀ x ∈ w :: B, x.to ≤ s ∨ s + n ≤ x.fr) := fun h => by
      rcases ih h with q | ⟨q1, q2, q3, q4⟩
      · exact .inl q
      · refine .inr ⟨q1, by omega, q3, fun x hx => ?_⟩
        rcases List.mem_cons.1 hx with rfl | hx
        · exact .inl q2
        · exact q4 x hx
    simp only [fitA] at h
    split at h
    · exact go h
    split at h
    · simp only [Prod.mk.injEq] at h
      refine .inr ⟨by omega, by omega, by omega, fun x hx => ?_⟩
      rcases List.mem_cons.1 hx with rfl | hx
      · exact .inr (by omega)
      · have := hB x hx; exact .inr (by omega)
    · exact go h
theorem late_split {W : List Hd} (C : Can W) (t : Int) : ∃ A, W = A ++ late W t ∧ (∀ a ∈ A, a.to ≤ t) ∧ (∀ x ∈ late W t, t < x.to) ∧ Can (late W t) := by
  cases h : look W t with
  | none =>
    rw [late_none h]
    exact ⟨W, by simp, look_none h, by simp, ⟨.nil, by simp⟩⟩
  | some w =>
    obtain ⟨A, B, e, a1, a2, a3, a4, a5, _⟩ := look_some C h
    have hl : late W t = w :: B := by
      unfold late
      rw [e, List.dropWhile_append_of_pos (fun a ha => by simpa using a1 a ha), List.dropWhile_cons, if_neg (by simp; omega)]
    rw [hl]
    refine ⟨A, e, a1, fun x hx => ?_, ?_⟩
    · rcases List.mem_cons.1 hx with rfl | hx
      · exact a2
      · have := a5 x hx; omega
    · have c1 := C.1
      rw [e] at c1
      exact ⟨(List.pairwise_append.1 c1).2.1, fun x hx => C.2 x (by rw [e]; simp only [List.mem_append]; exact .inr hx)⟩
theorem fit_ok {W : List Hd} (C : Can W) (hb : ∀ w ∈ W, w.to ≤ 1000000) {t n s e : Int} (hn : 1 ≤ n) (h : fitR W t n = (s, e)) : (e = 6 ∧ s = 0) ∨ (e = 0 ∧ t ≤ s ∧ s + n ≤ 1000001 ∧ ∀ w ∈ W, w.to ≤ s ∨ s + n ≤ w.fr) := by
  obtain ⟨A, e1, a1, a2, a3⟩ := late_split C t
  rcases fitA_ok hn (late W t) t a3 (fun w hw => hb w (by rw [e1]; simp [hw])) a2 h with q | ⟨q1, q2, q3, q4⟩
  · exact .inl q
  · refine .inr ⟨q1, q2, q3, fun w hw => ?_⟩
    rw [e1] at hw
    rcases List.mem_append.1 hw with hw | hw
    · have := a1 w hw; exact .inl (by omega)
    · exact q4 w hw
theorem sum_none {f t : Int} : ∀ {A : List Hd}, (∀ a ∈ A, a.to ≤ f ∨ t ≤ a.fr) → sumOv A f t = 0
  | [], _ => rfl
  | a :: A, h => by
    have := h a (by simp)
    rw [sumOv, sum_none fun x hx => h x (by simp [hx])]; omega
theorem next_facts {l : List Hd} {b : ByteArray} (O : Okw l b) {s : Int} (s1 : 0 ≤ s) (s2 : s ≤ 1000000) (n : Int) : 0 ≤ nextW (winL l b) s ∧ nextW (winL l b) s ≤ 1000000 ∧ ¬ cov (winL l b) (nextW (winL l b) s) ∧ fitR (winL l b) (nextW (winL l b) s) n = fitR (winL l b) s n := by
  unfold nextW
  cases h : look (winL l b) s with
  | none => exact ⟨s1, s2, none_cov h, rfl⟩
  | some w =>
    obtain ⟨_, _, _, _, q, _, _, _, hm⟩ := look_some O.can h
    have := O.bounds hm
    simp only
    split
    · next hw => exact ⟨by omega, by omega, O.can.end_open hm, (fit_held O.can h hw).symm⟩
    · next hw => exact ⟨s1, s2, fun hc => hw ((look_cov O.can h).1 hc), rfl⟩
theorem next_law (l : List Hd) (b : ByteArray) (t r : Int) (hl : Sm l.length) : Spec Try.prog 5 [.d (.sl (l.map hD)), .d (.str b), .d (.int .i64 t), .d (.int .i64 r)] [] (.d (.bool true)) [] := by
  have a0 := asked_ref l t t hl
  rw [asked2] at a0
  refine spec_of_ev (fn := Try.f5) DX_ok 3000 Try.func5 rfl rfl (Nat.le_of_ble_eq_true rfl) ?_
  simp (maxSteps := 4000000) -implicitDefEqProofs only [Try.f5, go_sem]
  refine ecall0 _ alive_spec (by simp only [go_sem]) (by simp only [go_sem]) ?_
  simp (maxSteps := 4000000) -implicitDefEqProofs only [go_sem, Nat.reduceAdd, Nat.reduceSub, Nat.reduceLT, Nat.reduceLeDiff, Nat.reduceEqDiff, ↓reduceIte]
  refine ecall0 _ (great_ref l hl) (by simp only [go_sem]) (by simp only [go_sem]) ?_
  simp (maxSteps := 4000000) -implicitDefEqProofs only [go_sem, Nat.reduceAdd, Nat.reduceSub, Nat.reduceLT, Nat.reduceLeDiff, Nat.reduceEqDiff, ↓reduceIte]
  cases h1 : wgreat l
  case true =>
    simp (maxSteps := 4000000) -implicitDefEqProofs only [go_sem, h1, Option.some.injEq, forall_eq', and_true, true_and, Bool.not_true, Bool.not_false, decide_true, Nat.reduceAdd, Nat.reduceSub, Nat.reduceLT, Nat.reduceLeDiff, Nat.reduceEqDiff, ↓reduceIte]
    exact wk_bool rfl
  cases h2 : decide (100 < (b.size : Int))
  case true =>
    simp (maxSteps := 4000000) -implicitDefEqProofs only [go_sem, h1, h2, Option.some.injEq, forall_eq', and_true, true_and, Bool.not_true, Bool.not_false, decide_true, Nat.reduceAdd, Nat.reduceSub, Nat.reduceLT, Nat.reduceLeDiff, Nat.reduceEqDiff, ↓reduceIte]
    exact wk_bool rfl
  simp (maxSteps := 4000000) -implicitDefEqProofs only [go_sem, h1, h2, Option.some.injEq, forall_eq', and_true, true_and, Bool.not_true, Bool.not_false, decide_true, Nat.reduceAdd, Nat.reduceSub, Nat.reduceLT, Nat.reduceLeDiff, Nat.reduceEqDiff, ↓reduceIte]
  refine ecall0 _ a0 (by simp only [go_sem]) (by simp only [go_sem]) ?_
  by_cases h3 : asked l [t] = 0
  case neg =>
    have d1 : (asked l [t] != 0) = true := by simp [h3]
    simp (maxSteps := 4000000) -implicitDefEqProofs only [go_sem, d1, Option.some.injEq, forall_eq', and_true, true_and, Bool.not_true, Bool.not_false, decide_true, Nat.reduceAdd, Nat.reduceSub, Nat.reduceLT, Nat.reduceLeDiff, Nat.reduceEqDiff, ↓reduceIte]
    exact wk_bool rfl
  have d1 : (asked l [t] != 0) = false := by simp [h3]
  obtain ⟨g1, g2⟩ := asked_ok h3
  have ht := g2 t (by simp)
  have O := okw b g1
  have ol := O.len
  have wl := winL_len l b
  have C := O.can
  have hWb : ∀ w ∈ winL l b, w.to ≤ 1000000 := fun w hw => (O.bounds hw).2.2
  have a1 := next_own l b t hl
  have a2 := windowsR_own l b hl
  have a3 := fit_own l b t 1 hl
  have e1 : fitRR l b t 1 = (nextW (winL l b) t, 0) := by rw [fitRR, if_neg (by omega), if_neg (by omega), fit_one O ht]
  have e2 : windowsR l b = (winL l b, 0) := by rw [windowsR, if_neg (by omega)]
  rw [e1] at a1 a3
  rw [e2] at a2
  have nf := next_facts O ht.1 ht.2 r
  have nl : nextW (winL l b) t = t ∧ (∀ (j : Nat) x, (winL l b)[j]? = some x → ¬ (x.fr ≤ t ∧ t < x.to)) ∨ ∃ x ∈ winL l b, x.fr ≤ t ∧ t < x.to ∧ nextW (winL l b) t = x.to := by
    unfold nextW
    cases h : look (winL l b) t with
    | none => exact .inl ⟨rfl, fun j x hx hc => none_cov h ⟨x, List.mem_of_getElem? hx, hc⟩⟩
    | some w =>
      obtain ⟨_, _, _, _, q, _, _, _, hm⟩ := look_some C h
      simp only
      split
      · next hw => exact .inr ⟨w, hm, hw, q, rfl⟩
      · next hw => exact .inl ⟨rfl, fun j x hx hc => hw ((look_cov C h).1 ⟨x, List.mem_of_getElem? hx, hc⟩)⟩
  have uq : ∀ x ∈ winL l b, x.fr ≤ t → t < x.to → nextW (winL l b) t = x.to := fun x hx q1 q2 => by
    unfold nextW
    rw [look_at C hx q1 q2]; simp [q1]
  obtain ⟨N, hN⟩ : ∃ N, N = nextW (winL l b) t := ⟨_, rfl⟩
  rw [← hN] at a1 a3 nf nl uq
  obtain ⟨W, hW⟩ : ∃ W, W = winL l b := ⟨_, rfl⟩
  rw [← hW] at a2 nf nl uq wl hWb
  have c0 : ((0 : Int) != 0) = false := rfl
  have cN : (N != N) = false := by simp
  simp (maxSteps := 4000000) -implicitDefEqProofs only [go_sem, d1, Option.some.injEq, forall_eq', and_true, true_and, Bool.not_true, Bool.not_false, decide_true, Nat.reduceAdd, Nat.reduceSub, Nat.reduceLT, Nat.reduceLeDiff, Nat.reduceEqDiff, ↓reduceIte]
  refine ecall0 _ a1 (by simp only [go_sem]) (by simp only [go_sem]) ?_
  simp (maxSteps := 4000000) -implicitDefEqProofs only [go_sem, Nat.reduceAdd, Nat.reduceSub, Nat.reduceLT, Nat.reduceLeDiff, Nat.reduceEqDiff, ↓reduceIte]
  refine ecall0 _ a2 (by simp only [go_sem]) (by simp only [go_sem]) ?_
  simp (maxSteps := 4000000) -implicitDefEqProofs only [go_sem, Nat.reduceAdd, Nat.reduceSub, Nat.reduceLT, Nat.reduceLeDiff, Nat.reduceEqDiff, ↓reduceIte]
  refine ecall0 _ a3 (by simp only [go_sem]) (by simp only [go_sem]) ?_
  simp (maxSteps := 4000000) -implicitDefEqProofs only [go_sem, c0, cN, Option.some.injEq, forall_eq', and_true, true_and, Bool.not_true, Bool.not_false, decide_true, Nat.reduceAdd, Nat.reduceSub, Nat.reduceLT, Nat.reduceLeDiff, Nat.reduceEqDiff, ↓reduceIte]
  refine eloop (S := Nat × Int) (fun s => mkE 176 [(0, .d (.sl (l.map hD))), (1, .d (.str b)), (2, .d (.int .i64 t)), (3, .d (.int .i64 r)), (9, .d (.bool true)), (10, .d (.int .i64 N)), (12, .d (.sl (W.map hD))), (16, .d (.int .i64 s.2)), (17, .d (.int .i64 s.1))]) (fun _ => []) (fun s => s.1 ≤ W.length ∧ ((s.2 = t ∧ ∀ j x, W[j]? = some x → j < s.1 → ¬ (x.fr ≤ t ∧ t < x.to)) ∨ s.2 = N)) (fun s => W.length - s.1) (0, t) ⟨by simp, .inl ⟨rfl, by simp⟩⟩ (Wk.forget (by (simp only [go_sem]) <;> trivial) (by simp only [go_sem])) ?_
  intro s hs
  obtain ⟨s1, s2⟩ := hs
  rcases Nat.lt_or_ge s.1 W.length with h4 | h4
  · have f1 : decide ((s.1 : Int) < W.length) = true := by simp; omega
    obtain ⟨x, hx⟩ : ∃ x, W[s.1]? = some x := ⟨W[s.1]'h4, List.getElem?_eq_getElem _⟩
    have hxm := List.mem_of_getElem? hx
    have n1 : (0 ≤ (s.1 : Int) ∧ (s.1 : Int) < W.length) = True := eq_true (by omega)
    have n2 : (s.1 < W.length) = True := eq_true (by omega)
    have w1 : IntKind.i64.wrap ((s.1 : Int) + 1) = ((s.1 + 1 : Nat) : Int) := by rw [i64_in _ (by omega)]; simp
    have pass : ¬ (x.fr ≤ t ∧ t < x.to) → ((s.2 = t ∧ ∀ j x, W[j]? = some x → j < s.1 + 1 → ¬ (x.fr ≤ t ∧ t < x.to)) ∨ s.2 = N) := fun h => by
      rcases s2 with ⟨p1, p2⟩ | p
      · exact .inl ⟨p1, upto_succ hx h p2⟩
      · exact .inr p
    cases g1 : decide (x.fr ≤ t)
    case false =>
      simp (maxSteps := 4000000) -implicitDefEqProofs only [go_sem, f1, n1, n2, hx, g1, w1, Option.some.injEq, forall_eq', and_true, true_and, Bool.not_true, Bool.not_false, decide_true, Nat.reduceAdd, Nat.reduceSub, Nat.reduceLT, Nat.reduceLeDiff, Nat.reduceEqDiff, ↓reduceIte]
      exact .mk (s.1 + 1, s.2) ⟨by simp only; omega, pass fun h => by simp [h.1] at g1⟩ (by simp only; omega) (Wk.forget (by (simp only [go_sem]) <;> trivial) (by simp only [go_sem]))
    cases g3 : decide (t < x.to)
    case false =>
      simp (maxSteps := 4000000) -implicitDefEqProofs only [go_sem, f1, n1, n2, hx, g1, g3, w1, Option.some.injEq, forall_eq', and_true, true_and, Bool.not_true, Bool.not_false, decide_true, Nat.reduceAdd, Nat.reduceSub, Nat.reduceLT, Nat.reduceLeDiff, Nat.reduceEqDiff, ↓reduceIte]
      exact .mk (s.1 + 1, s.2) ⟨by simp only; omega, pass fun h => by simp [h.2] at g3⟩ (by simp only; omega) (Wk.forget (by (simp only [go_sem]) <;> trivial) (by simp only [go_sem]))
    simp (maxSteps := 4000000) -implicitDefEqProofs only [go_sem, f1, n1, n2, hx, g1, g3, w1, Option.some.injEq, forall_eq', and_true, true_and, Bool.not_true, Bool.not_false, decide_true, Nat.reduceAdd, Nat.reduceSub, Nat.reduceLT, Nat.reduceLeDiff, Nat.reduceEqDiff, ↓reduceIte]
    exact .mk (s.1 + 1, x.to) ⟨by simp only; omega, .inr (uq x hxm (of_decide_eq_true g1) (of_decide_eq_true g3)).symm⟩ (by simp only; omega) (Wk.forget (by (simp only [go_sem]) <;> trivial) (by simp only [go_sem]))
  have f1 : decide ((s.1 : Int) < W.length) = false := by simp; omega
  have fin : s.2 = N := by
    rcases s2 with ⟨p1, p2⟩ | p
    · rcases nl with ⟨q1, _⟩ | ⟨x, q1, q2, q3, q4⟩
      · rw [p1, q1]
      · obtain ⟨j, hj⟩ := List.mem_iff_getElem?.1 q1
        exact absurd ⟨q2, q3⟩ (p2 j x hj (by have := some_lt hj; omega))
    · exact p
  have tk : tick N = true := by simp only [tick, Bool.and_eq_true, decide_eq_true_eq]; omega
  have hd : held l b N = false := (O.nheld N).2 (by rw [← hW]; exact nf.2.2.1)
  rw [fin]
  simp (maxSteps := 4000000) -implicitDefEqProofs only [go_sem, f1, cN, Option.some.injEq, forall_eq', and_true, true_and, Bool.not_true, Bool.not_false, decide_true, Nat.reduceAdd, Nat.reduceSub, Nat.reduceLT, Nat.reduceLeDiff, Nat.reduceEqDiff, ↓reduceIte]
  refine ecall0 _ (tick_ref N) (by simp only [go_sem]) (by simp only [go_sem]) ?_
  simp (maxSteps := 4000000) -implicitDefEqProofs only [go_sem, tk, Option.some.injEq, forall_eq', and_true, true_and, Bool.not_true, Bool.not_false, decide_true, Nat.reduceAdd, Nat.reduceSub, Nat.reduceLT, Nat.reduceLeDiff, Nat.reduceEqDiff, ↓reduceIte]
  refine ecall0 _ (held_ref l b N hl) (by simp only [go_sem]) (by simp only [go_sem]) ?_
  rcases Int.lt_or_le r 1 with h5 | h5
  · have d5 : decide (r < 1) = true := decide_eq_true h5
    simp (maxSteps := 4000000) -implicitDefEqProofs only [go_sem, hd, d5, Option.some.injEq, forall_eq', and_true, true_and, Bool.not_true, Bool.not_false, decide_true, Nat.reduceAdd, Nat.reduceSub, Nat.reduceLT, Nat.reduceLeDiff, Nat.reduceEqDiff, ↓reduceIte]
    exact wk_bool rfl
  have d5 : decide (r < 1) = false := decide_eq_false (by omega)
  rcases Int.lt_or_le 1000000 r with h6 | h6
  · have d6 : decide (1000000 < r) = true := decide_eq_true h6
    simp (maxSteps := 4000000) -implicitDefEqProofs only [go_sem, hd, d5, d6, Option.some.injEq, forall_eq', and_true, true_and, Bool.not_true, Bool.not_false, decide_true, Nat.reduceAdd, Nat.reduceSub, Nat.reduceLT, Nat.reduceLeDiff, Nat.reduceEqDiff, ↓reduceIte]
    exact wk_bool rfl
  have d6 : decide (1000000 < r) = false := decide_eq_false (by omega)
  have a5 := fit_own l b t r hl
  have e5 : fitRR l b t r = fitR W t r := by rw [fitRR, if_neg (by omega), if_neg (by omega), hW]
  obtain ⟨u, e, hue⟩ : ∃ u e, fitR W t r = (u, e) := ⟨_, _, rfl⟩
  rw [e5, hue] at a5
  simp (maxSteps := 4000000) -implicitDefEqProofs only [go_sem, hd, d5, d6, Option.some.injEq, forall_eq', and_true, true_and, Bool.not_true, Bool.not_false, decide_true, Nat.reduceAdd, Nat.reduceSub, Nat.reduceLT, Nat.reduceLeDiff, Nat.reduceEqDiff, ↓reduceIte]
  refine ecall0 _ a5 (by simp only [go_sem]) (by simp only [go_sem]) ?_
  have fo := fit_ok (W := W) (t := N) (n := r) (s := u) (e := e) (by rw [hW]; exact C) hWb h5 (by rw [nf.2.2.2]; exact hue)
  rcases fo with ⟨q1, q2⟩ | ⟨q1, q2, q3, q4⟩
  · subst q1
    have c6 : ((6 : Int) != 0) = true := rfl
    have c7 : ((6 : Int) == 6) = true := rfl
    simp (maxSteps := 4000000) -implicitDefEqProofs only [go_sem, c6, c7, Option.some.injEq, forall_eq', and_true, true_and, Bool.not_true, Bool.not_false, decide_true, Nat.reduceAdd, Nat.reduceSub, Nat.reduceLT, Nat.reduceLeDiff, Nat.reduceEqDiff, ↓reduceIte]
    exact wk_bool rfl
  subst q1
  have w2 : IntKind.i64.wrap (u + r) = u + r := i64_in _ (by omega)
  have d7 : decide (u < N) = false := decide_eq_false (by omega)
  have d8 : decide (1000001 < u + r) = false := decide_eq_false (by omega)
  obtain ⟨m, hm⟩ : ∃ m, m = min (u + r) 1000000 := ⟨_, rfl⟩
  have mn : (if (1000000 : Int) < u + r then 1000000 else u + r) = m := by rw [hm]; split <;> omega
  have a6 := slack_own l b u m hl
  have ask0 : asked l [u, m] = 0 := by
    have b1 : badT u = false := by simp only [badT, Bool.or_eq_false_iff, decide_eq_false_iff_not]; omega
    have b2 : badT m = false := by simp only [badT, Bool.or_eq_false_iff, decide_eq_false_iff_not]; omega
    simp [asked, g1, b1, b2]
  have es : slackR l b u m = (m - u, 0) := by
    rw [slackR, if_neg (by omega), if_neg (by omega), slR, ← hW, sum_none fun w hw => by have := q4 w hw; omega]
    simp
  rw [es] at a6
  have w3 : IntKind.i64.wrap (m - u) = m - u := i64_in _ (by omega)
  have c8 : ((m - u : Int) == m - u) = true := by simp
  have c9 : ((0 : Int) == 0) = true := rfl
  simp (maxSteps := 4000000) -implicitDefEqProofs only [go_sem, c0, d7, w2, d8, mn, Option.some.injEq, forall_eq', and_true, true_and, Bool.not_true, Bool.not_false, decide_true, Nat.reduceAdd, Nat.reduceSub, Nat.reduceLT, Nat.reduceLeDiff, Nat.reduceEqDiff, ↓reduceIte]
  refine ecall0 _ a6 (by simp only [go_sem]) (by simp only [go_sem]) ?_
  simp (maxSteps := 4000000) -implicitDefEqProofs only [go_sem, c9, w2, mn, w3, c8, Option.some.injEq, forall_eq', and_true, true_and, Bool.not_true, Bool.not_false, decide_true, Nat.reduceAdd, Nat.reduceSub, Nat.reduceLT, Nat.reduceLeDiff, Nat.reduceEqDiff, ↓reduceIte]
  exact wk_bool rfl
end Go.AX.Wn
namespace Go.Proofs.Ytnmgmlmiijljmaa
open Go.AX Go.AX.Wn Go.RowKit
set_option maxRecDepth 100000 in
theorem windowNext_lifted (os : Os) (started : os.Started) (H : Type) (enc : TypeId × Value → H) :
    ReturnsInHanded {} Try.checked os 5 .any (Rows.windowNextSpec.pre6 enc Try.prog Try.f5 Rows.windowNextRow.domain false) (Rows.windowNextSpec.post enc Try.prog Try.f5 false true false false) := by
  refine Go.AX.lifted (C := Try.checked) (f := 5) (fn := Try.f5) (s := Rows.windowNextSpec) (rt := 4) (n := 8) (by kernel_rfl) (by kernel_rfl) Try.func5 rfl ?_ rfl (by kernel_rfl) (by kernel_rfl) (by kernel_rfl) (by kernel_rfl) os started H enc
    (ChangeSpec.witness6 (enc := enc) (C := Try.checked) false ⟨#[], #[.slice none 0 0, .string ByteArray.empty, .int .i64 0, .int .i64 0], []⟩ 8 (by kernel_rfl) (by kernel_rfl) (by kernel_rfl) (by kernel_rfl)) ?_
  · intro H ds h
    match ds, h with
    | [a0, a1, a2, a3], _ => rfl
  · intro xs hx
    have hp : Try.f5.params.toList = [22, 9, 3, 3] := rfl
    rw [hp] at hx ⊢
    have i0 : isA Try.prog 22 = false := by kernel_rfl
    have i1 : isA Try.prog 9 = false := by kernel_rfl
    have i2 : isA Try.prog 3 = false := by kernel_rfl
    have i3 : isA Try.prog 3 = false := by kernel_rfl
    rcases xs with _ | ⟨d0, _ | ⟨d1, _ | ⟨d2, _ | ⟨d3, _ | ⟨d4, xs⟩⟩⟩⟩⟩ <;> simp only [Tyds, and_false] at hx
    obtain ⟨k0, k1, k2, k3, _⟩ := hx
    obtain ⟨l, rfl, hl, wl⟩ := holds_of k0
    obtain ⟨b, rfl, hb⟩ := str_of k1
    obtain ⟨t, rfl, ht⟩ := int_of k2
    obtain ⟨r, rfl, hr⟩ := int_of k3
    simp only [avs, i0, i1, i2, i3, dv, Bool.false_eq_true, if_false, if_true, List.headD_cons, List.map_cons, List.map_nil]
    exact next_law l b t r hl
theorem windowNext_over : Rows.windowNextRow.holds Try.pinned (OpenSpec.ofChange Rows.windowNextSpec) :=
  OpenClaim.holds_of_wide 5 Try.f5 rfl rfl rfl rfl rfl rfl rfl ⟨rfl, rfl, rfl, rfl, rfl⟩ rfl rfl rfl rfl rfl (by kernel_rfl) Try.func5 (by kernel_rfl)
    (of_decide_eq_true (by kernel_rfl)) (by unfold Func.isWrapper; first | (rw [if_pos (by decide +kernel)]; kernel_rfl) | (rw [if_neg (by decide +kernel)]; exact ⟨rfl, rfl⟩))
    (fun os started H enc _ => windowNext_lifted os started H enc)
/-- The row, under a short name, for the claim. -/
theorem windowNext_holds : Rows.WindowNextSaid := windowNext_over
#print axioms windowNext_holds
end Go.Proofs.Ytnmgmlmiijljmaa

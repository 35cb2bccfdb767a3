/- Windows: why, slack; the reference's functions. -/
import Derived.Test.YtnmgmlmiijljmaaWf
set_option maxHeartbeats 8000000
set_option linter.unusedVariables false
set_option linter.unusedSimpArgs false
set_option maxRecDepth 20000
namespace Go.AX.Wn
open Go.Proofs Go.RowKit Go.IntWalk Go.AX.Br
/-! ### plain -/
theorem Can.end_open {W : List Hd} (C : Can W) {w : Hd} (hw : w ∈ W) : ¬ cov W w.to := by
  rintro ⟨y, y1, y2, y3⟩
  obtain ⟨A, B, hs⟩ := List.append_of_mem hw
  have c1 := C.1
  have cw := C.2 w hw
  rw [hs] at c1 y1
  obtain ⟨_, p2, p3⟩ := List.pairwise_append.1 c1
  rcases List.mem_append.1 y1 with y1 | y1
  · have := p3 y y1 w (by simp); omega
  rcases List.mem_cons.1 y1 with rfl | y1
  · omega
  · have := (List.pairwise_cons.1 p2).1 y y1; omega
theorem look_at {W : List Hd} (C : Can W) {w : Hd} (hw : w ∈ W) {t : Int} (h1 : w.fr ≤ t) (h2 : t < w.to) : look W t = some w := by
  obtain ⟨A, B, hs⟩ := List.append_of_mem hw
  have c1 := C.1
  rw [hs] at c1
  obtain ⟨_, p2, p3⟩ := List.pairwise_append.1 c1
  unfold look
  refine List.find?_eq_some_iff_append.2 ⟨by simpa using h2, A, B, hs, fun a ha => ?_⟩
  have := p3 a ha w (by simp)
  simp; omega
def atK (W : List Hd) (k : Nat) : Int := match W[k]? with
  | some w => w.fr
  | none => 1000001
theorem look_next {W : List Hd} (C : Can W) {k : Nat} {w : Hd} (hw : W[k]? = some w) : look W w.to = W[k + 1]? := by
  have hlt := some_lt hw
  have hs : W = W.take k ++ w :: W.drop (k + 1) := by
    have := List.take_append_drop k W
    rw [List.drop_eq_getElem_cons hlt, (List.getElem?_eq_some_iff.1 hw).2] at this
    exact this.symm
  have c1 := C.1
  rw [hs] at c1
  obtain ⟨_, p2, p3⟩ := List.pairwise_append.1 c1
  have hB : W[k + 1]? = (W.drop (k + 1)).head? := by rw [List.head?_drop]
  rw [hB]
  have e : look W w.to = (W.drop (k + 1)).find? fun x => decide (w.to < x.to) := by
    unfold look
    conv => lhs; rw [hs]
    rw [List.find?_append]
    have no : (W.take k).find? (fun x => decide (w.to < x.to)) = none := by
      rw [List.find?_eq_none]
      intro a ha
      have := p3 a ha w (by simp)
      have := C.2 w (List.mem_of_getElem? hw)
      simp; omega
    rw [no, List.find?_cons]
    simp
  rw [e]
  cases hd : W.drop (k + 1) with
  | nil => rfl
  | cons x B =>
    have hx := (List.pairwise_cons.1 p2).1 x (by rw [hd]; simp)
    have := C.2 x (by have : x ∈ W.drop (k + 1) := by rw [hd]; simp
                      exact List.mem_of_mem_drop this)
    rw [List.find?_cons, show decide (w.to < x.to) = true from decide_eq_true (by omega)]; rfl
theorem stop_next {W : List Hd} (C : Can W) {k : Nat} {w : Hd} (hw : W[k]? = some w) : stopW W w.to = atK W (k + 1) := by
  unfold stopW atK
  rw [look_next C hw]
  cases h : W[k + 1]? with
  | none => rfl
  | some x =>
    obtain ⟨q1, q2⟩ := List.getElem?_eq_some_iff.1 hw
    obtain ⟨q3, q4⟩ := List.getElem?_eq_some_iff.1 h
    have := (List.pairwise_iff_getElem.1 C.1) k (k + 1) q1 q3 (by omega)
    rw [q2, q4] at this
    simp only; omega
theorem stop_zero {W : List Hd} (C : Can W) (h0 : ∀ w ∈ W, 0 ≤ w.fr) : stopW W 0 = atK W 0 := by
  cases W with
  | nil => rfl
  | cons w W =>
    have h1 := h0 w (by simp)
    have h2 := C.2 w (by simp)
    have e : look (w :: W) 0 = some w := by
      unfold look
      rw [List.find?_cons, show decide ((0 : Int) < w.to) = true from decide_eq_true (by omega)]
    unfold stopW atK
    rw [e]
    simp only [List.getElem?_cons_zero]; omega
section
variable {l : List Hd} {b : ByteArray} (O : Okw l b)
include O
theorem Okw.next_cand {t : Int} {w : Hd} (h : look (winL l b) t = some w) (hw : w.fr ≤ t) {x : Hd} (h1 : t ≤ x.to) (h2 : Wn.held l b x.to = false) : w.to ≤ x.to := by
  rcases Int.lt_or_le x.to w.to with q | q
  · exfalso
    refine (O.nheld x.to).1 h2 ⟨w, ?_, by omega, q⟩
    obtain ⟨_, _, _, _, _, _, _, _, hm⟩ := look_some O.can h
    exact hm
  · exact q
theorem Okw.stop_cand {t : Int} {x : Hd} (hx : x ∈ l) (hb : x.br = b) (ht : t ≤ x.fr) : ∃ w, look (winL l b) t = some w ∧ w.fr ≤ x.fr := by
  have hv := O.val x hx
  have hc : cov (winL l b) x.fr := (O.jn.same _).1 ⟨x, O.mem.2 ⟨hx, hb⟩, Int.le_refl _, by omega⟩
  obtain ⟨y, y1, y2, y3⟩ := hc
  cases h : look (winL l b) t with
  | none => have := look_none h y y1; omega
  | some w =>
    refine ⟨w, rfl, ?_⟩
    obtain ⟨A, B, e, a1, a2, a3, a4, a5, _⟩ := look_some O.can h
    rw [e] at y1
    rcases List.mem_append.1 y1 with y1 | y1
    · have := a1 y y1; omega
    rcases List.mem_cons.1 y1 with rfl | y1
    · exact y2
    · have := a5 y y1; omega
end
/-! ### the program's -/
theorem why_yes {l : List Hd} {b : ByteArray} {t : Int} {i : Nat} {x : Hd} (hx : l[i]? = some x) (h : holds b t x = true) : whyL b t (l.take (i + 1)) = whyL b t (l.take i) ++ [x.rs] := by
  rw [List.take_add_one, hx]; simp [whyL, h]
theorem why_no {l : List Hd} {b : ByteArray} {t : Int} {i : Nat} {x : Hd} (hx : l[i]? = some x) (h : holds b t x = false) : whyL b t (l.take (i + 1)) = whyL b t (l.take i) := by
  rw [List.take_add_one, hx]; simp [whyL, h]
theorem why_len (b : ByteArray) (t : Int) (l : List Hd) : (whyL b t l).length ≤ l.length := by
  unfold whyL; rw [List.length_map]; exact List.length_filter_le ..
theorem why_own (l : List Hd) (b : ByteArray) (t : Int) (hl : Sm l.length) : Spec Try.prog 13 [.d (.sl (l.map hD)), .d (.str b), .d (.int .i64 t)] [] (.tup [.d (.sl ((whyR l b t).1.map sD)), .d (.int .i64 (whyR l b t).2)]) [] := by
  have a1 := asked_own l [t] hl (by unfold Sm; simp)
  simp only [List.map_cons, List.map_nil, iD] at a1
  refine spec_of_ev (fn := Try.f13) DX_ok 3000 Try.func13 rfl rfl (Nat.le_of_ble_eq_true rfl) ?_
  simp (maxSteps := 4000000) -implicitDefEqProofs only [Try.f13, go_sem]
  simp (maxSteps := 4000000) -implicitDefEqProofs only [go_sem, Nat.reduceAdd, Nat.reduceSub, Nat.reduceLT, Nat.reduceLeDiff, Nat.reduceEqDiff, ↓reduceIte]
  try refine ⟨by omega, ?_⟩
  refine ECall.dat (by simp only [go_sem]; rfl) (by rfl) ?_
  refine ecall0 _ a1 (by simp only [go_sem]) (by simp only [go_sem]) ?_
  by_cases h1 : asked l [t] = 0
  case neg =>
    have d1 : (asked l [t] != 0) = true := by simp [h1]
    have e : whyR l b t = ([], asked l [t]) := by rw [whyR, if_pos h1]
    simp (maxSteps := 4000000) -implicitDefEqProofs only [go_sem, d1, Option.some.injEq, forall_eq', and_true, true_and, Bool.not_true, Bool.not_false, decide_true, Nat.reduceAdd, Nat.reduceSub, Nat.reduceLT, Nat.reduceLeDiff, Nat.reduceEqDiff, ↓reduceIte]
    rw [e]
    exact wk_dat (r' := .tup [.d (.sl []), .d (.int .i64 (asked l [t]))]) (by simp only [go_sem]; rfl) rfl (by simp only [go_sem])
  have d1 : (asked l [t] != 0) = false := by simp [h1]
  have ol := (okw b (asked_ok h1).1).len
  have e : whyR l b t = (whyL b t l, 0) := by rw [whyR, if_neg (by omega)]
  simp (maxSteps := 4000000) -implicitDefEqProofs only [go_sem, d1, Option.some.injEq, forall_eq', and_true, true_and, Bool.not_true, Bool.not_false, decide_true, Nat.reduceAdd, Nat.reduceSub, Nat.reduceLT, Nat.reduceLeDiff, Nat.reduceEqDiff, ↓reduceIte]
  rw [e]
  refine eloop (S := Nat) (fun i => mkE 48 [(1, .d (.str b)), (2, .d (.int .i64 t)), (9, .own 0), (19, .d (.sl (l.map hD))), (20, .d (.int .i64 l.length)), (21, .d (.int .i64 i))]) (fun i => [.row 1 ((whyL b t (l.take i)).map sD)]) (fun i => i ≤ l.length) (fun i => l.length - i) 0 (by omega) (Wk.trans (Wk.nil 9 1 rfl) (Wk.via1 1 (by (simp only [go_sem, ↓reduceIte]) <;> trivial) (by simp (maxSteps := 4000000) -implicitDefEqProofs only [go_sem, Nat.reduceAdd, Nat.reduceSub, Nat.reduceLT, Nat.reduceLeDiff, Nat.reduceEqDiff, ↓reduceIte]) (by simp) (by (simp only [go_sem]) <;> trivial) (by trivial))) ?_
  intro i hi
  rcases Nat.lt_or_ge i l.length with h2 | h2
  · have f1 : decide ((i : Int) < l.length) = true := by simp; omega
    obtain ⟨x, hx⟩ : ∃ x, l[i]? = some x := ⟨l[i]'h2, List.getElem?_eq_getElem _⟩
    have n1 : (0 ≤ (i : Int) ∧ (i : Int) < l.length) = True := eq_true (by omega)
    have n2 : (i < l.length) = True := eq_true (by omega)
    have w1 : IntKind.i64.wrap ((i : Int) + 1) = ((i + 1 : Nat) : Int) := by rw [i64_in _ (by omega)]; simp
    have ml := why_len b t (l.take i)
    rw [List.length_take] at ml
    cases g1 : decide (x.br = b)
    case false =>
      have e2 := why_no hx (b := b) (t := t) (by simp [holds, g1])
      simp (maxSteps := 4000000) -implicitDefEqProofs only [go_sem, f1, n1, n2, hx, g1, w1, Option.some.injEq, forall_eq', and_true, true_and, Bool.not_true, Bool.not_false, decide_true, Nat.reduceAdd, Nat.reduceSub, Nat.reduceLT, Nat.reduceLeDiff, Nat.reduceEqDiff, ↓reduceIte]
      exact .mk (i + 1) h2 (by omega) (by rw [e2]; exact (Wk.via1 0 (by (simp only [go_sem, ↓reduceIte]) <;> trivial) (by simp (maxSteps := 4000000) -implicitDefEqProofs only [go_sem, Nat.reduceAdd, Nat.reduceSub, Nat.reduceLT, Nat.reduceLeDiff, Nat.reduceEqDiff, ↓reduceIte]) (by simp) (by (simp only [go_sem]) <;> trivial) (by trivial)))
    cases g2 : decide (x.fr ≤ t)
    case false =>
      have e2 := why_no hx (b := b) (t := t) (by simp [holds, g2])
      simp (maxSteps := 4000000) -implicitDefEqProofs only [go_sem, f1, n1, n2, hx, g1, g2, w1, Option.some.injEq, forall_eq', and_true, true_and, Bool.not_true, Bool.not_false, decide_true, Nat.reduceAdd, Nat.reduceSub, Nat.reduceLT, Nat.reduceLeDiff, Nat.reduceEqDiff, ↓reduceIte]
      exact .mk (i + 1) h2 (by omega) (by rw [e2]; exact (Wk.via1 0 (by (simp only [go_sem, ↓reduceIte]) <;> trivial) (by simp (maxSteps := 4000000) -implicitDefEqProofs only [go_sem, Nat.reduceAdd, Nat.reduceSub, Nat.reduceLT, Nat.reduceLeDiff, Nat.reduceEqDiff, ↓reduceIte]) (by simp) (by (simp only [go_sem]) <;> trivial) (by trivial)))
    cases g3 : decide (t < x.to)
    case false =>
      have e2 := why_no hx (b := b) (t := t) (by simp [holds, g3])
      simp (maxSteps := 4000000) -implicitDefEqProofs only [go_sem, f1, n1, n2, hx, g1, g2, g3, w1, Option.some.injEq, forall_eq', and_true, true_and, Bool.not_true, Bool.not_false, decide_true, Nat.reduceAdd, Nat.reduceSub, Nat.reduceLT, Nat.reduceLeDiff, Nat.reduceEqDiff, ↓reduceIte]
      exact .mk (i + 1) h2 (by omega) (by rw [e2]; exact (Wk.via1 0 (by (simp only [go_sem, ↓reduceIte]) <;> trivial) (by simp (maxSteps := 4000000) -implicitDefEqProofs only [go_sem, Nat.reduceAdd, Nat.reduceSub, Nat.reduceLT, Nat.reduceLeDiff, Nat.reduceEqDiff, ↓reduceIte]) (by simp) (by (simp only [go_sem]) <;> trivial) (by trivial)))
    have e2 := why_yes hx (b := b) (t := t) (by simp only [holds, g1, g2, g3]; rfl)
    have e3 : (whyL b t (l.take i)).map sD ++ [[D.str x.rs]] = (whyL b t (l.take i) ++ [x.rs]).map sD := by simp [sD]
    simp (maxSteps := 4000000) -implicitDefEqProofs only [go_sem, f1, n1, n2, hx, g1, g2, g3, w1, Option.some.injEq, forall_eq', and_true, true_and, Bool.not_true, Bool.not_false, decide_true, Nat.reduceAdd, Nat.reduceSub, Nat.reduceLT, Nat.reduceLeDiff, Nat.reduceEqDiff, ↓reduceIte]
    refine ⟨⟨fun e he => by simp at he; subst he; rfl, by omega, by omega⟩, ?_⟩
    rw [e3]
    exact .mk (i + 1) h2 (by omega) (by rw [e2]; exact (Wk.via1 3 (by (simp only [go_sem, ↓reduceIte]) <;> trivial) (by simp (maxSteps := 4000000) -implicitDefEqProofs only [go_sem, Nat.reduceAdd, Nat.reduceSub, Nat.reduceLT, Nat.reduceLeDiff, Nat.reduceEqDiff, ↓reduceIte]) (by simp) (by (simp only [go_sem]) <;> trivial) (by trivial)))
  have f1 : decide ((i : Int) < l.length) = false := by simp; omega
  simp (maxSteps := 4000000) -implicitDefEqProofs only [go_sem, f1, Option.some.injEq, forall_eq', and_true, true_and, Bool.not_true, Bool.not_false, decide_true, Nat.reduceAdd, Nat.reduceSub, Nat.reduceLT, Nat.reduceLeDiff, Nat.reduceEqDiff, ↓reduceIte]
  rw [List.take_of_length_le h2]
  exact wk_dat (r' := .tup [.d (.sl ((whyL b t l).map sD)), .d (.int .i64 0)]) (by simp only [go_sem]; rfl) rfl (by simp only [go_sem])
def rest (W : List Hd) (f t : Int) : Int := if f < t then slR W f t else 0
theorem slack_own (l : List Hd) (b : ByteArray) (f t : Int) (hl : Sm l.length) : Spec Try.prog 22 [.d (.sl (l.map hD)), .d (.str b), .d (.int .i64 f), .d (.int .i64 t)] [] (.tup [.d (.int .i64 (slackR l b f t).1), .d (.int .i64 (slackR l b f t).2)]) [] := by
  have a1 := asked_own l [f, t] hl (by unfold Sm; simp)
  simp only [List.map_cons, List.map_nil, iD] at a1
  refine spec_of_ev (fn := Try.f22) DX_ok 3000 Try.func22 rfl rfl (Nat.le_of_ble_eq_true rfl) ?_
  simp (maxSteps := 4000000) -implicitDefEqProofs only [Try.f22, go_sem]
  simp (maxSteps := 4000000) -implicitDefEqProofs only [go_sem, Nat.reduceAdd, Nat.reduceSub, Nat.reduceLT, Nat.reduceLeDiff, Nat.reduceEqDiff, ↓reduceIte]
  try refine ⟨by omega, ?_⟩
  refine ECall.dat (by simp only [go_sem]; rfl) (by rfl) ?_
  refine ecall0 _ a1 (by simp only [go_sem]) (by simp only [go_sem]) ?_
  by_cases h1 : asked l [f, t] = 0
  case neg =>
    have d1 : (asked l [f, t] != 0) = true := by simp [h1]
    have e : slackR l b f t = (0, asked l [f, t]) := by rw [slackR, if_pos h1]
    simp (maxSteps := 4000000) -implicitDefEqProofs only [go_sem, d1, Option.some.injEq, forall_eq', and_true, true_and, Bool.not_true, Bool.not_false, decide_true, Nat.reduceAdd, Nat.reduceSub, Nat.reduceLT, Nat.reduceLeDiff, Nat.reduceEqDiff, ↓reduceIte]
    rw [e]
    exact wk_dat (r' := .tup [.d (.int .i64 0), .d (.int .i64 (asked l [f, t]))]) (by simp only [go_sem]; rfl) rfl (by simp only [go_sem])
  have d1 : (asked l [f, t] != 0) = false := by simp [h1]
  rcases Int.lt_or_le t f with h2 | h2
  · have d2 : decide (t < f) = true := decide_eq_true h2
    have e : slackR l b f t = (0, 2) := by rw [slackR, if_neg (by omega), if_pos h2]
    simp (maxSteps := 4000000) -implicitDefEqProofs only [go_sem, d1, d2, Option.some.injEq, forall_eq', and_true, true_and, Bool.not_true, Bool.not_false, decide_true, Nat.reduceAdd, Nat.reduceSub, Nat.reduceLT, Nat.reduceLeDiff, Nat.reduceEqDiff, ↓reduceIte]
    rw [e]
    exact wk_dat (r' := .tup [.d (.int .i64 0), .d (.int .i64 2)]) (by simp only [go_sem]; rfl) rfl (by simp only [go_sem])
  have d2 : decide (t < f) = false := decide_eq_false (by omega)
  have e : slackR l b f t = (slR (winL l b) f t, 0) := by rw [slackR, if_neg (by omega), if_neg (by omega)]
  obtain ⟨g1, g2⟩ := asked_ok h1
  have hf := g2 f (by simp)
  have ht := g2 t (by simp)
  have O := okw b g1
  have wl := winL_len l b
  have ol := O.len
  simp (maxSteps := 4000000) -implicitDefEqProofs only [go_sem, d1, d2, Option.some.injEq, forall_eq', and_true, true_and, Bool.not_true, Bool.not_false, decide_true, Nat.reduceAdd, Nat.reduceSub, Nat.reduceLT, Nat.reduceLeDiff, Nat.reduceEqDiff, ↓reduceIte]
  rw [e]
  obtain ⟨F, hF⟩ : ∃ F, F = slR (winL l b) f t := ⟨_, rfl⟩
  have hF2 : rest (winL l b) f t = F := by
    unfold rest
    split
    · exact hF.symm
    · have : f = t := by omega
      subst this
      have hz : ∀ A : List Hd, (∀ a ∈ A, a.fr < a.to) → sumOv A f f = 0 := by
        intro A
        induction A with
        | nil => intro _; rfl
        | cons a A ih =>
          intro h
          have := h a (by simp)
          rw [sumOv, ih fun x hx => h x (by simp [hx])]; omega
      rw [hF, slR, hz _ O.can.2]; omega
  rw [← hF]
  refine eloop (S := Int × Int) (fun s => mkE 50 [(0, .d (.sl (l.map hD))), (1, .d (.str b)), (2, .d (.int .i64 s.1)), (3, .d (.int .i64 t)), (11, .d (.int .i64 s.2))]) (fun _ => []) (fun s => 0 ≤ s.1 ∧ s.1 ≤ 1000001 ∧ s.2 + rest (winL l b) s.1 t = F ∧ 0 ≤ s.2 ∧ s.2 ≤ s.1) (fun s => (1000001 - s.1).toNat) (f, 0) ⟨hf.1, by simp only; omega, by simpa using hF2, by simp, hf.1⟩ (Wk.forget (by (simp only [go_sem]) <;> trivial) (by simp only [go_sem])) ?_
  intro s hs
  obtain ⟨s1, s2, s3, s4, s5⟩ := hs
  rcases Int.lt_or_le s.1 t with h3 | h3
  case inr =>
    have d3 : decide (s.1 < t) = false := decide_eq_false (by omega)
    have : s.2 = F := by rw [← s3, rest, if_neg (by omega)]; omega
    simp (maxSteps := 4000000) -implicitDefEqProofs only [go_sem, d3, Option.some.injEq, forall_eq', and_true, true_and, Bool.not_true, Bool.not_false, decide_true, Nat.reduceAdd, Nat.reduceSub, Nat.reduceLT, Nat.reduceLeDiff, Nat.reduceEqDiff, ↓reduceIte]
    rw [this]
    exact wk_dat (r' := .tup [.d (.int .i64 F), .d (.int .i64 0)]) (by simp only [go_sem]; rfl) rfl (by simp only [go_sem])
  have d3 : decide (s.1 < t) = true := decide_eq_true h3
  have a2 := in_own (winL l b) s.1 O.can (by omega)
  rw [rest, if_pos h3] at s3
  simp (maxSteps := 4000000) -implicitDefEqProofs only [go_sem, d3, Option.some.injEq, forall_eq', and_true, true_and, Bool.not_true, Bool.not_false, decide_true, Nat.reduceAdd, Nat.reduceSub, Nat.reduceLT, Nat.reduceLeDiff, Nat.reduceEqDiff, ↓reduceIte]
  refine ecall0 _ (windows_own l b O) (by simp only [go_sem]) (by simp only [go_sem]) ?_
  rcases in_bounds O s.1 with ⟨b1, b2, b3⟩ | ⟨w, b1, b2, b3, b4⟩
  · rw [b1, b2] at a2
    have sn := slack_none (t := t) b3
    have mn : (if t < (1000001 : Int) then t else 1000001) = t := if_pos (by omega)
    have w1 : IntKind.i64.wrap (t - s.1) = t - s.1 := i64_in _ (by omega)
    have w2 : IntKind.i64.wrap (s.2 + (t - s.1)) = s.2 + (t - s.1) := i64_in _ (by omega)
    simp only [endH, hA] at a2
    simp (maxSteps := 4000000) -implicitDefEqProofs only [go_sem, Nat.reduceAdd, Nat.reduceSub, Nat.reduceLT, Nat.reduceLeDiff, Nat.reduceEqDiff, ↓reduceIte]
    refine ecall0 _ a2 (by simp only [go_sem]) (by simp only [go_sem]) ?_
    simp (maxSteps := 4000000) -implicitDefEqProofs only [go_sem, mn, w1, w2, Option.some.injEq, forall_eq', and_true, true_and, Bool.not_true, Bool.not_false, decide_true, Nat.reduceAdd, Nat.reduceSub, Nat.reduceLT, Nat.reduceLeDiff, Nat.reduceEqDiff, ↓reduceIte]
    exact .mk (1000001, s.2 + (t - s.1)) ⟨by simp only; omega, by simp only; omega, by simp only; rw [rest, if_neg (by omega), ← s3, sn]; omega, by simp only; omega, by simp only; omega⟩ (by simp only; omega) (Wk.forget (by (simp only [go_sem]) <;> trivial) (by simp only [go_sem]))
  · rw [b2] at a2
    have wb := O.bounds b3
    simp only [hA] at a2
    simp (maxSteps := 4000000) -implicitDefEqProofs only [go_sem, Nat.reduceAdd, Nat.reduceSub, Nat.reduceLT, Nat.reduceLeDiff, Nat.reduceEqDiff, ↓reduceIte]
    refine ecall0 _ a2 (by simp only [go_sem]) (by simp only [go_sem]) ?_
    rcases Int.lt_or_le s.1 w.fr with q | q
    · have d4 : decide (w.fr ≤ s.1) = false := decide_eq_false (by omega)
      have so := slack_open (t := t) O.can b1 q h3
      have mn : (if t < w.fr then t else w.fr) = min w.fr t := by split <;> omega
      have w1 : IntKind.i64.wrap (min w.fr t - s.1) = min w.fr t - s.1 := i64_in _ (by omega)
      have w2 : IntKind.i64.wrap (s.2 + (min w.fr t - s.1)) = s.2 + (min w.fr t - s.1) := i64_in _ (by omega)
      simp (maxSteps := 4000000) -implicitDefEqProofs only [go_sem, d4, mn, w1, w2, Option.some.injEq, forall_eq', and_true, true_and, Bool.not_true, Bool.not_false, decide_true, Nat.reduceAdd, Nat.reduceSub, Nat.reduceLT, Nat.reduceLeDiff, Nat.reduceEqDiff, ↓reduceIte]
      exact .mk (w.fr, s.2 + (min w.fr t - s.1)) ⟨by simp only; omega, by simp only; omega, by simp only; unfold rest; rw [← s3, so]; omega, by simp only; omega, by simp only; omega⟩ (by simp only; omega) (Wk.forget (by (simp only [go_sem]) <;> trivial) (by simp only [go_sem]))
    · have d4 : decide (w.fr ≤ s.1) = true := decide_eq_true q
      have so := slack_held (t := t) O.can b1 q h3
      simp (maxSteps := 4000000) -implicitDefEqProofs only [go_sem, d4, Option.some.injEq, forall_eq', and_true, true_and, Bool.not_true, Bool.not_false, decide_true, Nat.reduceAdd, Nat.reduceSub, Nat.reduceLT, Nat.reduceLeDiff, Nat.reduceEqDiff, ↓reduceIte]
      exact .mk (w.to, s.2) ⟨by simp only; omega, by simp only; omega, by simp only; unfold rest; rw [← s3, so], by simp only; omega, by simp only; omega⟩ (by simp only; omega) (Wk.forget (by (simp only [go_sem]) <;> trivial) (by simp only [go_sem]))
end Go.AX.Wn

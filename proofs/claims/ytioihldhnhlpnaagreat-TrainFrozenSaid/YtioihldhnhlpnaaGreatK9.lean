/- Trains: a law's arguments. TrainSteps: whatever the input, the law returns true, and its arguments read as they did. No condition. -/
import Derived.Test.YtioihldhnhlpnaaGreatK8
set_option maxHeartbeats 8000000
set_option linter.unusedVariables false
set_option linter.unusedSimpArgs false
set_option maxRecDepth 20000
namespace Go.AX.Tr
open Go.Proofs Go.RowKit Go.IntWalk Go.AX.Br Go.AX.Lg Go.AX.Qu Go.AX.Wn
theorem bool_of {n : Nat} {d : List D} (h : Tyd Tryz.prog (n + 1) 4 d) : ∃ b : Bool, d = [.bool b] := h.bool Ty.under_4
theorem request_of {n : Nat} {x : List D} (h : Tyd Tryz.prog (n + 2) 63 x) : ∃ r : Rq, x = rD r := by
  obtain ⟨f0, f1, f2, f3, f4, hu, e0, e1, e2, e3, e4⟩ : ∃ f0 f1 f2 f3 f4 : Field, Tryz.prog.underlying 63 = some (.struct #[f0, f1, f2, f3, f4]) ∧ f0.type = 9 ∧ f1.type = 9 ∧ f2.type = 5 ∧ f3.type = 4 ∧ f4.type = 3 := ⟨_, _, _, _, _, by rfl, rfl, rfl, rfl, rfl, rfl⟩
  have this := h.struct hu
  simp only [List.map_cons, List.map_nil, Sq] at this
  obtain ⟨a0, b0, rfl, k0, a1, b1, rfl, k1, a2, b2, rfl, k2, a3, b3, rfl, k3, a4, b4, rfl, k4, rfl⟩ := this
  rw [e0] at k0; rw [e1] at k1; rw [e2] at k2; rw [e3] at k3; rw [e4] at k4
  obtain ⟨i, rfl, _⟩ := Lg.str_of k0
  obtain ⟨j, rfl, _⟩ := Lg.str_of k1
  obtain ⟨s, rfl, hs⟩ := Lg.u8_of k2
  obtain ⟨o, rfl⟩ := bool_of k3
  obtain ⟨t, rfl, ht⟩ := Lg.int_of k4
  exact ⟨⟨i, j, s, o, t⟩, rfl⟩
theorem hold_of {n : Nat} {x : List D} (h : Tyd Tryz.prog (n + 2) 71 x) : ∃ r : Hd, x = hD r := by
  obtain ⟨f0, f1, f2, f3, hu, e0, e1, e2, e3⟩ : ∃ f0 f1 f2 f3 : Field, Tryz.prog.underlying 71 = some (.struct #[f0, f1, f2, f3]) ∧ f0.type = 9 ∧ f1.type = 3 ∧ f2.type = 3 ∧ f3.type = 9 := ⟨_, _, _, _, rfl, rfl, rfl, rfl, rfl⟩
  have this := h.struct hu
  simp only [List.map_cons, List.map_nil, Sq] at this
  obtain ⟨a0, b0, rfl, k0, a1, b1, rfl, k1, a2, b2, rfl, k2, a3, b3, rfl, k3, rfl⟩ := this
  rw [e0] at k0; rw [e1] at k1; rw [e2] at k2; rw [e3] at k3
  obtain ⟨i, rfl, _⟩ := Lg.str_of k0
  obtain ⟨j, rfl, hj⟩ := Lg.int_of k1
  obtain ⟨s, rfl, _⟩ := Lg.int_of k2
  obtain ⟨t, rfl, _⟩ := Lg.str_of k3
  exact ⟨⟨i, j, s, t⟩, rfl⟩
theorem clash_of {n : Nat} {x : List D} (h : Tyd Tryz.prog (n + 2) 81 x) : ∃ r : Cl, x = clD r := by
  obtain ⟨f0, f1, hu, e0, e1⟩ : ∃ f0 f1 : Field, Tryz.prog.underlying 81 = some (.struct #[f0, f1]) ∧ f0.type = 9 ∧ f1.type = 9 := ⟨_, _, by rfl, rfl, rfl⟩
  have this := h.struct hu
  simp only [List.map_cons, List.map_nil, Sq] at this
  obtain ⟨a0, b0, rfl, k0, a1, b1, rfl, k1, rfl⟩ := this
  rw [e0] at k0; rw [e1] at k1
  obtain ⟨i, rfl, _⟩ := Lg.str_of k0
  obtain ⟨j, rfl, _⟩ := Lg.str_of k1
  exact ⟨⟨i, j⟩, rfl⟩
theorem rows_ofT {α : Type} {g : α → List D} : ∀ {es : List (List D)}, (∀ x ∈ es, ∃ a, x = g a) → ∃ l : List α, es = l.map g
  | [], _ => ⟨[], rfl⟩
  | x :: es, h => by
    obtain ⟨a, rfl⟩ := h x (by simp)
    obtain ⟨l, rfl⟩ := rows_ofT (es := es) fun y hy => h y (List.mem_cons_of_mem _ hy)
    exact ⟨a :: l, rfl⟩
theorem requests_of {n : Nat} {d : List D} (h : Tyd Tryz.prog (n + 3) 27 d) : ∃ q : List Rq, d = [.sl (q.map rD)] ∧ Sm q.length := by
  obtain ⟨es, rfl, h1, h2⟩ := h.slice Ty.under_27
  obtain ⟨l, rfl⟩ := rows_ofT (g := rD) fun x hx => request_of (h2 x hx)
  refine ⟨l, rfl, ?_⟩
  have hb : Tryz.prog.bytesOf 63 = 48 := by kernel_rfl
  rw [hb, List.length_map] at h1
  unfold Sm; omega
theorem holds_of {n : Nat} {d : List D} (h : Tyd Tryz.prog (n + 3) 28 d) : ∃ q : List Hd, d = [.sl (q.map hD)] ∧ Sm q.length := by
  obtain ⟨es, rfl, h1, h2⟩ := h.slice Ty.under_28
  obtain ⟨l, rfl⟩ := rows_ofT (g := hD) fun x hx => hold_of (h2 x hx)
  refine ⟨l, rfl, ?_⟩
  have hb : Tryz.prog.bytesOf 71 = 48 := by kernel_rfl
  rw [hb, List.length_map] at h1
  unfold Sm; omega
theorem clashes_of {n : Nat} {d : List D} (h : Tyd Tryz.prog (n + 3) 29 d) : ∃ q : List Cl, d = [.sl (q.map clD)] ∧ Sm q.length := by
  obtain ⟨es, rfl, h1, h2⟩ := h.slice Ty.under_29
  obtain ⟨l, rfl⟩ := rows_ofT (g := clD) fun x hx => clash_of (h2 x hx)
  refine ⟨l, rfl, ?_⟩
  have hb : Tryz.prog.bytesOf 81 = 32 := by kernel_rfl
  rw [hb, List.length_map] at h1
  unfold Sm; omega
theorem train_of {n : Nat} {x : List D} (h : Tyd Tryz.prog (n + 6) 31 x) : ∃ t : Tr, x = [.sl (t.lg.kn.map kD), .sl (t.lg.br.map bD), .sl (t.lg.ev.map esD), .sl (t.q.map rD), .sl (t.hs.map hD), .sl (t.cl.map clD)] ∧ TSm t := by
  obtain ⟨f0, f1, f2, f3, hu, e0, e1, e2, e3⟩ : ∃ f0 f1 f2 f3 : Field, Tryz.prog.underlying 31 = some (.struct #[f0, f1, f2, f3]) ∧ f0.type = 26 ∧ f1.type = 27 ∧ f2.type = 28 ∧ f3.type = 29 := ⟨_, _, _, _, by rfl, rfl, rfl, rfl, rfl⟩
  have this := h.struct hu
  simp only [List.map_cons, List.map_nil, Sq] at this
  obtain ⟨a0, b0, rfl, k0, a1, b1, rfl, k1, a2, b2, rfl, k2, a3, b3, rfl, k3, rfl⟩ := this
  rw [e0] at k0; rw [e1] at k1; rw [e2] at k2; rw [e3] at k3
  obtain ⟨l, rfl, hl⟩ := Lg.ledger_of k0
  obtain ⟨q, rfl, hq⟩ := requests_of (n := n + 2) k1
  obtain ⟨w, rfl, hw⟩ := holds_of (n := n + 2) k2
  obtain ⟨c, rfl, hc⟩ := clashes_of (n := n + 2) k3
  exact ⟨⟨l, q, w, c⟩, rfl, hl.k, hl.b, hl.e, hl.s, hq, hw, hc⟩
theorem int_of {n : Nat} {d : List D} (h : Tyd Tryz.prog (n + 1) 3 d) : ∃ i : Int, d = [.int .i64 i] ∧ (-9223372036854775808 ≤ i ∧ i ≤ 9223372036854775807) := Lg.int_of h
theorem str_of {n : Nat} {d : List D} (h : Tyd Tryz.prog (n + 1) 9 d) : ∃ s : ByteArray, d = [.str s] ∧ Sm s.size := Lg.str_of h
theorem tfit_of {t : Tr} (h : tgreat t = false) : TFit t := by
  simp only [tgreat, Bool.or_eq_false_iff, decide_eq_false_iff_not] at h
  obtain ⟨-, ⟨⟨h1, h2⟩, h3⟩, h4⟩ := h
  have f := fit_of h1
  simp only [wgreat, Bool.or_eq_false_iff, decide_eq_false_iff_not] at h2
  simp only [qgreat, Bool.or_eq_false_iff, decide_eq_false_iff_not] at h3
  exact ⟨by have := f.k; omega, by have := f.b; omega, by have := f.e; omega, fun s hs => by have := f.s s hs; omega, by omega, by omega, by omega⟩
theorem t0_fit : TFit t0 := ⟨by decide, by decide, by decide, fun s hs => by simp [t0, lg0] at hs, by decide, by decide, by decide⟩
theorem step_no {t : Tr} {b : ByteArray} {tk : Int} (h : (stepR t b tk).2.2 ≠ 0) : stepR t b tk = (t0, 0, (stepR t b tk).2.2) := by
  unfold stepR at h ⊢
  split
  · rfl
  next k1 =>
  rw [if_neg k1] at h
  split
  · next q => first | (rw [q] at h; done) | (rw [q] at h; exact absurd rfl h)
  next r q =>
  rw [q] at h
  simp only at h
  split
  · rfl
  next k2 =>
  rw [if_neg k2] at h
  split
  next k3 =>
    rw [if_pos k3] at h
    split
    · rfl
    · next k4 => rw [if_neg k4] at h; exact absurd rfl h
  next k3 => rw [if_neg k3] at h; exact absurd rfl h
theorem step_fit2 {t : Tr} (b : ByteArray) (tk : Int) (f : TFit t) : TFit (stepR t b tk).1 := by
  by_cases h : (stepR t b tk).2.2 = 0
  · exact step_fit f h
  · rw [step_no h]; exact t0_fit
theorem steps_law (t : Tr) (i : Int) (b : ByteArray) (tk : Int) (ht : TSm t) : Spec Tryz.prog 4 [tA t, .d (.int .i64 i), .d (.str b), .d (.int .i64 tk)] [] (.d (.bool true)) [] := by
  have c0 := tgreat_ref t ht
  simp only [tA, tC] at c0
  refine spec_of_ev (fn := Tryz.f4) DX_ok 3000 Tryz.func4 rfl rfl (Nat.le_of_ble_eq_true rfl) ?_
  simp (maxSteps := 4000000) -implicitDefEqProofs only [Tryz.f4, go_sem, tA]
  refine ecall0 _ c0 (by simp only [go_sem]) (by simp only [go_sem]) ?_
  cases g1 : tgreat t
  case true =>
    simp (maxSteps := 4000000) -implicitDefEqProofs only [go_sem, g1, Option.some.injEq, forall_eq', and_true, true_and, Bool.not_true, Bool.not_false, decide_true, Nat.reduceAdd, Nat.reduceSub, Nat.reduceLT, Nat.reduceLeDiff, Nat.reduceEqDiff, ↓reduceIte]
    exact wk_bool rfl
  have f := tfit_of g1
  cases g2 : decide ((100 : Int) < b.size)
  case true =>
    simp (maxSteps := 4000000) -implicitDefEqProofs only [go_sem, g1, g2, Option.some.injEq, forall_eq', and_true, true_and, Bool.not_true, Bool.not_false, decide_true, Nat.reduceAdd, Nat.reduceSub, Nat.reduceLT, Nat.reduceLeDiff, Nat.reduceEqDiff, ↓reduceIte]
    exact wk_bool rfl
  have c1 := twin_tdat t f.k f.b f.e f.s f.q f.h f.c
  have c2 := Outcome_own t i f
  have c3 := Outcome_ref t i f
  have c4 := Step_own t b tk f
  have c5 := Step_ref t b tk f
  have c6 := Wait_own t b tk f
  have c7 := Wait_ref t b tk f
  have c8 := tcheck_own t f.k f.b f.e f.q f.h f.c
  have c9 := tcheck_ref t f.k f.b f.e f.q f.h f.c
  have d1 := same_tref t f
  have d2 := same_tref (stepR t b tk).1 (step_fit2 b tk f)
  obtain ⟨O, hO⟩ : ∃ O, O = outcR t i := ⟨_, rfl⟩
  obtain ⟨S, hS⟩ : ∃ O, O = stepR t b tk := ⟨_, rfl⟩
  obtain ⟨W, hW⟩ : ∃ O, O = waitR t b tk := ⟨_, rfl⟩
  obtain ⟨C, hC⟩ : ∃ O, O = tcheck t := ⟨_, rfl⟩
  rw [← hO] at c2 c3
  rw [← hS] at c4 c5 d2
  rw [← hW] at c6 c7
  rw [← hC] at c8 c9
  simp only [tA, tC] at c1 c2 c3 c4 c5 c6 c7 c8 c9 d1 d2
  have z1 : ∀ n : Int, (n == n) = true := fun n => by simp
  simp (maxSteps := 4000000) -implicitDefEqProofs only [go_sem, g1, g2, Option.some.injEq, forall_eq', and_true, true_and, Bool.not_true, Bool.not_false, decide_true, Nat.reduceAdd, Nat.reduceSub, Nat.reduceLT, Nat.reduceLeDiff, Nat.reduceEqDiff, ↓reduceIte]
  refine ecall0 _ c1 (by simp only [go_sem]) (by simp only [go_sem]) ?_
  simp (maxSteps := 4000000) -implicitDefEqProofs only [go_sem, Nat.reduceAdd, Nat.reduceSub, Nat.reduceLT, Nat.reduceLeDiff, Nat.reduceEqDiff, ↓reduceIte]
  refine ecall0 _ c2 (by simp only [go_sem]) (by simp only [go_sem]) ?_
  simp (maxSteps := 4000000) -implicitDefEqProofs only [go_sem, Nat.reduceAdd, Nat.reduceSub, Nat.reduceLT, Nat.reduceLeDiff, Nat.reduceEqDiff, ↓reduceIte]
  refine ecall0 _ c3 (by simp only [go_sem]) (by simp only [go_sem]) ?_
  simp (maxSteps := 4000000) -implicitDefEqProofs only [go_sem, Nat.reduceAdd, Nat.reduceSub, Nat.reduceLT, Nat.reduceLeDiff, Nat.reduceEqDiff, ↓reduceIte]
  refine ecall0 _ c4 (by simp only [go_sem]) (by simp only [go_sem]) ?_
  simp (maxSteps := 4000000) -implicitDefEqProofs only [go_sem, Nat.reduceAdd, Nat.reduceSub, Nat.reduceLT, Nat.reduceLeDiff, Nat.reduceEqDiff, ↓reduceIte]
  refine ecall0 _ c5 (by simp only [go_sem]) (by simp only [go_sem]) ?_
  simp (maxSteps := 4000000) -implicitDefEqProofs only [go_sem, Nat.reduceAdd, Nat.reduceSub, Nat.reduceLT, Nat.reduceLeDiff, Nat.reduceEqDiff, ↓reduceIte]
  refine ecall0 _ c6 (by simp only [go_sem]) (by simp only [go_sem]) ?_
  simp (maxSteps := 4000000) -implicitDefEqProofs only [go_sem, Nat.reduceAdd, Nat.reduceSub, Nat.reduceLT, Nat.reduceLeDiff, Nat.reduceEqDiff, ↓reduceIte]
  refine ecall0 _ c7 (by simp only [go_sem]) (by simp only [go_sem]) ?_
  simp (maxSteps := 4000000) -implicitDefEqProofs only [go_sem, Nat.reduceAdd, Nat.reduceSub, Nat.reduceLT, Nat.reduceLeDiff, Nat.reduceEqDiff, ↓reduceIte]
  refine DX.plain (.take 0 false (.take 1 false (.take 2 false (.take 3 false (.take 4 false (.take 5 false (.take 6 false (.take 7 false (.take 8 false (.take 9 false (.take 10 false (.take 11 false (.take 12 false (.take 13 false (.take 14 false (.take 15 false (.take 16 false (.take 17 false (.take 18 false (.take 19 false (.take 20 false (.take 21 false (.take 22 false (.take 23 false (.take 24 false (.take 25 false (.take 26 false (.take 27 false (.take 28 false (.take 29 false (.take 30 false (.take 31 false (.take 32 false (.take 33 false (.take 34 false (.take 35 false (.take 36 false (.take 37 false (.take 38 false (.take 39 false (.take 40 false (.take 41 false (.take 42 false (.take 43 false (.take 44 false (.take 45 false .done)))))))))))))))))))))))))))))))))))))))))))))) (by kernel_rfl) (by kernel_rfl) Ty.mixed ?_
  simp (maxSteps := 4000000) -implicitDefEqProofs only [go_sem, z1, Option.some.injEq, forall_eq', and_true, true_and, Bool.not_true, Bool.not_false, decide_true, Nat.reduceAdd, Nat.reduceSub, Nat.reduceLT, Nat.reduceLeDiff, Nat.reduceEqDiff, ↓reduceIte]
  refine ⟨_, _, c8.lift0 _ (by simp only [go_sem]) (by simp only [go_sem]), rfl, ?_⟩
  refine ⟨_, _, c9.lift0 _ (by simp only [go_sem]) (by simp only [go_sem]), rfl, ?_⟩
  simp (maxSteps := 4000000) -implicitDefEqProofs only [go_sem, z1, Option.some.injEq, forall_eq', and_true, true_and, Bool.not_true, Bool.not_false, decide_true, Nat.reduceAdd, Nat.reduceSub, Nat.reduceLT, Nat.reduceLeDiff, Nat.reduceEqDiff, ↓reduceIte]
  refine ⟨_, _, d2.lift0 _ (by simp only [go_sem]) (by simp only [go_sem]), rfl, ?_⟩
  simp (maxSteps := 4000000) -implicitDefEqProofs only [go_sem, z1, Option.some.injEq, forall_eq', and_true, true_and, Bool.not_true, Bool.not_false, decide_true, Nat.reduceAdd, Nat.reduceSub, Nat.reduceLT, Nat.reduceLeDiff, Nat.reduceEqDiff, ↓reduceIte]
  refine ⟨_, _, d1.lift0 _ (by simp only [go_sem]) (by simp only [go_sem]), rfl, ?_⟩
  exact wk_bool rfl
end Go.AX.Tr
namespace Go.Proofs.YtioihldhnhlpnaaGreat
open Go.AX Go.AX.Tr Go.RowKit
set_option maxRecDepth 100000 in
theorem trainSteps_lifted (os : Os) (started : os.Started) (H : Type) (enc : TypeId × Value → H) :
    ReturnsInHanded {} Tryz.checked os 4 .any (Rows.trainStepsSpec.pre6 enc Tryz.prog Tryz.f4 Rows.trainStepsRow.domain false) (Rows.trainStepsSpec.post enc Tryz.prog Tryz.f4 false true false false) := by
  refine Go.AX.lifted (C := Tryz.checked) (f := 4) (fn := Tryz.f4) (s := Rows.trainStepsSpec) (rt := 4) (n := 8) (by kernel_rfl) (by kernel_rfl) Tryz.func4 rfl ?_ rfl (by kernel_rfl) (by kernel_rfl) (by kernel_rfl) (by kernel_rfl) os started H enc
    (ChangeSpec.witness6 (enc := enc) (C := Tryz.checked) false ⟨#[], #[.agg #[.slice none 0 0, .slice none 0 0, .slice none 0 0, .slice none 0 0, .slice none 0 0, .slice none 0 0], .int .i64 0, .string ByteArray.empty, .int .i64 0], []⟩ 8 (by kernel_rfl) (by kernel_rfl) (by kernel_rfl) (by kernel_rfl)) ?_
  · intro H ds h
    match ds, h with
    | [a0, a1, a2, a3], _ => rfl
  · intro xs hx
    have hp : Tryz.f4.params.toList = [31, 3, 9, 3] := rfl
    rw [hp] at hx ⊢
    have i0 : isA Tryz.prog 31 = true := by kernel_rfl
    have i1 : isA Tryz.prog 3 = false := by kernel_rfl
    have i2 : isA Tryz.prog 9 = false := by kernel_rfl
    have i3 : isA Tryz.prog 3 = false := by kernel_rfl
    rcases xs with _ | ⟨d0, _ | ⟨d1, _ | ⟨d2, _ | ⟨d3, _ | ⟨d4, xs⟩⟩⟩⟩⟩ <;> simp only [Tyds, and_false] at hx
    obtain ⟨k0, k1, k2, k3, _⟩ := hx
    obtain ⟨t, rfl, ht⟩ := train_of k0
    obtain ⟨i, rfl, hi⟩ := int_of k1
    obtain ⟨b, rfl, hb⟩ := str_of k2
    obtain ⟨tk, rfl, htk⟩ := int_of k3
    simp only [avs, i0, i1, i2, i3, dv, Bool.false_eq_true, if_false, if_true, List.headD_cons, List.map_cons, List.map_nil]
    exact steps_law t i b tk ht
theorem trainSteps_over : Rows.trainStepsRow.holds Tryz.pinned (OpenSpec.ofChange Rows.trainStepsSpec) :=
  OpenClaim.holds_of_wide 4 Tryz.f4 rfl rfl rfl rfl rfl rfl rfl ⟨rfl, rfl, rfl, rfl, rfl⟩ rfl rfl rfl rfl rfl (by kernel_rfl) Tryz.func4 (by kernel_rfl)
    (of_decide_eq_true (by kernel_rfl)) (by unfold Func.isWrapper; first | (rw [if_pos (by decide +kernel)]; kernel_rfl) | (rw [if_neg (by decide +kernel)]; exact ⟨rfl, rfl⟩))
    (fun os started H enc _ => trainSteps_lifted os started H enc)
/-- The row, under a short name, for the claim. -/
theorem trainSteps_holds : Rows.TrainStepsSaid := trainSteps_over
#print axioms trainSteps_holds
end Go.Proofs.YtioihldhnhlpnaaGreat

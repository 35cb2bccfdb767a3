/- Trains: a run changes no other branch: the program's own check of it. -/
import Derived.Test.YtejipcfaedookaaGreatK11
set_option maxHeartbeats 8000000
set_option linter.unusedVariables false
set_option linter.unusedSimpArgs false
set_option maxRecDepth 20000
namespace Go.AX.Tr
open Go.Proofs Go.RowKit Go.IntWalk Go.AX.Br Go.AX.Lg Go.AX.Qu Go.AX.Wn
theorem setl_rel (b : ByteArray) : ∀ (q : List Rq) (ss : List Int) (k : Nat) (x : Rq), (∀ s ∈ ss, 5 ≤ s ∧ s ≤ 7) → q[k]? = some x → ∃ y, (setl b q ss)[k]? = some y ∧ (y = x ∨ isHead b x = true ∧ ∃ s, 5 ≤ s ∧ s ≤ 7 ∧ y = setSt x s)
  | [], ss, k, x, _, h => by simp at h
  | z :: q, [], k, x, _, h => ⟨x, by rw [setl_nil]; exact h, .inl rfl⟩
  | z :: q, s :: ss, 0, x, hs, h => by
    simp only [List.getElem?_cons_zero, Option.some.injEq] at h
    subst h
    cases q1 : isHead b z with
    | true => rw [setl_yes q1]; exact ⟨setSt z s, rfl, .inr ⟨rfl, s, (hs s (by simp)).1, (hs s (by simp)).2, rfl⟩⟩
    | false => rw [setl_no q1]; exact ⟨z, rfl, .inl rfl⟩
  | z :: q, s :: ss, k + 1, x, hs, h => by
    simp only [List.getElem?_cons_succ] at h
    cases q1 : isHead b z with
    | true => rw [setl_yes q1, List.getElem?_cons_succ]; exact setl_rel b q ss k x (fun s' h' => hs s' (List.mem_cons_of_mem _ h')) h
    | false => rw [setl_no q1, List.getElem?_cons_succ]; exact setl_rel b q (s :: ss) k x hs h
theorem inLine_set {b : ByteArray} {x : Rq} {s : Int} (h : 5 ≤ s) : inLine b (setSt x s) = false := by
  have h1 : (s == (1 : Int)) = false := by simp; omega
  have h2 : (s == (2 : Int)) = false := by simp; omega
  simp only [inLine, opn, setSt, h1, h2, Bool.or_false, Bool.and_false]
theorem line_le {nm b : ByteArray} {q : List Rq} {ss : List Int} (hs : ∀ s ∈ ss, 5 ≤ s ∧ s ≤ 7) : ∀ n, n ≤ q.length → (lineL (setl nm q ss) b n).length ≤ (lineL q b n).length
  | 0, _ => Nat.le_refl _
  | n + 1, h => by
    have ih := line_le (nm := nm) (b := b) (q := q) hs n (by omega)
    obtain ⟨x, hx⟩ : ∃ x, q[n]? = some x := ⟨q[n]'(by omega), List.getElem?_eq_getElem _⟩
    obtain ⟨y, hy, hr⟩ := setl_rel nm q ss n x hs hx
    rw [lineL, lineL, hx, hy]
    simp only [Option.map_some, Option.getD_some, List.length_append]
    rcases hr with e | ⟨_, s, h5, _, e⟩
    · rw [e]; omega
    · subst e
      simp only [inLine_set h5]
      simp; omega
theorem line_eq {nm b : ByteArray} {q : List Rq} {ss : List Int} (hs : ∀ s ∈ ss, 5 ≤ s ∧ s ≤ 7) (hb : b ≠ nm) : ∀ n, n ≤ q.length → lineL (setl nm q ss) b n = lineL q b n
  | 0, _ => rfl
  | n + 1, h => by
    have ih := line_eq (nm := nm) (b := b) (q := q) hs hb n (by omega)
    obtain ⟨x, hx⟩ : ∃ x, q[n]? = some x := ⟨q[n]'(by omega), List.getElem?_eq_getElem _⟩
    obtain ⟨y, hy, hr⟩ := setl_rel nm q ss n x hs hx
    rw [lineL, lineL, hx, hy, ih]
    rcases hr with e | ⟨hh, s, h5, _, e⟩
    · rw [e]
    · have hx' : inLine b x = false := by
        simp only [isHead, Bool.and_eq_true, decide_eq_true_eq] at hh
        have : decide (x.br = b) = false := decide_eq_false (by rw [hh.1]; exact Ne.symm hb)
        simp only [inLine, this, Bool.false_and]
      rw [e]
      simp only [Option.map_some, Option.getD_some, inLine_set h5, hx']
theorem others_top (t : Tr) (i : Nat) (x : Br) (evs : List Ev) (v : List Mk) (R : Tr × List Int × Int) (o : TOk t) (f : TFit t) (fa : TFit R.1) (oa : TOk R.1) (a : At t.lg i x evs v) (T : Trc x.name i x evs t R) :
    Spec Tryz.prog 14 [tA t, tA R.1, .d (.int .i64 i)] [] (.d (.bool true)) [] := by
  have hq : R.1.q.length = t.q.length := by rw [T.q, setl_len]
  have c1 := counts_ref t.lg f.e
  have c2 := counts_ref R.1.lg fa.e
  have c3 := fun nm => View_dat t.lg.br (cntL t.lg) nm (by unfold Sm; have := f.b; omega) (by unfold Sm; rw [cnt_len]; have := f.e; omega)
  have c4 := fun nm => View_dat R.1.lg.br (cntL R.1.lg) nm (by unfold Sm; have := fa.b; omega) (by unfold Sm; rw [cnt_len]; have := fa.e; omega)
  have c5 := fun nm => Effect_own t.lg nm f.k f.b f.e
  have c6 := fun nm => Effect_own R.1.lg nm fa.k fa.b fa.e
  have c7 := fun nm => qline_own t.q nm (by unfold Sm; have := f.q; omega)
  have c8 := fun nm => qline_own R.1.q nm (by unfold Sm; have := fa.q; omega)
  have key : ∀ (k : Nat) (y : Br), t.lg.br[k]? = some y → ∃ (V W : List Mk) (E F : List Int) (L M : List Int), viewR t.lg.br (cntL t.lg) y.name = (V, 0) ∧ viewR R.1.lg.br (cntL R.1.lg) y.name = (W, 0) ∧ effR t.lg y.name = (E, 0) ∧ effR R.1.lg y.name = (F, 0) ∧
      qlineR t.q y.name = (L, 0) ∧ qlineR R.1.q y.name = (M, 0) ∧ M.length ≤ L.length ∧ V.length ≤ 1000 ∧ E.length ≤ 1000 ∧ L.length ≤ 1000 ∧ (k ≠ i → V = W ∧ E = F ∧ L = M) := fun k y hy => by
    obtain ⟨y', u, w, b⟩ := at_of o.lo.tab (some_lt hy)
    have e1 : y' = y := by have := b.hx; rw [hy] at this; exact (Option.some.inj this).symm
    subst e1
    obtain ⟨z, u2, w2, b2⟩ := at_of (l := R.1.lg) (i := k) oa.lo.tab (by rw [T.br]; exact some_lt hy)
    have e2 : z = y' := by have := b2.hx; rw [T.br, hy] at this; exact (Option.some.inj this).symm
    subst e2
    have hl1 : qlineR t.q z.name = (lineL t.q z.name t.q.length, 0) := by unfold qlineR; rw [if_neg (by simp [o.q0])]
    have hl2 : qlineR R.1.q z.name = (lineL R.1.q z.name R.1.q.length, 0) := by unfold qlineR; rw [if_neg (by simp [oa.q0])]
    have wl := vlen_le o.lo b
    refine ⟨w, w2, effL t.lg (preE t.lg k ++ u), effL R.1.lg (preE R.1.lg k ++ u2), lineL t.q z.name t.q.length, lineL R.1.q z.name R.1.q.length, vname o.lo.tab b, vname oa.lo.tab b2, o.lo.eff b, oa.lo.eff b2, hl1, hl2, ?_, by omega, ?_, ?_, fun hk => ?_⟩
    · rw [hq, T.q]; exact line_le T.rng _ (Nat.le_refl _)
    · have : (effL t.lg (preE t.lg k ++ u)).length ≤ 30 := effN_len _ _ _
      omega
    · have := lineL_len t.q z.name t.q.length
      have := f.q; omega
    · obtain ⟨b3, b4⟩ := T.oth k z u w b hk
      obtain ⟨-, -, e5⟩ := at_same b3 b2
      rw [o.lo.eff b, oa.lo.eff b2] at b4
      refine ⟨e5.symm, by have := (Prod.mk.inj b4).1; exact this.symm, ?_⟩
      have hne : z.name ≠ x.name := fun e => by
        have n1 := o.lo.tab.g.ok.name k z hy
        have n2 := o.lo.tab.g.ok.name i x a.hx
        rw [e, n2] at n1
        exact hk (by omega)
      rw [hq, T.q]
      exact (line_eq T.rng hne _ (Nat.le_refl _)).symm
  generalize hA : R.1 = A at *
  clear T
  simp only [lA] at c1 c2 c5 c6
  have z0 : ((0 : Int) != 0) = false := rfl
  have b1 : (!true) = false := rfl
  refine spec_of_ev (fn := Tryz.f14) DX_ok 3000 Tryz.func14 rfl rfl (Nat.le_of_ble_eq_true rfl) ?_
  simp (maxSteps := 4000000) -implicitDefEqProofs only [Tryz.f14, go_sem, tA]
  refine eloop (S := Nat) (fun k => mkE 136 [(2, .d (.int .i64 i)), (3, .ptr 0 0), (4, .ptr 1 0), (7, .d (.int .i64 k))]) (fun k => [tH t, tH A]) (fun k => k ≤ t.lg.br.length) (fun k => t.lg.br.length - k) 0 (by omega) (Wk.via [0, 1] (by (simp only [go_sem, ↓reduceIte]) <;> trivial) (by first | (simp (maxSteps := 4000000) -implicitDefEqProofs only [go_sem, Nat.reduceAdd, Nat.reduceSub, Nat.reduceLT, Nat.reduceLeDiff, Nat.reduceEqDiff, ↓reduceIte]; done) | ((simp (maxSteps := 4000000) -implicitDefEqProofs only [go_sem, Nat.reduceAdd, Nat.reduceSub, Nat.reduceLT, Nat.reduceLeDiff, Nat.reduceEqDiff, ↓reduceIte]) <;> omega)) (by simp) (by first | (simp; done) | (simp [so]; done)) (by (simp (maxSteps := 4000000) -implicitDefEqProofs only [go_sem, Nat.reduceAdd, Nat.reduceSub, Nat.reduceLT, Nat.reduceLeDiff, Nat.reduceEqDiff, ↓reduceIte]) <;> trivial) (by first | (simp only [go_sem]; done) | ((simp (maxSteps := 4000000) -implicitDefEqProofs only [go_sem, Nat.reduceAdd, Nat.reduceSub, Nat.reduceLT, Nat.reduceLeDiff, Nat.reduceEqDiff, ↓reduceIte]) <;> omega)) (Nat.zero_le _) (fun i h => absurd h (Nat.not_lt_zero i))) ?_
  intro k hk
  have fb := f.b
  apply Or.elim (Nat.lt_or_ge k t.lg.br.length).symm
  · intro h2
    have f1 : decide ((k : Int) < t.lg.br.length) = false := by simp; omega
    simp (maxSteps := 4000000) -implicitDefEqProofs only [go_sem, f1, Option.some.injEq, forall_eq', and_true, true_and, Bool.not_true, Bool.not_false, decide_true, Nat.reduceAdd, Nat.reduceSub, Nat.reduceLT, Nat.reduceLeDiff, Nat.reduceEqDiff, ↓reduceIte]
    exact wk_bool rfl
  intro h2
  have f1 : decide ((k : Int) < t.lg.br.length) = true := by simp; omega
  apply Exists.elim (show ∃ y, t.lg.br[k]? = some y from ⟨t.lg.br[k]'h2, List.getElem?_eq_getElem _⟩)
  intro y hy
  have n1 : (0 ≤ (k : Int) ∧ (k : Int) < t.lg.br.length) = True := eq_true (by omega)
  have n2 : (k < t.lg.br.length) = True := eq_true h2
  have w1 : IntKind.i64.wrap ((k : Int) + 1) = ((k + 1 : Nat) : Int) := by rw [i64_in _ (by omega)]; simp
  apply Exists.elim (key k y hy)
  intro V h; apply Exists.elim h
  intro W h; apply Exists.elim h
  intro E h; apply Exists.elim h
  intro F h; apply Exists.elim h
  intro L h; apply Exists.elim h
  intro M h
  have d3 := c3 y.name
  have d4 := c4 y.name
  have d5 := c5 y.name
  have d6 := c6 y.name
  have d7 := c7 y.name
  have d8 := c8 y.name
  rw [h.1] at d3
  rw [h.2.1] at d4
  rw [h.2.2.1] at d5
  rw [h.2.2.2.1] at d6
  rw [h.2.2.2.2.1] at d7
  rw [h.2.2.2.2.2.1] at d8
  have h9 := h.2.2.2.2.2.2
  have p0 : decide ((L.length : Int) < M.length) = false := by simp; omega
  simp (maxSteps := 4000000) -implicitDefEqProofs only [go_sem, f1, n1, n2, hy, Option.some.injEq, forall_eq', and_true, true_and, Bool.not_true, Bool.not_false, decide_true, Nat.reduceAdd, Nat.reduceSub, Nat.reduceLT, Nat.reduceLeDiff, Nat.reduceEqDiff, ↓reduceIte]
  refine DX.plain (.take 0 false (.take 1 false (.take 2 false (.take 3 false (.take 4 false (.take 5 false (.take 6 false (.take 7 false (.take 8 false (.take 9 false (.take 10 false (.take 11 false (.take 12 false .done))))))))))))) (by kernel_rfl) (by kernel_rfl) Ty.mixed ?_
  simp (maxSteps := 4000000) -implicitDefEqProofs only [go_sem, z0, Option.some.injEq, forall_eq', and_true, true_and, Bool.not_true, Bool.not_false, decide_true, Nat.reduceAdd, Nat.reduceSub, Nat.reduceLT, Nat.reduceLeDiff, Nat.reduceEqDiff, ↓reduceIte]
  refine ⟨_, _, c1.lift0 _ (by simp only [go_sem]) (by simp only [go_sem]), rfl, ?_⟩
  refine ⟨_, _, d3.lift0 _ (by simp only [go_sem]) (by simp only [go_sem]), rfl, ?_⟩
  simp (maxSteps := 4000000) -implicitDefEqProofs only [go_sem, Nat.reduceAdd, Nat.reduceSub, Nat.reduceLT, Nat.reduceLeDiff, Nat.reduceEqDiff, ↓reduceIte]
  refine DX.plain (.take 0 false (.take 1 false (.take 2 false (.take 3 false (.take 4 false (.take 5 false (.take 6 false (.take 7 false (.take 8 false (.take 9 false (.take 10 false (.take 11 false (.take 12 false .done))))))))))))) (by kernel_rfl) (by kernel_rfl) Ty.mixed ?_
  simp (maxSteps := 4000000) -implicitDefEqProofs only [go_sem, z0, Option.some.injEq, forall_eq', and_true, true_and, Bool.not_true, Bool.not_false, decide_true, Nat.reduceAdd, Nat.reduceSub, Nat.reduceLT, Nat.reduceLeDiff, Nat.reduceEqDiff, ↓reduceIte]
  refine ⟨_, _, c2.lift0 _ (by simp only [go_sem]) (by simp only [go_sem]), rfl, ?_⟩
  refine ⟨_, _, d4.lift0 _ (by simp only [go_sem]) (by simp only [go_sem]), rfl, ?_⟩
  simp (maxSteps := 4000000) -implicitDefEqProofs only [go_sem, Nat.reduceAdd, Nat.reduceSub, Nat.reduceLT, Nat.reduceLeDiff, Nat.reduceEqDiff, ↓reduceIte]
  refine ecall0 _ d5 (by simp only [go_sem]) (by simp only [go_sem]) ?_
  simp (maxSteps := 4000000) -implicitDefEqProofs only [go_sem, Nat.reduceAdd, Nat.reduceSub, Nat.reduceLT, Nat.reduceLeDiff, Nat.reduceEqDiff, ↓reduceIte]
  refine ecall0 _ d6 (by simp only [go_sem]) (by simp only [go_sem]) ?_
  simp (maxSteps := 4000000) -implicitDefEqProofs only [go_sem, Nat.reduceAdd, Nat.reduceSub, Nat.reduceLT, Nat.reduceLeDiff, Nat.reduceEqDiff, ↓reduceIte]
  refine ecall0 _ d7 (by simp only [go_sem]) (by simp only [go_sem]) ?_
  simp (maxSteps := 4000000) -implicitDefEqProofs only [go_sem, Nat.reduceAdd, Nat.reduceSub, Nat.reduceLT, Nat.reduceLeDiff, Nat.reduceEqDiff, ↓reduceIte]
  refine ecall0 _ d8 (by simp only [go_sem]) (by simp only [go_sem]) ?_
  apply Or.elim (bz ((k : Int) != i))
  · intro hki
    have e := h9.2.2.2.2 (by simp at hki; omega)
    have s1 := sameMarks_ref V W (by unfold Sm; omega)
    have s2 := Go.AX.Lg.sameInts_ref E F (by unfold Sm; omega)
    have s3 := Go.AX.Qu.sameInts_ref L M (by unfold Sm; omega)
    rw [decide_eq_true e.1] at s1
    rw [decide_eq_true e.2.1] at s2
    rw [decide_eq_true e.2.2] at s3
    simp (maxSteps := 4000000) -implicitDefEqProofs only [go_sem, z0, p0, hki, b1, Option.some.injEq, forall_eq', and_true, true_and, Bool.not_true, Bool.not_false, decide_true, Nat.reduceAdd, Nat.reduceSub, Nat.reduceLT, Nat.reduceLeDiff, Nat.reduceEqDiff, ↓reduceIte]
    refine ecall0 _ s1 (by simp only [go_sem]) (by simp only [go_sem]) ?_
    simp (maxSteps := 4000000) -implicitDefEqProofs only [go_sem, b1, Option.some.injEq, forall_eq', and_true, true_and, Bool.not_true, Bool.not_false, decide_true, Nat.reduceAdd, Nat.reduceSub, Nat.reduceLT, Nat.reduceLeDiff, Nat.reduceEqDiff, ↓reduceIte]
    refine ecall0 _ s2 (by simp only [go_sem]) (by simp only [go_sem]) ?_
    simp (maxSteps := 4000000) -implicitDefEqProofs only [go_sem, b1, Option.some.injEq, forall_eq', and_true, true_and, Bool.not_true, Bool.not_false, decide_true, Nat.reduceAdd, Nat.reduceSub, Nat.reduceLT, Nat.reduceLeDiff, Nat.reduceEqDiff, ↓reduceIte]
    refine ecall0 _ s3 (by simp only [go_sem]) (by simp only [go_sem]) ?_
    simp (maxSteps := 4000000) -implicitDefEqProofs only [go_sem, b1, w1, Option.some.injEq, forall_eq', and_true, true_and, Bool.not_true, Bool.not_false, decide_true, Nat.reduceAdd, Nat.reduceSub, Nat.reduceLT, Nat.reduceLeDiff, Nat.reduceEqDiff, ↓reduceIte]
    exact .mk (k + 1) (by omega) (by omega) (Wk.via [0, 1] (by (simp only [go_sem, ↓reduceIte]) <;> trivial) (by first | (simp (maxSteps := 4000000) -implicitDefEqProofs only [go_sem, Nat.reduceAdd, Nat.reduceSub, Nat.reduceLT, Nat.reduceLeDiff, Nat.reduceEqDiff, ↓reduceIte]; done) | ((simp (maxSteps := 4000000) -implicitDefEqProofs only [go_sem, Nat.reduceAdd, Nat.reduceSub, Nat.reduceLT, Nat.reduceLeDiff, Nat.reduceEqDiff, ↓reduceIte]) <;> omega)) (by simp) (by first | (simp; done) | (simp [so]; done)) (by (simp (maxSteps := 4000000) -implicitDefEqProofs only [go_sem, Nat.reduceAdd, Nat.reduceSub, Nat.reduceLT, Nat.reduceLeDiff, Nat.reduceEqDiff, ↓reduceIte]) <;> trivial) (by first | (simp only [go_sem]; done) | ((simp (maxSteps := 4000000) -implicitDefEqProofs only [go_sem, Nat.reduceAdd, Nat.reduceSub, Nat.reduceLT, Nat.reduceLeDiff, Nat.reduceEqDiff, ↓reduceIte]) <;> omega)) (Nat.zero_le _) (fun i h => absurd h (Nat.not_lt_zero i)))
  · intro hki
    simp (maxSteps := 4000000) -implicitDefEqProofs only [go_sem, z0, p0, hki, b1, w1, Option.some.injEq, forall_eq', and_true, true_and, Bool.not_true, Bool.not_false, decide_true, Nat.reduceAdd, Nat.reduceSub, Nat.reduceLT, Nat.reduceLeDiff, Nat.reduceEqDiff, ↓reduceIte]
    exact .mk (k + 1) (by omega) (by omega) (Wk.via [0, 1] (by (simp only [go_sem, ↓reduceIte]) <;> trivial) (by first | (simp (maxSteps := 4000000) -implicitDefEqProofs only [go_sem, Nat.reduceAdd, Nat.reduceSub, Nat.reduceLT, Nat.reduceLeDiff, Nat.reduceEqDiff, ↓reduceIte]; done) | ((simp (maxSteps := 4000000) -implicitDefEqProofs only [go_sem, Nat.reduceAdd, Nat.reduceSub, Nat.reduceLT, Nat.reduceLeDiff, Nat.reduceEqDiff, ↓reduceIte]) <;> omega)) (by simp) (by first | (simp; done) | (simp [so]; done)) (by (simp (maxSteps := 4000000) -implicitDefEqProofs only [go_sem, Nat.reduceAdd, Nat.reduceSub, Nat.reduceLT, Nat.reduceLeDiff, Nat.reduceEqDiff, ↓reduceIte]) <;> trivial) (by first | (simp only [go_sem]; done) | ((simp (maxSteps := 4000000) -implicitDefEqProofs only [go_sem, Nat.reduceAdd, Nat.reduceSub, Nat.reduceLT, Nat.reduceLeDiff, Nat.reduceEqDiff, ↓reduceIte]) <;> omega)) (Nat.zero_le _) (fun i h => absurd h (Nat.not_lt_zero i)))
end Go.AX.Tr
namespace Go.AX.Tr
open Go.Proofs Go.RowKit Go.IntWalk Go.AX.Br Go.AX.Lg Go.AX.Qu Go.AX.Wn
theorem ret_cases {q : List Rq} {k : Nat} {r : Rq} (h0 : qcheck q = 0) (hr : q[k]? = some r) (h7 : r.st = 7) :
    movR againR q k sTr = ([], 4) ∨ movR againR q k sTr = ([], 14) ∨ ∃ Q, movR againR q k sTr = (Q, 0) ∧ Q.length = q.length ∧ Q[q.length - 1]? = some ⟨r.br, r.ch, 2, r.ov, r.tr + 1⟩ := by
  have hk := some_lt hr
  rw [← ret_eq]
  unfold retR
  rw [if_neg (by simp [h0]), if_neg (by omega), Int.toNat_natCast, hr]
  simp only
  rw [if_pos (.inr h7)]
  by_cases h5 : r.tr = 5
  · rw [if_pos h5]; exact .inl rfl
  rw [if_neg h5]
  by_cases hc : qcheck (moreR q k r) ≠ 0
  · rw [if_pos hc]; exact .inr (.inl rfl)
  rw [if_neg hc]
  refine .inr (.inr ⟨_, rfl, more_len hr, ?_⟩)
  have l1 : (q.take k ++ q.drop (k + 1)).length = q.length - 1 := by simp; omega
  unfold moreR
  rw [List.getElem?_append_right (by omega), l1, Nat.sub_self]
  simp only [more, setSt, h7]
  rfl
theorem again_top (A : Tr) (nm : ByteArray) (oa : TOk A) (fa : TFit A) : Spec Tryz.prog 15 [tA A, .d (.str nm)] [] (.d (.bool true)) [] := by
  have hq := fa.q
  have q0 := oa.q0
  have c1 := fun k : Nat => retry_own A.q (k : Int) (by unfold Sm; omega)
  have hval : ∀ (k : Nat) (r : Rq), A.q[k]? = some r → 0 ≤ r.tr ∧ r.tr ≤ 5 := fun k r h => by
    have := qcheck_valid q0 r (List.mem_of_getElem? h)
    simp only [valid, Bool.and_eq_true, decide_eq_true_eq] at this
    exact ⟨this.1.2, this.2⟩
  have hcs := fun k r h1 h2 => ret_cases (q := A.q) (k := k) (r := r) q0 h1 h2
  have b1 : (!true) = false := rfl
  have b2 : (!false) = true := rfl
  have z0 : ((0 : Int) != 0) = false := rfl
  have v4 : ((4 : Int) == 4) = true := rfl
  have v14 : ((14 : Int) == 14) = true := rfl
  have v144 : ((14 : Int) == 4) = false := rfl
  have v04 : ((0 : Int) == 4) = false := rfl
  have v014 : ((0 : Int) == 14) = false := rfl
  have v2 : ((2 : Int) != 2) = false := rfl
  refine spec_of_ev (fn := Tryz.f15) DX_ok 3000 Tryz.func15 rfl rfl (Nat.le_of_ble_eq_true rfl) ?_
  simp (maxSteps := 4000000) -implicitDefEqProofs only [Tryz.f15, go_sem, tA]
  refine eloop (S := Nat) (fun k => mkE 85 [(1, .d (.str nm)), (2, .ptr 0 0), (5, .d (.int .i64 k))]) (fun k => [tH A]) (fun k => k ≤ A.q.length) (fun k => A.q.length - k) 0 (by omega) (Wk.via [0] (by (simp only [go_sem, ↓reduceIte]) <;> trivial) (by first | (simp (maxSteps := 4000000) -implicitDefEqProofs only [go_sem, Nat.reduceAdd, Nat.reduceSub, Nat.reduceLT, Nat.reduceLeDiff, Nat.reduceEqDiff, ↓reduceIte]; done) | ((simp (maxSteps := 4000000) -implicitDefEqProofs only [go_sem, Nat.reduceAdd, Nat.reduceSub, Nat.reduceLT, Nat.reduceLeDiff, Nat.reduceEqDiff, ↓reduceIte]) <;> omega)) (by simp) (by first | (simp; done) | (simp [so]; done)) (by (simp (maxSteps := 4000000) -implicitDefEqProofs only [go_sem, Nat.reduceAdd, Nat.reduceSub, Nat.reduceLT, Nat.reduceLeDiff, Nat.reduceEqDiff, ↓reduceIte]) <;> trivial) (by first | (simp only [go_sem]; done) | ((simp (maxSteps := 4000000) -implicitDefEqProofs only [go_sem, Nat.reduceAdd, Nat.reduceSub, Nat.reduceLT, Nat.reduceLeDiff, Nat.reduceEqDiff, ↓reduceIte]) <;> omega)) (Nat.zero_le _) (fun i h => absurd h (Nat.not_lt_zero i))) ?_
  intro k hk
  apply Or.elim (Nat.lt_or_ge k A.q.length).symm
  · intro h2
    have f1 : decide ((k : Int) < A.q.length) = false := by simp; omega
    simp (maxSteps := 4000000) -implicitDefEqProofs only [go_sem, f1, Option.some.injEq, forall_eq', and_true, true_and, Bool.not_true, Bool.not_false, decide_true, Nat.reduceAdd, Nat.reduceSub, Nat.reduceLT, Nat.reduceLeDiff, Nat.reduceEqDiff, ↓reduceIte]
    exact wk_bool rfl
  intro h2
  have f1 : decide ((k : Int) < A.q.length) = true := by simp; omega
  apply Exists.elim (show ∃ r, A.q[k]? = some r from ⟨A.q[k]'h2, List.getElem?_eq_getElem _⟩)
  intro r hr
  have k1 : (0 ≤ (k : Int) ∧ (k : Int) < A.q.length) = True := eq_true (by omega)
  have k2 : (k < A.q.length) = True := eq_true h2
  have w1 : IntKind.i64.wrap ((k : Int) + 1) = ((k + 1 : Nat) : Int) := by rw [i64_in _ (by omega)]; simp
  apply Or.elim (bz (decide (r.br = nm)))
  case right =>
    intro d1
    simp (maxSteps := 4000000) -implicitDefEqProofs only [go_sem, f1, k1, k2, hr, d1, b1, b2, w1, Option.some.injEq, forall_eq', and_true, true_and, Bool.not_true, Bool.not_false, decide_true, Nat.reduceAdd, Nat.reduceSub, Nat.reduceLT, Nat.reduceLeDiff, Nat.reduceEqDiff, ↓reduceIte]
    exact .mk (k + 1) (by omega) (by omega) (Wk.via [0] (by (simp only [go_sem, ↓reduceIte]) <;> trivial) (by first | (simp (maxSteps := 4000000) -implicitDefEqProofs only [go_sem, Nat.reduceAdd, Nat.reduceSub, Nat.reduceLT, Nat.reduceLeDiff, Nat.reduceEqDiff, ↓reduceIte]; done) | ((simp (maxSteps := 4000000) -implicitDefEqProofs only [go_sem, Nat.reduceAdd, Nat.reduceSub, Nat.reduceLT, Nat.reduceLeDiff, Nat.reduceEqDiff, ↓reduceIte]) <;> omega)) (by simp) (by first | (simp; done) | (simp [so]; done)) (by (simp (maxSteps := 4000000) -implicitDefEqProofs only [go_sem, Nat.reduceAdd, Nat.reduceSub, Nat.reduceLT, Nat.reduceLeDiff, Nat.reduceEqDiff, ↓reduceIte]) <;> trivial) (by first | (simp only [go_sem]; done) | ((simp (maxSteps := 4000000) -implicitDefEqProofs only [go_sem, Nat.reduceAdd, Nat.reduceSub, Nat.reduceLT, Nat.reduceLeDiff, Nat.reduceEqDiff, ↓reduceIte]) <;> omega)) (Nat.zero_le _) (fun i h => absurd h (Nat.not_lt_zero i)))
  intro d1
  apply Or.elim (bz (r.st == 7))
  case right =>
    intro d2
    have d3 : (r.st != 7) = true := by simp at d2 ⊢; exact d2
    simp (maxSteps := 4000000) -implicitDefEqProofs only [go_sem, f1, k1, k2, hr, d1, d3, b1, b2, w1, Option.some.injEq, forall_eq', and_true, true_and, Bool.not_true, Bool.not_false, decide_true, Nat.reduceAdd, Nat.reduceSub, Nat.reduceLT, Nat.reduceLeDiff, Nat.reduceEqDiff, ↓reduceIte]
    exact .mk (k + 1) (by omega) (by omega) (Wk.via [0] (by (simp only [go_sem, ↓reduceIte]) <;> trivial) (by first | (simp (maxSteps := 4000000) -implicitDefEqProofs only [go_sem, Nat.reduceAdd, Nat.reduceSub, Nat.reduceLT, Nat.reduceLeDiff, Nat.reduceEqDiff, ↓reduceIte]; done) | ((simp (maxSteps := 4000000) -implicitDefEqProofs only [go_sem, Nat.reduceAdd, Nat.reduceSub, Nat.reduceLT, Nat.reduceLeDiff, Nat.reduceEqDiff, ↓reduceIte]) <;> omega)) (by simp) (by first | (simp; done) | (simp [so]; done)) (by (simp (maxSteps := 4000000) -implicitDefEqProofs only [go_sem, Nat.reduceAdd, Nat.reduceSub, Nat.reduceLT, Nat.reduceLeDiff, Nat.reduceEqDiff, ↓reduceIte]) <;> trivial) (by first | (simp only [go_sem]; done) | ((simp (maxSteps := 4000000) -implicitDefEqProofs only [go_sem, Nat.reduceAdd, Nat.reduceSub, Nat.reduceLT, Nat.reduceLeDiff, Nat.reduceEqDiff, ↓reduceIte]) <;> omega)) (Nat.zero_le _) (fun i h => absurd h (Nat.not_lt_zero i)))
  intro d2
  have d3 : (r.st != 7) = false := by simp at d2 ⊢; exact d2
  have c1k := c1 k
  have hv := hval k r hr
  have hck := hcs k r hr (by simpa using d2)
  generalize hM : movR againR A.q (k : Int) sTr = M at c1k hck
  apply Or.elim hck
  · intro e
    rw [e] at c1k
    simp (maxSteps := 4000000) -implicitDefEqProofs only [go_sem, f1, k1, k2, hr, d1, d3, b1, b2, Option.some.injEq, forall_eq', and_true, true_and, Bool.not_true, Bool.not_false, decide_true, Nat.reduceAdd, Nat.reduceSub, Nat.reduceLT, Nat.reduceLeDiff, Nat.reduceEqDiff, ↓reduceIte]
    refine ecall0 _ c1k (by simp only [go_sem]) (by simp only [go_sem]) ?_
    simp (maxSteps := 4000000) -implicitDefEqProofs only [go_sem, v4, w1, Option.some.injEq, forall_eq', and_true, true_and, Bool.not_true, Bool.not_false, decide_true, Nat.reduceAdd, Nat.reduceSub, Nat.reduceLT, Nat.reduceLeDiff, Nat.reduceEqDiff, ↓reduceIte]
    exact .mk (k + 1) (by omega) (by omega) (Wk.via [0] (by (simp only [go_sem, ↓reduceIte]) <;> trivial) (by first | (simp (maxSteps := 4000000) -implicitDefEqProofs only [go_sem, Nat.reduceAdd, Nat.reduceSub, Nat.reduceLT, Nat.reduceLeDiff, Nat.reduceEqDiff, ↓reduceIte]; done) | ((simp (maxSteps := 4000000) -implicitDefEqProofs only [go_sem, Nat.reduceAdd, Nat.reduceSub, Nat.reduceLT, Nat.reduceLeDiff, Nat.reduceEqDiff, ↓reduceIte]) <;> omega)) (by simp) (by first | (simp; done) | (simp [so]; done)) (by (simp (maxSteps := 4000000) -implicitDefEqProofs only [go_sem, Nat.reduceAdd, Nat.reduceSub, Nat.reduceLT, Nat.reduceLeDiff, Nat.reduceEqDiff, ↓reduceIte]) <;> trivial) (by first | (simp only [go_sem]; done) | ((simp (maxSteps := 4000000) -implicitDefEqProofs only [go_sem, Nat.reduceAdd, Nat.reduceSub, Nat.reduceLT, Nat.reduceLeDiff, Nat.reduceEqDiff, ↓reduceIte]) <;> omega)) (Nat.zero_le _) (fun i h => absurd h (Nat.not_lt_zero i)))
  intro hck2
  apply Or.elim hck2
  · intro e
    rw [e] at c1k
    simp (maxSteps := 4000000) -implicitDefEqProofs only [go_sem, f1, k1, k2, hr, d1, d3, b1, b2, Option.some.injEq, forall_eq', and_true, true_and, Bool.not_true, Bool.not_false, decide_true, Nat.reduceAdd, Nat.reduceSub, Nat.reduceLT, Nat.reduceLeDiff, Nat.reduceEqDiff, ↓reduceIte]
    refine ecall0 _ c1k (by simp only [go_sem]) (by simp only [go_sem]) ?_
    simp (maxSteps := 4000000) -implicitDefEqProofs only [go_sem, v144, v14, w1, Option.some.injEq, forall_eq', and_true, true_and, Bool.not_true, Bool.not_false, decide_true, Nat.reduceAdd, Nat.reduceSub, Nat.reduceLT, Nat.reduceLeDiff, Nat.reduceEqDiff, ↓reduceIte]
    exact .mk (k + 1) (by omega) (by omega) (Wk.via [0] (by (simp only [go_sem, ↓reduceIte]) <;> trivial) (by first | (simp (maxSteps := 4000000) -implicitDefEqProofs only [go_sem, Nat.reduceAdd, Nat.reduceSub, Nat.reduceLT, Nat.reduceLeDiff, Nat.reduceEqDiff, ↓reduceIte]; done) | ((simp (maxSteps := 4000000) -implicitDefEqProofs only [go_sem, Nat.reduceAdd, Nat.reduceSub, Nat.reduceLT, Nat.reduceLeDiff, Nat.reduceEqDiff, ↓reduceIte]) <;> omega)) (by simp) (by first | (simp; done) | (simp [so]; done)) (by (simp (maxSteps := 4000000) -implicitDefEqProofs only [go_sem, Nat.reduceAdd, Nat.reduceSub, Nat.reduceLT, Nat.reduceLeDiff, Nat.reduceEqDiff, ↓reduceIte]) <;> trivial) (by first | (simp only [go_sem]; done) | ((simp (maxSteps := 4000000) -implicitDefEqProofs only [go_sem, Nat.reduceAdd, Nat.reduceSub, Nat.reduceLT, Nat.reduceLeDiff, Nat.reduceEqDiff, ↓reduceIte]) <;> omega)) (Nat.zero_le _) (fun i h => absurd h (Nat.not_lt_zero i)))
  intro h
  apply Exists.elim h
  intro Q hQ
  rw [hQ.1] at c1k
  have hl := hQ.2.1
  have hlast := hQ.2.2
  have y1 : ((Q.length : Int) != A.q.length) = false := by rw [hl]; simp
  have w2 : IntKind.i64.wrap ((A.q.length : Int) - 1) = ((A.q.length - 1 : Nat) : Int) := by rw [i64_in _ (by omega)]; omega
  have w2' : IntKind.i64.wrap ((Q.length : Int) - 1) = ((A.q.length - 1 : Nat) : Int) := by rw [hl, w2]
  have j1 : (0 ≤ ((A.q.length - 1 : Nat) : Int) ∧ ((A.q.length - 1 : Nat) : Int) < Q.length) = True := eq_true (by omega)
  have j2 : (A.q.length - 1 < Q.length) = True := eq_true (by omega)
  have w3 : IntKind.i64.wrap (r.tr + 1) = r.tr + 1 := i64_in _ (by omega)
  have dd : ∀ b : ByteArray, decide (b = b) = true := fun b => by simp
  have zn : ∀ n : Int, (n != n) = false := fun n => by simp
  generalize hj : A.q.length - 1 = j at w2 w2' j1 j2 hlast
  simp (maxSteps := 4000000) -implicitDefEqProofs only [go_sem, f1, k1, k2, hr, d1, d3, b1, b2, Option.some.injEq, forall_eq', and_true, true_and, Bool.not_true, Bool.not_false, decide_true, Nat.reduceAdd, Nat.reduceSub, Nat.reduceLT, Nat.reduceLeDiff, Nat.reduceEqDiff, ↓reduceIte]
  refine ecall0 _ c1k (by simp only [go_sem]) (by simp only [go_sem]) ?_
  simp (maxSteps := 4000000) -implicitDefEqProofs only [go_sem, v04, v014, z0, y1, w2', j1, j2, hlast, dd, v2, w3, zn, b1, w1, Option.some.injEq, forall_eq', and_true, true_and, Bool.not_true, Bool.not_false, decide_true, Nat.reduceAdd, Nat.reduceSub, Nat.reduceLT, Nat.reduceLeDiff, Nat.reduceEqDiff, ↓reduceIte]
  exact .mk (k + 1) (by omega) (by omega) (Wk.via [0] (by (simp only [go_sem, ↓reduceIte]) <;> trivial) (by first | (simp (maxSteps := 4000000) -implicitDefEqProofs only [go_sem, Nat.reduceAdd, Nat.reduceSub, Nat.reduceLT, Nat.reduceLeDiff, Nat.reduceEqDiff, ↓reduceIte]; done) | ((simp (maxSteps := 4000000) -implicitDefEqProofs only [go_sem, Nat.reduceAdd, Nat.reduceSub, Nat.reduceLT, Nat.reduceLeDiff, Nat.reduceEqDiff, ↓reduceIte]) <;> omega)) (by simp) (by first | (simp; done) | (simp [so]; done)) (by (simp (maxSteps := 4000000) -implicitDefEqProofs only [go_sem, Nat.reduceAdd, Nat.reduceSub, Nat.reduceLT, Nat.reduceLeDiff, Nat.reduceEqDiff, ↓reduceIte]) <;> trivial) (by first | (simp only [go_sem]; done) | ((simp (maxSteps := 4000000) -implicitDefEqProofs only [go_sem, Nat.reduceAdd, Nat.reduceSub, Nat.reduceLT, Nat.reduceLeDiff, Nat.reduceEqDiff, ↓reduceIte]) <;> omega)) (Nat.zero_le _) (fun i h => absurd h (Nat.not_lt_zero i)))
end Go.AX.Tr

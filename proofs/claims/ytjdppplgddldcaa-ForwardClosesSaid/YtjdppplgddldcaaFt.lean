/- Forward: the plan closes all gaps: the plain law. -/
import Derived.Test.YtjdppplgddldcaaK15
set_option maxHeartbeats 8000000
set_option linter.unusedVariables false
set_option linter.unusedSimpArgs false
set_option maxRecDepth 20000
namespace Go.AX.Fw
open Go.Proofs Go.RowKit Go.IntWalk Go.AX.Br Go.AX.Lg
section
variable {G : Gr} {n : Nat}
theorem fillN_mem {c b : Nat} : ∀ (l : List (Nat × Nat)) (G : Gr), (c, b) ∈ l → fillN G l c b = true
  | (c', b') :: l, G, h => by
    rcases List.mem_cons.1 h with e | e
    · cases e
      exact fillN_mono l (upd G c b) (by simp [upd])
    · exact fillN_mem l (upd G c' b') e
/-- every place in the list is where its gap comes up -/
theorem pf_find0 (c : Nat) (hc : c < 30) (h0 : ∀ j, j < (pf G n c 0).length → ∃ c' k, c' < 30 ∧ k < n ∧ j = (pf G n c' k).length ∧ gapP G c' (n - 1 - k) = true) :
    ∀ k, k ≤ n → ∀ j, j < (pf G n c k).length → ∃ c' k, c' < 30 ∧ k < n ∧ j = (pf G n c' k).length ∧ gapP G c' (n - 1 - k) = true
  | 0, _ => h0
  | k + 1, hk => fun j hj => by
    have ih := pf_find0 c hc h0 k (by omega)
    rw [pf_step (by omega)] at hj
    cases z : gapP G c (n - 1 - k) with
    | false =>
      rw [z] at hj
      exact ih j (by simpa using hj)
    | true =>
      rw [z] at hj
      simp at hj
      rcases Nat.lt_or_ge j (pf G n c k).length with q | q
      · exact ih j q
      · exact ⟨c, k, hc, by omega, by omega, z⟩
theorem pf_find1 : ∀ c, c ≤ 30 → ∀ j, j < (pf G n c 0).length → ∃ c' k, c' < 30 ∧ k < n ∧ j = (pf G n c' k).length ∧ gapP G c' (n - 1 - k) = true
  | 0, _ => fun j hj => by rw [pf_0] at hj; simp at hj
  | c + 1, hc => fun j hj => by
    rw [pf_next] at hj
    exact pf_find0 c (by omega) (pf_find1 c (by omega)) n (Nat.le_refl _) j hj
theorem gap_pos {j c b : Nat} (h : (gapsL G n)[j]? = some (c, b)) : b < n ∧ j = (pf G n c (n - 1 - b)).length := by
  have hj := some_lt h
  rw [← pf_end] at hj
  obtain ⟨c', k, h1, h2, h3, h4⟩ := pf_find1 30 (Nat.le_refl _) j hj
  have := pf_get h1 h2 h4
  rw [← h3, h] at this
  simp only [Option.some.injEq, Prod.mk.injEq] at this
  obtain ⟨rfl, rfl⟩ := this
  exact ⟨by omega, by rw [show n - 1 - (n - 1 - k) = k by omega]; exact h3⟩
theorem gap_mem {c b : Nat} (hc : c < 30) (hb : b < n) (h : gapP G c b = true) : (c, b) ∈ gapsL G n := by
  have := pf_get (G := G) (n := n) (k := n - 1 - b) hc (by omega) (by rw [show n - 1 - (n - 1 - b) = b by omega]; exact h)
  rw [show n - 1 - (n - 1 - b) = b by omega] at this
  exact List.mem_of_getElem? this
theorem fill_pf {j c b : Nat} (h : (gapsL G n)[j]? = some (c, b)) : fill G n j = fillN G (pf G n c (n - 1 - b)) := by
  obtain ⟨hc, _, _⟩ := gap_in h
  obtain ⟨r, e⟩ := pf_pre (G := G) (n := n) (k := n - 1 - b) hc
  unfold fill
  rw [(gap_pos h).2, e, List.take_left]
theorem pf_has {c k i : Nat} (hi : i < n) (hk : n < i + 1 + k) (h : gapP G c i = true) : (c, i) ∈ pf G n c k := by
  unfold pf tagC
  refine List.mem_append_right _ (List.mem_map.2 ⟨i, List.mem_filter.2 ⟨?_, h⟩, rfl⟩)
  refine List.mem_of_getElem? (i := n - 1 - i) ?_
  rw [List.getElem?_take_of_lt (by omega), rr_get (by omega)]
  congr 1; omega
/-- the steps of the plan work, one by one -/
theorem plan_ok {o : List ByteArray} {l : Lg} (ok : FOk l o) {G : Gr} {j c b : Nat} (h : (gapsL G o.length)[j]? = some (c, b)) :
    stepOk (fill G o.length j) o (stP o G j) = true ∧ (stP o G j).cl.toNat = c ∧ toI o (stP o G j) = b := by
  obtain ⟨hc, hbn, hgp⟩ := gap_in h
  obtain ⟨w, hwb, hw⟩ := gap_older hgp
  have hwf := fill_mono (n := o.length) (i := j) hw
  have hlast : ∀ i, w < i → lastT (fill G o.length j c) i < i ∧ fill G o.length j c (lastT (fill G o.length j c) i) = true := by
    intro i
    induction i with
    | zero => intro q; omega
    | succ i ih =>
      intro q
      rw [lastT]
      by_cases z : fill G o.length j c i = true
      · rw [if_pos z]; exact ⟨by omega, z⟩
      · rw [if_neg z]
        rcases Nat.lt_or_ge w i with e | e
        · have := ih e; exact ⟨by omega, this.2⟩
        · have : w = i := by omega
          rw [this] at hwf; exact absurd hwf z
  obtain ⟨f1, f2⟩ := hlast o.length (by omega)
  obtain ⟨y, hy⟩ : ∃ y, o[lastT (fill G o.length j c) o.length]? = some y := ⟨o[lastT (fill G o.length j c) o.length]'f1, List.getElem?_eq_getElem _⟩
  obtain ⟨x, hx⟩ : ∃ x, o[b]? = some x := ⟨o[b]'hbn, List.getElem?_eq_getElem _⟩
  have e0 : stP o G j = ⟨c, y, x⟩ := by simp only [stP, h, nameAt_of hx, nameAt_of hy]
  have i1 := idx_at ok hy
  have i2 := idx_at ok hx
  have ht : toI o ⟨c, y, x⟩ = b := by simp only [toI, i2, Int.toNat_natCast]
  refine ⟨?_, by rw [e0]; simp, by rw [e0]; exact ht⟩
  have nb : fill G o.length j c b = false := by
    cases z : fill G o.length j c b with
    | false => rfl
    | true =>
      rw [fill_pf h] at z
      rcases fillN_or (c := c) (b := b) (pf G o.length c (o.length - 1 - b)) G with q | q
      · rw [q] at z
        simp only [gapP, z, Bool.not_true, Bool.and_false] at hgp
        cases hgp
      · rcases pf_mem q with q | ⟨_, q⟩
        · exact absurd q (Nat.lt_irrefl _)
        · simp only at q; omega
  have al : alw (fill G o.length j) o.length c b = true := alw_t fun i h1 h2 => by
    cases z : G c i with
    | true => exact fill_mono z
    | false =>
      rw [fill_pf h]
      refine fillN_mem _ _ (pf_has h2 (by omega) ?_)
      rw [gap_gt (f := w) hw (by omega), z]; rfl
  rw [e0]
  unfold stepOk
  rw [ht]
  simp only [i1, i2, Int.toNat_natCast, f2, nb, al, Bool.not_false, Bool.and_true]
  simp only [Bool.and_eq_true, decide_eq_true_eq]
  omega
theorem plan_inv {o : List ByteArray} {l : Lg} (ok : FOk l o) {G : Gr} : ∀ j, j ≤ (gapsL G o.length).length → plInv o G (planS o G) j (fill G o.length j)
  | 0, _ => by rw [fill_0]; exact plInv_0
  | j + 1, hj => by
    have ih := plan_inv ok (G := G) j (by omega)
    obtain ⟨⟨c, b⟩, hx⟩ : ∃ x, (gapsL G o.length)[j]? = some x := ⟨(gapsL G o.length)[j]'(by omega), List.getElem?_eq_getElem _⟩
    obtain ⟨p1, p2, p3⟩ := plan_ok ok hx
    have hs : (planS o G)[j]? = some (stP o G j) := by simp [planS, show j < (gapsL G o.length).length by omega]
    have := plInv_step ih hs p1
    rw [p2, p3] at this
    rw [fill_succ hx]
    exact this
theorem plan_play {o : List ByteArray} {l : Lg} (ok : FOk l o) {G : Gr} : playR o G (planS o G) = ((gapsL G o.length).length, fill G o.length (gapsL G o.length).length) :=
  plInv_end (plan_inv ok _ (Nat.le_refl _)) (by simp [planS])
theorem no_gap {G : Gr} {n : Nat} : gapsL (fill G n (gapsL G n).length) n = [] := by
  rcases hl : gapsL (fill G n (gapsL G n).length) n with _ | ⟨⟨c, b⟩, r⟩
  · rfl
  · exfalso
    have hx : (gapsL (fill G n (gapsL G n).length) n)[0]? = some (c, b) := by rw [hl]; rfl
    obtain ⟨hc, hbn, hgp⟩ := gap_in hx
    obtain ⟨w, hwb, hw⟩ := gap_older hgp
    have hF : fill G n (gapsL G n).length = fillN G (gapsL G n) := by unfold fill; rw [List.take_length]
    rw [hF] at hw hgp
    have nb : fillN G (gapsL G n) c b = false := by
      cases z : fillN G (gapsL G n) c b with
      | false => rfl
      | true => simp only [gapP, z, Bool.not_true, Bool.and_false] at hgp; cases hgp
    have ng : G c b = false := by
      cases z : G c b with
      | false => rfl
      | true => rw [fillN_mono _ _ z] at nb; cases nb
    have old : ∃ v, v < b ∧ G c v = true := by
      rcases fillN_or (c := c) (b := w) (gapsL G n) G with q | q
      · exact ⟨w, hwb, by rw [← q]; exact hw⟩
      · obtain ⟨i, hi⟩ := List.mem_iff_getElem?.1 q
        obtain ⟨v, h1, h2⟩ := gap_older (gap_in hi).2.2
        exact ⟨v, by omega, h2⟩
    obtain ⟨v, hv, hgv⟩ := old
    have := fillN_mem (gapsL G n) G (gap_mem hc hbn (by rw [gap_gt hgv hv, ng]; rfl))
    rw [this] at nb; cases nb
end
theorem ids_eq (o : List ByteArray) (G : Gr) {k : Nat} {x : St} (h : (gapsS o G)[k]? = some x) : ∃ y, (planS o G)[k]? = some y ∧ y.cl = x.cl ∧ y.to = x.to ∧ x.fr = ByteArray.empty := by
  have hk := some_lt h
  rw [gapsS, List.length_map] at hk
  obtain ⟨⟨c, b⟩, hx⟩ : ∃ x, (gapsL G o.length)[k]? = some x := ⟨(gapsL G o.length)[k], List.getElem?_eq_getElem _⟩
  rw [gapsS, List.getElem?_map, hx] at h
  simp only [Option.map_some, Option.some.injEq] at h
  subst h
  refine ⟨stP o G k, by simp [planS, hk], ?_, ?_, rfl⟩
  · simp [stP, hx, stG]
  · simp [stP, hx, stG, nameAt]
theorem forwardCloses_spec (l : Lg) (o : List ByteArray) (hl : LSm l) (hso : Sm o.length) : Spec Try.prog 9 [lA l, .d (.sl (o.map sD))] [] (.d (.bool true)) [] := by
  have c0 := alive_fspec
  have c1 := great_fref l o [] hl hso (by unfold Sm; simp)
  simp only [lA, List.map_nil] at c1
  have b1 : (!true) = false := rfl
  refine spec_of_ev (fn := Try.f9) DX_ok 3000 Try.func9 rfl rfl (Nat.le_of_ble_eq_true rfl) ?_
  simp (maxSteps := 4000000) -implicitDefEqProofs only [Try.f9, go_sem, lA]
  refine ecall0 _ c0 (by simp only [go_sem]) (by simp only [go_sem]) ?_
  simp (maxSteps := 4000000) -implicitDefEqProofs only [go_sem, Nat.reduceAdd, Nat.reduceSub, Nat.reduceLT, Nat.reduceLeDiff, Nat.reduceEqDiff, ↓reduceIte]
  refine ECall.dat (args' := [.agg [.d (.sl (l.kn.map kD)), .d (.sl (l.br.map bD)), .d (.sl (l.ev.map esD))], .d (.sl (o.map sD)), .d (.sl [])]) (by simp only [go_sem]; rfl) rfl ?_
  refine ecall0 _ c1 (by simp only [go_sem]) (by simp only [go_sem]) ?_
  cases g1 : great30 l o []
  case true =>
    simp (maxSteps := 4000000) -implicitDefEqProofs only [go_sem, b1, Option.some.injEq, forall_eq', and_true, true_and, Bool.not_true, Bool.not_false, decide_true, Nat.reduceAdd, Nat.reduceSub, Nat.reduceLT, Nat.reduceLeDiff, Nat.reduceEqDiff, ↓reduceIte]
    exact wk_bool rfl
  have ft := fit30_of g1
  have f := fit_of ft.g
  have fk : l.kn.length ≤ 1000 := by have := f.k; omega
  have fb : l.br.length ≤ 1000 := by have := f.b; omega
  have fe : l.ev.length ≤ 1000 := by have := f.e; omega
  have fo : o.length ≤ 1000 := by have := ft.o; omega
  have c2 := fcheck_ref l o fk fb fe fo
  simp only [lA] at c2
  simp (maxSteps := 4000000) -implicitDefEqProofs only [go_sem, Nat.reduceAdd, Nat.reduceSub, Nat.reduceLT, Nat.reduceLeDiff, Nat.reduceEqDiff, ↓reduceIte]
  refine ecall0 _ c2 (by simp only [go_sem]) (by simp only [go_sem]) ?_
  cases g2 : (fcheck l o != 0)
  case true =>
    simp (maxSteps := 4000000) -implicitDefEqProofs only [go_sem, g2, b1, Option.some.injEq, forall_eq', and_true, true_and, Bool.not_true, Bool.not_false, decide_true, Nat.reduceAdd, Nat.reduceSub, Nat.reduceLT, Nat.reduceLeDiff, Nat.reduceEqDiff, ↓reduceIte]
    exact wk_bool rfl
  have hf : fcheck l o = 0 := by simpa using g2
  have ok := fok_of hf
  obtain ⟨G, hG⟩ : ∃ G, G = gridG l o := ⟨_, rfl⟩
  have hgp : gpsR l o = (gapsS o G, 0) := by rw [gpsR, hf, hG]; rfl
  have hpn : plnR l o = (planS o G, 0) := by rw [plnR, hf, hG]; rfl
  have gl := gapsL_len G o.length
  have h8 := ok.len
  have pl : (planS o G).length = (gapsL G o.length).length := by simp [planS]
  have gl2 : (gapsS o G).length = (gapsL G o.length).length := by simp [gapsS]
  have fp : (planS o G).length ≤ 1000 := by omega
  have hwk : wrkR l o (planS o G) = (((gapsL G o.length).length : Int), 0) := by
    rw [wrkR, hf, ← hG, plan_play ok, if_neg (by simp), if_neg (by omega)]
  have hcl : clsR l o (planS o G) = (true, 0) := by
    rw [clsR, hf, ← hG, plan_play ok, if_neg (by simp), if_neg (by omega)]
    simp [no_gap, pl]
  have c3 := Gaps_own l o fk fb fe fo
  have c4 := Plan_own l o fk fb fe fo
  have c5 := Works_own l o (planS o G) fk fb fe fo fp
  have c6 := Closes_own l o (planS o G) fk fb fe fo fp
  have c7 := Closes_ref l o (planS o G) fk fb fe fo fp
  rw [hgp] at c3
  rw [hpn] at c4
  rw [hwk] at c5
  rw [hcl] at c6 c7
  have hid := fun k x h => ids_eq o G (k := k) (x := x) h
  obtain ⟨N, hN⟩ : ∃ N, N = (gapsL G o.length).length := ⟨_, rfl⟩
  rw [← hN] at pl gl2 c5
  obtain ⟨A, hA⟩ : ∃ A, A = gapsS o G := ⟨_, rfl⟩
  obtain ⟨B, hB⟩ : ∃ B, B = planS o G := ⟨_, rfl⟩
  rw [← hA] at c3 gl2 hid
  rw [← hB] at c4 c5 c6 c7 pl hid
  have z0 : ((0 : Int) != 0) = false := rfl
  have z1 : ((N : Int) != N) = false := by simp
  have b2 : (!false) = true := rfl
  simp only [lA] at c3 c4 c5 c6 c7
  simp (maxSteps := 4000000) -implicitDefEqProofs only [go_sem, g2, b1, Option.some.injEq, forall_eq', and_true, true_and, Bool.not_true, Bool.not_false, decide_true, Nat.reduceAdd, Nat.reduceSub, Nat.reduceLT, Nat.reduceLeDiff, Nat.reduceEqDiff, ↓reduceIte]
  refine ecall0 _ c3 (by simp only [go_sem]) (by simp only [go_sem]) ?_
  simp (maxSteps := 4000000) -implicitDefEqProofs only [go_sem, Nat.reduceAdd, Nat.reduceSub, Nat.reduceLT, Nat.reduceLeDiff, Nat.reduceEqDiff, ↓reduceIte]
  refine ecall0 _ c4 (by simp only [go_sem]) (by simp only [go_sem]) ?_
  simp (maxSteps := 4000000) -implicitDefEqProofs only [go_sem, Nat.reduceAdd, Nat.reduceSub, Nat.reduceLT, Nat.reduceLeDiff, Nat.reduceEqDiff, ↓reduceIte]
  refine ecall0 _ c5 (by simp only [go_sem]) (by simp only [go_sem]) ?_
  simp (maxSteps := 4000000) -implicitDefEqProofs only [go_sem, Nat.reduceAdd, Nat.reduceSub, Nat.reduceLT, Nat.reduceLeDiff, Nat.reduceEqDiff, ↓reduceIte]
  refine ecall0 _ c6 (by simp only [go_sem]) (by simp only [go_sem]) ?_
  simp (maxSteps := 4000000) -implicitDefEqProofs only [go_sem, Nat.reduceAdd, Nat.reduceSub, Nat.reduceLT, Nat.reduceLeDiff, Nat.reduceEqDiff, ↓reduceIte]
  refine ecall0 _ c7 (by simp only [go_sem]) (by simp only [go_sem]) ?_
  simp (maxSteps := 4000000) -implicitDefEqProofs only [go_sem, z0, z1, b1, b2, pl, gl2, Option.some.injEq, forall_eq', and_true, true_and, Bool.not_true, Bool.not_false, decide_true, Nat.reduceAdd, Nat.reduceSub, Nat.reduceLT, Nat.reduceLeDiff, Nat.reduceEqDiff, ↓reduceIte]
  refine eloop (S := Nat) (fun i => mkE 143 [(5, .d (.bool true)), (6, .d (.sl (A.map stD))), (8, .d (.sl (B.map stD))), (16, .d (.int .i64 i))]) (fun i => []) (fun i => i ≤ N) (fun i => N - i) 0 (by omega) (Wk.forget (by (simp only [go_sem]) <;> trivial) (by simp only [go_sem])) ?_
  intro i hi
  rcases Nat.lt_or_ge i N with h2 | h2
  case inr =>
    have f1 : decide ((i : Int) < N) = false := by simp; omega
    simp (maxSteps := 4000000) -implicitDefEqProofs only [go_sem, f1, gl2, Option.some.injEq, forall_eq', and_true, true_and, Bool.not_true, Bool.not_false, decide_true, Nat.reduceAdd, Nat.reduceSub, Nat.reduceLT, Nat.reduceLeDiff, Nat.reduceEqDiff, ↓reduceIte]
    exact wk_bool rfl
  have f1 : decide ((i : Int) < N) = true := by simp; omega
  obtain ⟨x, hx⟩ : ∃ x, A[i]? = some x := ⟨A[i]'(by omega), List.getElem?_eq_getElem _⟩
  obtain ⟨y, hy, e1, e2, e3⟩ := hid i x hx
  obtain ⟨xc, xf, xt⟩ := x
  obtain ⟨yc, yf, yt⟩ := y
  simp only at e1 e2 e3
  subst e1 e2 e3
  have n1 : (0 ≤ (i : Int) ∧ (i : Int) < N) = True := eq_true (by omega)
  have n2 : (i < A.length) = True := eq_true (by omega)
  have n3 : (i < B.length) = True := eq_true (by omega)
  have n2' : (i < N) = True := eq_true (by omega)
  have w1 : IntKind.i64.wrap ((i : Int) + 1) = ((i + 1 : Nat) : Int) := by rw [i64_in _ (by omega)]; simp
  have q1 : (yc != yc) = false := by simp
  have q2 : decide (yt = yt) = true := by simp
  have q3 : decide (ByteArray.empty = ByteArray.empty) = true := by simp
  have q4 : decide (ByteArray.empty = { data := #[] }) = true := by decide
  simp (maxSteps := 4000000) -implicitDefEqProofs only [go_sem, f1, gl2, Option.some.injEq, forall_eq', and_true, true_and, Bool.not_true, Bool.not_false, decide_true, Nat.reduceAdd, Nat.reduceSub, Nat.reduceLT, Nat.reduceLeDiff, Nat.reduceEqDiff, ↓reduceIte]
  refine DX.plain (.take 0 false (.take 1 false (.take 2 false (.take 3 false (.take 4 false (.take 5 false (.take 6 false (.take 7 false (.take 8 false (.take 9 false (.take 10 false (.take 11 false (.take 12 false (.take 13 false (.take 14 false (.take 15 false (.take 16 false (.take 17 false (.take 18 false (.take 19 false (.take 20 false (.take 21 false (.take 22 false (.take 23 false (.take 24 false (.take 25 false (.take 26 false (.take 27 false (.take 28 false (.take 29 false (.take 30 false (.take 31 false .done)))))))))))))))))))))))))))))))) (by kernel_rfl) (by kernel_rfl) Ty.mixed ?_
  simp (maxSteps := 4000000) -implicitDefEqProofs only [go_sem, n1, n2', pl, gl2, hx, hy, q1, q2, q3, q4, b1, b2, Option.some.injEq, forall_eq', and_true, true_and, Bool.not_true, Bool.not_false, decide_true, Nat.reduceAdd, Nat.reduceSub, Nat.reduceLT, Nat.reduceLeDiff, Nat.reduceEqDiff, ↓reduceIte]
  simp (maxSteps := 4000000) -implicitDefEqProofs only [go_sem, w1, Option.some.injEq, forall_eq', and_true, true_and, Bool.not_true, Bool.not_false, decide_true, Nat.reduceAdd, Nat.reduceSub, Nat.reduceLT, Nat.reduceLeDiff, Nat.reduceEqDiff, ↓reduceIte]
  exact .mk (i + 1) (by omega) (by omega) (Wk.sub (by (simp only [go_sem]) <;> trivial))
end Go.AX.Fw
namespace Go.Proofs.Ytjdppplgddldcaa
open Go.AX Go.AX.Fw Go.RowKit
set_option maxRecDepth 100000 in
theorem forwardCloses_lifted (os : Os) (started : os.Started) (H : Type) (enc : TypeId × Value → H) :
    ReturnsInHanded {} Try.checked os 9 .any (Rows.forwardClosesSpec.pre6 enc Try.prog Try.f9 Rows.forwardClosesRow.domain false) (Rows.forwardClosesSpec.post enc Try.prog Try.f9 false true false false) := by
  refine Go.AX.lifted (C := Try.checked) (f := 9) (fn := Try.f9) (s := Rows.forwardClosesSpec) (rt := 4) (n := 8) (by kernel_rfl) (by kernel_rfl) Try.func9 rfl ?_ rfl (by kernel_rfl) (by kernel_rfl) (by kernel_rfl) (by kernel_rfl) os started H enc
    (ChangeSpec.witness6 (enc := enc) (C := Try.checked) false ⟨#[], #[.agg #[.slice none 0 0, .slice none 0 0, .slice none 0 0], .slice none 0 0], []⟩ 8 (by kernel_rfl) (by kernel_rfl) (by kernel_rfl) (by kernel_rfl)) ?_
  · intro H ds h
    match ds, h with
    | [a0, a1], _ => rfl
  · intro xs hx
    have hp : Try.f9.params.toList = [26, 27] := rfl
    rw [hp] at hx ⊢
    have i0 : isA Try.prog 26 = true := by kernel_rfl
    have i1 : isA Try.prog 27 = false := by kernel_rfl
    rcases xs with _ | ⟨d0, _ | ⟨d1, _ | ⟨d2, xs⟩⟩⟩ <;> simp only [Tyds, and_false] at hx
    obtain ⟨k0, k1, _⟩ := hx
    obtain ⟨l, rfl, hl⟩ := ledger_of k0
    obtain ⟨o, rfl, ho⟩ := texts_of k1
    simp only [avs, i0, i1, dv, Bool.false_eq_true, if_false, if_true, List.headD_cons, List.map_cons, List.map_nil]
    exact forwardCloses_spec l o hl ho
theorem forwardCloses_over : Rows.forwardClosesRow.holds Try.pinned (OpenSpec.ofChange Rows.forwardClosesSpec) :=
  OpenClaim.holds_of_wide 9 Try.f9 rfl rfl rfl rfl rfl rfl rfl ⟨rfl, rfl, rfl, rfl, rfl⟩ rfl rfl rfl rfl rfl (by kernel_rfl) Try.func9 (by kernel_rfl)
    (of_decide_eq_true (by kernel_rfl)) (by unfold Func.isWrapper; first | (rw [if_pos (by decide +kernel)]; kernel_rfl) | (rw [if_neg (by decide +kernel)]; exact ⟨rfl, rfl⟩))
    (fun os started H enc _ => forwardCloses_lifted os started H enc)
/-- The row, under a short name, for the claim. -/
theorem forwardCloses_holds : Rows.ForwardClosesSaid := forwardCloses_over
#print axioms forwardCloses_holds
end Go.Proofs.Ytjdppplgddldcaa

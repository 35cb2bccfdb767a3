/- Forward: no plan that closes the gaps has fewer steps. -/
import Derived.Test.YtjdppplgddldcaaK16
set_option maxHeartbeats 8000000
set_option linter.unusedVariables false
set_option linter.unusedSimpArgs false
set_option maxRecDepth 20000
namespace Go.AX.Fw
open Go.Proofs Go.RowKit Go.IntWalk Go.AX.Br Go.AX.Lg
def isP (c : Int) (x : ByteArray) (s : St) : Bool := (s.cl == c) && decide (s.to = x)
def cntP (c : Int) (x : ByteArray) (l : List St) : Nat := (l.filter (isP c x)).length
theorem cntP_cons {c : Int} {x : ByteArray} {s : St} {l : List St} : cntP c x (s :: l) = (if isP c x s then 1 else 0) + cntP c x l := by
  unfold cntP
  rw [List.filter_cons]
  split
  · rw [List.length_cons]; omega
  · omega
theorem cntP_take {c : Int} {x : ByteArray} {s : St} {l : List St} {i : Nat} (h : l[i]? = some s) : cntP c x (l.take (i + 1)) = cntP c x (l.take i) + if isP c x s then 1 else 0 := by
  unfold cntP
  rw [List.take_add_one, h, Option.toList_some, List.filter_append, List.length_append]
  congr 1
  cases z : isP c x s <;> simp [z]
theorem play_full {o : List ByteArray} {G F : Gr} {s : St} {r : List St} (h : playR o G (s :: r) = (r.length + 1, F)) : stepOk G o s = true ∧ playR o (upd G s.cl.toNat (toI o s)) r = (r.length, F) := by
  rw [playR] at h
  split at h
  · next q =>
    refine ⟨q, ?_⟩
    simp only [Prod.mk.injEq] at h
    exact Prod.ext (by have := h.1; omega) h.2
  · simp at h
theorem step_key {o : List ByteArray} {G : Gr} {s : St} (h : stepOk G o s = true) : 0 ≤ s.cl ∧ o[toI o s]? = some s.to ∧ G s.cl.toNat (toI o s) = false := by
  simp only [stepOk, Bool.and_eq_true, decide_eq_true_eq, Bool.not_eq_true'] at h
  obtain ⟨⟨⟨⟨⟨⟨_, h2⟩, h3⟩, _⟩, _⟩, h6⟩, _⟩ := h
  refine ⟨h3, ?_, h6⟩
  obtain ⟨i, y, e1, e2, e3⟩ := idx_get h2
  have hy : y = s.to := by simpa [isS] using e3
  rw [toI, e1, Int.toNat_natCast, e2, hy]
theorem play_mono {o : List ByteArray} {F : Gr} {c b : Nat} : ∀ (plan : List St) (G : Gr), playR o G plan = (plan.length, F) → G c b = true → F c b = true
  | [], G, h, hg => by simp only [playR, Prod.mk.injEq] at h; rw [← h.2]; exact hg
  | s :: r, G, h, hg => by
    obtain ⟨_, h2⟩ := play_full h
    exact play_mono r _ h2 (upd_mono hg)
theorem play_cnt {o : List ByteArray} {l : Lg} (ok : FOk l o) {F : Gr} {c b : Nat} {x : ByteArray} (hx : o[b]? = some x) : ∀ (plan : List St) (G : Gr), playR o G plan = (plan.length, F) →
    (G c b = true → cntP c x plan = 0) ∧ (G c b = false → F c b = true → cntP c x plan = 1)
  | [], G, h => by
    simp only [playR, Prod.mk.injEq] at h
    refine ⟨fun _ => rfl, fun h1 h2 => ?_⟩
    rw [← h.2, h1] at h2; cases h2
  | s :: r, G, h => by
    obtain ⟨h1, h2⟩ := play_full h
    obtain ⟨k1, k2, k3⟩ := step_key h1
    obtain ⟨i1, i2⟩ := play_cnt ok hx r _ h2
    rw [cntP_cons]
    cases z : isP c x s with
    | true =>
      simp only [isP, Bool.and_eq_true, beq_iff_eq, decide_eq_true_eq] at z
      have e1 : s.cl.toNat = c := by omega
      have e2 : toI o s = b := ok.nd _ _ x (by rw [k2, z.2]) hx
      rw [e1, e2] at k3 i1
      refine ⟨fun hg => (by rw [hg] at k3; cases k3), fun _ _ => ?_⟩
      rw [i1 (by simp [upd])]; rfl
    | false =>
      have hne : ¬ (c = s.cl.toNat ∧ b = toI o s) := by
        rintro ⟨e1, e2⟩
        rw [← e2, hx, Option.some.injEq] at k2
        simp only [isP, Bool.and_eq_false_iff, beq_eq_false_iff_ne, ne_eq, decide_eq_false_iff_not] at z
        rcases z with z | z
        · exact z (by omega)
        · exact z k2.symm
      have e : upd G s.cl.toNat (toI o s) c b = G c b := by simp only [upd, if_neg hne]
      rw [e] at i1 i2
      simp only [Bool.false_eq_true, if_false, Nat.zero_add]
      exact ⟨i1, i2⟩
theorem play_len {o : List ByteArray} {F : Gr} : ∀ (plan : List St) (G : Gr) (L : List (Nat × Nat)), playR o G plan = (plan.length, F) → L.Nodup → (∀ x ∈ L, G x.1 x.2 = false ∧ F x.1 x.2 = true) → L.length ≤ plan.length
  | [], G, L, h, hn, hL => by
    simp only [playR, Prod.mk.injEq] at h
    cases L with
    | nil => exact Nat.le_refl _
    | cons x L =>
      obtain ⟨h1, h2⟩ := hL x (by simp)
      rw [← h.2, h1] at h2; cases h2
  | s :: r, G, L, h, hn, hL => by
    obtain ⟨_, h2⟩ := play_full h
    have := play_len r _ (L.erase (s.cl.toNat, toI o s)) h2 (hn.erase _) fun x hx => by
      rw [hn.mem_erase_iff] at hx
      obtain ⟨q1, q2⟩ := hL x hx.2
      refine ⟨?_, q2⟩
      have : ¬ (x.1 = s.cl.toNat ∧ x.2 = toI o s) := fun e => hx.1 (Prod.ext e.1 e.2)
      simp only [upd, if_neg this, q1]
    rw [List.length_erase] at this
    rw [List.length_cons]
    split at this <;> omega
theorem gaps_nodup (G : Gr) (n : Nat) : (gapsL G n).Nodup := by
  refine List.pairwise_iff_getElem.2 fun i j hi hj hij e => ?_
  have h1 : (gapsL G n)[i]? = some ((gapsL G n)[i].1, (gapsL G n)[i].2) := List.getElem?_eq_getElem hi
  have h2 : (gapsL G n)[j]? = some ((gapsL G n)[i].1, (gapsL G n)[i].2) := by rw [List.getElem?_eq_getElem hj, ← e]
  have := (gap_pos h1).2
  have := (gap_pos h2).2
  omega
/-- what a plan that closes does -/
theorem least_of {l : Lg} {o : List ByteArray} (ok : FOk l o) {G : Gr} {plan : List St} (h1 : (playR o G plan).1 = plan.length) (h2 : (gapsL (playR o G plan).2 o.length).length = 0) :
    (gapsL G o.length).length ≤ plan.length ∧ ∀ (k : Nat) (x : St), (gapsS o G)[k]? = some x → cntP x.cl x.to plan = 1 := by
  obtain ⟨F, hF⟩ : ∃ F, F = (playR o G plan).2 := ⟨_, rfl⟩
  have hp : playR o G plan = (plan.length, F) := Prod.ext h1 hF.symm
  rw [← hF] at h2
  have key : ∀ (j c b : Nat), (gapsL G o.length)[j]? = some (c, b) → G c b = false ∧ F c b = true := fun j c b hx => by
    obtain ⟨hc, hbn, hgp⟩ := gap_in hx
    obtain ⟨w, hwb, hw⟩ := gap_older hgp
    rw [gap_gt hw hwb] at hgp
    refine ⟨by simpa using hgp, ?_⟩
    cases z : F c b with
    | true => rfl
    | false =>
      have := gap_mem (G := F) hc hbn (by rw [gap_gt (play_mono plan G hp hw) hwb, z]; rfl)
      rw [List.eq_nil_of_length_eq_zero h2] at this
      cases this
  refine ⟨play_len plan G _ hp (gaps_nodup G o.length) fun x hx => ?_, fun k x hx => ?_⟩
  · obtain ⟨j, hj⟩ := List.mem_iff_getElem?.1 hx
    exact key j x.1 x.2 hj
  · have hk := some_lt hx
    rw [gapsS, List.length_map] at hk
    obtain ⟨⟨c, b⟩, hg⟩ : ∃ x, (gapsL G o.length)[k]? = some x := ⟨(gapsL G o.length)[k], List.getElem?_eq_getElem _⟩
    rw [gapsS, List.getElem?_map, hg] at hx
    simp only [Option.map_some, Option.some.injEq] at hx
    obtain ⟨hc, hbn, _⟩ := gap_in hg
    obtain ⟨y, hy⟩ : ∃ y, o[b]? = some y := ⟨o[b]'hbn, List.getElem?_eq_getElem _⟩
    obtain ⟨k1, k2⟩ := key k c b hg
    have := (play_cnt ok hy plan G hp).2 k1 k2
    subst hx
    simp only [stG, hy, Option.getD_some]
    exact this
theorem forwardLeast_spec (l : Lg) (o : List ByteArray) (plan : List St) (hl : LSm l) (hso : Sm o.length) (hsp : Sm plan.length) : Spec Try.prog 6 [lA l, .d (.sl (o.map sD)), .d (.sl (plan.map stD))] [] (.d (.bool true)) [] := by
  have c0 := alive_fspec
  have c1 := great_fref l o plan hl hso hsp
  simp only [lA] at c1
  have b1 : (!true) = false := rfl
  have b2 : (!false) = true := rfl
  refine spec_of_ev (fn := Try.f6) DX_ok 3000 Try.func6 rfl rfl (Nat.le_of_ble_eq_true rfl) ?_
  simp (maxSteps := 4000000) -implicitDefEqProofs only [Try.f6, go_sem, lA]
  refine ecall0 _ c0 (by simp only [go_sem]) (by simp only [go_sem]) ?_
  simp (maxSteps := 4000000) -implicitDefEqProofs only [go_sem, Nat.reduceAdd, Nat.reduceSub, Nat.reduceLT, Nat.reduceLeDiff, Nat.reduceEqDiff, ↓reduceIte]
  refine ecall0 _ c1 (by simp only [go_sem]) (by simp only [go_sem]) ?_
  cases g1 : great30 l o plan
  case true =>
    simp (maxSteps := 4000000) -implicitDefEqProofs only [go_sem, b1, Option.some.injEq, forall_eq', and_true, true_and, Bool.not_true, Bool.not_false, decide_true, Nat.reduceAdd, Nat.reduceSub, Nat.reduceLT, Nat.reduceLeDiff, Nat.reduceEqDiff, ↓reduceIte]
    exact wk_bool rfl
  have ft := fit30_of g1
  have f := fit_of ft.g
  have fk : l.kn.length ≤ 1000 := by have := f.k; omega
  have fb : l.br.length ≤ 1000 := by have := f.b; omega
  have fe : l.ev.length ≤ 1000 := by have := f.e; omega
  have fo : o.length ≤ 1000 := by have := ft.o; omega
  have fp : plan.length ≤ 1000 := by have := ft.p; omega
  cases g3 : decide ((60 : Int) < plan.length)
  case true =>
    simp (maxSteps := 4000000) -implicitDefEqProofs only [go_sem, g3, b1, Option.some.injEq, forall_eq', and_true, true_and, Bool.not_true, Bool.not_false, decide_true, Nat.reduceAdd, Nat.reduceSub, Nat.reduceLT, Nat.reduceLeDiff, Nat.reduceEqDiff, ↓reduceIte]
    exact wk_bool rfl
  have h60 : plan.length ≤ 60 := by have := of_decide_eq_false g3; omega
  have c2 := fcheck_ref l o fk fb fe fo
  simp only [lA] at c2
  simp (maxSteps := 4000000) -implicitDefEqProofs only [go_sem, g3, Option.some.injEq, forall_eq', and_true, true_and, Bool.not_true, Bool.not_false, decide_true, Nat.reduceAdd, Nat.reduceSub, Nat.reduceLT, Nat.reduceLeDiff, Nat.reduceEqDiff, ↓reduceIte]
  refine ecall0 _ c2 (by simp only [go_sem]) (by simp only [go_sem]) ?_
  cases g2 : (fcheck l o != 0)
  case true =>
    simp (maxSteps := 4000000) -implicitDefEqProofs only [go_sem, g2, b1, Option.some.injEq, forall_eq', and_true, true_and, Bool.not_true, Bool.not_false, decide_true, Nat.reduceAdd, Nat.reduceSub, Nat.reduceLT, Nat.reduceLeDiff, Nat.reduceEqDiff, ↓reduceIte]
    exact wk_bool rfl
  have hf : fcheck l o = 0 := by simpa using g2
  have ok := fok_of hf
  obtain ⟨G, hG⟩ : ∃ G, G = gridG l o := ⟨_, rfl⟩
  have hgp : gpsR l o = (gapsS o G, 0) := by rw [gpsR, hf, hG]; rfl
  have gl2 : (gapsS o G).length = (gapsL G o.length).length := by simp [gapsS]
  have hcl : clsR l o plan = (decide ((playR o G plan).1 = plan.length) && decide ((gapsL (playR o G plan).2 o.length).length = 0), 0) := by
    rw [clsR, hf, ← hG, if_neg (by simp), if_neg (by omega)]
  have c3 := Gaps_own l o fk fb fe fo
  have c6 := Closes_own l o plan fk fb fe fo fp
  rw [hgp] at c3
  rw [hcl] at c6
  have hle := least_of (plan := plan) ok (G := G)
  have gl := gapsL_len G o.length
  have h8 := ok.len
  obtain ⟨N, hN⟩ : ∃ N, N = (gapsL G o.length).length := ⟨_, rfl⟩
  rw [← hN] at gl2 hle gl
  obtain ⟨A, hA⟩ : ∃ A, A = gapsS o G := ⟨_, rfl⟩
  rw [← hA] at c3 gl2 hle
  have z0 : ((0 : Int) != 0) = false := rfl
  simp only [lA] at c3 c6
  simp (maxSteps := 4000000) -implicitDefEqProofs only [go_sem, g2, b1, Option.some.injEq, forall_eq', and_true, true_and, Bool.not_true, Bool.not_false, decide_true, Nat.reduceAdd, Nat.reduceSub, Nat.reduceLT, Nat.reduceLeDiff, Nat.reduceEqDiff, ↓reduceIte]
  refine ecall0 _ c6 (by simp only [go_sem]) (by simp only [go_sem]) ?_
  simp (maxSteps := 4000000) -implicitDefEqProofs only [go_sem, Nat.reduceAdd, Nat.reduceSub, Nat.reduceLT, Nat.reduceLeDiff, Nat.reduceEqDiff, ↓reduceIte]
  refine ecall0 _ c3 (by simp only [go_sem]) (by simp only [go_sem]) ?_
  cases g4 : (decide ((playR o G plan).1 = plan.length) && decide ((gapsL (playR o G plan).2 o.length).length = 0))
  case false =>
    simp (maxSteps := 4000000) -implicitDefEqProofs only [go_sem, z0, b1, b2, Option.some.injEq, forall_eq', and_true, true_and, Bool.not_true, Bool.not_false, decide_true, Nat.reduceAdd, Nat.reduceSub, Nat.reduceLT, Nat.reduceLeDiff, Nat.reduceEqDiff, ↓reduceIte]
    exact wk_bool rfl
  simp only [Bool.and_eq_true, decide_eq_true_eq] at g4
  obtain ⟨hlen, hcnt⟩ := hle g4.1 g4.2
  simp (maxSteps := 4000000) -implicitDefEqProofs only [go_sem, z0, b1, b2, Option.some.injEq, forall_eq', and_true, true_and, Bool.not_true, Bool.not_false, decide_true, Nat.reduceAdd, Nat.reduceSub, Nat.reduceLT, Nat.reduceLeDiff, Nat.reduceEqDiff, ↓reduceIte]
  refine eloop (S := Nat) (fun k => mkE 106 [(2, .d (.sl (plan.map stD))), (7, .d (.bool true)), (10, .d (.sl (A.map stD))), (12, .d (.int .i64 k))]) (fun k => []) (fun k => k ≤ N) (fun k => N - k) 0 (by omega) (Wk.forget (by (simp only [go_sem]) <;> trivial) (by simp only [go_sem])) ?_
  intro k hk
  rcases Nat.lt_or_ge k N with h2 | h2
  case inr =>
    have f1 : decide ((k : Int) < N) = false := by simp; omega
    have f2 : decide ((N : Int) ≤ plan.length) = true := by simp; omega
    simp (maxSteps := 4000000) -implicitDefEqProofs only [go_sem, f1, gl2, f2, Option.some.injEq, forall_eq', and_true, true_and, Bool.not_true, Bool.not_false, decide_true, Nat.reduceAdd, Nat.reduceSub, Nat.reduceLT, Nat.reduceLeDiff, Nat.reduceEqDiff, ↓reduceIte]
    exact wk_bool rfl
  have f1 : decide ((k : Int) < N) = true := by simp; omega
  obtain ⟨y, hy⟩ : ∃ x, A[k]? = some x := ⟨A[k]'(by omega), List.getElem?_eq_getElem _⟩
  have hc1 := hcnt k y hy
  have n1 : (0 ≤ (k : Int) ∧ (k : Int) < N) = True := eq_true (by omega)
  have n2 : (k < N) = True := eq_true (by omega)
  have wk1 : IntKind.i64.wrap ((k : Int) + 1) = ((k + 1 : Nat) : Int) := by rw [i64_in _ (by omega)]; simp
  simp (maxSteps := 4000000) -implicitDefEqProofs only [go_sem, f1, gl2, Option.some.injEq, forall_eq', and_true, true_and, Bool.not_true, Bool.not_false, decide_true, Nat.reduceAdd, Nat.reduceSub, Nat.reduceLT, Nat.reduceLeDiff, Nat.reduceEqDiff, ↓reduceIte]
  refine eloop (S := Nat) (fun i => mkE 106 [(2, .d (.sl (plan.map stD))), (7, .d (.bool true)), (10, .d (.sl (A.map stD))), (12, .d (.int .i64 k)), (13, .d (.int .i64 (cntP y.cl y.to (plan.take i)))), (14, .d (.int .i64 i))]) (fun i => []) (fun i => i ≤ plan.length) (fun i => plan.length - i) 0 (by omega) (Wk.sub (by (simp only [go_sem]) <;> trivial)) ?_
  intro i hi
  rcases Nat.lt_or_ge i plan.length with h3 | h3
  case inr =>
    have f2 : decide ((i : Int) < plan.length) = false := by simp; omega
    have e1 : cntP y.cl y.to (plan.take i) = 1 := by rw [List.take_of_length_le h3]; exact hc1
    have z1 : (((1 : Nat) : Int) != 1) = false := rfl
    rw [e1]
    simp (maxSteps := 4000000) -implicitDefEqProofs only [go_sem, f2, z1, wk1, Option.some.injEq, forall_eq', and_true, true_and, Bool.not_true, Bool.not_false, decide_true, Nat.reduceAdd, Nat.reduceSub, Nat.reduceLT, Nat.reduceLeDiff, Nat.reduceEqDiff, ↓reduceIte]
    exact .mk (k + 1) (by omega) (by omega) (Wk.sub (by (simp only [go_sem]) <;> trivial))
  have f2 : decide ((i : Int) < plan.length) = true := by simp; omega
  obtain ⟨x, hx⟩ : ∃ x, plan[i]? = some x := ⟨plan[i]'h3, List.getElem?_eq_getElem _⟩
  have ct := cntP_take (c := y.cl) (x := y.to) hx
  have m1 : (0 ≤ (i : Int) ∧ (i : Int) < plan.length) = True := eq_true (by omega)
  have m2 : (i < plan.length) = True := eq_true h3
  have w1 : IntKind.i64.wrap ((i : Int) + 1) = ((i + 1 : Nat) : Int) := by rw [i64_in _ (by omega)]; simp
  have hcb : cntP y.cl y.to (plan.take i) ≤ 1000 := by
    refine Nat.le_trans (List.length_filter_le _ _) ?_
    rw [List.length_take]; omega
  have w2 : IntKind.i64.wrap (((cntP y.cl y.to (plan.take i) : Nat) : Int) + 1) = ((cntP y.cl y.to (plan.take i) + 1 : Nat) : Int) := by rw [i64_in _ (by omega)]; simp
  cases z1 : (x.cl == y.cl)
  case false =>
    have ci : cntP y.cl y.to (plan.take (i + 1)) = cntP y.cl y.to (plan.take i) := by rw [ct]; simp [isP, z1]
    simp (maxSteps := 4000000) -implicitDefEqProofs only [go_sem, f2, Option.some.injEq, forall_eq', and_true, true_and, Bool.not_true, Bool.not_false, decide_true, Nat.reduceAdd, Nat.reduceSub, Nat.reduceLT, Nat.reduceLeDiff, Nat.reduceEqDiff, ↓reduceIte]
    refine DX.plain (.take 0 false (.take 1 false (.take 2 false (.take 3 false (.take 4 false (.take 5 false (.take 6 false (.take 7 false (.take 8 false (.take 9 false (.take 10 false (.take 11 false (.take 12 false (.take 13 false (.take 14 false (.take 15 false (.take 16 false (.take 17 false (.take 18 false (.take 19 false (.take 20 false (.take 21 false (.take 22 false (.take 23 false .done)))))))))))))))))))))))) (by kernel_rfl) (by kernel_rfl) Ty.mixed ?_
    simp (maxSteps := 4000000) -implicitDefEqProofs only [go_sem, m1, m2, n1, n2, gl2, hx, hy, z1, Option.some.injEq, forall_eq', and_true, true_and, Bool.not_true, Bool.not_false, decide_true, Nat.reduceAdd, Nat.reduceSub, Nat.reduceLT, Nat.reduceLeDiff, Nat.reduceEqDiff, ↓reduceIte]
    simp (maxSteps := 4000000) -implicitDefEqProofs only [go_sem, w1, Option.some.injEq, forall_eq', and_true, true_and, Bool.not_true, Bool.not_false, decide_true, Nat.reduceAdd, Nat.reduceSub, Nat.reduceLT, Nat.reduceLeDiff, Nat.reduceEqDiff, ↓reduceIte]
    exact .mk (i + 1) (by omega) (by omega) (by rw [ci]; exact (Wk.sub (by (simp only [go_sem]) <;> trivial)))
  cases z2 : decide (x.to = y.to)
  case false =>
    have ci : cntP y.cl y.to (plan.take (i + 1)) = cntP y.cl y.to (plan.take i) := by rw [ct]; simp [isP, z1, z2]
    simp (maxSteps := 4000000) -implicitDefEqProofs only [go_sem, f2, Option.some.injEq, forall_eq', and_true, true_and, Bool.not_true, Bool.not_false, decide_true, Nat.reduceAdd, Nat.reduceSub, Nat.reduceLT, Nat.reduceLeDiff, Nat.reduceEqDiff, ↓reduceIte]
    refine DX.plain (.take 0 false (.take 1 false (.take 2 false (.take 3 false (.take 4 false (.take 5 false (.take 6 false (.take 7 false (.take 8 false (.take 9 false (.take 10 false (.take 11 false (.take 12 false (.take 13 false (.take 14 false (.take 15 false (.take 16 false (.take 17 false (.take 18 false (.take 19 false (.take 20 false (.take 21 false (.take 22 false (.take 23 false .done)))))))))))))))))))))))) (by kernel_rfl) (by kernel_rfl) Ty.mixed ?_
    simp (maxSteps := 4000000) -implicitDefEqProofs only [go_sem, m1, m2, n1, n2, gl2, hx, hy, z1, z2, Option.some.injEq, forall_eq', and_true, true_and, Bool.not_true, Bool.not_false, decide_true, Nat.reduceAdd, Nat.reduceSub, Nat.reduceLT, Nat.reduceLeDiff, Nat.reduceEqDiff, ↓reduceIte]
    simp (maxSteps := 4000000) -implicitDefEqProofs only [go_sem, w1, Option.some.injEq, forall_eq', and_true, true_and, Bool.not_true, Bool.not_false, decide_true, Nat.reduceAdd, Nat.reduceSub, Nat.reduceLT, Nat.reduceLeDiff, Nat.reduceEqDiff, ↓reduceIte]
    exact .mk (i + 1) (by omega) (by omega) (by rw [ci]; exact (Wk.sub (by (simp only [go_sem]) <;> trivial)))
  have ci : cntP y.cl y.to (plan.take (i + 1)) = cntP y.cl y.to (plan.take i) + 1 := by rw [ct]; simp [isP, z1, z2]
  simp (maxSteps := 4000000) -implicitDefEqProofs only [go_sem, f2, Option.some.injEq, forall_eq', and_true, true_and, Bool.not_true, Bool.not_false, decide_true, Nat.reduceAdd, Nat.reduceSub, Nat.reduceLT, Nat.reduceLeDiff, Nat.reduceEqDiff, ↓reduceIte]
  refine DX.plain (.take 0 false (.take 1 false (.take 2 false (.take 3 false (.take 4 false (.take 5 false (.take 6 false (.take 7 false (.take 8 false (.take 9 false (.take 10 false (.take 11 false (.take 12 false (.take 13 false (.take 14 false (.take 15 false (.take 16 false (.take 17 false (.take 18 false (.take 19 false (.take 20 false (.take 21 false (.take 22 false (.take 23 false .done)))))))))))))))))))))))) (by kernel_rfl) (by kernel_rfl) Ty.mixed ?_
  simp (maxSteps := 4000000) -implicitDefEqProofs only [go_sem, m1, m2, n1, n2, gl2, hx, hy, z1, z2, Option.some.injEq, forall_eq', and_true, true_and, Bool.not_true, Bool.not_false, decide_true, Nat.reduceAdd, Nat.reduceSub, Nat.reduceLT, Nat.reduceLeDiff, Nat.reduceEqDiff, ↓reduceIte]
  simp (maxSteps := 4000000) -implicitDefEqProofs only [go_sem, w1, w2, Option.some.injEq, forall_eq', and_true, true_and, Bool.not_true, Bool.not_false, decide_true, Nat.reduceAdd, Nat.reduceSub, Nat.reduceLT, Nat.reduceLeDiff, Nat.reduceEqDiff, ↓reduceIte]
  exact .mk (i + 1) (by omega) (by omega) (by rw [ci]; exact (Wk.sub (by (simp only [go_sem]) <;> trivial)))
end Go.AX.Fw
namespace Go.Proofs.Ytjdppplgddldcaa
open Go.AX Go.AX.Fw Go.RowKit
set_option maxRecDepth 100000 in
theorem forwardLeast_lifted (os : Os) (started : os.Started) (H : Type) (enc : TypeId × Value → H) :
    ReturnsInHanded {} Try.checked os 6 .any (Rows.forwardLeastSpec.pre6 enc Try.prog Try.f6 Rows.forwardLeastRow.domain false) (Rows.forwardLeastSpec.post enc Try.prog Try.f6 false true false false) := by
  refine Go.AX.lifted (C := Try.checked) (f := 6) (fn := Try.f6) (s := Rows.forwardLeastSpec) (rt := 4) (n := 8) (by kernel_rfl) (by kernel_rfl) Try.func6 rfl ?_ rfl (by kernel_rfl) (by kernel_rfl) (by kernel_rfl) (by kernel_rfl) os started H enc
    (ChangeSpec.witness6 (enc := enc) (C := Try.checked) false ⟨#[], #[.agg #[.slice none 0 0, .slice none 0 0, .slice none 0 0], .slice none 0 0, .slice none 0 0], []⟩ 8 (by kernel_rfl) (by kernel_rfl) (by kernel_rfl) (by kernel_rfl)) ?_
  · intro H ds h
    match ds, h with
    | [a0, a1, a2], _ => rfl
  · intro xs hx
    have hp : Try.f6.params.toList = [26, 27, 28] := rfl
    rw [hp] at hx ⊢
    have i0 : isA Try.prog 26 = true := by kernel_rfl
    have i1 : isA Try.prog 27 = false := by kernel_rfl
    have i2 : isA Try.prog 28 = false := by kernel_rfl
    rcases xs with _ | ⟨d0, _ | ⟨d1, _ | ⟨d2, _ | ⟨d3, xs⟩⟩⟩⟩ <;> simp only [Tyds, and_false] at hx
    obtain ⟨k0, k1, k2, _⟩ := hx
    obtain ⟨l, rfl, hl⟩ := ledger_of k0
    obtain ⟨o, rfl, ho⟩ := texts_of k1
    obtain ⟨p, rfl, hp⟩ := steps_of k2
    simp only [avs, i0, i1, i2, dv, Bool.false_eq_true, if_false, if_true, List.headD_cons, List.map_cons, List.map_nil]
    exact forwardLeast_spec l o p hl ho hp
theorem forwardLeast_over : Rows.forwardLeastRow.holds Try.pinned (OpenSpec.ofChange Rows.forwardLeastSpec) :=
  OpenClaim.holds_of_wide 6 Try.f6 rfl rfl rfl rfl rfl rfl rfl ⟨rfl, rfl, rfl, rfl, rfl⟩ rfl rfl rfl rfl rfl (by kernel_rfl) Try.func6 (by kernel_rfl)
    (of_decide_eq_true (by kernel_rfl)) (by unfold Func.isWrapper; first | (rw [if_pos (by decide +kernel)]; kernel_rfl) | (rw [if_neg (by decide +kernel)]; exact ⟨rfl, rfl⟩))
    (fun os started H enc _ => forwardLeast_lifted os started H enc)
/-- The row, under a short name, for the claim. -/
theorem forwardLeast_holds : Rows.ForwardLeastSaid := forwardLeast_over
#print axioms forwardLeast_holds
end Go.Proofs.Ytjdppplgddldcaa

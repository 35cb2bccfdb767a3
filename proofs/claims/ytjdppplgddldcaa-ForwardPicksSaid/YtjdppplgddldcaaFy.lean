/- ForwardPicks: whatever the input, the law returns true, and its arguments read as they did. No condition. -/
import Derived.Test.YtjdppplgddldcaaK22
set_option maxHeartbeats 8000000
set_option linter.unusedVariables false
set_option linter.unusedSimpArgs false
set_option maxRecDepth 20000
namespace Go.AX.Fw
open Go.Proofs Go.RowKit Go.IntWalk Go.AX.Br Go.AX.Lg
theorem bz : ∀ b : Bool, b = true ∨ b = false := by decide
theorem twin_dat (l : Lg) (hk : l.kn.length ≤ 1000) (hb : l.br.length ≤ 1000) (he : l.ev.length ≤ 1000) (hs : ∀ s ∈ l.ev, s.length ≤ 1000) : Spec Try.prog 26 [lA l] [] (lA l) [] :=
  (twin_lown l hk hb he hs).wk (wk_dat (r' := lA l) (by simp only [go_sem, lA]; rfl) rfl (by simp only [go_sem, lA]))
structure PStep (l : Lg) (o : List ByteArray) (G : Gr) (k : Nat) (s : St) (c b : Nat) : Prop where
  hc : c < 30
  cl : s.cl = (c : Int)
  to : o[b]? = some s.to
  no : fill G o.length k c b = false
  nx : fill G o.length (k + 1) = upd (fill G o.length k) c b
  kn : ∃ x ∈ l.kn, x.cl = (c : Int)
theorem pstep {l : Lg} {o : List ByteArray} (ok : FOk l o) {k : Nat} {s : St} (h : (planS o (gridG l o))[k]? = some s) : ∃ c b, PStep l o (gridG l o) k s c b := by
  have hk := some_lt h
  simp only [planS, List.length_map, List.length_range] at hk
  obtain ⟨⟨c, b⟩, hx⟩ : ∃ x, (gapsL (gridG l o) o.length)[k]? = some x := ⟨(gapsL (gridG l o) o.length)[k]'hk, List.getElem?_eq_getElem _⟩
  obtain ⟨hc, hbn, hgp⟩ := gap_in hx
  obtain ⟨p1, p2, p3⟩ := plan_ok ok hx
  have hs : s = stP o (gridG l o) k := by
    simp only [planS, List.getElem?_map, List.getElem?_range hk, Option.map_some, Option.some.injEq] at h
    exact h.symm
  obtain ⟨y, hy⟩ : ∃ y, o[b]? = some y := ⟨o[b]'hbn, List.getElem?_eq_getElem _⟩
  obtain ⟨w, hwb, hw⟩ := gap_older hgp
  have e1 : s.cl = (c : Int) := by rw [hs]; simp only [stP, hx]
  have e2 : s.to = y := by rw [hs]; simp only [stP, hx, nameAt_of hy]
  refine ⟨c, b, hc, e1, by rw [e2, hy], ?_, fill_succ hx, gap_known ok hw⟩
  unfold stepOk at p1
  rw [p2, p3] at p1
  simp only [Bool.and_eq_true, Bool.not_eq_true'] at p1
  exact p1.1.2
theorem forwardPicks_spec (l : Lg) (o : List ByteArray) (hl : LSm l) (hso : Sm o.length) : Spec Try.prog 7 [lA l, .d (.sl (o.map sD))] [] (.d (.bool true)) [] := by
  have c0 := alive_fspec
  have c1 := great_fref l o [] hl hso (by unfold Sm; simp)
  simp only [lA, List.map_nil] at c1
  have b1 : (!true) = false := rfl
  refine spec_of_ev (fn := Try.f7) DX_ok 3000 Try.func7 rfl rfl (Nat.le_of_ble_eq_true rfl) ?_
  simp (maxSteps := 4000000) -implicitDefEqProofs only [Try.f7, go_sem, lA]
  refine ecall0 _ c0 (by simp only [go_sem]) (by simp only [go_sem]) ?_
  simp (maxSteps := 4000000) -implicitDefEqProofs only [go_sem, Nat.reduceAdd, Nat.reduceSub, Nat.reduceLT, Nat.reduceLeDiff, Nat.reduceEqDiff, ↓reduceIte]
  refine ECall.dat (args' := [.agg [.d (.sl (l.kn.map kD)), .d (.sl (l.br.map bD)), .d (.sl (l.ev.map esD))], .d (.sl (o.map sD)), .d (.sl [])]) (by simp only [go_sem]; rfl) rfl ?_
  refine ecall0 _ c1 (by simp only [go_sem]) (by simp only [go_sem]) ?_
  cases g1 : great30 l o []
  case true =>
    simp (maxSteps := 4000000) -implicitDefEqProofs only [go_sem, b1, Option.some.injEq, forall_eq', and_true, true_and, Bool.not_true, Bool.not_false, decide_true, Nat.reduceAdd, Nat.reduceSub, Nat.reduceLT, Nat.reduceLeDiff, Nat.reduceEqDiff, ↓reduceIte]
    exact wk_bool rfl
  have ft := fit30_of g1
  have f := fit_of ft.g
  have fk : l.kn.length ≤ 1000 := by have := f.k; omega
  have fb : l.br.length ≤ 1000 := by have := f.b; omega
  have fe : l.ev.length ≤ 1000 := by have := f.e; omega
  have fo : o.length ≤ 1000 := by have := ft.o; omega
  have c2 := fcheck_ref l o fk fb fe fo
  simp only [lA] at c2
  simp (maxSteps := 4000000) -implicitDefEqProofs only [go_sem, Nat.reduceAdd, Nat.reduceSub, Nat.reduceLT, Nat.reduceLeDiff, Nat.reduceEqDiff, ↓reduceIte]
  refine ecall0 _ c2 (by simp only [go_sem]) (by simp only [go_sem]) ?_
  cases g2 : (fcheck l o != 0)
  case true =>
    simp (maxSteps := 4000000) -implicitDefEqProofs only [go_sem, g2, b1, Option.some.injEq, forall_eq', and_true, true_and, Bool.not_true, Bool.not_false, decide_true, Nat.reduceAdd, Nat.reduceSub, Nat.reduceLT, Nat.reduceLeDiff, Nat.reduceEqDiff, ↓reduceIte]
    exact wk_bool rfl
  have hf : fcheck l o = 0 := by simpa using g2
  have ok := fok_of hf
  have hpn : plnR l o = (planS o (gridG l o), 0) := by rw [plnR, hf]; rfl
  have gl := gapsL_len (gridG l o) o.length
  have h8 := ok.len
  have hst := fun k s => pstep ok (k := k) (s := s)
  have hfin := no_gap (G := gridG l o) (n := o.length)
  have hlen : (planS o (gridG l o)).length = (gapsL (gridG l o) o.length).length := by simp [planS]
  have c4 := Plan_own l o fk fb fe fo
  have ct := twin_dat l fk fb fe (fun s hs => by have := ok.lo.own; obtain ⟨i, hi⟩ := List.getElem?_of_mem hs; have := this i s hi; omega)
  rw [hpn] at c4
  obtain ⟨G, hG⟩ : ∃ G, G = gridG l o := ⟨_, rfl⟩
  rw [← hG] at c4 hst hfin hlen gl
  obtain ⟨N, hN⟩ : ∃ N, N = (gapsL G o.length).length := ⟨_, rfl⟩
  rw [← hN] at hlen hfin gl
  obtain ⟨P, hP⟩ : ∃ P, P = planS o G := ⟨_, rfl⟩
  rw [← hP] at c4 hst hlen
  have z0 : ((0 : Int) != 0) = false := rfl
  have z1 : ((0 : Int) == 0) = true := rfl
  simp only [lA] at c4 ct
  simp (maxSteps := 4000000) -implicitDefEqProofs only [go_sem, g2, b1, Option.some.injEq, forall_eq', and_true, true_and, Bool.not_true, Bool.not_false, decide_true, Nat.reduceAdd, Nat.reduceSub, Nat.reduceLT, Nat.reduceLeDiff, Nat.reduceEqDiff, ↓reduceIte]
  refine ecall0 _ c4 (by simp only [go_sem]) (by simp only [go_sem]) ?_
  simp (maxSteps := 4000000) -implicitDefEqProofs only [go_sem, z0, Option.some.injEq, forall_eq', and_true, true_and, Bool.not_true, Bool.not_false, decide_true, Nat.reduceAdd, Nat.reduceSub, Nat.reduceLT, Nat.reduceLeDiff, Nat.reduceEqDiff, ↓reduceIte]
  refine ecall0 _ ct (by simp only [go_sem]) (by simp only [go_sem]) ?_
  simp (maxSteps := 4000000) -implicitDefEqProofs only [go_sem, Nat.reduceAdd, Nat.reduceSub, Nat.reduceLT, Nat.reduceLeDiff, Nat.reduceEqDiff, ↓reduceIte]
  refine eloop (S := Nat × Lg) (fun s => mkE 115 [(1, .d (.sl (o.map sD))), (2, .ptr 0 0), (5, .d (.bool true)), (6, .d (.sl (P.map stD))), (8, .ptr 1 0), (9, .d (.int .i64 s.1))]) (fun s => [lH l, lH s.2])
    (fun s => s.1 ≤ N ∧ fcheck s.2 o = 0 ∧ s.2.kn = l.kn ∧ s.2.br = l.br ∧ s.2.ev.length = l.ev.length ∧ gridG s.2 o = fill G o.length s.1) (fun s => N - s.1) ((0, l) : Nat × Lg) ⟨Nat.zero_le _, hf, rfl, rfl, rfl, by rw [fill_0, hG]⟩ (Wk.via [0, 1] (by (simp only [go_sem, ↓reduceIte]) <;> trivial) (by first | (simp (maxSteps := 4000000) -implicitDefEqProofs only [go_sem, Nat.reduceAdd, Nat.reduceSub, Nat.reduceLT, Nat.reduceLeDiff, Nat.reduceEqDiff, ↓reduceIte]; done) | ((simp (maxSteps := 4000000) -implicitDefEqProofs only [go_sem, Nat.reduceAdd, Nat.reduceSub, Nat.reduceLT, Nat.reduceLeDiff, Nat.reduceEqDiff, ↓reduceIte]) <;> omega)) (by simp) (by first | (simp; done) | (simp [so]; done)) (by (simp (maxSteps := 4000000) -implicitDefEqProofs only [go_sem, Nat.reduceAdd, Nat.reduceSub, Nat.reduceLT, Nat.reduceLeDiff, Nat.reduceEqDiff, ↓reduceIte]) <;> trivial) (by first | (simp only [go_sem]; done) | ((simp (maxSteps := 4000000) -implicitDefEqProofs only [go_sem, Nat.reduceAdd, Nat.reduceSub, Nat.reduceLT, Nat.reduceLeDiff, Nat.reduceEqDiff, ↓reduceIte]) <;> omega)) (Nat.zero_le _) (fun i h => absurd h (Nat.not_lt_zero i))) ?_
  intro s hs
  obtain ⟨k, hk⟩ : ∃ k, k = s.1 := ⟨_, rfl⟩
  obtain ⟨m, hm⟩ : ∃ m, m = s.2 := ⟨_, rfl⟩
  rw [← hk, ← hm] at hs ⊢
  obtain ⟨hkN, hfm, hkn, hbr, hev, hgr⟩ := hs
  have okm := fok_of hfm
  have mk : m.kn.length ≤ 1000 := by rw [hkn]; exact fk
  have mb : m.br.length ≤ 1000 := by rw [hbr]; exact fb
  have me : m.ev.length ≤ 1000 := by rw [hev]; exact fe
  rcases Nat.lt_or_ge k N with h2 | h2
  case inr =>
    have hkk : k = N := by omega
    subst hkk
    have f1 : decide ((k : Int) < P.length) = false := by rw [hlen]; simp
    have cg := Gaps_own m o mk mb me fo
    have hgp : gpsR m o = ([], 0) := by rw [gpsR, hfm, hgr, if_neg (by simp), gapsS, hfin]; rfl
    rw [hgp] at cg
    simp only [lA, List.map_nil] at cg
    simp (maxSteps := 4000000) -implicitDefEqProofs only [go_sem, f1, Option.some.injEq, forall_eq', and_true, true_and, Bool.not_true, Bool.not_false, decide_true, Nat.reduceAdd, Nat.reduceSub, Nat.reduceLT, Nat.reduceLeDiff, Nat.reduceEqDiff, ↓reduceIte]
    refine ecall0 _ cg (by simp only [go_sem]) (by simp only [go_sem]) ?_
    have z2 : (((0 : Nat) : Int) == 0) = true := rfl
    simp (maxSteps := 4000000) -implicitDefEqProofs only [go_sem, z1, z2, Option.some.injEq, forall_eq', and_true, true_and, Bool.not_true, Bool.not_false, decide_true, Nat.reduceAdd, Nat.reduceSub, Nat.reduceLT, Nat.reduceLeDiff, Nat.reduceEqDiff, ↓reduceIte]
    exact wk_bool rfl
  have f1 : decide ((k : Int) < P.length) = true := by rw [hlen]; simp; omega
  obtain ⟨st, hsk⟩ : ∃ s, P[k]? = some s := ⟨P[k]'(by omega), List.getElem?_eq_getElem _⟩
  obtain ⟨c, b, ps⟩ := hst k st hsk
  have n1 : (0 ≤ (k : Int) ∧ (k : Int) < P.length) = True := eq_true (by omega)
  have n2 : (k < P.length) = True := eq_true (by omega)
  have w1 : IntKind.i64.wrap ((k : Int) + 1) = ((k + 1 : Nat) : Int) := by rw [i64_in _ (by omega)]; simp
  obtain ⟨kn, hkm, hkc, hch⟩ := chg_in (l := l) (c := st.cl) (by obtain ⟨x, h1, h2⟩ := ps.kn; exact ⟨x, h1, by rw [h2, ps.cl]⟩)
  have hpk := pick_step okm ps.hc ps.to (k := kn) (by rw [hkn]; exact hkm) (by rw [hkc, ps.cl]) (by rw [hgr]; exact ps.no)
  have hix : 0 ≤ idx (has st.to) l.br := by rw [← hbr]; exact okm.br st.to (List.mem_of_getElem? ps.to)
  have d1 : decide (idx (has st.to) l.br < 0) = false := by simp; omega
  have ci := index_ref l.br st.to (by unfold Sm; omega)
  have ca := append_lown m st.to ⟨2, kn.ch⟩ mk mb me
  have ch0 : chgI l st.cl 0 = ByteArray.empty := rfl
  have chs := fun i k => chg_step (l := l) (c := st.cl) (i := i) (k := k)
  simp (maxSteps := 4000000) -implicitDefEqProofs only [go_sem, f1, Option.some.injEq, forall_eq', and_true, true_and, Bool.not_true, Bool.not_false, decide_true, Nat.reduceAdd, Nat.reduceSub, Nat.reduceLT, Nat.reduceLeDiff, Nat.reduceEqDiff, ↓reduceIte]
  refine eloop (S := Nat) (fun i => mkE 115 [(1, .d (.sl (o.map sD))), (2, .ptr 0 0), (5, .d (.bool true)), (6, .d (.sl (P.map stD))), (8, .ptr 1 0), (9, .d (.int .i64 k)), (10, .d (.str (chgI l st.cl i))), (11, .d (.int .i64 i))]) (fun i => [lH l, lH m]) (fun i => i ≤ l.kn.length) (fun i => l.kn.length - i) 0 (by omega) (by rw [ch0]; exact (Wk.via [0, 1] (by (simp only [go_sem, ↓reduceIte]) <;> trivial) (by first | (simp (maxSteps := 4000000) -implicitDefEqProofs only [go_sem, Nat.reduceAdd, Nat.reduceSub, Nat.reduceLT, Nat.reduceLeDiff, Nat.reduceEqDiff, ↓reduceIte]; done) | ((simp (maxSteps := 4000000) -implicitDefEqProofs only [go_sem, Nat.reduceAdd, Nat.reduceSub, Nat.reduceLT, Nat.reduceLeDiff, Nat.reduceEqDiff, ↓reduceIte]) <;> omega)) (by simp) (by first | (simp; done) | (simp [so]; done)) (by (simp (maxSteps := 4000000) -implicitDefEqProofs only [go_sem, Nat.reduceAdd, Nat.reduceSub, Nat.reduceLT, Nat.reduceLeDiff, Nat.reduceEqDiff, ↓reduceIte]) <;> trivial) (by first | (simp only [go_sem]; done) | ((simp (maxSteps := 4000000) -implicitDefEqProofs only [go_sem, Nat.reduceAdd, Nat.reduceSub, Nat.reduceLT, Nat.reduceLeDiff, Nat.reduceEqDiff, ↓reduceIte]) <;> omega)) (Nat.zero_le _) (fun i h => absurd h (Nat.not_lt_zero i)))) ?_
  intro i hi
  rcases Nat.lt_or_ge i l.kn.length with h3 | h3
  · have f2 : decide ((i : Int) < l.kn.length) = true := by simp; omega
    obtain ⟨x, hx⟩ : ∃ x, l.kn[i]? = some x := ⟨l.kn[i]'h3, List.getElem?_eq_getElem _⟩
    have m1 : (0 ≤ (i : Int) ∧ (i : Int) < l.kn.length) = True := eq_true (by omega)
    have m2 : (i < l.kn.length) = True := eq_true h3
    have w2 : IntKind.i64.wrap ((i : Int) + 1) = ((i + 1 : Nat) : Int) := by rw [i64_in _ (by omega)]; simp
    have cs := chs i x hx
    obtain ⟨C, hC⟩ : ∃ C, C = chgI l st.cl i := ⟨_, rfl⟩
    rw [← hC] at cs ⊢
    rcases bz (x.cl == st.cl) with e | e
    · rw [if_pos (by simpa using e)] at cs
      simp (maxSteps := 4000000) -implicitDefEqProofs only [go_sem, f2, Option.some.injEq, forall_eq', and_true, true_and, Bool.not_true, Bool.not_false, decide_true, Nat.reduceAdd, Nat.reduceSub, Nat.reduceLT, Nat.reduceLeDiff, Nat.reduceEqDiff, ↓reduceIte]
      refine DX.plain (.take 0 false (.take 1 false (.take 2 false (.take 3 false (.take 4 false (.take 5 false (.take 6 false (.take 7 false (.take 8 false (.take 9 false (.take 10 false (.take 11 false .done)))))))))))) (by kernel_rfl) (by kernel_rfl) Ty.mixed ?_
      simp (maxSteps := 4000000) -implicitDefEqProofs only [go_sem, m1, m2, hx, n1, n2, hsk, Option.some.injEq, forall_eq', and_true, true_and, Bool.not_true, Bool.not_false, decide_true, Nat.reduceAdd, Nat.reduceSub, Nat.reduceLT, Nat.reduceLeDiff, Nat.reduceEqDiff, ↓reduceIte]
      simp (maxSteps := 4000000) -implicitDefEqProofs only [go_sem, e, m1, m2, hx, w2, Option.some.injEq, forall_eq', and_true, true_and, Bool.not_true, Bool.not_false, decide_true, Nat.reduceAdd, Nat.reduceSub, Nat.reduceLT, Nat.reduceLeDiff, Nat.reduceEqDiff, ↓reduceIte]
      exact .mk (i + 1) (by omega) (by omega) (by rw [cs]; exact (Wk.via [0, 1] (by (simp only [go_sem, ↓reduceIte]) <;> trivial) (by first | (simp (maxSteps := 4000000) -implicitDefEqProofs only [go_sem, Nat.reduceAdd, Nat.reduceSub, Nat.reduceLT, Nat.reduceLeDiff, Nat.reduceEqDiff, ↓reduceIte]; done) | ((simp (maxSteps := 4000000) -implicitDefEqProofs only [go_sem, Nat.reduceAdd, Nat.reduceSub, Nat.reduceLT, Nat.reduceLeDiff, Nat.reduceEqDiff, ↓reduceIte]) <;> omega)) (by simp) (by first | (simp; done) | (simp [so]; done)) (by (simp (maxSteps := 4000000) -implicitDefEqProofs only [go_sem, Nat.reduceAdd, Nat.reduceSub, Nat.reduceLT, Nat.reduceLeDiff, Nat.reduceEqDiff, ↓reduceIte]) <;> trivial) (by first | (simp only [go_sem]; done) | ((simp (maxSteps := 4000000) -implicitDefEqProofs only [go_sem, Nat.reduceAdd, Nat.reduceSub, Nat.reduceLT, Nat.reduceLeDiff, Nat.reduceEqDiff, ↓reduceIte]) <;> omega)) (Nat.zero_le _) (fun i h => absurd h (Nat.not_lt_zero i))))
    · rw [if_neg (by simpa using e)] at cs
      simp (maxSteps := 4000000) -implicitDefEqProofs only [go_sem, f2, Option.some.injEq, forall_eq', and_true, true_and, Bool.not_true, Bool.not_false, decide_true, Nat.reduceAdd, Nat.reduceSub, Nat.reduceLT, Nat.reduceLeDiff, Nat.reduceEqDiff, ↓reduceIte]
      refine DX.plain (.take 0 false (.take 1 false (.take 2 false (.take 3 false (.take 4 false (.take 5 false (.take 6 false (.take 7 false (.take 8 false (.take 9 false (.take 10 false (.take 11 false .done)))))))))))) (by kernel_rfl) (by kernel_rfl) Ty.mixed ?_
      simp (maxSteps := 4000000) -implicitDefEqProofs only [go_sem, m1, m2, hx, n1, n2, hsk, Option.some.injEq, forall_eq', and_true, true_and, Bool.not_true, Bool.not_false, decide_true, Nat.reduceAdd, Nat.reduceSub, Nat.reduceLT, Nat.reduceLeDiff, Nat.reduceEqDiff, ↓reduceIte]
      simp (maxSteps := 4000000) -implicitDefEqProofs only [go_sem, e, m1, m2, hx, w2, Option.some.injEq, forall_eq', and_true, true_and, Bool.not_true, Bool.not_false, decide_true, Nat.reduceAdd, Nat.reduceSub, Nat.reduceLT, Nat.reduceLeDiff, Nat.reduceEqDiff, ↓reduceIte]
      exact .mk (i + 1) (by omega) (by omega) (by rw [cs]; exact (Wk.via [0, 1] (by (simp only [go_sem, ↓reduceIte]) <;> trivial) (by first | (simp (maxSteps := 4000000) -implicitDefEqProofs only [go_sem, Nat.reduceAdd, Nat.reduceSub, Nat.reduceLT, Nat.reduceLeDiff, Nat.reduceEqDiff, ↓reduceIte]; done) | ((simp (maxSteps := 4000000) -implicitDefEqProofs only [go_sem, Nat.reduceAdd, Nat.reduceSub, Nat.reduceLT, Nat.reduceLeDiff, Nat.reduceEqDiff, ↓reduceIte]) <;> omega)) (by simp) (by first | (simp; done) | (simp [so]; done)) (by (simp (maxSteps := 4000000) -implicitDefEqProofs only [go_sem, Nat.reduceAdd, Nat.reduceSub, Nat.reduceLT, Nat.reduceLeDiff, Nat.reduceEqDiff, ↓reduceIte]) <;> trivial) (by first | (simp only [go_sem]; done) | ((simp (maxSteps := 4000000) -implicitDefEqProofs only [go_sem, Nat.reduceAdd, Nat.reduceSub, Nat.reduceLT, Nat.reduceLeDiff, Nat.reduceEqDiff, ↓reduceIte]) <;> omega)) (Nat.zero_le _) (fun i h => absurd h (Nat.not_lt_zero i))))
  have hii : i = l.kn.length := by omega
  subst hii
  have f2 : decide ((l.kn.length : Int) < l.kn.length) = false := by simp
  rw [hch]
  obtain ⟨A, hA⟩ : ∃ A, A = appR m st.to ⟨2, kn.ch⟩ := ⟨_, rfl⟩
  rw [← hA] at ca hpk
  simp only [lA] at ca
  simp (maxSteps := 4000000) -implicitDefEqProofs only [go_sem, f2, Option.some.injEq, forall_eq', and_true, true_and, Bool.not_true, Bool.not_false, decide_true, Nat.reduceAdd, Nat.reduceSub, Nat.reduceLT, Nat.reduceLeDiff, Nat.reduceEqDiff, ↓reduceIte]
  refine DX.plain (.take 0 false (.take 1 false (.take 2 false (.take 3 false (.take 4 false (.take 5 false (.take 6 false (.take 7 false (.take 8 false .done))))))))) (by kernel_rfl) (by kernel_rfl) Ty.mixed ?_
  simp (maxSteps := 4000000) -implicitDefEqProofs only [go_sem, n1, n2, hsk, d1, Option.some.injEq, forall_eq', and_true, true_and, Bool.not_true, Bool.not_false, decide_true, Nat.reduceAdd, Nat.reduceSub, Nat.reduceLT, Nat.reduceLeDiff, Nat.reduceEqDiff, ↓reduceIte]
  refine ⟨_, _, ci.lift0 _ (by simp only [go_sem]) (by simp only [go_sem]), rfl, ?_⟩
  simp (maxSteps := 4000000) -implicitDefEqProofs only [go_sem, d1, Option.some.injEq, forall_eq', and_true, true_and, Bool.not_true, Bool.not_false, decide_true, Nat.reduceAdd, Nat.reduceSub, Nat.reduceLT, Nat.reduceLeDiff, Nat.reduceEqDiff, ↓reduceIte]
  refine DX.plain (.take 0 true (.take 1 true (.take 2 true (.take 3 true (.take 4 true (.take 5 true (.take 6 true (.take 7 true (.take 8 true (.take 9 true (.take 10 true (.take 11 true (.run [12] (fun _ => [true, true, true, true, true, true, true, true, true, true, true, true]) fun _ => (.run [13] (fun _ => [true, false, false, false, false, false, false, false, false, false, false, false]) fun _ => (.take 14 false .done))))))))))))))) (by kernel_rfl) (by kernel_rfl) Ty.mixed ?_
  simp (maxSteps := 4000000) -implicitDefEqProofs only [go_sem, n1, n2, hsk, Option.some.injEq, forall_eq', and_true, true_and, Bool.not_true, Bool.not_false, decide_true, Nat.reduceAdd, Nat.reduceSub, Nat.reduceLT, Nat.reduceLeDiff, Nat.reduceEqDiff, ↓reduceIte]
  refine ⟨_, _, ca.lift0 _ (by simp only [go_sem]) (by simp only [go_sem]), rfl, ?_⟩
  have a1 : (∃ e, (P.map stD)[k]? = some e ∧ e.length = 3 ∧ AV.eptr e = AV.eptr (stD st)) = True := eq_true ⟨stD st, by simp [hsk], rfl, rfl⟩
  simp only [stD] at a1
  simp (maxSteps := 4000000) -implicitDefEqProofs only [go_sem, n1, n2, hsk, a1, Option.some.injEq, forall_eq', and_true, true_and, Bool.not_true, Bool.not_false, decide_true, Nat.reduceAdd, Nat.reduceSub, Nat.reduceLT, Nat.reduceLeDiff, Nat.reduceEqDiff, ↓reduceIte]
  refine ⟨ca.lift0 _ (by simp only [go_sem]) (by simp only [go_sem]), ?_⟩
  rcases hpk with hpk | ⟨m', hpk, okm', q1, q2, q3, q4⟩
  · have e4 : (A.2 == 4) = true := by rw [hpk]; rfl
    simp (maxSteps := 4000000) -implicitDefEqProofs only [go_sem, e4, Option.some.injEq, forall_eq', and_true, true_and, Bool.not_true, Bool.not_false, decide_true, Nat.reduceAdd, Nat.reduceSub, Nat.reduceLT, Nat.reduceLeDiff, Nat.reduceEqDiff, ↓reduceIte]
    exact wk_bool rfl
  · have e4 : (A.2 == 4) = false := by rw [hpk]; rfl
    have e5 : (A.2 != 0) = false := by rw [hpk]; rfl
    have ha : A.1 = m' := by rw [hpk]
    rw [ha]
    simp (maxSteps := 4000000) -implicitDefEqProofs only [go_sem, e4, e5, w1, Option.some.injEq, forall_eq', and_true, true_and, Bool.not_true, Bool.not_false, decide_true, Nat.reduceAdd, Nat.reduceSub, Nat.reduceLT, Nat.reduceLeDiff, Nat.reduceEqDiff, ↓reduceIte]
    refine .mk ((k + 1, m') : Nat × Lg) ⟨by show k + 1 ≤ N; omega, ?_, by show m'.kn = _; rw [q1, hkn], by show m'.br = _; rw [q2, hbr], by show m'.ev.length = _; rw [q3, hev], ?_⟩ (by show N - (k + 1) < N - k; omega) ?_
    · show fcheck m' o = 0
      rw [fcheck_br q2 okm.lo.chk okm'.lo.chk]; exact hfm
    · show gridG m' o = fill G o.length (k + 1)
      rw [q4, hgr, ps.nx]
    · exact (Wk.via [0, 1] (by (simp only [go_sem, ↓reduceIte]) <;> trivial) (by first | (simp (maxSteps := 4000000) -implicitDefEqProofs only [go_sem, Nat.reduceAdd, Nat.reduceSub, Nat.reduceLT, Nat.reduceLeDiff, Nat.reduceEqDiff, ↓reduceIte]; done) | ((simp (maxSteps := 4000000) -implicitDefEqProofs only [go_sem, Nat.reduceAdd, Nat.reduceSub, Nat.reduceLT, Nat.reduceLeDiff, Nat.reduceEqDiff, ↓reduceIte]) <;> omega)) (by simp) (by first | (simp; done) | (simp [so]; done)) (by (simp (maxSteps := 4000000) -implicitDefEqProofs only [go_sem, Nat.reduceAdd, Nat.reduceSub, Nat.reduceLT, Nat.reduceLeDiff, Nat.reduceEqDiff, ↓reduceIte]) <;> trivial) (by first | (simp only [go_sem]; done) | ((simp (maxSteps := 4000000) -implicitDefEqProofs only [go_sem, Nat.reduceAdd, Nat.reduceSub, Nat.reduceLT, Nat.reduceLeDiff, Nat.reduceEqDiff, ↓reduceIte]) <;> omega)) (Nat.zero_le _) (fun i h => absurd h (Nat.not_lt_zero i)))
end Go.AX.Fw
namespace Go.Proofs.Ytjdppplgddldcaa
open Go.AX Go.AX.Fw Go.RowKit
set_option maxRecDepth 100000 in
theorem forwardPicks_lifted (os : Os) (started : os.Started) (H : Type) (enc : TypeId × Value → H) :
    ReturnsInHanded {} Try.checked os 7 .any (Rows.forwardPicksSpec.pre6 enc Try.prog Try.f7 Rows.forwardPicksRow.domain false) (Rows.forwardPicksSpec.post enc Try.prog Try.f7 false true false false) := by
  refine Go.AX.lifted (C := Try.checked) (f := 7) (fn := Try.f7) (s := Rows.forwardPicksSpec) (rt := 4) (n := 8) (by kernel_rfl) (by kernel_rfl) Try.func7 rfl ?_ rfl (by kernel_rfl) (by kernel_rfl) (by kernel_rfl) (by kernel_rfl) os started H enc
    (ChangeSpec.witness6 (enc := enc) (C := Try.checked) false ⟨#[], #[.agg #[.slice none 0 0, .slice none 0 0, .slice none 0 0], .slice none 0 0], []⟩ 8 (by kernel_rfl) (by kernel_rfl) (by kernel_rfl) (by kernel_rfl)) ?_
  · intro H ds h
    match ds, h with
    | [a0, a1], _ => rfl
  · intro xs hx
    have hp : Try.f7.params.toList = [26, 27] := rfl
    rw [hp] at hx ⊢
    have i0 : isA Try.prog 26 = true := by kernel_rfl
    have i1 : isA Try.prog 27 = false := by kernel_rfl
    rcases xs with _ | ⟨d0, _ | ⟨d1, _ | ⟨d2, xs⟩⟩⟩ <;> simp only [Tyds, and_false] at hx
    obtain ⟨k0, k1, _⟩ := hx
    obtain ⟨l, rfl, hl⟩ := ledger_of k0
    obtain ⟨o, rfl, ho⟩ := texts_of k1
    simp only [avs, i0, i1, dv, Bool.false_eq_true, if_false, if_true, List.headD_cons, List.map_cons, List.map_nil]
    exact forwardPicks_spec l o hl ho
theorem forwardPicks_over : Rows.forwardPicksRow.holds Try.pinned (OpenSpec.ofChange Rows.forwardPicksSpec) :=
  OpenClaim.holds_of_wide 7 Try.f7 rfl rfl rfl rfl rfl rfl rfl ⟨rfl, rfl, rfl, rfl, rfl⟩ rfl rfl rfl rfl rfl (by kernel_rfl) Try.func7 (by kernel_rfl)
    (of_decide_eq_true (by kernel_rfl)) (by unfold Func.isWrapper; first | (rw [if_pos (by decide +kernel)]; kernel_rfl) | (rw [if_neg (by decide +kernel)]; exact ⟨rfl, rfl⟩))
    (fun os started H enc _ => forwardPicks_lifted os started H enc)
/-- The row, under a short name, for the claim. -/
theorem forwardPicks_holds : Rows.ForwardPicksSaid := forwardPicks_over
#print axioms forwardPicks_holds
end Go.Proofs.Ytjdppplgddldcaa

/- Forward: what a gap is; what is allowed. -/
import Derived.Test.YtjdppplgddldcaaK17
set_option maxHeartbeats 8000000
set_option linter.unusedVariables false
set_option linter.unusedSimpArgs false
set_option maxRecDepth 20000
namespace Go.AX.Fw
open Go.Proofs Go.RowKit Go.IntWalk Go.AX.Br Go.AX.Lg
theorem eff_okF {l : Lg} {nm : ByteArray} (lo : LOk l) (h : 0 ≤ idx (has nm) l.br) : (effR l nm).2 = 0 := by
  have hv : (lview l nm).2 = 0 := by
    unfold lview viewR
    rw [if_neg (by rw [lo.chk]; simp), if_neg (by rw [lo.tab.fits]; simp), if_neg (by omega)]
  unfold effR
  rw [if_neg (by rw [hv]; simp)]
theorem bz : ∀ b : Bool, b = true ∨ b = false := by decide
theorem any_tk {α : Type} {p : α → Bool} {l : List α} {k : Nat} {x : α} (h : l[k]? = some x) : (l.take (k + 1)).any p = ((l.take k).any p || p x) := by
  rw [List.take_add_one, h, Option.toList_some, List.any_append]; simp
theorem told_eq {l : Lg} {o : List ByteArray} (ok : FOk l o) {G : Gr} {c a : Nat} {x : ByteArray} (hc : c < 30) (hx : o[a]? = some x) : (gapsS o G).any (isP c x) = gapP G c a := by
  rw [Bool.eq_iff_iff]
  constructor
  · intro h
    obtain ⟨s, hs, hp⟩ := List.any_eq_true.1 h
    unfold gapsS at hs
    obtain ⟨⟨c', b⟩, hm, rfl⟩ := List.mem_map.1 hs
    obtain ⟨j, hj⟩ := List.mem_iff_getElem?.1 hm
    obtain ⟨_, hbn, hgp⟩ := gap_in hj
    obtain ⟨y, hy⟩ : ∃ y, o[b]? = some y := ⟨o[b]'hbn, List.getElem?_eq_getElem _⟩
    simp only [isP, stG, hy, Option.getD_some, Bool.and_eq_true, beq_iff_eq, decide_eq_true_eq] at hp
    have e1 : c' = c := by omega
    have e2 : b = a := ok.nd b a y hy (by rw [hx, hp.2])
    rw [← e1, ← e2]; exact hgp
  · intro h
    have hm := gap_mem hc (some_lt hx) h
    refine List.any_eq_true.2 ⟨stG o (c, a), List.mem_map.2 ⟨_, hm, rfl⟩, ?_⟩
    simp [isP, stG, hx]
def isC1 (c : Int) (s : St) : Bool := s.cl == c
theorem any_alw {o : List ByteArray} {G : Gr} {c a : Nat} (hc : c < 30) (h1 : (gapsS o G).any (isC1 c) = false) (h2 : G c a = true) : alw G o.length c a = true := alw_t fun j h3 h4 => by
  cases z : G c j with
  | true => rfl
  | false =>
    have hm := gap_mem (G := G) hc h4 (by rw [gap_gt h2 h3, z]; rfl)
    rw [List.any_eq_false] at h1
    exact absurd (by simp [isC1, stG]) (h1 (stG o (c, j)) (List.mem_map.2 ⟨_, hm, rfl⟩))
theorem forwardGaps_spec (l : Lg) (o : List ByteArray) (ci ai : Int) (hl : LSm l) (hso : Sm o.length) : Spec Try.prog 5 [lA l, .d (.sl (o.map sD)), .d (.int .i64 ci), .d (.int .i64 ai)] [] (.d (.bool true)) [] := by
  have c0 := alive_fspec
  have c1 := great_fref l o [] hl hso (by unfold Sm; simp)
  simp only [lA, List.map_nil] at c1
  have b1 : (!true) = false := rfl
  have b2 : (!false) = true := rfl
  refine spec_of_ev (fn := Try.f5) DX_ok 3000 Try.func5 rfl rfl (Nat.le_of_ble_eq_true rfl) ?_
  simp (maxSteps := 4000000) -implicitDefEqProofs only [Try.f5, go_sem, lA]
  refine ecall0 _ c0 (by simp only [go_sem]) (by simp only [go_sem]) ?_
  simp (maxSteps := 4000000) -implicitDefEqProofs only [go_sem, Nat.reduceAdd, Nat.reduceSub, Nat.reduceLT, Nat.reduceLeDiff, Nat.reduceEqDiff, ↓reduceIte]
  refine ECall.dat (args' := [.agg [.d (.sl (l.kn.map kD)), .d (.sl (l.br.map bD)), .d (.sl (l.ev.map esD))], .d (.sl (o.map sD)), .d (.sl [])]) (by simp only [go_sem]; rfl) rfl ?_
  refine ecall0 _ c1 (by simp only [go_sem]) (by simp only [go_sem]) ?_
  cases g1 : great30 l o []
  case true =>
    simp (maxSteps := 4000000) -implicitDefEqProofs only [go_sem, b1, Option.some.injEq, forall_eq', and_true, true_and, Bool.not_true, Bool.not_false, decide_true, Nat.reduceAdd, Nat.reduceSub, Nat.reduceLT, Nat.reduceLeDiff, Nat.reduceEqDiff, ↓reduceIte]
    exact wk_bool rfl
  have ft := fit30_of g1
  have f := fit_of ft.g
  have fk : l.kn.length ≤ 1000 := by have := f.k; omega
  have fb : l.br.length ≤ 1000 := by have := f.b; omega
  have fe : l.ev.length ≤ 1000 := by have := f.e; omega
  have fo : o.length ≤ 1000 := by have := ft.o; omega
  have c2 := fcheck_ref l o fk fb fe fo
  simp only [lA] at c2
  simp (maxSteps := 4000000) -implicitDefEqProofs only [go_sem, Nat.reduceAdd, Nat.reduceSub, Nat.reduceLT, Nat.reduceLeDiff, Nat.reduceEqDiff, ↓reduceIte]
  refine ecall0 _ c2 (by simp only [go_sem]) (by simp only [go_sem]) ?_
  cases g2 : (fcheck l o != 0)
  case true =>
    simp (maxSteps := 4000000) -implicitDefEqProofs only [go_sem, g2, b1, Option.some.injEq, forall_eq', and_true, true_and, Bool.not_true, Bool.not_false, decide_true, Nat.reduceAdd, Nat.reduceSub, Nat.reduceLT, Nat.reduceLeDiff, Nat.reduceEqDiff, ↓reduceIte]
    exact wk_bool rfl
  cases g3 : decide (ci < 0)
  case true =>
    simp (maxSteps := 4000000) -implicitDefEqProofs only [go_sem, g2, g3, b1, Option.some.injEq, forall_eq', and_true, true_and, Bool.not_true, Bool.not_false, decide_true, Nat.reduceAdd, Nat.reduceSub, Nat.reduceLT, Nat.reduceLeDiff, Nat.reduceEqDiff, ↓reduceIte]
    exact wk_bool rfl
  cases g4 : decide (30 ≤ ci)
  case true =>
    simp (maxSteps := 4000000) -implicitDefEqProofs only [go_sem, g2, g3, g4, b1, Option.some.injEq, forall_eq', and_true, true_and, Bool.not_true, Bool.not_false, decide_true, Nat.reduceAdd, Nat.reduceSub, Nat.reduceLT, Nat.reduceLeDiff, Nat.reduceEqDiff, ↓reduceIte]
    exact wk_bool rfl
  cases g5 : decide (ai < 0)
  case true =>
    simp (maxSteps := 4000000) -implicitDefEqProofs only [go_sem, g2, g3, g4, g5, b1, Option.some.injEq, forall_eq', and_true, true_and, Bool.not_true, Bool.not_false, decide_true, Nat.reduceAdd, Nat.reduceSub, Nat.reduceLT, Nat.reduceLeDiff, Nat.reduceEqDiff, ↓reduceIte]
    exact wk_bool rfl
  cases g6 : decide ((o.length : Int) ≤ ai)
  case true =>
    simp (maxSteps := 4000000) -implicitDefEqProofs only [go_sem, g2, g3, g4, g5, g6, b1, Option.some.injEq, forall_eq', and_true, true_and, Bool.not_true, Bool.not_false, decide_true, Nat.reduceAdd, Nat.reduceSub, Nat.reduceLT, Nat.reduceLeDiff, Nat.reduceEqDiff, ↓reduceIte]
    exact wk_bool rfl
  have hci0 : 0 ≤ ci := by have := of_decide_eq_false g3; omega
  have hci1 : ci < 30 := by have := of_decide_eq_false g4; omega
  have hai0 : 0 ≤ ai := by have := of_decide_eq_false g5; omega
  have hai1 : ai < o.length := by have := of_decide_eq_false g6; omega
  obtain ⟨c, rfl⟩ : ∃ c : Nat, ci = c := ⟨ci.toNat, (Int.toNat_of_nonneg hci0).symm⟩
  obtain ⟨a, rfl⟩ : ∃ a : Nat, ai = a := ⟨ai.toNat, (Int.toNat_of_nonneg hai0).symm⟩
  have hc : c < 30 := by omega
  have ha : a < o.length := by omega
  apply Exists.elim (show ∃ x, o[a]? = some x from ⟨o[a]'ha, List.getElem?_eq_getElem _⟩)
  intro x hx
  have hf : fcheck l o = 0 := by simpa using g2
  have ok := fok_of hf
  apply Exists.elim (show ∃ G, G = gridG l o from ⟨_, rfl⟩)
  intro G hG
  have hgp : gpsR l o = (gapsS o G, 0) := by rw [gpsR, hf, hG]; rfl
  have hal : alwR l o c x = (alw G o.length c a, 0) := by
    rw [alwR, hf, if_neg (by simp), if_neg (by omega), idx_at ok hx, if_neg (by omega), hG]; simp
  have c3 := Gaps_own l o fk fb fe fo
  have c4 := Allowed_own l o c x fk fb fe fo
  have ce := fun nm => Effect_own l nm fk fb fe
  rw [hgp] at c3
  rw [hal] at c4
  have gl := gapsL_len G o.length
  have h8 := ok.len
  have gl2 : (gapsS o G).length ≤ 1000 := by simp only [gapsS, List.length_map]; omega
  have htold := told_eq ok (G := G) hc hx
  have hany := fun h => any_alw (o := o) (G := G) (c := c) (a := a) hc h
  have hgrid : ∀ i nm, o[i]? = some nm → G c i = (effR l nm).1.any (fun z => z == (c : Int)) := fun i nm h => by rw [hG]; simp only [gridG, h]
  have heff : ∀ i nm, o[i]? = some nm → (effR l nm).2 = 0 := fun i nm h => eff_okF ok.lo (ok.br nm (List.mem_of_getElem? h))
  have hel : ∀ nm, (effR l nm).1.length ≤ 30 := fun nm => by
    unfold effR
    split
    · simp
    · exact effN_len _ _ _
  apply Exists.elim (show ∃ A, A = gapsS o G from ⟨_, rfl⟩)
  intro A hA
  rw [← hA] at c3 gl2 htold hany
  have z0 : ((0 : Int) != 0) = false := rfl
  have z00 : ((0 : Int) == 0) = true := rfl
  simp only [lA] at c3 c4 ce
  have a1 : (0 ≤ (a : Int) ∧ (a : Int) < o.length) = True := eq_true (by omega)
  have a2 : (a < o.length) = True := eq_true ha
  simp (maxSteps := 4000000) -implicitDefEqProofs only [go_sem, g2, g3, g4, g5, g6, b1, Option.some.injEq, forall_eq', and_true, true_and, Bool.not_true, Bool.not_false, decide_true, Nat.reduceAdd, Nat.reduceSub, Nat.reduceLT, Nat.reduceLeDiff, Nat.reduceEqDiff, ↓reduceIte]
  refine ecall0 _ c3 (by simp only [go_sem]) (by simp only [go_sem]) ?_
  simp (maxSteps := 4000000) -implicitDefEqProofs only [go_sem, z0, Option.some.injEq, forall_eq', and_true, true_and, Bool.not_true, Bool.not_false, decide_true, Nat.reduceAdd, Nat.reduceSub, Nat.reduceLT, Nat.reduceLeDiff, Nat.reduceEqDiff, ↓reduceIte]
  refine eloop (S := Nat) (fun k => mkE 187 [(1, .d (.sl (o.map sD))), (2, .d (.int .i64 c)), (3, .d (.int .i64 a)), (4, .ptr 0 0), (9, .d (.bool true)), (10, .d (.sl (A.map stD))), (12, .d (.bool ((A.take k).any (isP c x)))), (13, .d (.bool ((A.take k).any (isC1 c)))), (14, .d (.int .i64 k))]) (fun k => [lH l]) (fun k => k ≤ A.length) (fun k => A.length - k) 0 (by omega) (Wk.via [0] (by (simp only [go_sem, ↓reduceIte]) <;> trivial) (by first | (simp (maxSteps := 4000000) -implicitDefEqProofs only [go_sem, Nat.reduceAdd, Nat.reduceSub, Nat.reduceLT, Nat.reduceLeDiff, Nat.reduceEqDiff, ↓reduceIte]; done) | ((simp (maxSteps := 4000000) -implicitDefEqProofs only [go_sem, Nat.reduceAdd, Nat.reduceSub, Nat.reduceLT, Nat.reduceLeDiff, Nat.reduceEqDiff, ↓reduceIte]) <;> omega)) (by simp) (by first | (simp; done) | (simp [so]; done)) (by (simp (maxSteps := 4000000) -implicitDefEqProofs only [go_sem, Nat.reduceAdd, Nat.reduceSub, Nat.reduceLT, Nat.reduceLeDiff, Nat.reduceEqDiff, ↓reduceIte]) <;> trivial) (by first | (simp only [go_sem]; done) | ((simp (maxSteps := 4000000) -implicitDefEqProofs only [go_sem, Nat.reduceAdd, Nat.reduceSub, Nat.reduceLT, Nat.reduceLeDiff, Nat.reduceEqDiff, ↓reduceIte]) <;> omega)) (Nat.zero_le _) (fun i h => absurd h (Nat.not_lt_zero i))) ?_
  intro k hk
  apply Or.elim ((Nat.lt_or_ge k A.length))
  · intro h2
    have f1 : decide ((k : Int) < A.length) = true := by simp; omega
    apply Exists.elim (show ∃ s, A[k]? = some s from ⟨A[k]'h2, List.getElem?_eq_getElem _⟩)
    intro s hs
    have n1 : (0 ≤ (k : Int) ∧ (k : Int) < A.length) = True := eq_true (by omega)
    have n2 : (k < A.length) = True := eq_true h2
    have w1 : IntKind.i64.wrap ((k : Int) + 1) = ((k + 1 : Nat) : Int) := by rw [i64_in _ (by omega)]; simp
    have t1 := any_tk (p := isP c x) hs
    have t2 := any_tk (p := isC1 c) hs
    apply Exists.elim (show ∃ u, u = (A.take k).any (isP c x) from ⟨_, rfl⟩)
    intro u hu
    apply Exists.elim (show ∃ v, v = (A.take k).any (isC1 c) from ⟨_, rfl⟩)
    intro v hv
    rw [← hu] at t1
    rw [← hv] at t2
    rw [← hu, ← hv]
    have p1 : isP c x s = ((s.cl == (c : Int)) && decide (s.to = x)) := rfl
    have p2 : isC1 c s = (s.cl == (c : Int)) := rfl
    rw [p1] at t1
    rw [p2] at t2
    have huv : (u = false ∧ v = false) ∨ (u = false ∧ v = true) ∨ (u = true ∧ v = true) := by
      rcases bz u with e | e
      · refine .inr (.inr ⟨e, ?_⟩)
        rw [hu] at e
        obtain ⟨s', h1, h2⟩ := List.any_eq_true.1 e
        rw [hv]
        refine List.any_eq_true.2 ⟨s', h1, ?_⟩
        simp only [isP, Bool.and_eq_true] at h2
        exact h2.1
      · rcases bz v with e' | e'
        · exact .inr (.inl ⟨e, e'⟩)
        · exact .inl ⟨e, e'⟩
    have hzz : ((s.cl == (c : Int)) = false ∧ (!true) = false) ∨ ((s.cl == (c : Int)) = true ∧ decide (s.to = x) = true) ∨ ((s.cl == (c : Int)) = true ∧ decide (s.to = x) = false) := by
      rcases bz (s.cl == (c : Int)) with e | e
      · rcases bz (decide (s.to = x)) with e' | e'
        · exact .inr (.inl ⟨e, e'⟩)
        · exact .inr (.inr ⟨e, e'⟩)
      · exact .inl ⟨e, rfl⟩
    apply Or.elim hzz
    case' right => (intro hz; apply Or.elim hz)
    all_goals intro hz
    all_goals (apply Or.elim huv; case' right => (intro hw; apply Or.elim hw))
    all_goals intro hw
    all_goals (have z1 := hz.1)
    all_goals (have z2 := hz.2)
    all_goals (have e3 := hw.1)
    all_goals (have e4 := hw.2)
    all_goals (rw [z1] at t1 t2)
    all_goals (try rw [z2] at t1)
    all_goals (rw [e3] at t1 ⊢)
    all_goals (rw [e4] at t2 ⊢)
    all_goals (simp only [Bool.false_and, Bool.true_and, Bool.or_false, Bool.or_true, Bool.false_or, Bool.true_or] at t1 t2)
    all_goals (simp (maxSteps := 4000000) -implicitDefEqProofs only [go_sem, f1, Option.some.injEq, forall_eq', and_true, true_and, Bool.not_true, Bool.not_false, decide_true, Nat.reduceAdd, Nat.reduceSub, Nat.reduceLT, Nat.reduceLeDiff, Nat.reduceEqDiff, ↓reduceIte])
    all_goals (refine DX.plain (.take 0 false (.take 1 false (.take 2 false (.take 3 false (.take 4 false (.take 5 false (.take 6 false (.take 7 false (.take 8 false (.take 9 false (.take 10 false (.take 11 false (.take 12 false (.take 13 false (.take 14 false (.take 15 false (.take 16 false (.take 17 false (.take 18 false (.take 19 false (.take 20 false (.take 21 false (.take 22 false .done))))))))))))))))))))))) (by kernel_rfl) (by kernel_rfl) Ty.mixed ?_)
    all_goals (simp (maxSteps := 4000000) -implicitDefEqProofs only [go_sem, n1, n2, hs, z1, z2, a1, a2, hx, w1, Option.some.injEq, forall_eq', and_true, true_and, Bool.not_true, Bool.not_false, decide_true, Nat.reduceAdd, Nat.reduceSub, Nat.reduceLT, Nat.reduceLeDiff, Nat.reduceEqDiff, ↓reduceIte])
    all_goals exact .mk (k + 1) (by omega) (by omega) (by rw [t1, t2]; exact (Wk.via [0] (by (simp only [go_sem, ↓reduceIte]) <;> trivial) (by first | (simp (maxSteps := 4000000) -implicitDefEqProofs only [go_sem, Nat.reduceAdd, Nat.reduceSub, Nat.reduceLT, Nat.reduceLeDiff, Nat.reduceEqDiff, ↓reduceIte]; done) | ((simp (maxSteps := 4000000) -implicitDefEqProofs only [go_sem, Nat.reduceAdd, Nat.reduceSub, Nat.reduceLT, Nat.reduceLeDiff, Nat.reduceEqDiff, ↓reduceIte]) <;> omega)) (by simp) (by first | (simp; done) | (simp [so]; done)) (by (simp (maxSteps := 4000000) -implicitDefEqProofs only [go_sem, Nat.reduceAdd, Nat.reduceSub, Nat.reduceLT, Nat.reduceLeDiff, Nat.reduceEqDiff, ↓reduceIte]) <;> trivial) (by first | (simp only [go_sem]; done) | ((simp (maxSteps := 4000000) -implicitDefEqProofs only [go_sem, Nat.reduceAdd, Nat.reduceSub, Nat.reduceLT, Nat.reduceLeDiff, Nat.reduceEqDiff, ↓reduceIte]) <;> omega)) (Nat.zero_le _) (fun i h => absurd h (Nat.not_lt_zero i))))
  intro h2
  have f1 : decide ((k : Int) < A.length) = false := by simp; omega
  rw [List.take_of_length_le h2, htold]
  apply Exists.elim (show ∃ v, v = A.any (isC1 c) from ⟨_, rfl⟩)
  intro v hv
  rw [← hv] at hany ⊢
  apply Exists.elim (show ∃ u, u = gapP G c a from ⟨_, rfl⟩)
  intro u hu
  rw [← hu]
  simp (maxSteps := 4000000) -implicitDefEqProofs only [go_sem, f1, Option.some.injEq, forall_eq', and_true, true_and, Bool.not_true, Bool.not_false, decide_true, Nat.reduceAdd, Nat.reduceSub, Nat.reduceLT, Nat.reduceLeDiff, Nat.reduceEqDiff, ↓reduceIte]
  clear h2 hk f1
  refine eloop (S := Nat) (fun i => mkE 187 [(1, .d (.sl (o.map sD))), (2, .d (.int .i64 c)), (3, .d (.int .i64 a)), (4, .ptr 0 0), (9, .d (.bool true)), (12, .d (.bool u)), (13, .d (.bool v)), (15, .d (.bool ((List.range (min i a)).any (G c)))), (16, .d (.bool (decide (a < i) && G c a))), (17, .d (.int .i64 i))]) (fun i => [lH l]) (fun i => i ≤ a + 1) (fun i => a + 1 - i) 0 (by omega) (by simp only [Nat.zero_min, List.range_zero, List.any_nil, Nat.not_lt_zero, decide_false, Bool.false_and]; exact (Wk.via [0] (by (simp only [go_sem, ↓reduceIte]) <;> trivial) (by first | (simp (maxSteps := 4000000) -implicitDefEqProofs only [go_sem, Nat.reduceAdd, Nat.reduceSub, Nat.reduceLT, Nat.reduceLeDiff, Nat.reduceEqDiff, ↓reduceIte]; done) | ((simp (maxSteps := 4000000) -implicitDefEqProofs only [go_sem, Nat.reduceAdd, Nat.reduceSub, Nat.reduceLT, Nat.reduceLeDiff, Nat.reduceEqDiff, ↓reduceIte]) <;> omega)) (by simp) (by first | (simp; done) | (simp [so]; done)) (by (simp (maxSteps := 4000000) -implicitDefEqProofs only [go_sem, Nat.reduceAdd, Nat.reduceSub, Nat.reduceLT, Nat.reduceLeDiff, Nat.reduceEqDiff, ↓reduceIte]) <;> trivial) (by first | (simp only [go_sem]; done) | ((simp (maxSteps := 4000000) -implicitDefEqProofs only [go_sem, Nat.reduceAdd, Nat.reduceSub, Nat.reduceLT, Nat.reduceLeDiff, Nat.reduceEqDiff, ↓reduceIte]) <;> omega)) (Nat.zero_le _) (fun i h => absurd h (Nat.not_lt_zero i)))) ?_
  intro i hi
  apply Or.elim ((Nat.lt_or_ge i (a + 1)).symm)
  · intro h2
    have : i = a + 1 := by omega
    subst this
    have f1 : decide (((a + 1 : Nat) : Int) ≤ a) = false := by simp; omega
    have m1 : min (a + 1) a = a := by omega
    have d1 : decide (a < a + 1) = true := by simp
    rw [m1, d1, Bool.true_and]
    have hu' : u = ((List.range a).any (G c) && !G c a) := hu
    apply Exists.elim (show ∃ p, p = (List.range a).any (G c) from ⟨_, rfl⟩)
    intro p hp
    apply Exists.elim (show ∃ q, q = G c a from ⟨_, rfl⟩)
    intro q hq
    apply Exists.elim (show ∃ r, r = alw G o.length c a from ⟨_, rfl⟩)
    intro r hr
    rw [← hp, ← hq] at hu'
    rw [← hq, ← hr] at hany
    rw [← hr] at c4
    rw [← hp, ← hq]
    simp (maxSteps := 4000000) -implicitDefEqProofs only [go_sem, f1, Option.some.injEq, forall_eq', and_true, true_and, Bool.not_true, Bool.not_false, decide_true, Nat.reduceAdd, Nat.reduceSub, Nat.reduceLT, Nat.reduceLeDiff, Nat.reduceEqDiff, ↓reduceIte]
    refine DX.plain (.take 0 false (.take 1 false (.take 2 false (.take 3 false (.take 4 false (.take 5 false (.take 6 false (.take 7 false (.take 8 false (.take 9 false (.take 10 false (.take 11 false (.take 12 false .done))))))))))))) (by kernel_rfl) (by kernel_rfl) Ty.mixed ?_
    simp (maxSteps := 4000000) -implicitDefEqProofs only [go_sem, a1, a2, hx, Option.some.injEq, forall_eq', and_true, true_and, Bool.not_true, Bool.not_false, decide_true, Nat.reduceAdd, Nat.reduceSub, Nat.reduceLT, Nat.reduceLeDiff, Nat.reduceEqDiff, ↓reduceIte]
    refine ⟨_, _, c4.lift0 _ (by simp only [go_sem]) (by simp only [go_sem]), rfl, ?_⟩
    have e1 : (false == false) = true := rfl
    have e2 : (true == true) = true := rfl
    have e7 : (false == true) = false := rfl
    have hqv : q = false ∨ (q = true ∧ v = true) ∨ (q = true ∧ v = false ∧ r = true) := by
      rcases bz q with e | e
      · rcases bz v with e' | e'
        · exact .inr (.inl ⟨e, e'⟩)
        · exact .inr (.inr ⟨e, e', hany e' e⟩)
      · exact .inl e
    apply Or.elim (bz p)
    all_goals intro e3
    all_goals (apply Or.elim hqv; case' right => (intro h4; apply Or.elim h4))
    · intro h5
      rw [e3, h5.1] at hu'
      rw [e3, h5.1, h5.2, hu']
      simp (maxSteps := 4000000) -implicitDefEqProofs only [go_sem, z00, e1, e2, e7, b1, b2, Bool.and_false, Bool.and_true, Bool.false_and, Bool.true_and, Option.some.injEq, forall_eq', and_true, true_and, Bool.not_true, Bool.not_false, decide_true, Nat.reduceAdd, Nat.reduceSub, Nat.reduceLT, Nat.reduceLeDiff, Nat.reduceEqDiff, ↓reduceIte]
      exact wk_bool rfl
    · intro h5
      rw [e3, h5.1] at hu'
      rw [e3, h5.1, h5.2.1, h5.2.2, hu']
      simp (maxSteps := 4000000) -implicitDefEqProofs only [go_sem, z00, e1, e2, e7, b1, b2, Bool.and_false, Bool.and_true, Bool.false_and, Bool.true_and, Option.some.injEq, forall_eq', and_true, true_and, Bool.not_true, Bool.not_false, decide_true, Nat.reduceAdd, Nat.reduceSub, Nat.reduceLT, Nat.reduceLeDiff, Nat.reduceEqDiff, ↓reduceIte]
      exact wk_bool rfl
    · intro e4
      apply Or.elim (bz v)
      all_goals intro e5
      all_goals rw [e3, e4] at hu'
      all_goals rw [e3, e4, e5, hu']
      all_goals (simp (maxSteps := 4000000) -implicitDefEqProofs only [go_sem, z00, e1, e2, e7, b1, b2, Bool.and_false, Bool.and_true, Bool.false_and, Bool.true_and, Option.some.injEq, forall_eq', and_true, true_and, Bool.not_true, Bool.not_false, decide_true, Nat.reduceAdd, Nat.reduceSub, Nat.reduceLT, Nat.reduceLeDiff, Nat.reduceEqDiff, ↓reduceIte])
      all_goals exact wk_bool rfl
    · intro h5
      rw [e3, h5.1] at hu'
      rw [e3, h5.1, h5.2, hu']
      simp (maxSteps := 4000000) -implicitDefEqProofs only [go_sem, z00, e1, e2, e7, b1, b2, Bool.and_false, Bool.and_true, Bool.false_and, Bool.true_and, Option.some.injEq, forall_eq', and_true, true_and, Bool.not_true, Bool.not_false, decide_true, Nat.reduceAdd, Nat.reduceSub, Nat.reduceLT, Nat.reduceLeDiff, Nat.reduceEqDiff, ↓reduceIte]
      exact wk_bool rfl
    · intro h5
      rw [e3, h5.1] at hu'
      rw [e3, h5.1, h5.2.1, h5.2.2, hu']
      simp (maxSteps := 4000000) -implicitDefEqProofs only [go_sem, z00, e1, e2, e7, b1, b2, Bool.and_false, Bool.and_true, Bool.false_and, Bool.true_and, Option.some.injEq, forall_eq', and_true, true_and, Bool.not_true, Bool.not_false, decide_true, Nat.reduceAdd, Nat.reduceSub, Nat.reduceLT, Nat.reduceLeDiff, Nat.reduceEqDiff, ↓reduceIte]
      exact wk_bool rfl
    · intro e4
      apply Or.elim (bz v)
      all_goals intro e5
      all_goals rw [e3, e4] at hu'
      all_goals rw [e3, e4, e5, hu']
      all_goals (simp (maxSteps := 4000000) -implicitDefEqProofs only [go_sem, z00, e1, e2, e7, b1, b2, Bool.and_false, Bool.and_true, Bool.false_and, Bool.true_and, Option.some.injEq, forall_eq', and_true, true_and, Bool.not_true, Bool.not_false, decide_true, Nat.reduceAdd, Nat.reduceSub, Nat.reduceLT, Nat.reduceLeDiff, Nat.reduceEqDiff, ↓reduceIte])
      all_goals exact wk_bool rfl
  intro h2
  have f1 : decide ((i : Int) ≤ a) = true := by simp; omega
  apply Exists.elim (show ∃ nm, o[i]? = some nm from ⟨o[i]'(by omega), List.getElem?_eq_getElem _⟩)
  intro nm hnm
  have hgi := hgrid i nm hnm
  have hei := heff i nm hnm
  have hli := hel nm
  have cei := ce nm
  rw [hei] at cei
  apply Exists.elim (show ∃ E, E = (effR l nm).1 from ⟨_, rfl⟩)
  intro E hE
  rw [← hE] at hgi hli cei
  have n1 : (0 ≤ (i : Int) ∧ (i : Int) < o.length) = True := eq_true (by omega)
  have n2 : (i < o.length) = True := eq_true (by omega)
  have w1 : IntKind.i64.wrap ((i : Int) + 1) = ((i + 1 : Nat) : Int) := by rw [i64_in _ (by omega)]; simp
  have mi : min i a = i := by omega
  have di : decide (a < i) = false := by simp; omega
  rw [mi, di, Bool.false_and]
  simp (maxSteps := 4000000) -implicitDefEqProofs only [go_sem, f1, Option.some.injEq, forall_eq', and_true, true_and, Bool.not_true, Bool.not_false, decide_true, Nat.reduceAdd, Nat.reduceSub, Nat.reduceLT, Nat.reduceLeDiff, Nat.reduceEqDiff, ↓reduceIte]
  refine DX.plain (.take 0 false (.take 1 false (.take 2 false (.take 3 false (.take 4 false (.take 5 false (.take 6 false (.take 7 false (.take 8 false (.take 9 false (.take 10 false .done))))))))))) (by kernel_rfl) (by kernel_rfl) Ty.mixed ?_
  simp (maxSteps := 4000000) -implicitDefEqProofs only [go_sem, n1, n2, hnm, Option.some.injEq, forall_eq', and_true, true_and, Bool.not_true, Bool.not_false, decide_true, Nat.reduceAdd, Nat.reduceSub, Nat.reduceLT, Nat.reduceLeDiff, Nat.reduceEqDiff, ↓reduceIte]
  refine ⟨_, _, cei.lift0 _ (by simp only [go_sem]) (by simp only [go_sem]), rfl, ?_⟩
  simp (maxSteps := 4000000) -implicitDefEqProofs only [go_sem, z0, Option.some.injEq, forall_eq', and_true, true_and, Bool.not_true, Bool.not_false, decide_true, Nat.reduceAdd, Nat.reduceSub, Nat.reduceLT, Nat.reduceLeDiff, Nat.reduceEqDiff, ↓reduceIte]
  apply Or.elim ((Nat.lt_or_ge i a))
  · intro h3
    have q1 : decide ((i : Int) < a) = true := by simp; omega
    have q2 : ((i : Int) == a) = false := by simp; omega
    have r1 : (List.range (min (i + 1) a)).any (G c) = ((List.range i).any (G c) || E.any (fun z => z == (c : Int))) := by
      rw [show min (i + 1) a = i + 1 by omega, List.range_succ, List.any_append, ← hgi]; simp
    have r2 : decide (a < i + 1) = false := by simp; omega
    apply Exists.elim (show ∃ p, p = (List.range i).any (G c) from ⟨_, rfl⟩)
    intro p hp
    rw [← hp] at r1 ⊢
    refine eloop (S := Nat) (fun k => mkE 187 [(1, .d (.sl (o.map sD))), (2, .d (.int .i64 c)), (3, .d (.int .i64 a)), (4, .ptr 0 0), (9, .d (.bool true)), (12, .d (.bool u)), (13, .d (.bool v)), (15, .d (.bool (p || (E.take k).any (fun z => z == (c : Int))))), (16, .d (.bool false)), (17, .d (.int .i64 i)), (18, .d (.sl (E.map iD))), (20, .d (.int .i64 k))]) (fun k => [lH l]) (fun k => k ≤ E.length) (fun k => E.length - k) 0 (by omega) (by simp only [List.take_zero, List.any_nil, Bool.or_false]; exact (Wk.via [0] (by (simp only [go_sem, ↓reduceIte]) <;> trivial) (by first | (simp (maxSteps := 4000000) -implicitDefEqProofs only [go_sem, Nat.reduceAdd, Nat.reduceSub, Nat.reduceLT, Nat.reduceLeDiff, Nat.reduceEqDiff, ↓reduceIte]; done) | ((simp (maxSteps := 4000000) -implicitDefEqProofs only [go_sem, Nat.reduceAdd, Nat.reduceSub, Nat.reduceLT, Nat.reduceLeDiff, Nat.reduceEqDiff, ↓reduceIte]) <;> omega)) (by simp) (by first | (simp; done) | (simp [so]; done)) (by (simp (maxSteps := 4000000) -implicitDefEqProofs only [go_sem, Nat.reduceAdd, Nat.reduceSub, Nat.reduceLT, Nat.reduceLeDiff, Nat.reduceEqDiff, ↓reduceIte]) <;> trivial) (by first | (simp only [go_sem]; done) | ((simp (maxSteps := 4000000) -implicitDefEqProofs only [go_sem, Nat.reduceAdd, Nat.reduceSub, Nat.reduceLT, Nat.reduceLeDiff, Nat.reduceEqDiff, ↓reduceIte]) <;> omega)) (Nat.zero_le _) (fun i h => absurd h (Nat.not_lt_zero i)))) ?_
    intro k hk
    apply Or.elim ((Nat.lt_or_ge k E.length).symm)
    · intro h4
      have f2 : decide ((k : Int) < E.length) = false := by simp; omega
      rw [List.take_of_length_le h4]
      simp (maxSteps := 4000000) -implicitDefEqProofs only [go_sem, f2, w1, Option.some.injEq, forall_eq', and_true, true_and, Bool.not_true, Bool.not_false, decide_true, Nat.reduceAdd, Nat.reduceSub, Nat.reduceLT, Nat.reduceLeDiff, Nat.reduceEqDiff, ↓reduceIte]
      exact .mk (i + 1) (by omega) (by omega) (by rw [r1, r2, Bool.false_and]; exact (Wk.via [0] (by (simp only [go_sem, ↓reduceIte]) <;> trivial) (by first | (simp (maxSteps := 4000000) -implicitDefEqProofs only [go_sem, Nat.reduceAdd, Nat.reduceSub, Nat.reduceLT, Nat.reduceLeDiff, Nat.reduceEqDiff, ↓reduceIte]; done) | ((simp (maxSteps := 4000000) -implicitDefEqProofs only [go_sem, Nat.reduceAdd, Nat.reduceSub, Nat.reduceLT, Nat.reduceLeDiff, Nat.reduceEqDiff, ↓reduceIte]) <;> omega)) (by simp) (by first | (simp; done) | (simp [so]; done)) (by (simp (maxSteps := 4000000) -implicitDefEqProofs only [go_sem, Nat.reduceAdd, Nat.reduceSub, Nat.reduceLT, Nat.reduceLeDiff, Nat.reduceEqDiff, ↓reduceIte]) <;> trivial) (by first | (simp only [go_sem]; done) | ((simp (maxSteps := 4000000) -implicitDefEqProofs only [go_sem, Nat.reduceAdd, Nat.reduceSub, Nat.reduceLT, Nat.reduceLeDiff, Nat.reduceEqDiff, ↓reduceIte]) <;> omega)) (Nat.zero_le _) (fun i h => absurd h (Nat.not_lt_zero i))))
    intro h4
    have f2 : decide ((k : Int) < E.length) = true := by simp; omega
    apply Exists.elim (show ∃ y, E[k]? = some y from ⟨E[k]'h4, List.getElem?_eq_getElem _⟩)
    intro y hy
    have m1 : (0 ≤ (k : Int) ∧ (k : Int) < E.length) = True := eq_true (by omega)
    have m2 : (k < E.length) = True := eq_true h4
    have w2 : IntKind.i64.wrap ((k : Int) + 1) = ((k + 1 : Nat) : Int) := by rw [i64_in _ (by omega)]; simp
    have t1 := any_tk (p := fun z => z == (c : Int)) hy
    apply Exists.elim (show ∃ t, t = (p || (E.take k).any (fun z => z == (c : Int))) from ⟨_, rfl⟩)
    intro t ht
    have t3 : (p || (E.take (k + 1)).any (fun z => z == (c : Int))) = (t || (y == (c : Int))) := by rw [t1, ht, Bool.or_assoc]
    rw [← ht]
    apply Or.elim (bz (y == (c : Int)))
    all_goals intro z1
    all_goals apply Or.elim (bz t)
    all_goals intro e4
    all_goals rw [e4] at t3 ⊢
    all_goals rw [z1] at t3
    all_goals (simp (maxSteps := 4000000) -implicitDefEqProofs only [go_sem, f2, m1, m2, hy, q1, q2, z1, w2, Option.some.injEq, forall_eq', and_true, true_and, Bool.not_true, Bool.not_false, decide_true, Nat.reduceAdd, Nat.reduceSub, Nat.reduceLT, Nat.reduceLeDiff, Nat.reduceEqDiff, ↓reduceIte])
    all_goals exact .mk (k + 1) (by omega) (by omega) (by rw [t3]; exact (Wk.via [0] (by (simp only [go_sem, ↓reduceIte]) <;> trivial) (by first | (simp (maxSteps := 4000000) -implicitDefEqProofs only [go_sem, Nat.reduceAdd, Nat.reduceSub, Nat.reduceLT, Nat.reduceLeDiff, Nat.reduceEqDiff, ↓reduceIte]; done) | ((simp (maxSteps := 4000000) -implicitDefEqProofs only [go_sem, Nat.reduceAdd, Nat.reduceSub, Nat.reduceLT, Nat.reduceLeDiff, Nat.reduceEqDiff, ↓reduceIte]) <;> omega)) (by simp) (by first | (simp; done) | (simp [so]; done)) (by (simp (maxSteps := 4000000) -implicitDefEqProofs only [go_sem, Nat.reduceAdd, Nat.reduceSub, Nat.reduceLT, Nat.reduceLeDiff, Nat.reduceEqDiff, ↓reduceIte]) <;> trivial) (by first | (simp only [go_sem]; done) | ((simp (maxSteps := 4000000) -implicitDefEqProofs only [go_sem, Nat.reduceAdd, Nat.reduceSub, Nat.reduceLT, Nat.reduceLeDiff, Nat.reduceEqDiff, ↓reduceIte]) <;> omega)) (Nat.zero_le _) (fun i h => absurd h (Nat.not_lt_zero i))))
  · intro h3
    have hia : i = a := by omega
    subst hia
    have q1 : decide ((i : Int) < i) = false := by simp
    have q2 : ((i : Int) == i) = true := by simp
    have r1 : min (i + 1) i = i := by omega
    have r2 : decide (i < i + 1) = true := by simp
    apply Exists.elim (show ∃ p, p = (List.range i).any (G c) from ⟨_, rfl⟩)
    intro p hp
    rw [← hp]
    refine eloop (S := Nat) (fun k => mkE 187 [(1, .d (.sl (o.map sD))), (2, .d (.int .i64 c)), (3, .d (.int .i64 i)), (4, .ptr 0 0), (9, .d (.bool true)), (12, .d (.bool u)), (13, .d (.bool v)), (15, .d (.bool p)), (16, .d (.bool ((E.take k).any (fun z => z == (c : Int))))), (17, .d (.int .i64 i)), (18, .d (.sl (E.map iD))), (20, .d (.int .i64 k))]) (fun k => [lH l]) (fun k => k ≤ E.length) (fun k => E.length - k) 0 (by omega) (by simp only [List.take_zero, List.any_nil]; exact (Wk.via [0] (by (simp only [go_sem, ↓reduceIte]) <;> trivial) (by first | (simp (maxSteps := 4000000) -implicitDefEqProofs only [go_sem, Nat.reduceAdd, Nat.reduceSub, Nat.reduceLT, Nat.reduceLeDiff, Nat.reduceEqDiff, ↓reduceIte]; done) | ((simp (maxSteps := 4000000) -implicitDefEqProofs only [go_sem, Nat.reduceAdd, Nat.reduceSub, Nat.reduceLT, Nat.reduceLeDiff, Nat.reduceEqDiff, ↓reduceIte]) <;> omega)) (by simp) (by first | (simp; done) | (simp [so]; done)) (by (simp (maxSteps := 4000000) -implicitDefEqProofs only [go_sem, Nat.reduceAdd, Nat.reduceSub, Nat.reduceLT, Nat.reduceLeDiff, Nat.reduceEqDiff, ↓reduceIte]) <;> trivial) (by first | (simp only [go_sem]; done) | ((simp (maxSteps := 4000000) -implicitDefEqProofs only [go_sem, Nat.reduceAdd, Nat.reduceSub, Nat.reduceLT, Nat.reduceLeDiff, Nat.reduceEqDiff, ↓reduceIte]) <;> omega)) (Nat.zero_le _) (fun i h => absurd h (Nat.not_lt_zero i)))) ?_
    intro k hk
    apply Or.elim ((Nat.lt_or_ge k E.length).symm)
    · intro h4
      have f2 : decide ((k : Int) < E.length) = false := by simp; omega
      rw [List.take_of_length_le h4]
      simp (maxSteps := 4000000) -implicitDefEqProofs only [go_sem, f2, w1, Option.some.injEq, forall_eq', and_true, true_and, Bool.not_true, Bool.not_false, decide_true, Nat.reduceAdd, Nat.reduceSub, Nat.reduceLT, Nat.reduceLeDiff, Nat.reduceEqDiff, ↓reduceIte]
      exact .mk (i + 1) (by omega) (by omega) (by rw [r1, r2, Bool.true_and, ← hp, hgi]; exact (Wk.via [0] (by (simp only [go_sem, ↓reduceIte]) <;> trivial) (by first | (simp (maxSteps := 4000000) -implicitDefEqProofs only [go_sem, Nat.reduceAdd, Nat.reduceSub, Nat.reduceLT, Nat.reduceLeDiff, Nat.reduceEqDiff, ↓reduceIte]; done) | ((simp (maxSteps := 4000000) -implicitDefEqProofs only [go_sem, Nat.reduceAdd, Nat.reduceSub, Nat.reduceLT, Nat.reduceLeDiff, Nat.reduceEqDiff, ↓reduceIte]) <;> omega)) (by simp) (by first | (simp; done) | (simp [so]; done)) (by (simp (maxSteps := 4000000) -implicitDefEqProofs only [go_sem, Nat.reduceAdd, Nat.reduceSub, Nat.reduceLT, Nat.reduceLeDiff, Nat.reduceEqDiff, ↓reduceIte]) <;> trivial) (by first | (simp only [go_sem]; done) | ((simp (maxSteps := 4000000) -implicitDefEqProofs only [go_sem, Nat.reduceAdd, Nat.reduceSub, Nat.reduceLT, Nat.reduceLeDiff, Nat.reduceEqDiff, ↓reduceIte]) <;> omega)) (Nat.zero_le _) (fun i h => absurd h (Nat.not_lt_zero i))))
    intro h4
    have f2 : decide ((k : Int) < E.length) = true := by simp; omega
    apply Exists.elim (show ∃ y, E[k]? = some y from ⟨E[k]'h4, List.getElem?_eq_getElem _⟩)
    intro y hy
    have m1 : (0 ≤ (k : Int) ∧ (k : Int) < E.length) = True := eq_true (by omega)
    have m2 : (k < E.length) = True := eq_true h4
    have w2 : IntKind.i64.wrap ((k : Int) + 1) = ((k + 1 : Nat) : Int) := by rw [i64_in _ (by omega)]; simp
    have t1 := any_tk (p := fun z => z == (c : Int)) hy
    apply Exists.elim (show ∃ t, t = (E.take k).any (fun z => z == (c : Int)) from ⟨_, rfl⟩)
    intro t ht
    rw [← ht] at t1 ⊢
    apply Or.elim (bz (y == (c : Int)))
    all_goals intro z1
    all_goals apply Or.elim (bz p)
    all_goals intro e3
    all_goals apply Or.elim (bz t)
    all_goals intro e4
    all_goals rw [e4] at t1 ⊢
    all_goals rw [e3]
    all_goals simp only [z1] at t1
    all_goals (simp (maxSteps := 4000000) -implicitDefEqProofs only [go_sem, f2, m1, m2, hy, q1, q2, z1, w2, Bool.or_false, Bool.or_true, Bool.false_or, Bool.true_or, Option.some.injEq, forall_eq', and_true, true_and, Bool.not_true, Bool.not_false, decide_true, Nat.reduceAdd, Nat.reduceSub, Nat.reduceLT, Nat.reduceLeDiff, Nat.reduceEqDiff, ↓reduceIte])
    all_goals exact .mk (k + 1) (by omega) (by omega) (by simp only [t1, Bool.or_false, Bool.or_true, Bool.false_or, Bool.true_or]; exact (Wk.via [0] (by (simp only [go_sem, ↓reduceIte]) <;> trivial) (by first | (simp (maxSteps := 4000000) -implicitDefEqProofs only [go_sem, Nat.reduceAdd, Nat.reduceSub, Nat.reduceLT, Nat.reduceLeDiff, Nat.reduceEqDiff, ↓reduceIte]; done) | ((simp (maxSteps := 4000000) -implicitDefEqProofs only [go_sem, Nat.reduceAdd, Nat.reduceSub, Nat.reduceLT, Nat.reduceLeDiff, Nat.reduceEqDiff, ↓reduceIte]) <;> omega)) (by simp) (by first | (simp; done) | (simp [so]; done)) (by (simp (maxSteps := 4000000) -implicitDefEqProofs only [go_sem, Nat.reduceAdd, Nat.reduceSub, Nat.reduceLT, Nat.reduceLeDiff, Nat.reduceEqDiff, ↓reduceIte]) <;> trivial) (by first | (simp only [go_sem]; done) | ((simp (maxSteps := 4000000) -implicitDefEqProofs only [go_sem, Nat.reduceAdd, Nat.reduceSub, Nat.reduceLT, Nat.reduceLeDiff, Nat.reduceEqDiff, ↓reduceIte]) <;> omega)) (Nat.zero_le _) (fun i h => absurd h (Nat.not_lt_zero i))))
end Go.AX.Fw
namespace Go.Proofs.Ytjdppplgddldcaa
open Go.AX Go.AX.Fw Go.RowKit
set_option maxRecDepth 100000 in
theorem forwardGaps_lifted (os : Os) (started : os.Started) (H : Type) (enc : TypeId × Value → H) :
    ReturnsInHanded {} Try.checked os 5 .any (Rows.forwardGapsSpec.pre6 enc Try.prog Try.f5 Rows.forwardGapsRow.domain false) (Rows.forwardGapsSpec.post enc Try.prog Try.f5 false true false false) := by
  refine Go.AX.lifted (C := Try.checked) (f := 5) (fn := Try.f5) (s := Rows.forwardGapsSpec) (rt := 4) (n := 8) (by kernel_rfl) (by kernel_rfl) Try.func5 rfl ?_ rfl (by kernel_rfl) (by kernel_rfl) (by kernel_rfl) (by kernel_rfl) os started H enc
    (ChangeSpec.witness6 (enc := enc) (C := Try.checked) false ⟨#[], #[.agg #[.slice none 0 0, .slice none 0 0, .slice none 0 0], .slice none 0 0, .int .i64 0, .int .i64 0], []⟩ 8 (by kernel_rfl) (by kernel_rfl) (by kernel_rfl) (by kernel_rfl)) ?_
  · intro H ds h
    match ds, h with
    | [a0, a1, a2, a3], _ => rfl
  · intro xs hx
    have hp : Try.f5.params.toList = [26, 27, 3, 3] := rfl
    rw [hp] at hx ⊢
    have i0 : isA Try.prog 26 = true := by kernel_rfl
    have i1 : isA Try.prog 27 = false := by kernel_rfl
    have i2 : isA Try.prog 3 = false := by kernel_rfl
    have i3 : isA Try.prog 3 = false := by kernel_rfl
    rcases xs with _ | ⟨d0, _ | ⟨d1, _ | ⟨d2, _ | ⟨d3, _ | ⟨d4, xs⟩⟩⟩⟩⟩ <;> simp only [Tyds, and_false] at hx
    obtain ⟨k0, k1, k2, k3, _⟩ := hx
    obtain ⟨l, rfl, hl⟩ := ledger_of k0
    obtain ⟨o, rfl, ho⟩ := texts_of k1
    obtain ⟨c, rfl, hc⟩ := int_of k2
    obtain ⟨a, rfl, ha⟩ := int_of k3
    simp only [avs, i0, i1, i2, i3, dv, Bool.false_eq_true, if_false, if_true, List.headD_cons, List.map_cons, List.map_nil]
    exact forwardGaps_spec l o c a hl ho
theorem forwardGaps_over : Rows.forwardGapsRow.holds Try.pinned (OpenSpec.ofChange Rows.forwardGapsSpec) :=
  OpenClaim.holds_of_wide 5 Try.f5 rfl rfl rfl rfl rfl rfl rfl ⟨rfl, rfl, rfl, rfl, rfl⟩ rfl rfl rfl rfl rfl (by kernel_rfl) Try.func5 (by kernel_rfl)
    (of_decide_eq_true (by kernel_rfl)) (by unfold Func.isWrapper; first | (rw [if_pos (by decide +kernel)]; kernel_rfl) | (rw [if_neg (by decide +kernel)]; exact ⟨rfl, rfl⟩))
    (fun os started H enc _ => forwardGaps_lifted os started H enc)
/-- The row, under a short name, for the claim. -/
theorem forwardGaps_holds : Rows.ForwardGapsSaid := forwardGaps_over
#print axioms forwardGaps_holds
end Go.Proofs.Ytjdppplgddldcaa

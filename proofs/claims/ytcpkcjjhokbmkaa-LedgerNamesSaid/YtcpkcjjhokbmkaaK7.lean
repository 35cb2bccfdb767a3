/- Ledgers: views, what is in effect. -/
import Derived.Test.YtcpkcjjhokbmkaaK6
import Derived.KernelRfl
set_option maxHeartbeats 8000000
set_option linter.unusedVariables false
set_option linter.unusedSimpArgs false
set_option maxRecDepth 20000
namespace Go.AX.Lg
open Go.Proofs Go.RowKit Go.IntWalk Go.AX.Br
/-- all that holds of a ledger that is valid -/
structure LOk (l : Lg) : Prop where
  chk : lcheck l = 0
  nd : Nd l
  kv : Kv l
  kl : l.kn.length ≤ 30
  tab : Tab l
  own : ∀ (i : Nat) (s : List Ev), l.ev[i]? = some s → s.length ≤ 40
  good : ∀ i, i < l.ev.length → badB l i = false
theorem lok_of {l : Lg} (h : lcheck l = 0) : LOk l := by
  have h0 := h
  unfold lcheck at h
  split at h
  · cases h
  next k1 =>
  split at h
  · cases h
  next k2 =>
  split at h
  · cases h
  next k3 =>
  split at h
  · next q => exact absurd h q
  next k4 =>
  split at h
  · cases h
  next k5 =>
  split at h
  · cases h
  next k6 =>
  split at h
  · next q => exact absurd h q
  next k7 =>
  split at h
  · cases h
  next k8 =>
  have k7' : fits l.br (cntL l) = 0 := by omega
  refine ⟨h0, cls_len.2.2 (by have := (cls_len (l := l)).1; omega), fun k hk => ?_, by omega, ⟨good_of k7', k7'⟩, fun i s hs => ?_, fun i hi => ?_⟩
  · have := List.any_eq_false.1 (by simpa using k3) k hk
    simp only [badK, Bool.or_eq_true, Bool.not_eq_true', decide_eq_true_eq, not_or] at this
    omega
  · have := List.any_eq_false.1 (by simpa using k6) s (List.mem_of_getElem? hs)
    simp only [many, decide_eq_true_eq] at this
    omega
  · cases q : badB l i
    · rfl
    · exact absurd (List.any_eq_true.2 ⟨i, by simpa using hi, q⟩) k8
/-- the marks of a view, or an error -/
def lview (l : Lg) (nm : ByteArray) : List Mk × Int := if lcheck l ≠ 0 then ([], lcheck l) else viewR l.br (cntL l) nm
/-- a branch of a valid ledger -/
theorem lview_ok {l : Lg} {nm : ByteArray} (h : (lview l nm).2 = 0) : LOk l ∧ ∃ (i : Nat) (x : Br) (s : List Ev) (v : List Mk), At l i x s v ∧ x.name = nm ∧ lview l nm = (v, 0) ∧ idx (has nm) l.br = i := by
  unfold lview at h
  split at h
  · next q => exact absurd h q
  next q =>
  have hc : lcheck l = 0 := by omega
  have lo := lok_of hc
  refine ⟨lo, ?_⟩
  have hf := lo.tab.fits
  unfold viewR at h
  rw [if_neg (by omega)] at h
  split at h
  · cases h
  next q2 =>
  obtain ⟨i, x, h1, h2, h3⟩ := idx_get (p := has nm) (l := l.br) (by omega)
  obtain ⟨y, s, v, a⟩ := at_of lo.tab (some_lt h2)
  have : y = x := by have := a.hx; rw [h2] at this; cases this; rfl
  subst this
  have hn : y.name = nm := by simpa [has] using h3
  refine ⟨i, y, s, v, a, hn, ?_, h1⟩
  unfold lview
  rw [if_neg (by omega), ← hn]
  exact vname lo.tab a
theorem At.known {l : Lg} {i : Nat} {x : Br} {s : List Ev} {v : List Mk} (lo : LOk l) (a : At l i x s v) : Known l (preE l i ++ s) := by
  have hi := some_lt a.hs
  intro y hy
  rcases List.mem_append.1 hy with q | q
  · exact pre_known a (fun j hj => lo.good j (by omega)) y q
  · exact badB_known a (lo.good i hi) y q
theorem view_lown (l : Lg) (nm : ByteArray) (hk : l.kn.length ≤ 1000) (hb : l.br.length ≤ 1000) (he : l.ev.length ≤ 1000) : Spec Try.prog 42 [lA l, .d (.str nm)] [] (.tup [.d (.sl ((lview l nm).1.map mkD)), .d (.int .i64 (lview l nm).2)]) [] := by
  have c1 := lcheck_own l hk hb he
  have c2 := counts_dat l he
  have c3 := View_dat l.br (cntL l) nm (by unfold Sm; omega) (by unfold Sm; rw [cnt_len]; omega)
  simp only [lA] at c1 c2
  obtain ⟨R, hR⟩ : ∃ R, R = lview l nm := ⟨_, rfl⟩
  rw [← hR]
  unfold lview at hR
  refine spec_of_ev (fn := Try.f42) DX_ok 3000 Try.func42 rfl rfl (Nat.le_of_ble_eq_true rfl) ?_
  simp (maxSteps := 4000000) -implicitDefEqProofs only [Try.f42, go_sem, lA]
  refine ecall0 _ c1 (by simp only [go_sem]) (by simp only [go_sem]) ?_
  cases k1 : (lcheck l != 0)
  case true =>
    have : lcheck l ≠ 0 := by simpa using k1
    simp (maxSteps := 4000000) -implicitDefEqProofs only [go_sem, k1, Option.some.injEq, forall_eq', and_true, true_and, Bool.not_true, Bool.not_false, decide_true, Nat.reduceAdd, Nat.reduceSub, Nat.reduceLT, Nat.reduceLeDiff, Nat.reduceEqDiff, ↓reduceIte]
    rw [hR, if_pos this]
    exact wk_dat (r' := .tup [.d (.sl []), .d (.int .i64 (lcheck l))]) (by simp only [go_sem]; rfl) rfl (by simp only [go_sem])
  have k1x : lcheck l = 0 := by simpa using k1
  rw [if_neg (by omega)] at hR
  simp (maxSteps := 4000000) -implicitDefEqProofs only [go_sem, k1, Option.some.injEq, forall_eq', and_true, true_and, Bool.not_true, Bool.not_false, decide_true, Nat.reduceAdd, Nat.reduceSub, Nat.reduceLT, Nat.reduceLeDiff, Nat.reduceEqDiff, ↓reduceIte]
  refine DX.plain (.take 0 false (.take 1 false (.take 2 false (.take 3 false (.take 4 false (.take 5 false (.take 6 false (.take 7 false (.take 8 false (.take 9 false .done)))))))))) (by kernel_rfl) (by kernel_rfl) Ty.mixed ?_
  simp (maxSteps := 4000000) -implicitDefEqProofs only [go_sem, k1, Option.some.injEq, forall_eq', and_true, true_and, Bool.not_true, Bool.not_false, decide_true, Nat.reduceAdd, Nat.reduceSub, Nat.reduceLT, Nat.reduceLeDiff, Nat.reduceEqDiff, ↓reduceIte]
  refine ⟨_, _, c2.lift0 _ (by simp only [go_sem]) (by simp only [go_sem]), rfl, ?_⟩
  refine ⟨_, _, c3.lift0 _ (by simp only [go_sem]) (by simp only [go_sem]), rfl, ?_⟩
  simp (maxSteps := 4000000) -implicitDefEqProofs only [go_sem, Nat.reduceAdd, Nat.reduceSub, Nat.reduceLT, Nat.reduceLeDiff, Nat.reduceEqDiff, ↓reduceIte]
  rw [hR]
  exact (Wk.forget (by (simp only [go_sem]) <;> trivial) (by simp only [go_sem]))
end Go.AX.Lg
/- Ledgers: Effect and After, both sides. -/
set_option maxHeartbeats 8000000
set_option linter.unusedVariables false
set_option linter.unusedSimpArgs false
set_option maxRecDepth 20000
namespace Go.AX.Lg
open Go.Proofs Go.RowKit Go.IntWalk Go.AX.Br
def effN (l : Lg) (s : List Ev) (n : Nat) : List Int := ((List.range n).filter fun (c : Nat) => inR l s c).map Int.ofNat
def effL (l : Lg) (s : List Ev) : List Int := effN l s 30
def effR (l : Lg) (nm : ByteArray) : List Int × Int := if (lview l nm).2 ≠ 0 then ([], (lview l nm).2) else (effL l (seenL l (lview l nm).1), 0)
def aftR (l : Lg) (nm : ByteArray) (n : Int) : List Int × Int :=
  if (lview l nm).2 ≠ 0 then ([], (lview l nm).2) else if n < 0 ∨ ((lview l nm).1.length : Int) < n then ([], 2) else (effL l ((seenL l (lview l nm).1).take n.toNat), 0)
theorem Effect_own (l : Lg) (nm : ByteArray) (hk : l.kn.length ≤ 1000) (hb : l.br.length ≤ 1000) (he : l.ev.length ≤ 1000) : Spec Try.prog 15 [lA l, .d (.str nm)] [] (.tup [.d (.sl ((effR l nm).1.map iD)), .d (.int .i64 (effR l nm).2)]) [] := by
  have c1 := view_lown l nm hk hb he
  have vk := lview_ok (l := l) (nm := nm)
  obtain ⟨V, hV⟩ : ∃ V, V = lview l nm := ⟨_, rfl⟩
  unfold effR
  rw [← hV] at c1 vk ⊢
  simp only [lA] at c1
  refine spec_of_ev (fn := Try.f15) DX_ok 3000 Try.func15 rfl rfl (Nat.le_of_ble_eq_true rfl) ?_
  simp (maxSteps := 4000000) -implicitDefEqProofs only [Try.f15, go_sem, lA]
  refine ecall0 _ c1 (by simp only [go_sem]) (by simp only [go_sem]) ?_
  cases k1 : (V.2 != 0)
  case true =>
    have : V.2 ≠ 0 := by simpa using k1
    simp (maxSteps := 4000000) -implicitDefEqProofs only [go_sem, k1, Option.some.injEq, forall_eq', and_true, true_and, Bool.not_true, Bool.not_false, decide_true, Nat.reduceAdd, Nat.reduceSub, Nat.reduceLT, Nat.reduceLeDiff, Nat.reduceEqDiff, ↓reduceIte]
    rw [if_pos this]
    exact wk_dat (r' := .tup [.d (.sl []), .d (.int .i64 V.2)]) (by simp only [go_sem]; rfl) rfl (by simp only [go_sem])
  have k1x : V.2 = 0 := by simpa using k1
  obtain ⟨lo, i, x, s, v, a, hn, hv, hi⟩ := vk k1x
  have alen := a.len
  have h40 := lo.own i s a.hs
  have h320 := (lo.tab.g.ok.good i x a.hx).2.2
  have fo := folded_own l v lo.kv lo.kl a.inr (by omega) he
  have hkn : Known l (seenL l v) := by rw [a.seen]; exact a.known lo
  rw [foldS_foldE a.inr] at fo
  have lr := list_own _ (foldE_ok l (seenL l v))
  rw [list_ref lo.nd lo.kv hkn] at lr
  obtain ⟨Z, hZ⟩ : ∃ Z, Z = ((List.range 30).filter fun (c : Nat) => inR l (seenL l v) c).map Int.ofNat := ⟨_, rfl⟩
  rw [← hZ] at lr
  have hZ' : effL l (seenL l v) = Z := hZ.symm
  obtain ⟨S, hS⟩ : ∃ S, S = foldE l (seenL l v) := ⟨_, rfl⟩
  rw [← hS] at fo lr
  simp only [lA] at fo
  rw [hv] at k1 ⊢
  simp (maxSteps := 4000000) -implicitDefEqProofs only [go_sem, k1, Option.some.injEq, forall_eq', and_true, true_and, Bool.not_true, Bool.not_false, decide_true, Nat.reduceAdd, Nat.reduceSub, Nat.reduceLT, Nat.reduceLeDiff, Nat.reduceEqDiff, ↓reduceIte]
  refine ecallN _ _ fo (by simp only [go_sem]) ?_
  simp (maxSteps := 4000000) -implicitDefEqProofs only [go_sem, Nat.reduceAdd, Nat.reduceSub, Nat.reduceLT, Nat.reduceLeDiff, Nat.reduceEqDiff, ↓reduceIte]
  refine .mk [1] [.ptr 0 0] [.cells (stC S)] _ _ rfl (by simp [bds, bd]) (by simp) (by simp) (by simp only [obs, mapO, go_sem]) (by simp only [go_sem]) lr ?_
  simp (maxSteps := 4000000) -implicitDefEqProofs only [go_sem, Nat.reduceAdd, Nat.reduceSub, Nat.reduceLT, Nat.reduceLeDiff, Nat.reduceEqDiff, ↓reduceIte]
  simp only [ne_eq, not_true_eq_false, if_false, hZ']
  exact wk_dat (r' := .tup [.d (.sl (Z.map iD)), .d (.int .i64 0)]) (by simp only [go_sem]; rfl) rfl (by simp only [go_sem])
theorem After_own (l : Lg) (nm : ByteArray) (n : Int) (hk : l.kn.length ≤ 1000) (hb : l.br.length ≤ 1000) (he : l.ev.length ≤ 1000) : Spec Try.prog 24 [lA l, .d (.str nm), .d (.int .i64 n)] [] (.tup [.d (.sl ((aftR l nm n).1.map iD)), .d (.int .i64 (aftR l nm n).2)]) [] := by
  have c1 := view_lown l nm hk hb he
  have vk := lview_ok (l := l) (nm := nm)
  obtain ⟨V, hV⟩ : ∃ V, V = lview l nm := ⟨_, rfl⟩
  unfold aftR
  rw [← hV] at c1 vk ⊢
  simp only [lA] at c1
  refine spec_of_ev (fn := Try.f24) DX_ok 3000 Try.func24 rfl rfl (Nat.le_of_ble_eq_true rfl) ?_
  simp (maxSteps := 4000000) -implicitDefEqProofs only [Try.f24, go_sem, lA]
  refine ecall0 _ c1 (by simp only [go_sem]) (by simp only [go_sem]) ?_
  cases k1 : (V.2 != 0)
  case true =>
    have : V.2 ≠ 0 := by simpa using k1
    simp (maxSteps := 4000000) -implicitDefEqProofs only [go_sem, k1, Option.some.injEq, forall_eq', and_true, true_and, Bool.not_true, Bool.not_false, decide_true, Nat.reduceAdd, Nat.reduceSub, Nat.reduceLT, Nat.reduceLeDiff, Nat.reduceEqDiff, ↓reduceIte]
    rw [if_pos this]
    exact wk_dat (r' := .tup [.d (.sl []), .d (.int .i64 V.2)]) (by simp only [go_sem]; rfl) rfl (by simp only [go_sem])
  have k1x : V.2 = 0 := by simpa using k1
  obtain ⟨lo, i, x, s, v, a, hn, hv, hi⟩ := vk k1x
  have alen := a.len
  have h40 := lo.own i s a.hs
  have h320 := (lo.tab.g.ok.good i x a.hx).2.2
  rw [hv] at k1 ⊢
  simp only
  rw [if_neg (by omega)]
  cases k2 : decide (n < 0)
  case true =>
    have := of_decide_eq_true k2
    simp (maxSteps := 4000000) -implicitDefEqProofs only [go_sem, k1, k2, Option.some.injEq, forall_eq', and_true, true_and, Bool.not_true, Bool.not_false, decide_true, Nat.reduceAdd, Nat.reduceSub, Nat.reduceLT, Nat.reduceLeDiff, Nat.reduceEqDiff, ↓reduceIte]
    rw [if_pos (.inl this)]
    exact wk_dat (r' := .tup [.d (.sl []), .d (.int .i64 2)]) (by simp only [go_sem]; rfl) rfl (by simp only [go_sem])
  have k2x := of_decide_eq_false k2
  cases k3 : decide ((v.length : Int) < n)
  case true =>
    have := of_decide_eq_true k3
    simp (maxSteps := 4000000) -implicitDefEqProofs only [go_sem, k1, k2, k3, Option.some.injEq, forall_eq', and_true, true_and, Bool.not_true, Bool.not_false, decide_true, Nat.reduceAdd, Nat.reduceSub, Nat.reduceLT, Nat.reduceLeDiff, Nat.reduceEqDiff, ↓reduceIte]
    rw [if_pos (.inr this)]
    exact wk_dat (r' := .tup [.d (.sl []), .d (.int .i64 2)]) (by simp only [go_sem]; rfl) rfl (by simp only [go_sem])
  have k3x := of_decide_eq_false k3
  rw [if_neg (by omega)]
  have n5 : (0 ≤ (0 : Int) ∧ (0 : Int) ≤ n ∧ n ≤ v.length) = True := eq_true ⟨by omega, by omega, by omega⟩
  have n6 : (0 ≤ n ∧ n ≤ v.length) = True := eq_true ⟨by omega, by omega⟩
  have inr2 : ∀ m ∈ v.take n.toNat, InR l m := fun m hm => a.inr m (List.mem_of_mem_take hm)
  have fo := folded_own l (v.take n.toNat) lo.kv lo.kl inr2 (by rw [List.length_take]; omega) he
  have st := seenL_take a.inr n.toNat
  have hkn : Known l ((seenL l v).take n.toNat) := by
    rw [a.seen]
    exact fun y hy => a.known lo y (List.mem_of_mem_take hy)
  rw [foldS_foldE inr2, st] at fo
  have lr := list_own _ (foldE_ok l ((seenL l v).take n.toNat))
  rw [list_ref lo.nd lo.kv hkn] at lr
  obtain ⟨Z, hZ⟩ : ∃ Z, Z = ((List.range 30).filter fun (c : Nat) => inR l ((seenL l v).take n.toNat) c).map Int.ofNat := ⟨_, rfl⟩
  rw [← hZ] at lr
  have hZ' : effL l ((seenL l v).take n.toNat) = Z := hZ.symm
  obtain ⟨S, hS⟩ : ∃ S, S = foldE l ((seenL l v).take n.toNat) := ⟨_, rfl⟩
  rw [← hS] at fo lr
  simp only [lA] at fo
  simp (maxSteps := 4000000) -implicitDefEqProofs only [go_sem, k1, k2, k3, Option.some.injEq, forall_eq', and_true, true_and, Bool.not_true, Bool.not_false, decide_true, Nat.reduceAdd, Nat.reduceSub, Nat.reduceLT, Nat.reduceLeDiff, Nat.reduceEqDiff, ↓reduceIte]
  refine DX.plain (.take 0 false (.take 1 false (.take 2 false (.take 3 false (.run [4] (fun _ => []) fun _ => (.run [5] (fun _ => []) fun _ => (.take 6 false (.take 7 false .done)))))))) (by kernel_rfl) (by kernel_rfl) Ty.mixed ?_
  simp (maxSteps := 4000000) -implicitDefEqProofs only [go_sem, n5, n6, Option.some.injEq, forall_eq', and_true, true_and, Bool.not_true, Bool.not_false, decide_true, Nat.reduceAdd, Nat.reduceSub, Nat.reduceLT, Nat.reduceLeDiff, Nat.reduceEqDiff, ↓reduceIte]
  refine ⟨by omega, _, _, fo.liftN _ (by simp only [go_sem]), ?_⟩
  simp (maxSteps := 4000000) -implicitDefEqProofs only [go_sem, Nat.reduceAdd, Nat.reduceSub, Nat.reduceLT, Nat.reduceLeDiff, Nat.reduceEqDiff, ↓reduceIte]
  refine ⟨_, _, lr.frame (σ := [lH l, .cells (stC S)]) [1] (by simp only [go_sem]; omega) (by simp) (by simp) (by simp only [obs, mapO, go_sem]) (by simp only [go_sem]), ?_⟩
  simp (maxSteps := 4000000) -implicitDefEqProofs only [go_sem, Nat.reduceAdd, Nat.reduceSub, Nat.reduceLT, Nat.reduceLeDiff, Nat.reduceEqDiff, ↓reduceIte]
  rw [hZ']
  exact wk_dat (r' := .tup [.d (.sl (Z.map iD)), .d (.int .i64 0)]) (by simp only [go_sem]; rfl) rfl (by simp only [go_sem])
end Go.AX.Lg
/- Ledgers: Differ, both sides. -/
set_option maxHeartbeats 8000000
set_option linter.unusedVariables false
set_option linter.unusedSimpArgs false
set_option maxRecDepth 20000
namespace Go.AX.Lg
open Go.Proofs Go.RowKit Go.IntWalk Go.AX.Br
def onlyN (p q : Nat → Bool) (n : Nat) : List Int := ((List.range n).filter fun (c : Nat) => p c && !q c).map Int.ofNat
theorem onlyN_yes {p q : Nat → Bool} {n : Nat} (h1 : p n = true) (h2 : q n = false) : onlyN p q (n + 1) = onlyN p q n ++ [(n : Int)] := by
  simp [onlyN, List.range_succ, List.filter_append, h1, h2]
theorem onlyN_no {p q : Nat → Bool} {n : Nat} (h : (p n && !q n) = false) : onlyN p q (n + 1) = onlyN p q n := by
  unfold onlyN
  rw [List.range_succ, List.filter_append, List.map_append]
  have : List.filter (fun (c : Nat) => p c && !q c) [n] = [] := by rw [List.filter_cons_of_neg (by simpa using h)]; rfl
  rw [this]; simp
theorem onlyN_len (p q : Nat → Bool) (n : Nat) : (onlyN p q n).length ≤ n := by
  unfold onlyN
  rw [List.length_map]
  have := List.length_filter_le (fun (c : Nat) => p c && !q c) (List.range n)
  simpa using this
def inF (l : Lg) (s : List Ev) (c : Nat) : Bool := inR l s c
def onlyL (l : Lg) (s t : List Ev) : List Int := onlyN (inF l s) (inF l t) 30
def difR (l : Lg) (a b : ByteArray) : List Int × List Int × Int :=
  if (lview l a).2 ≠ 0 then ([], [], (lview l a).2) else if (lview l b).2 ≠ 0 then ([], [], (lview l b).2)
  else (onlyL l (seenL l (lview l a).1) (seenL l (lview l b).1), onlyL l (seenL l (lview l b).1) (seenL l (lview l a).1), 0)
theorem onlyN_cong {p q p' q' : Nat → Bool} : ∀ {n : Nat}, (∀ c, c < n → p c = p' c ∧ q c = q' c) → onlyN p q n = onlyN p' q' n := fun {n} h => by
  unfold onlyN
  congr 1
  refine List.filter_congr fun c hc => ?_
  have := h c (by simpa using hc)
  rw [this.1, this.2]
theorem Differ_own (l : Lg) (na nb : ByteArray) (hk : l.kn.length ≤ 1000) (hb : l.br.length ≤ 1000) (he : l.ev.length ≤ 1000) : Spec Try.prog 28 [lA l, .d (.str na), .d (.str nb)] [] (.tup [.d (.sl ((difR l na nb).1.map iD)), .d (.sl ((difR l na nb).2.1.map iD)), .d (.int .i64 (difR l na nb).2.2)]) [] := by
  have c1 := view_lown l na hk hb he
  have c2 := counts_dat l he
  have c3 := View_dat l.br (cntL l) nb (by unfold Sm; omega) (by unfold Sm; rw [cnt_len]; omega)
  have vk := lview_ok (l := l) (nm := na)
  have wk := lview_ok (l := l) (nm := nb)
  obtain ⟨V, hV⟩ : ∃ V, V = lview l na := ⟨_, rfl⟩
  obtain ⟨W, hW⟩ : ∃ V, V = lview l nb := ⟨_, rfl⟩
  unfold difR
  rw [← hV, ← hW]
  rw [← hV] at c1 vk
  rw [← hW] at wk
  simp only [lA] at c1 c2
  refine spec_of_ev (fn := Try.f28) DX_ok 3000 Try.func28 rfl rfl (Nat.le_of_ble_eq_true rfl) ?_
  simp (maxSteps := 4000000) -implicitDefEqProofs only [Try.f28, go_sem, lA]
  refine ecall0 _ c1 (by simp only [go_sem]) (by simp only [go_sem]) ?_
  cases k1 : (V.2 != 0)
  case true =>
    have : V.2 ≠ 0 := by simpa using k1
    simp (maxSteps := 4000000) -implicitDefEqProofs only [go_sem, k1, Option.some.injEq, forall_eq', and_true, true_and, Bool.not_true, Bool.not_false, decide_true, Nat.reduceAdd, Nat.reduceSub, Nat.reduceLT, Nat.reduceLeDiff, Nat.reduceEqDiff, ↓reduceIte]
    rw [if_pos this]
    exact wk_dat (r' := .tup [.d (.sl []), .d (.sl []), .d (.int .i64 V.2)]) (by simp only [go_sem]; rfl) rfl (by simp only [go_sem])
  have k1x : V.2 = 0 := by simpa using k1
  rw [if_neg (by omega)]
  obtain ⟨lo, i, x, s, v, a, hn, hv, hi⟩ := vk k1x
  have eW : viewR l.br (cntL l) nb = W := by
    rw [hW, lview, if_neg (by have := lo.chk; omega)]
  rw [eW] at c3
  simp (maxSteps := 4000000) -implicitDefEqProofs only [go_sem, k1, Option.some.injEq, forall_eq', and_true, true_and, Bool.not_true, Bool.not_false, decide_true, Nat.reduceAdd, Nat.reduceSub, Nat.reduceLT, Nat.reduceLeDiff, Nat.reduceEqDiff, ↓reduceIte]
  refine DX.plain (.take 0 false (.take 1 false (.take 2 false (.take 3 false (.take 4 false (.take 5 false (.take 6 false (.take 7 false (.take 8 false (.take 9 false (.take 10 false .done))))))))))) (by kernel_rfl) (by kernel_rfl) Ty.mixed ?_
  simp (maxSteps := 4000000) -implicitDefEqProofs only [go_sem, k1, Option.some.injEq, forall_eq', and_true, true_and, Bool.not_true, Bool.not_false, decide_true, Nat.reduceAdd, Nat.reduceSub, Nat.reduceLT, Nat.reduceLeDiff, Nat.reduceEqDiff, ↓reduceIte]
  refine ⟨_, _, c2.lift0 _ (by simp only [go_sem]) (by simp only [go_sem]), rfl, ?_⟩
  refine ⟨_, _, c3.lift0 _ (by simp only [go_sem]) (by simp only [go_sem]), rfl, ?_⟩
  cases k2 : (W.2 != 0)
  case true =>
    have : W.2 ≠ 0 := by simpa using k2
    simp (maxSteps := 4000000) -implicitDefEqProofs only [go_sem, k2, Option.some.injEq, forall_eq', and_true, true_and, Bool.not_true, Bool.not_false, decide_true, Nat.reduceAdd, Nat.reduceSub, Nat.reduceLT, Nat.reduceLeDiff, Nat.reduceEqDiff, ↓reduceIte]
    rw [if_pos this]
    exact wk_dat (r' := .tup [.d (.sl []), .d (.sl []), .d (.int .i64 W.2)]) (by simp only [go_sem]; rfl) rfl (by simp only [go_sem])
  have k2x : W.2 = 0 := by simpa using k2
  rw [if_neg (by omega)]
  obtain ⟨-, i', x', s', w, a', hn', hw, hi'⟩ := wk k2x
  have alen := a.len
  have h40 := lo.own i s a.hs
  have h320 := (lo.tab.g.ok.good i x a.hx).2.2
  have alen' := a'.len
  have h40' := lo.own i' s' a'.hs
  have h320' := (lo.tab.g.ok.good i' x' a'.hx).2.2
  rw [hv, hw]
  rw [hw] at k2
  have f1 := folded_own l v lo.kv lo.kl a.inr (by omega) he
  have f2 := folded_own l w lo.kv lo.kl a'.inr (by omega) he
  have q1 : Known l (seenL l v) := by rw [a.seen]; exact a.known lo
  have q2 : Known l (seenL l w) := by rw [a'.seen]; exact a'.known lo
  rw [foldS_foldE a.inr] at f1
  rw [foldS_foldE a'.inr] at f2
  have r1 := fun (c : Nat) (hc : c < 30) => (state_ref lo.nd lo.kv _ q1 c hc).2
  have r2 := fun (c : Nat) (hc : c < 30) => (state_ref lo.nd lo.kv _ q2 c hc).2
  have o1 := foldE_ok l (seenL l v)
  have o2 := foldE_ok l (seenL l w)
  obtain ⟨E1, hE1⟩ : ∃ S, S = seenL l v := ⟨_, rfl⟩
  obtain ⟨E2, hE2⟩ : ∃ T, T = seenL l w := ⟨_, rfl⟩
  simp only
  rw [← hE1, ← hE2]
  rw [← hE1] at f1 r1 o1
  rw [← hE2] at f2 r2 o2
  obtain ⟨S, hS⟩ : ∃ S, S = foldE l E1 := ⟨_, rfl⟩
  obtain ⟨T, hT⟩ : ∃ S, S = foldE l E2 := ⟨_, rfl⟩
  rw [← hS] at f1 r1 o1
  rw [← hT] at f2 r2 o2
  simp only [lA] at f1 f2
  simp (maxSteps := 4000000) -implicitDefEqProofs only [go_sem, k2, Option.some.injEq, forall_eq', and_true, true_and, Bool.not_true, Bool.not_false, decide_true, Nat.reduceAdd, Nat.reduceSub, Nat.reduceLT, Nat.reduceLeDiff, Nat.reduceEqDiff, ↓reduceIte]
  refine DX.plain (.take 0 false (.take 1 false (.take 3 true (.take 4 true (.run [2] (fun _ => [true, true]) fun _ => (.run [5] (fun _ => [false, false]) fun _ => (.take 6 false (.take 7 false .done)))))))) (by kernel_rfl) (by kernel_rfl) Ty.mixed ?_
  simp (maxSteps := 4000000) -implicitDefEqProofs only [go_sem, k2, Option.some.injEq, forall_eq', and_true, true_and, Bool.not_true, Bool.not_false, decide_true, Nat.reduceAdd, Nat.reduceSub, Nat.reduceLT, Nat.reduceLeDiff, Nat.reduceEqDiff, ↓reduceIte]
  refine ⟨_, _, f1.liftN _ (by simp only [go_sem]), ?_⟩
  simp (maxSteps := 4000000) -implicitDefEqProofs only [go_sem, Nat.reduceAdd, Nat.reduceSub, Nat.reduceLT, Nat.reduceLeDiff, Nat.reduceEqDiff, ↓reduceIte]
  refine ⟨_, _, f2.liftN _ (by simp only [go_sem]), ?_⟩
  simp (maxSteps := 4000000) -implicitDefEqProofs only [go_sem, Nat.reduceAdd, Nat.reduceSub, Nat.reduceLT, Nat.reduceLeDiff, Nat.reduceEqDiff, ↓reduceIte]
  have cg1 : onlyL l E1 E2 = onlyN (bAt S.inn) (bAt T.inn) 30 := onlyN_cong fun c hc => ⟨(r1 c hc).symm, (r2 c hc).symm⟩
  have cg2 : onlyL l E2 E1 = onlyN (bAt T.inn) (bAt S.inn) 30 := onlyN_cong fun c hc => ⟨(r2 c hc).symm, (r1 c hc).symm⟩
  rw [cg1, cg2]
  refine eloop (S := Nat) (fun i => mkE 87 [(6, .own 2), (7, .own 3), (11, .ptr 0 0), (12, .ptr 1 0), (41, .d (.int .i64 i))]) (fun i => [.cells (stC S), .cells (stC T), .row 1 ((onlyN (bAt S.inn) (bAt T.inn) i).map iD), .row 1 ((onlyN (bAt T.inn) (bAt S.inn) i).map iD)]) (fun i => i ≤ 30) (fun i => 30 - i) 0 (by omega) (Wk.trans (Wk.nil 6 1 rfl) (Wk.trans (Wk.nil 7 1 rfl) (Wk.via [1, 2, 3, 4] (by (simp only [go_sem, ↓reduceIte]) <;> trivial) (by first | (simp (maxSteps := 4000000) -implicitDefEqProofs only [go_sem, Nat.reduceAdd, Nat.reduceSub, Nat.reduceLT, Nat.reduceLeDiff, Nat.reduceEqDiff, ↓reduceIte]; done) | ((simp (maxSteps := 4000000) -implicitDefEqProofs only [go_sem, Nat.reduceAdd, Nat.reduceSub, Nat.reduceLT, Nat.reduceLeDiff, Nat.reduceEqDiff, ↓reduceIte]) <;> omega)) (by simp) (by first | (simp; done) | (simp [so]; done)) (by (simp (maxSteps := 4000000) -implicitDefEqProofs only [go_sem, Nat.reduceAdd, Nat.reduceSub, Nat.reduceLT, Nat.reduceLeDiff, Nat.reduceEqDiff, ↓reduceIte]) <;> trivial) (by first | (simp only [go_sem]; done) | ((simp (maxSteps := 4000000) -implicitDefEqProofs only [go_sem, Nat.reduceAdd, Nat.reduceSub, Nat.reduceLT, Nat.reduceLeDiff, Nat.reduceEqDiff, ↓reduceIte]) <;> omega)) (Nat.zero_le _) (fun i h => absurd h (Nat.not_lt_zero i))))) ?_
  clear f1 f2 c1 c2 c3
  intro i hi
  rcases Nat.lt_or_ge i 30 with h2 | h2
  case inr =>
    have : i = 30 := by omega
    subst this
    have f1 : decide (((30 : Nat) : Int) < 30) = false := rfl
    simp (maxSteps := 4000000) -implicitDefEqProofs only [go_sem, f1, Option.some.injEq, forall_eq', and_true, true_and, Bool.not_true, Bool.not_false, decide_true, Nat.reduceAdd, Nat.reduceSub, Nat.reduceLT, Nat.reduceLeDiff, Nat.reduceEqDiff, ↓reduceIte]
    exact wk_dat (r' := .tup [.d (.sl ((onlyN (bAt S.inn) (bAt T.inn) 30).map iD)), .d (.sl ((onlyN (bAt T.inn) (bAt S.inn) 30).map iD)), .d (.int .i64 0)]) (by simp only [go_sem]; rfl) rfl (by simp only [go_sem])
  have f1 : decide ((i : Int) < 30) = true := by simp; omega
  have n1 : (0 ≤ (i : Int) ∧ (i : Int) < ((30 : Nat) : Int)) = True := eq_true (by omega)
  have n1' : (0 ≤ (i : Int) ∧ (i : Int) < 30) = True := eq_true (by omega)
  have w1 : IntKind.i64.wrap ((i : Int) + 1) = ((i + 1 : Nat) : Int) := by rw [i64_in _ (by omega)]; simp
  have ll := onlyN_len (bAt S.inn) (bAt T.inn) i
  have ll2 := onlyN_len (bAt T.inn) (bAt S.inn) i
  obtain ⟨b1, hb1⟩ : ∃ b, b = bAt S.inn i := ⟨_, rfl⟩
  obtain ⟨b2, hb2⟩ : ∃ b, b = bAt T.inn i := ⟨_, rfl⟩
  obtain ⟨y1, g1⟩ := o1.ldI h2 (b := b1) (by rw [hb1]; exact bAt_get (by rw [o1.b]; exact h2))
  obtain ⟨y2, g2⟩ := o2.ldI h2 (b := b2) (by rw [hb2]; exact bAt_get (by rw [o2.b]; exact h2))
  have e3 : ∀ L : List Int, L.map iD ++ [[D.int .i64 (i : Int)]] = (L ++ [(i : Int)]).map iD := fun L => by simp [iD]
  cases b1
  case false =>
    cases b2
    case false =>
      simp (maxSteps := 4000000) -implicitDefEqProofs only [go_sem, f1, n1, n1', g1, g2, w1, Option.some.injEq, forall_eq', and_true, true_and, Bool.not_true, Bool.not_false, decide_true, Nat.reduceAdd, Nat.reduceSub, Nat.reduceLT, Nat.reduceLeDiff, Nat.reduceEqDiff, ↓reduceIte]
      exact .mk (i + 1) (by omega) (by omega) (by rw [onlyN_no (by rw [← hb1]; rfl), onlyN_no (by rw [← hb2]; rfl)]; exact (Wk.via [0, 1, 2, 3] (by (simp only [go_sem, ↓reduceIte]) <;> trivial) (by first | (simp (maxSteps := 4000000) -implicitDefEqProofs only [go_sem, Nat.reduceAdd, Nat.reduceSub, Nat.reduceLT, Nat.reduceLeDiff, Nat.reduceEqDiff, ↓reduceIte]; done) | ((simp (maxSteps := 4000000) -implicitDefEqProofs only [go_sem, Nat.reduceAdd, Nat.reduceSub, Nat.reduceLT, Nat.reduceLeDiff, Nat.reduceEqDiff, ↓reduceIte]) <;> omega)) (by simp) (by first | (simp; done) | (simp [so]; done)) (by (simp (maxSteps := 4000000) -implicitDefEqProofs only [go_sem, Nat.reduceAdd, Nat.reduceSub, Nat.reduceLT, Nat.reduceLeDiff, Nat.reduceEqDiff, ↓reduceIte]) <;> trivial) (by first | (simp only [go_sem]; done) | ((simp (maxSteps := 4000000) -implicitDefEqProofs only [go_sem, Nat.reduceAdd, Nat.reduceSub, Nat.reduceLT, Nat.reduceLeDiff, Nat.reduceEqDiff, ↓reduceIte]) <;> omega)) (Nat.zero_le _) (fun i h => absurd h (Nat.not_lt_zero i))))
    case true =>
      simp (maxSteps := 4000000) -implicitDefEqProofs only [go_sem, f1, n1, n1', g1, g2, w1, Option.some.injEq, forall_eq', and_true, true_and, Bool.not_true, Bool.not_false, decide_true, Nat.reduceAdd, Nat.reduceSub, Nat.reduceLT, Nat.reduceLeDiff, Nat.reduceEqDiff, ↓reduceIte]
      refine ⟨⟨fun e he => by simp at he; subst he; rfl, by omega, by omega⟩, ?_⟩
      rw [e3]
      exact .mk (i + 1) (by omega) (by omega) (by rw [onlyN_no (by rw [← hb1]; rfl), onlyN_yes hb2.symm hb1.symm]; exact (Wk.via [0, 1, 2, 5] (by (simp only [go_sem, ↓reduceIte]) <;> trivial) (by first | (simp (maxSteps := 4000000) -implicitDefEqProofs only [go_sem, Nat.reduceAdd, Nat.reduceSub, Nat.reduceLT, Nat.reduceLeDiff, Nat.reduceEqDiff, ↓reduceIte]; done) | ((simp (maxSteps := 4000000) -implicitDefEqProofs only [go_sem, Nat.reduceAdd, Nat.reduceSub, Nat.reduceLT, Nat.reduceLeDiff, Nat.reduceEqDiff, ↓reduceIte]) <;> omega)) (by simp) (by first | (simp; done) | (simp [so]; done)) (by (simp (maxSteps := 4000000) -implicitDefEqProofs only [go_sem, Nat.reduceAdd, Nat.reduceSub, Nat.reduceLT, Nat.reduceLeDiff, Nat.reduceEqDiff, ↓reduceIte]) <;> trivial) (by first | (simp only [go_sem]; done) | ((simp (maxSteps := 4000000) -implicitDefEqProofs only [go_sem, Nat.reduceAdd, Nat.reduceSub, Nat.reduceLT, Nat.reduceLeDiff, Nat.reduceEqDiff, ↓reduceIte]) <;> omega)) (Nat.zero_le _) (fun i h => absurd h (Nat.not_lt_zero i))))
  case true =>
    cases b2
    case false =>
      simp (maxSteps := 4000000) -implicitDefEqProofs only [go_sem, f1, n1, n1', g1, g2, w1, Option.some.injEq, forall_eq', and_true, true_and, Bool.not_true, Bool.not_false, decide_true, Nat.reduceAdd, Nat.reduceSub, Nat.reduceLT, Nat.reduceLeDiff, Nat.reduceEqDiff, ↓reduceIte]
      refine ⟨⟨fun e he => by simp at he; subst he; rfl, by omega, by omega⟩, ?_⟩
      rw [e3]
      exact .mk (i + 1) (by omega) (by omega) (by rw [onlyN_yes hb1.symm hb2.symm, onlyN_no (by rw [← hb2]; rfl)]; exact (Wk.via [0, 1, 5, 3] (by (simp only [go_sem, ↓reduceIte]) <;> trivial) (by first | (simp (maxSteps := 4000000) -implicitDefEqProofs only [go_sem, Nat.reduceAdd, Nat.reduceSub, Nat.reduceLT, Nat.reduceLeDiff, Nat.reduceEqDiff, ↓reduceIte]; done) | ((simp (maxSteps := 4000000) -implicitDefEqProofs only [go_sem, Nat.reduceAdd, Nat.reduceSub, Nat.reduceLT, Nat.reduceLeDiff, Nat.reduceEqDiff, ↓reduceIte]) <;> omega)) (by simp) (by first | (simp; done) | (simp [so]; done)) (by (simp (maxSteps := 4000000) -implicitDefEqProofs only [go_sem, Nat.reduceAdd, Nat.reduceSub, Nat.reduceLT, Nat.reduceLeDiff, Nat.reduceEqDiff, ↓reduceIte]) <;> trivial) (by first | (simp only [go_sem]; done) | ((simp (maxSteps := 4000000) -implicitDefEqProofs only [go_sem, Nat.reduceAdd, Nat.reduceSub, Nat.reduceLT, Nat.reduceLeDiff, Nat.reduceEqDiff, ↓reduceIte]) <;> omega)) (Nat.zero_le _) (fun i h => absurd h (Nat.not_lt_zero i))))
    case true =>
      simp (maxSteps := 4000000) -implicitDefEqProofs only [go_sem, f1, n1, n1', g1, g2, w1, Option.some.injEq, forall_eq', and_true, true_and, Bool.not_true, Bool.not_false, decide_true, Nat.reduceAdd, Nat.reduceSub, Nat.reduceLT, Nat.reduceLeDiff, Nat.reduceEqDiff, ↓reduceIte]
      exact .mk (i + 1) (by omega) (by omega) (by rw [onlyN_no (by rw [← hb2]; simp), onlyN_no (by rw [← hb1]; simp)]; exact (Wk.via [0, 1, 2, 3] (by (simp only [go_sem, ↓reduceIte]) <;> trivial) (by first | (simp (maxSteps := 4000000) -implicitDefEqProofs only [go_sem, Nat.reduceAdd, Nat.reduceSub, Nat.reduceLT, Nat.reduceLeDiff, Nat.reduceEqDiff, ↓reduceIte]; done) | ((simp (maxSteps := 4000000) -implicitDefEqProofs only [go_sem, Nat.reduceAdd, Nat.reduceSub, Nat.reduceLT, Nat.reduceLeDiff, Nat.reduceEqDiff, ↓reduceIte]) <;> omega)) (by simp) (by first | (simp; done) | (simp [so]; done)) (by (simp (maxSteps := 4000000) -implicitDefEqProofs only [go_sem, Nat.reduceAdd, Nat.reduceSub, Nat.reduceLT, Nat.reduceLeDiff, Nat.reduceEqDiff, ↓reduceIte]) <;> trivial) (by first | (simp only [go_sem]; done) | ((simp (maxSteps := 4000000) -implicitDefEqProofs only [go_sem, Nat.reduceAdd, Nat.reduceSub, Nat.reduceLT, Nat.reduceLeDiff, Nat.reduceEqDiff, ↓reduceIte]) <;> omega)) (Nat.zero_le _) (fun i h => absurd h (Nat.not_lt_zero i))))
end Go.AX.Lg
/- Ledgers: tables, numbers and lists compared and copied; branches cut. -/
set_option maxHeartbeats 8000000
set_option linter.unusedVariables false
set_option linter.unusedSimpArgs false
set_option maxRecDepth 20000
namespace Go.AX.Br
open Go.Proofs Go.RowKit Go.IntWalk
instance : DecidableEq Br := fun a b => decidable_of_iff (a.name = b.name ∧ a.frm = b.frm ∧ a.at' = b.at') (by cases a; cases b; simp)
theorem clone_br (l : List Br) (hl : l.length ≤ 1000) : Spec Try.prog 69 [.d (.sl (l.map bD))] [] (.own 0) [.row 3 (l.map bD)] := by
  refine spec_of_ev (fn := Try.f69) DX_ok 3000 Try.func69 rfl rfl (Nat.le_of_ble_eq_true rfl) ?_
  simp (maxSteps := 4000000) -implicitDefEqProofs only [Try.f69, go_sem]
  intro b hb
  cases b with
  | true =>
    simp (maxSteps := 4000000) -implicitDefEqProofs only [go_sem, Nat.reduceAdd, Nat.reduceSub, Nat.reduceLT, Nat.reduceLeDiff, Nat.reduceEqDiff, ↓reduceIte]
    rw [hb rfl]
    refine Wk.trans (Wk.nil 0 3 rfl) ?_
    exact (Wk.sub (by (simp only [go_sem]) <;> trivial))
  | false =>
    simp (maxSteps := 4000000) -implicitDefEqProofs only [go_sem, Nat.reduceAdd, Nat.reduceSub, Nat.reduceLT, Nat.reduceLeDiff, Nat.reduceEqDiff, ↓reduceIte]
    exact ⟨by omega, ⟨by omega, by omega⟩, (Wk.via [1] (by (simp only [go_sem, ↓reduceIte]) <;> trivial) (by first | (simp (maxSteps := 4000000) -implicitDefEqProofs only [go_sem, Nat.reduceAdd, Nat.reduceSub, Nat.reduceLT, Nat.reduceLeDiff, Nat.reduceEqDiff, ↓reduceIte]; done) | ((simp (maxSteps := 4000000) -implicitDefEqProofs only [go_sem, Nat.reduceAdd, Nat.reduceSub, Nat.reduceLT, Nat.reduceLeDiff, Nat.reduceEqDiff, ↓reduceIte]) <;> omega)) (by simp) (by first | (simp; done) | (simp [so]; done)) (by (simp (maxSteps := 4000000) -implicitDefEqProofs only [go_sem, Nat.reduceAdd, Nat.reduceSub, Nat.reduceLT, Nat.reduceLeDiff, Nat.reduceEqDiff, ↓reduceIte]) <;> trivial) (by first | (simp only [go_sem]; done) | ((simp (maxSteps := 4000000) -implicitDefEqProofs only [go_sem, Nat.reduceAdd, Nat.reduceSub, Nat.reduceLT, Nat.reduceLeDiff, Nat.reduceEqDiff, ↓reduceIte]) <;> omega)) (Nat.zero_le _) (fun i h => absurd h (Nat.not_lt_zero i)))⟩
theorem viewR_len (l : List Br) (cs : List Int) (nm : ByteArray) : (viewR l cs nm).1.length ≤ 400 := by
  simp only [viewR]
  split
  · simp
  · next h1 =>
    split
    · simp
    · next h2 =>
      have g := good_of (l := l) (cs := cs) (by omega)
      obtain ⟨i, x, k1, k2, k3⟩ := idx_get (p := has nm) (l := l) (by omega)
      obtain ⟨v, hv⟩ := good_view g (some_lt k2)
      obtain ⟨c, hc⟩ : ∃ c, cs[i]? = some c := ⟨cs[i]'(by have := some_lt k2; have := g.len; omega), List.getElem?_eq_getElem _⟩
      have := fit_len g.ok g.fit k2 hc hv
      have := g.ok.good _ _ k2
      have := g.cnt c (List.mem_of_getElem? hc)
      rw [k1]
      simp only [Int.toNat_natCast, List.getD_eq_getElem?_getD, hv, Option.getD_some]
      omega
def cutR (l : List Br) (cs : List Int) (frm nm : ByteArray) (at' : Int) : List Br × Int :=
  if (viewR l cs frm).2 ≠ 0 then ([], (viewR l cs frm).2) else if at' < 0 ∨ ((viewR l cs frm).1.length : Int) < at' then ([], 2)
  else if check (l ++ [⟨nm, frm, at'⟩]) ≠ 0 then ([], check (l ++ [⟨nm, frm, at'⟩])) else (l ++ [⟨nm, frm, at'⟩], 0)
theorem viewR_ok {l : List Br} {cs : List Int} {nm : ByteArray} (h : (viewR l cs nm).2 = 0) : fits l cs = 0 ∧ 0 ≤ idx (has nm) l := by
  simp only [viewR] at h
  split at h
  · next h1 => exact absurd h h1
  · next h1 =>
    split at h
    · simp at h
    · omega
theorem cut_own (l : List Br) (cs : List Int) (frm nm : ByteArray) (at' : Int) (hl : Sm l.length) (hc : Sm cs.length) : Spec Try.prog 51 [.d (.sl (l.map bD)), .d (.sl (cs.map iD)), .d (.str frm), .d (.str nm), .d (.int .i64 at')] [] (.tup [.d (.sl ((cutR l cs frm nm at').1.map bD)), .d (.int .i64 (cutR l cs frm nm at').2)]) [] := by
  have vx := View_own l cs frm hl hc
  have vl := viewR_len l cs frm
  obtain ⟨R, hR⟩ : ∃ R, R = cutR l cs frm nm at' := ⟨_, rfl⟩
  rw [← hR]
  unfold cutR at hR
  have ok := viewR_ok (l := l) (cs := cs) (nm := frm)
  generalize viewR l cs frm = V at *
  obtain ⟨v, e⟩ := V
  simp only at hR vx vl ok
  refine spec_of_ev (fn := Try.f51) DX_ok 3000 Try.func51 rfl rfl (Nat.le_of_ble_eq_true rfl) ?_
  simp (maxSteps := 4000000) -implicitDefEqProofs only [Try.f51, go_sem]
  refine ecallN _ _ vx (by simp only [go_sem]) ?_
  by_cases h1 : e = 0
  case neg =>
    have d1 : (e != 0) = true := by simp [h1]
    rw [if_pos h1] at hR
    simp (maxSteps := 4000000) -implicitDefEqProofs only [go_sem, d1, Option.some.injEq, forall_eq', and_true, true_and, Bool.not_true, Bool.not_false, decide_true, Nat.reduceAdd, Nat.reduceSub, Nat.reduceLT, Nat.reduceLeDiff, Nat.reduceEqDiff, ↓reduceIte]
    rw [hR]
    exact wk_dat (r' := .tup [.d (.sl []), .d (.int .i64 e)]) (by simp only [go_sem]; rfl) rfl (by simp only [go_sem])
  have d1 : (e != 0) = false := by simp [h1]
  have g := good_of (ok h1).1
  have hl8 := g.ok.len
  rw [if_neg (by omega)] at hR
  rcases Int.lt_or_le at' 0 with h2 | h2
  · have d2 := decide_eq_true h2
    rw [if_pos (.inl h2)] at hR
    simp (maxSteps := 4000000) -implicitDefEqProofs only [go_sem, d1, d2, Option.some.injEq, forall_eq', and_true, true_and, Bool.not_true, Bool.not_false, decide_true, Nat.reduceAdd, Nat.reduceSub, Nat.reduceLT, Nat.reduceLeDiff, Nat.reduceEqDiff, ↓reduceIte]
    rw [hR]
    exact wk_dat (r' := .tup [.d (.sl []), .d (.int .i64 2)]) (by simp only [go_sem]; rfl) rfl (by simp only [go_sem])
  have d2 := decide_eq_false (Int.not_lt.2 h2)
  rcases Int.lt_or_le v.length at' with h3 | h3
  · have d3 := decide_eq_true h3
    rw [if_pos (.inr h3)] at hR
    simp (maxSteps := 4000000) -implicitDefEqProofs only [go_sem, d1, d2, d3, Option.some.injEq, forall_eq', and_true, true_and, Bool.not_true, Bool.not_false, decide_true, Nat.reduceAdd, Nat.reduceSub, Nat.reduceLT, Nat.reduceLeDiff, Nat.reduceEqDiff, ↓reduceIte]
    rw [hR]
    exact wk_dat (r' := .tup [.d (.sl []), .d (.int .i64 2)]) (by simp only [go_sem]; rfl) rfl (by simp only [go_sem])
  have d3 := decide_eq_false (Int.not_lt.2 h3)
  rw [if_neg (by omega)] at hR
  simp (maxSteps := 4000000) -implicitDefEqProofs only [go_sem, d1, d2, d3, Option.some.injEq, forall_eq', and_true, true_and, Bool.not_true, Bool.not_false, decide_true, Nat.reduceAdd, Nat.reduceSub, Nat.reduceLT, Nat.reduceLeDiff, Nat.reduceEqDiff, ↓reduceIte]
  refine ecallN _ _ (clone_br l (by omega)) (by simp only [go_sem]) ?_
  simp (maxSteps := 4000000) -implicitDefEqProofs only [go_sem, Nat.reduceAdd, Nat.reduceSub, Nat.reduceLT, Nat.reduceLeDiff, Nat.reduceEqDiff, ↓reduceIte]
  refine ⟨by omega, ⟨by simp, by omega, by omega⟩, ?_⟩
  have ea : l.map bD ++ [[D.str nm, D.str frm, D.int .i64 at']] = (l ++ [(⟨nm, frm, at'⟩ : Br)]).map bD := by simp [bD]
  rw [ea]
  obtain ⟨t, ht⟩ : ∃ t, t = l ++ [(⟨nm, frm, at'⟩ : Br)] := ⟨_, rfl⟩
  rw [← ht] at hR ⊢
  have htl : t.length ≤ 9 := by rw [ht, List.length_append]; simp; omega
  refine ECall.frz 3 rfl ?_
  simp (maxSteps := 4000000) -implicitDefEqProofs only [go_sem, Nat.reduceAdd, Nat.reduceSub, Nat.reduceLT, Nat.reduceLeDiff, Nat.reduceEqDiff, ↓reduceIte]
  refine ecall0 _ (check_own t (by unfold Sm; omega)) (by simp only [go_sem]) (by simp only [go_sem]) ?_
  simp (maxSteps := 4000000) -implicitDefEqProofs only [go_sem, Nat.reduceAdd, Nat.reduceSub, Nat.reduceLT, Nat.reduceLeDiff, Nat.reduceEqDiff, ↓reduceIte]
  by_cases h4 : check t = 0
  · have d4 : (check t != 0) = false := by simp [h4]
    rw [if_neg (by omega)] at hR
    simp (maxSteps := 4000000) -implicitDefEqProofs only [go_sem, d4, Option.some.injEq, forall_eq', and_true, true_and, Bool.not_true, Bool.not_false, decide_true, Nat.reduceAdd, Nat.reduceSub, Nat.reduceLT, Nat.reduceLeDiff, Nat.reduceEqDiff, ↓reduceIte]
    rw [hR]
    exact wk_dat (r' := .tup [.d (.sl (t.map bD)), .d (.int .i64 0)]) (by simp only [go_sem]; rfl) rfl (by simp only [go_sem])
  · have d4 : (check t != 0) = true := by simp [h4]
    rw [if_pos h4] at hR
    simp (maxSteps := 4000000) -implicitDefEqProofs only [go_sem, d4, Option.some.injEq, forall_eq', and_true, true_and, Bool.not_true, Bool.not_false, decide_true, Nat.reduceAdd, Nat.reduceSub, Nat.reduceLT, Nat.reduceLeDiff, Nat.reduceEqDiff, ↓reduceIte]
    rw [hR]
    exact wk_dat (r' := .tup [.d (.sl []), .d (.int .i64 (check t))]) (by simp only [go_sem]; rfl) rfl (by simp only [go_sem])
end Go.AX.Br
namespace Go.AX.Lg
open Go.Proofs Go.RowKit Go.IntWalk Go.AX.Br
theorem intEq (x y : Int) : (x == y) = decide (x = y) := by rw [Bool.eq_iff_iff]; simp
theorem bneI (a b : Int) : (a != b) = !(a == b) := rfl
theorem sameInts_ref (a b : List Int) (ha : Sm a.length) : Spec Try.prog 16 [.d (.sl (a.map iD)), .d (.sl (b.map iD))] [] (.d (.bool (decide (a = b)))) [] := by
  unfold Sm at ha
  refine spec_of_ev (fn := Try.f16) DX_ok 3000 Try.func16 rfl rfl (Nat.le_of_ble_eq_true rfl) ?_
  simp (maxSteps := 4000000) -implicitDefEqProofs only [Try.f16, go_sem]
  by_cases h1 : a.length = b.length
  · have d1 : ((a.length : Int) != b.length) = false := by simp [h1]
    simp (maxSteps := 4000000) -implicitDefEqProofs only [go_sem, d1, Option.some.injEq, forall_eq', and_true, true_and, Bool.not_true, Bool.not_false, decide_true, Nat.reduceAdd, Nat.reduceSub, Nat.reduceLT, Nat.reduceLeDiff, Nat.reduceEqDiff, ↓reduceIte]
    refine eloop (S := Nat) (fun i => mkE 26 [(0, .d (.sl (a.map iD))), (1, .d (.sl (b.map iD))), (5, .d (.int .i64 i))]) (fun i => []) (fun i => i ≤ a.length ∧ ∀ j x, a[j]? = some x → j < i → b[j]? = some x) (fun i => a.length - i) 0 ⟨by omega, by omega⟩ (Wk.sub (by (simp only [go_sem]) <;> trivial)) ?_
    rintro i ⟨hi, hj⟩
    rcases Nat.lt_or_ge i a.length with h2 | h2
    · have d2 : decide ((i : Int) < a.length) = true := by simp; omega
      obtain ⟨x, hx⟩ : ∃ x, a[i]? = some x := ⟨a[i]'(by omega), List.getElem?_eq_getElem _⟩
      obtain ⟨y, hy⟩ : ∃ x, b[i]? = some x := ⟨b[i]'(by omega), List.getElem?_eq_getElem _⟩
      have n1 : (0 ≤ (i : Int) ∧ (i : Int) < a.length) = True := eq_true (by omega)
      have n2 : (0 ≤ (i : Int) ∧ (i : Int) < b.length) = True := eq_true (by omega)
      have n3 : (i < a.length) = True := eq_true (by omega)
      have n4 : (i < b.length) = True := eq_true (by omega)
      have w1 : IntKind.i64.wrap ((i : Int) + 1) = i + 1 := i64_in _ (by omega)
      by_cases h3 : x = y
      · have hxy := (intEq x y).trans (decide_eq_true h3)
        simp (maxSteps := 4000000) -implicitDefEqProofs only [go_sem, d2, Option.some.injEq, forall_eq', and_true, true_and, Bool.not_true, Bool.not_false, decide_true, Nat.reduceAdd, Nat.reduceSub, Nat.reduceLT, Nat.reduceLeDiff, Nat.reduceEqDiff, ↓reduceIte]
        refine DX.plain (.take 0 false (.take 1 false (.take 2 false (.take 3 false (.take 4 false (.take 5 false (.take 6 false (.take 7 false (.take 8 false .done))))))))) (by kernel_rfl) (by kernel_rfl) Ty.mixed ?_
        simp (maxSteps := 4000000) -implicitDefEqProofs only [go_sem, n1, n2, n3, n4, hx, hy, hxy, w1, bneI, Option.some.injEq, forall_eq', and_true, true_and, Bool.not_true, Bool.not_false, decide_true, Nat.reduceAdd, Nat.reduceSub, Nat.reduceLT, Nat.reduceLeDiff, Nat.reduceEqDiff, ↓reduceIte]
        exact .mk (i + 1) ⟨by omega, upto_succ hx (by rw [h3]; exact hy) hj⟩ (by omega) (Wk.sub (by (simp only [go_sem]) <;> trivial))
      · have hxy := (intEq x y).trans (decide_eq_false h3)
        simp (maxSteps := 4000000) -implicitDefEqProofs only [go_sem, d2, Option.some.injEq, forall_eq', and_true, true_and, Bool.not_true, Bool.not_false, decide_true, Nat.reduceAdd, Nat.reduceSub, Nat.reduceLT, Nat.reduceLeDiff, Nat.reduceEqDiff, ↓reduceIte]
        refine DX.plain (.take 0 false (.take 1 false (.take 2 false (.take 3 false (.take 4 false (.take 5 false (.take 6 false (.take 7 false (.take 8 false .done))))))))) (by kernel_rfl) (by kernel_rfl) Ty.mixed ?_
        simp (maxSteps := 4000000) -implicitDefEqProofs only [go_sem, n1, n2, n3, n4, hx, hy, hxy, bneI, Option.some.injEq, forall_eq', and_true, true_and, Bool.not_true, Bool.not_false, decide_true, Nat.reduceAdd, Nat.reduceSub, Nat.reduceLT, Nat.reduceLeDiff, Nat.reduceEqDiff, ↓reduceIte]
        refine wk_bool (decide_eq_false fun e => h3 ?_).symm
        subst e; rw [hx] at hy; exact Option.some.inj hy
    · have d2 : decide ((i : Int) < a.length) = false := by simp; omega
      simp (maxSteps := 4000000) -implicitDefEqProofs only [go_sem, d2, Option.some.injEq, forall_eq', and_true, true_and, Bool.not_true, Bool.not_false, decide_true, Nat.reduceAdd, Nat.reduceSub, Nat.reduceLT, Nat.reduceLeDiff, Nat.reduceEqDiff, ↓reduceIte]
      refine wk_bool (decide_eq_true ?_).symm
      refine List.ext_getElem? fun j => ?_
      rcases Nat.lt_or_ge j a.length with q | q
      · have hx := List.getElem?_eq_getElem q
        rw [hx]; exact (hj j _ hx (by omega)).symm
      · rw [List.getElem?_eq_none q, List.getElem?_eq_none (by omega)]
  · have d1 : ((a.length : Int) != b.length) = true := by simp; omega
    simp (maxSteps := 4000000) -implicitDefEqProofs only [go_sem, d1, Option.some.injEq, forall_eq', and_true, true_and, Bool.not_true, Bool.not_false, decide_true, Nat.reduceAdd, Nat.reduceSub, Nat.reduceLT, Nat.reduceLeDiff, Nat.reduceEqDiff, ↓reduceIte]
    exact wk_bool (decide_eq_false fun e => h1 (by rw [e])).symm

theorem clone_kn (l : List Kn) (hl : l.length ≤ 1000) : Spec Try.prog 68 [.d (.sl (l.map kD))] [] (.own 0) [.row 2 (l.map kD)] := by
  refine spec_of_ev (fn := Try.f68) DX_ok 3000 Try.func68 rfl rfl (Nat.le_of_ble_eq_true rfl) ?_
  simp (maxSteps := 4000000) -implicitDefEqProofs only [Try.f68, go_sem]
  intro b hb
  cases b with
  | true =>
    simp (maxSteps := 4000000) -implicitDefEqProofs only [go_sem, Nat.reduceAdd, Nat.reduceSub, Nat.reduceLT, Nat.reduceLeDiff, Nat.reduceEqDiff, ↓reduceIte]
    rw [hb rfl]
    refine Wk.trans (Wk.nil 0 2 rfl) ?_
    exact (Wk.sub (by (simp only [go_sem]) <;> trivial))
  | false =>
    simp (maxSteps := 4000000) -implicitDefEqProofs only [go_sem, Nat.reduceAdd, Nat.reduceSub, Nat.reduceLT, Nat.reduceLeDiff, Nat.reduceEqDiff, ↓reduceIte]
    exact ⟨by omega, ⟨by omega, by omega⟩, (Wk.via [1] (by (simp only [go_sem, ↓reduceIte]) <;> trivial) (by first | (simp (maxSteps := 4000000) -implicitDefEqProofs only [go_sem, Nat.reduceAdd, Nat.reduceSub, Nat.reduceLT, Nat.reduceLeDiff, Nat.reduceEqDiff, ↓reduceIte]; done) | ((simp (maxSteps := 4000000) -implicitDefEqProofs only [go_sem, Nat.reduceAdd, Nat.reduceSub, Nat.reduceLT, Nat.reduceLeDiff, Nat.reduceEqDiff, ↓reduceIte]) <;> omega)) (by simp) (by first | (simp; done) | (simp [so]; done)) (by (simp (maxSteps := 4000000) -implicitDefEqProofs only [go_sem, Nat.reduceAdd, Nat.reduceSub, Nat.reduceLT, Nat.reduceLeDiff, Nat.reduceEqDiff, ↓reduceIte]) <;> trivial) (by first | (simp only [go_sem]; done) | ((simp (maxSteps := 4000000) -implicitDefEqProofs only [go_sem, Nat.reduceAdd, Nat.reduceSub, Nat.reduceLT, Nat.reduceLeDiff, Nat.reduceEqDiff, ↓reduceIte]) <;> omega)) (Nat.zero_le _) (fun i h => absurd h (Nat.not_lt_zero i)))⟩
theorem clone_ev (l : List Ev) (hl : l.length ≤ 1000) : Spec Try.prog 70 [.d (.sl (l.map eD))] [] (.own 0) [.row 2 (l.map eD)] := by
  refine spec_of_ev (fn := Try.f70) DX_ok 3000 Try.func70 rfl rfl (Nat.le_of_ble_eq_true rfl) ?_
  simp (maxSteps := 4000000) -implicitDefEqProofs only [Try.f70, go_sem]
  intro b hb
  cases b with
  | true =>
    simp (maxSteps := 4000000) -implicitDefEqProofs only [go_sem, Nat.reduceAdd, Nat.reduceSub, Nat.reduceLT, Nat.reduceLeDiff, Nat.reduceEqDiff, ↓reduceIte]
    rw [hb rfl]
    refine Wk.trans (Wk.nil 0 2 rfl) ?_
    exact (Wk.sub (by (simp only [go_sem]) <;> trivial))
  | false =>
    simp (maxSteps := 4000000) -implicitDefEqProofs only [go_sem, Nat.reduceAdd, Nat.reduceSub, Nat.reduceLT, Nat.reduceLeDiff, Nat.reduceEqDiff, ↓reduceIte]
    exact ⟨by omega, ⟨by omega, by omega⟩, (Wk.via [1] (by (simp only [go_sem, ↓reduceIte]) <;> trivial) (by first | (simp (maxSteps := 4000000) -implicitDefEqProofs only [go_sem, Nat.reduceAdd, Nat.reduceSub, Nat.reduceLT, Nat.reduceLeDiff, Nat.reduceEqDiff, ↓reduceIte]; done) | ((simp (maxSteps := 4000000) -implicitDefEqProofs only [go_sem, Nat.reduceAdd, Nat.reduceSub, Nat.reduceLT, Nat.reduceLeDiff, Nat.reduceEqDiff, ↓reduceIte]) <;> omega)) (by simp) (by first | (simp; done) | (simp [so]; done)) (by (simp (maxSteps := 4000000) -implicitDefEqProofs only [go_sem, Nat.reduceAdd, Nat.reduceSub, Nat.reduceLT, Nat.reduceLeDiff, Nat.reduceEqDiff, ↓reduceIte]) <;> trivial) (by first | (simp only [go_sem]; done) | ((simp (maxSteps := 4000000) -implicitDefEqProofs only [go_sem, Nat.reduceAdd, Nat.reduceSub, Nat.reduceLT, Nat.reduceLeDiff, Nat.reduceEqDiff, ↓reduceIte]) <;> omega)) (Nat.zero_le _) (fun i h => absurd h (Nat.not_lt_zero i)))⟩
/-- the events of a branch alone in the call's own -/
theorem clone_evV (l : List Ev) (hl : l.length ≤ 1000) : Spec Try.prog 70 [.d (.sl (l.map eD))] [] (.own 0) [.vec 2 (upD (l.map eD))] :=
  (clone_ev l hl).wk (Wk.rowv 0 rfl)
end Go.AX.Lg
/- Ledgers: copied; one branch's events in the call's own. -/
set_option maxHeartbeats 8000000
set_option linter.unusedVariables false
set_option linter.unusedSimpArgs false
set_option maxRecDepth 20000
namespace Go.AX.Lg
open Go.Proofs Go.RowKit Go.IntWalk Go.AX.Br
theorem esDx_len (l : List (List Ev)) : (∀ e ∈ l.map esD, e.length = 1) = True := esD_len
/-- what stands for the events of branch i -/
def inn (i j : Nat) (s : List Ev) : AObj := if i < j then .vec 2 (upD (s.map eD)) else .gone
theorem inn_t {i j : Nat} {s : List Ev} (h : i < j) : inn i j s = .vec 2 (upD (s.map eD)) := if_pos h
theorem inn_f {i j : Nat} {s : List Ev} (h : ¬ i < j) : inn i j s = .gone := if_neg h
theorem inn_ren {f : Nat → Nat} {i j : Nat} {s : List Ev} : renO f (inn i j s) = inn i j s := by
  unfold inn
  split
  · simp only [renO, renss_up]
  · rfl
theorem inn_bd {k : Nat} {i j : Nat} {s : List Ev} : bdO k (inn i j s) = True := by
  unfold inn
  split
  · simp only [bdO, bdss_up]
  · rfl
theorem inn_wk {i j : Nat} {s : List Ev} : wkO (inn i j s) (inn i j s) = True := eq_true (wkO_refl _)
attribute [go_sem ↓] inn_ren inn_bd inn_wk
def evX (l : Lg) (j : Nat) : List (List D) := (l.ev.take j).map esD
theorem evX_len {l : Lg} {j : Nat} (h : j ≤ l.ev.length) : (evX l j).length = j := by simp [evX]; omega
theorem evX_S {l : Lg} {j : Nat} {s : List Ev} (h : l.ev[j]? = some s) : evX l (j + 1) = evX l j ++ [[.sl (s.map eD)]] := by
  unfold evX
  rw [List.take_add_one, h]; simp [esD]
theorem evX_all {l : Lg} : evX l l.ev.length = l.ev.map esD := by simp [evX]
theorem evX_sz {l : Lg} {j : Nat} : (∀ e ∈ evX l j, e.length = 1) = True := esDx_len _
def zL : AObj := .cells [.nil, .nil, .nil]
attribute [go_sem] evX_sz zL
def cl0 (l : Lg) : List AObj := [lH l, zL, .cells [.own 3, .own 4, .nil], .row 2 (l.kn.map kD), .row 3 (l.br.map bD)]
/-- a copy: the outer slice in the call's own, the events of all branches as data -/
theorem clone_lown (l : Lg) (hk : l.kn.length ≤ 1000) (hb : l.br.length ≤ 1000) (he : l.ev.length ≤ 1000) (hs : ∀ s ∈ l.ev, s.length ≤ 1000) :
    Spec Try.prog 48 [lA l] [] (.agg [.d (.sl (l.kn.map kD)), .d (.sl (l.br.map bD)), .own 0]) [.row 1 (l.ev.map esD)] := by
  have c1 := clone_kn l.kn hk
  have c2 := clone_br l.br hb
  refine spec_of_ev (fn := Try.f48) DX_ok 3000 Try.func48 rfl rfl (Nat.le_of_ble_eq_true rfl) ?_
  simp (maxSteps := 4000000) -implicitDefEqProofs only [Try.f48, go_sem, lA]
  refine DX.join (mkE 29 [(1, .ptr 0 0), (2, .ptr 1 0), (3, .ptr 2 0)]) (cl0 l)
    (.take 0 true (.take 1 true (.take 3 true (.take 4 true (.run [2, 7] (fun i => if i = 2 then [true, true, false, false] else [true, true, true, true]) fun i => if i = 2 then
      (.run [5, 7] (fun i => if i = 5 then [false, false] else [true, true]) fun i => if i = 5 then (.take 6 true (.run [7] (fun _ => [true]) fun _ => .run [8] (fun _ => [false]) fun _ => .done)) else (.run [5] (fun _ => [false, false]) fun _ => .take 6 false (.run [8] (fun _ => []) fun _ => .done)))
      else (.run [2] (fun _ => [true, true, false, false]) fun _ => .run [5] (fun _ => [false, false]) fun _ => .take 6 false (.run [8] (fun _ => []) fun _ => .done))))))) (by kernel_rfl) (by kernel_rfl) Ty.mixed ?_ ?_
  · simp (maxSteps := 4000000) -implicitDefEqProofs only [go_sem, cl0, Option.some.injEq, forall_eq', and_true, true_and, Bool.not_true, Bool.not_false, decide_true, Nat.reduceAdd, Nat.reduceSub, Nat.reduceLT, Nat.reduceLeDiff, Nat.reduceEqDiff, ↓reduceIte]
    refine ⟨⟨_, _, c1.liftN _ (by simp only [go_sem]), ?_⟩, ?_⟩
    · simp (maxSteps := 4000000) -implicitDefEqProofs only [go_sem, Nat.reduceAdd, Nat.reduceSub, Nat.reduceLT, Nat.reduceLeDiff, Nat.reduceEqDiff, ↓reduceIte]
      refine ⟨⟨_, _, c2.liftN _ (by simp only [go_sem]), ?_⟩, ?_⟩
      · simp (maxSteps := 4000000) -implicitDefEqProofs only [go_sem, Nat.reduceAdd, Nat.reduceSub, Nat.reduceLT, Nat.reduceLeDiff, Nat.reduceEqDiff, ↓reduceIte]
        exact (Wk.via [0, 1, 4, 2, 3] (by (simp only [go_sem, ↓reduceIte]) <;> trivial) (by first | (simp (maxSteps := 4000000) -implicitDefEqProofs only [go_sem, Nat.reduceAdd, Nat.reduceSub, Nat.reduceLT, Nat.reduceLeDiff, Nat.reduceEqDiff, ↓reduceIte]; done) | ((simp (maxSteps := 4000000) -implicitDefEqProofs only [go_sem, Nat.reduceAdd, Nat.reduceSub, Nat.reduceLT, Nat.reduceLeDiff, Nat.reduceEqDiff, ↓reduceIte]) <;> omega)) (by simp) (by first | (simp; done) | (simp [so]; done)) (by (simp (maxSteps := 4000000) -implicitDefEqProofs only [go_sem, Nat.reduceAdd, Nat.reduceSub, Nat.reduceLT, Nat.reduceLeDiff, Nat.reduceEqDiff, ↓reduceIte]) <;> trivial) (by first | (simp only [go_sem]; done) | ((simp (maxSteps := 4000000) -implicitDefEqProofs only [go_sem, Nat.reduceAdd, Nat.reduceSub, Nat.reduceLT, Nat.reduceLeDiff, Nat.reduceEqDiff, ↓reduceIte]) <;> omega)) (Nat.zero_le _) (fun i h => absurd h (Nat.not_lt_zero i)))
      · refine ⟨_, _, c2.liftN _ (by simp only [go_sem]), ?_⟩
        simp (maxSteps := 4000000) -implicitDefEqProofs only [go_sem, Nat.reduceAdd, Nat.reduceSub, Nat.reduceLT, Nat.reduceLeDiff, Nat.reduceEqDiff, ↓reduceIte]
        exact (Wk.via [0, 1, 3, 2, 4] (by (simp only [go_sem, ↓reduceIte]) <;> trivial) (by first | (simp (maxSteps := 4000000) -implicitDefEqProofs only [go_sem, Nat.reduceAdd, Nat.reduceSub, Nat.reduceLT, Nat.reduceLeDiff, Nat.reduceEqDiff, ↓reduceIte]; done) | ((simp (maxSteps := 4000000) -implicitDefEqProofs only [go_sem, Nat.reduceAdd, Nat.reduceSub, Nat.reduceLT, Nat.reduceLeDiff, Nat.reduceEqDiff, ↓reduceIte]) <;> omega)) (by simp) (by first | (simp; done) | (simp [so]; done)) (by (simp (maxSteps := 4000000) -implicitDefEqProofs only [go_sem, Nat.reduceAdd, Nat.reduceSub, Nat.reduceLT, Nat.reduceLeDiff, Nat.reduceEqDiff, ↓reduceIte]) <;> trivial) (by first | (simp only [go_sem]; done) | ((simp (maxSteps := 4000000) -implicitDefEqProofs only [go_sem, Nat.reduceAdd, Nat.reduceSub, Nat.reduceLT, Nat.reduceLeDiff, Nat.reduceEqDiff, ↓reduceIte]) <;> omega)) (Nat.zero_le _) (fun i h => absurd h (Nat.not_lt_zero i)))
    · refine ⟨_, _, c1.liftN _ (by simp only [go_sem]), ?_⟩
      simp (maxSteps := 4000000) -implicitDefEqProofs only [go_sem, Nat.reduceAdd, Nat.reduceSub, Nat.reduceLT, Nat.reduceLeDiff, Nat.reduceEqDiff, ↓reduceIte]
      refine ⟨_, _, c2.liftN _ (by simp only [go_sem]), ?_⟩
      simp (maxSteps := 4000000) -implicitDefEqProofs only [go_sem, Nat.reduceAdd, Nat.reduceSub, Nat.reduceLT, Nat.reduceLeDiff, Nat.reduceEqDiff, ↓reduceIte]
      exact (Wk.via [0, 1, 2, 3, 4] (by (simp only [go_sem, ↓reduceIte]) <;> trivial) (by first | (simp (maxSteps := 4000000) -implicitDefEqProofs only [go_sem, Nat.reduceAdd, Nat.reduceSub, Nat.reduceLT, Nat.reduceLeDiff, Nat.reduceEqDiff, ↓reduceIte]; done) | ((simp (maxSteps := 4000000) -implicitDefEqProofs only [go_sem, Nat.reduceAdd, Nat.reduceSub, Nat.reduceLT, Nat.reduceLeDiff, Nat.reduceEqDiff, ↓reduceIte]) <;> omega)) (by simp) (by first | (simp; done) | (simp [so]; done)) (by (simp (maxSteps := 4000000) -implicitDefEqProofs only [go_sem, Nat.reduceAdd, Nat.reduceSub, Nat.reduceLT, Nat.reduceLeDiff, Nat.reduceEqDiff, ↓reduceIte]) <;> trivial) (by first | (simp only [go_sem]; done) | ((simp (maxSteps := 4000000) -implicitDefEqProofs only [go_sem, Nat.reduceAdd, Nat.reduceSub, Nat.reduceLT, Nat.reduceLeDiff, Nat.reduceEqDiff, ↓reduceIte]) <;> omega)) (Nat.zero_le _) (fun i h => absurd h (Nat.not_lt_zero i)))
  simp (maxSteps := 4000000) -implicitDefEqProofs only [go_sem, cl0, Option.some.injEq, forall_eq', and_true, true_and, Bool.not_true, Bool.not_false, decide_true, Nat.reduceAdd, Nat.reduceSub, Nat.reduceLT, Nat.reduceLeDiff, Nat.reduceEqDiff, ↓reduceIte]
  refine eloop (S := Nat) (fun i => mkE 29 [(1, .ptr 0 0), (2, .ptr 1 0), (3, .ptr 2 0), (14, .d (.sl (l.ev.map esD))), (15, .d (.int .i64 l.ev.length)), (16, .d (.int .i64 i))]) (fun i => [lH l, zL, .cells [.own 3, .own 4, .own 5], .row 2 (l.kn.map kD), .row 3 (l.br.map bD), .row 1 (evX l i)]) (fun i => i ≤ l.ev.length) (fun i => l.ev.length - i) 0 (by omega) (Wk.trans (Wk.nilC 2 2 1 rfl rfl) (Wk.via [0, 1, 2, 3, 4, 5] (by (simp only [go_sem, ↓reduceIte]) <;> trivial) (by first | (simp (maxSteps := 4000000) -implicitDefEqProofs only [go_sem, Nat.reduceAdd, Nat.reduceSub, Nat.reduceLT, Nat.reduceLeDiff, Nat.reduceEqDiff, ↓reduceIte]; done) | ((simp (maxSteps := 4000000) -implicitDefEqProofs only [go_sem, Nat.reduceAdd, Nat.reduceSub, Nat.reduceLT, Nat.reduceLeDiff, Nat.reduceEqDiff, ↓reduceIte]) <;> omega)) (by simp) (by first | (simp; done) | (simp [so]; done)) (by (simp (maxSteps := 4000000) -implicitDefEqProofs only [go_sem, Nat.reduceAdd, Nat.reduceSub, Nat.reduceLT, Nat.reduceLeDiff, Nat.reduceEqDiff, ↓reduceIte]) <;> trivial) (by first | (simp only [go_sem]; done) | ((simp (maxSteps := 4000000) -implicitDefEqProofs only [go_sem, Nat.reduceAdd, Nat.reduceSub, Nat.reduceLT, Nat.reduceLeDiff, Nat.reduceEqDiff, ↓reduceIte]) <;> omega)) (Nat.zero_le _) (fun i h => absurd h (Nat.not_lt_zero i)))) ?_
  intro i hi
  rcases Nat.lt_or_ge i l.ev.length with h2 | h2
  case inr =>
    have hii : i = l.ev.length := by omega
    subst hii
    have f1 : decide ((l.ev.length : Int) < l.ev.length) = false := by simp
    simp (maxSteps := 4000000) -implicitDefEqProofs only [go_sem, f1, Option.some.injEq, forall_eq', and_true, true_and, Bool.not_true, Bool.not_false, decide_true, Nat.reduceAdd, Nat.reduceSub, Nat.reduceLT, Nat.reduceLeDiff, Nat.reduceEqDiff, ↓reduceIte]
    rw [evX_all]
    refine Wk.trans (Wk.frz 3 rfl) (Wk.trans (Wk.frz 4 rfl) ?_)
    exact (Wk.via [5] (by (simp only [go_sem, ↓reduceIte]) <;> trivial) (by first | (simp (maxSteps := 4000000) -implicitDefEqProofs only [go_sem, Nat.reduceAdd, Nat.reduceSub, Nat.reduceLT, Nat.reduceLeDiff, Nat.reduceEqDiff, ↓reduceIte]; done) | ((simp (maxSteps := 4000000) -implicitDefEqProofs only [go_sem, Nat.reduceAdd, Nat.reduceSub, Nat.reduceLT, Nat.reduceLeDiff, Nat.reduceEqDiff, ↓reduceIte]) <;> omega)) (by simp) (by first | (simp; done) | (simp [so]; done)) (by (simp (maxSteps := 4000000) -implicitDefEqProofs only [go_sem, Nat.reduceAdd, Nat.reduceSub, Nat.reduceLT, Nat.reduceLeDiff, Nat.reduceEqDiff, ↓reduceIte]) <;> trivial) (by first | (simp only [go_sem]; done) | ((simp (maxSteps := 4000000) -implicitDefEqProofs only [go_sem, Nat.reduceAdd, Nat.reduceSub, Nat.reduceLT, Nat.reduceLeDiff, Nat.reduceEqDiff, ↓reduceIte]) <;> omega)) (Nat.zero_le _) (fun i h => absurd h (Nat.not_lt_zero i)))
  have f1 : decide ((i : Int) < l.ev.length) = true := by simp; omega
  obtain ⟨s, hsi⟩ : ∃ x, l.ev[i]? = some x := ⟨l.ev[i]'h2, List.getElem?_eq_getElem _⟩
  have n1 : (0 ≤ (i : Int) ∧ (i : Int) < l.ev.length) = True := eq_true (by omega)
  have n2 : (i < l.ev.length) = True := eq_true (by omega)
  have w1 : IntKind.i64.wrap ((i : Int) + 1) = ((i + 1 : Nat) : Int) := by rw [i64_in _ (by omega)]; simp
  have hsl := hs s (List.mem_of_getElem? hsi)
  have c3 := clone_ev s hsl
  have xl := evX_len (l := l) (j := i) (by omega)
  have xs := evX_S hsi
  simp (maxSteps := 4000000) -implicitDefEqProofs only [go_sem, f1, n1, n2, hsi, Option.some.injEq, forall_eq', and_true, true_and, Bool.not_true, Bool.not_false, decide_true, Nat.reduceAdd, Nat.reduceSub, Nat.reduceLT, Nat.reduceLeDiff, Nat.reduceEqDiff, ↓reduceIte]
  refine DX.plain (.take 0 true (.take 1 true (.take 2 false (.run [3] (fun _ => [true, true]) fun _ => (.run [4] (fun _ => [true, true]) fun _ => (.run [5] (fun _ => [false, false]) fun _ => (.take 6 false (.run [7] (fun _ => []) fun _ => .done)))))))) (by kernel_rfl) (by kernel_rfl) Ty.mixed ?_
  simp (maxSteps := 4000000) -implicitDefEqProofs only [go_sem, xl, Option.some.injEq, forall_eq', and_true, true_and, Bool.not_true, Bool.not_false, decide_true, Nat.reduceAdd, Nat.reduceSub, Nat.reduceLT, Nat.reduceLeDiff, Nat.reduceEqDiff, ↓reduceIte]
  refine ⟨_, _, c3.liftN _ (by simp only [go_sem]), ?_⟩
  simp (maxSteps := 4000000) -implicitDefEqProofs only [go_sem, xl, Option.some.injEq, forall_eq', and_true, true_and, Bool.not_true, Bool.not_false, decide_true, Nat.reduceAdd, Nat.reduceSub, Nat.reduceLT, Nat.reduceLeDiff, Nat.reduceEqDiff, ↓reduceIte]
  refine ⟨⟨fun e he => by simp at he; subst he; rfl, by omega, by omega⟩, ?_⟩
  simp (maxSteps := 4000000) -implicitDefEqProofs only [go_sem, w1, Option.some.injEq, forall_eq', and_true, true_and, Bool.not_true, Bool.not_false, decide_true, Nat.reduceAdd, Nat.reduceSub, Nat.reduceLT, Nat.reduceLeDiff, Nat.reduceEqDiff, ↓reduceIte]
  exact .mk (i + 1) (by omega) (by omega) (by rw [xs]; exact (Wk.via [0, 1, 2, 3, 4, 8] (by (simp only [go_sem, ↓reduceIte]) <;> trivial) (by first | (simp (maxSteps := 4000000) -implicitDefEqProofs only [go_sem, Nat.reduceAdd, Nat.reduceSub, Nat.reduceLT, Nat.reduceLeDiff, Nat.reduceEqDiff, ↓reduceIte]; done) | ((simp (maxSteps := 4000000) -implicitDefEqProofs only [go_sem, Nat.reduceAdd, Nat.reduceSub, Nat.reduceLT, Nat.reduceLeDiff, Nat.reduceEqDiff, ↓reduceIte]) <;> omega)) (by simp) (by first | (simp; done) | (simp [so]; done)) (by (simp (maxSteps := 4000000) -implicitDefEqProofs only [go_sem, Nat.reduceAdd, Nat.reduceSub, Nat.reduceLT, Nat.reduceLeDiff, Nat.reduceEqDiff, ↓reduceIte]) <;> trivial) (by first | (simp only [go_sem]; done) | ((simp (maxSteps := 4000000) -implicitDefEqProofs only [go_sem, Nat.reduceAdd, Nat.reduceSub, Nat.reduceLT, Nat.reduceLeDiff, Nat.reduceEqDiff, ↓reduceIte]) <;> omega)) (Nat.zero_le _) (fun i h => absurd h (Nat.not_lt_zero i))))
/-- a copy: the events of branch i in the call's own -/
theorem clone_lownI (l : Lg) (q : Nat) (t : List Ev) (hq : l.ev[q]? = some t) (hk : l.kn.length ≤ 1000) (hb : l.br.length ≤ 1000) (he : l.ev.length ≤ 1000) (hs : ∀ s ∈ l.ev, s.length ≤ 1000) :
    Spec Try.prog 48 [lA l] [] (.agg [.d (.sl (l.kn.map kD)), .d (.sl (l.br.map bD)), .own 0]) [.vec 1 (vset (l.ev.map esD) q 1), .vec 2 (upD (t.map eD))] := by
  have c1 := clone_kn l.kn hk
  have c2 := clone_br l.br hb
  have hql := some_lt hq
  refine spec_of_ev (fn := Try.f48) DX_ok 3000 Try.func48 rfl rfl (Nat.le_of_ble_eq_true rfl) ?_
  simp (maxSteps := 4000000) -implicitDefEqProofs only [Try.f48, go_sem, lA]
  refine DX.join (mkE 29 [(1, .ptr 0 0), (2, .ptr 1 0), (3, .ptr 2 0)]) (cl0 l)
    (.take 0 true (.take 1 true (.take 3 true (.take 4 true (.run [2, 7] (fun i => if i = 2 then [true, true, false, false] else [true, true, true, true]) fun i => if i = 2 then
      (.run [5, 7] (fun i => if i = 5 then [false, false] else [true, true]) fun i => if i = 5 then (.take 6 true (.run [7] (fun _ => [true]) fun _ => .run [8] (fun _ => [false]) fun _ => .done)) else (.run [5] (fun _ => [false, false]) fun _ => .take 6 false (.run [8] (fun _ => []) fun _ => .done)))
      else (.run [2] (fun _ => [true, true, false, false]) fun _ => .run [5] (fun _ => [false, false]) fun _ => .take 6 false (.run [8] (fun _ => []) fun _ => .done))))))) (by kernel_rfl) (by kernel_rfl) Ty.mixed ?_ ?_
  · simp (maxSteps := 4000000) -implicitDefEqProofs only [go_sem, cl0, Option.some.injEq, forall_eq', and_true, true_and, Bool.not_true, Bool.not_false, decide_true, Nat.reduceAdd, Nat.reduceSub, Nat.reduceLT, Nat.reduceLeDiff, Nat.reduceEqDiff, ↓reduceIte]
    refine ⟨⟨_, _, c1.liftN _ (by simp only [go_sem]), ?_⟩, ?_⟩
    · simp (maxSteps := 4000000) -implicitDefEqProofs only [go_sem, Nat.reduceAdd, Nat.reduceSub, Nat.reduceLT, Nat.reduceLeDiff, Nat.reduceEqDiff, ↓reduceIte]
      refine ⟨⟨_, _, c2.liftN _ (by simp only [go_sem]), ?_⟩, ?_⟩
      · simp (maxSteps := 4000000) -implicitDefEqProofs only [go_sem, Nat.reduceAdd, Nat.reduceSub, Nat.reduceLT, Nat.reduceLeDiff, Nat.reduceEqDiff, ↓reduceIte]
        exact (Wk.via [0, 1, 4, 2, 3] (by (simp only [go_sem, ↓reduceIte]) <;> trivial) (by first | (simp (maxSteps := 4000000) -implicitDefEqProofs only [go_sem, Nat.reduceAdd, Nat.reduceSub, Nat.reduceLT, Nat.reduceLeDiff, Nat.reduceEqDiff, ↓reduceIte]; done) | ((simp (maxSteps := 4000000) -implicitDefEqProofs only [go_sem, Nat.reduceAdd, Nat.reduceSub, Nat.reduceLT, Nat.reduceLeDiff, Nat.reduceEqDiff, ↓reduceIte]) <;> omega)) (by simp) (by first | (simp; done) | (simp [so]; done)) (by (simp (maxSteps := 4000000) -implicitDefEqProofs only [go_sem, Nat.reduceAdd, Nat.reduceSub, Nat.reduceLT, Nat.reduceLeDiff, Nat.reduceEqDiff, ↓reduceIte]) <;> trivial) (by first | (simp only [go_sem]; done) | ((simp (maxSteps := 4000000) -implicitDefEqProofs only [go_sem, Nat.reduceAdd, Nat.reduceSub, Nat.reduceLT, Nat.reduceLeDiff, Nat.reduceEqDiff, ↓reduceIte]) <;> omega)) (Nat.zero_le _) (fun i h => absurd h (Nat.not_lt_zero i)))
      · refine ⟨_, _, c2.liftN _ (by simp only [go_sem]), ?_⟩
        simp (maxSteps := 4000000) -implicitDefEqProofs only [go_sem, Nat.reduceAdd, Nat.reduceSub, Nat.reduceLT, Nat.reduceLeDiff, Nat.reduceEqDiff, ↓reduceIte]
        exact (Wk.via [0, 1, 3, 2, 4] (by (simp only [go_sem, ↓reduceIte]) <;> trivial) (by first | (simp (maxSteps := 4000000) -implicitDefEqProofs only [go_sem, Nat.reduceAdd, Nat.reduceSub, Nat.reduceLT, Nat.reduceLeDiff, Nat.reduceEqDiff, ↓reduceIte]; done) | ((simp (maxSteps := 4000000) -implicitDefEqProofs only [go_sem, Nat.reduceAdd, Nat.reduceSub, Nat.reduceLT, Nat.reduceLeDiff, Nat.reduceEqDiff, ↓reduceIte]) <;> omega)) (by simp) (by first | (simp; done) | (simp [so]; done)) (by (simp (maxSteps := 4000000) -implicitDefEqProofs only [go_sem, Nat.reduceAdd, Nat.reduceSub, Nat.reduceLT, Nat.reduceLeDiff, Nat.reduceEqDiff, ↓reduceIte]) <;> trivial) (by first | (simp only [go_sem]; done) | ((simp (maxSteps := 4000000) -implicitDefEqProofs only [go_sem, Nat.reduceAdd, Nat.reduceSub, Nat.reduceLT, Nat.reduceLeDiff, Nat.reduceEqDiff, ↓reduceIte]) <;> omega)) (Nat.zero_le _) (fun i h => absurd h (Nat.not_lt_zero i)))
    · refine ⟨_, _, c1.liftN _ (by simp only [go_sem]), ?_⟩
      simp (maxSteps := 4000000) -implicitDefEqProofs only [go_sem, Nat.reduceAdd, Nat.reduceSub, Nat.reduceLT, Nat.reduceLeDiff, Nat.reduceEqDiff, ↓reduceIte]
      refine ⟨_, _, c2.liftN _ (by simp only [go_sem]), ?_⟩
      simp (maxSteps := 4000000) -implicitDefEqProofs only [go_sem, Nat.reduceAdd, Nat.reduceSub, Nat.reduceLT, Nat.reduceLeDiff, Nat.reduceEqDiff, ↓reduceIte]
      exact (Wk.via [0, 1, 2, 3, 4] (by (simp only [go_sem, ↓reduceIte]) <;> trivial) (by first | (simp (maxSteps := 4000000) -implicitDefEqProofs only [go_sem, Nat.reduceAdd, Nat.reduceSub, Nat.reduceLT, Nat.reduceLeDiff, Nat.reduceEqDiff, ↓reduceIte]; done) | ((simp (maxSteps := 4000000) -implicitDefEqProofs only [go_sem, Nat.reduceAdd, Nat.reduceSub, Nat.reduceLT, Nat.reduceLeDiff, Nat.reduceEqDiff, ↓reduceIte]) <;> omega)) (by simp) (by first | (simp; done) | (simp [so]; done)) (by (simp (maxSteps := 4000000) -implicitDefEqProofs only [go_sem, Nat.reduceAdd, Nat.reduceSub, Nat.reduceLT, Nat.reduceLeDiff, Nat.reduceEqDiff, ↓reduceIte]) <;> trivial) (by first | (simp only [go_sem]; done) | ((simp (maxSteps := 4000000) -implicitDefEqProofs only [go_sem, Nat.reduceAdd, Nat.reduceSub, Nat.reduceLT, Nat.reduceLeDiff, Nat.reduceEqDiff, ↓reduceIte]) <;> omega)) (Nat.zero_le _) (fun i h => absurd h (Nat.not_lt_zero i)))
  simp (maxSteps := 4000000) -implicitDefEqProofs only [go_sem, cl0, Option.some.injEq, forall_eq', and_true, true_and, Bool.not_true, Bool.not_false, decide_true, Nat.reduceAdd, Nat.reduceSub, Nat.reduceLT, Nat.reduceLeDiff, Nat.reduceEqDiff, ↓reduceIte]
  refine eloop (S := Nat) (fun i => mkE 29 [(1, .ptr 0 0), (2, .ptr 1 0), (3, .ptr 2 0), (14, .d (.sl (l.ev.map esD))), (15, .d (.int .i64 l.ev.length)), (16, .d (.int .i64 i))]) (fun i => [lH l, zL, .cells [.own 3, .own 4, .own 5], .row 2 (l.kn.map kD), .row 3 (l.br.map bD), .vec 1 (vset (evX l i) q 6), inn q i t]) (fun i => i ≤ l.ev.length) (fun i => l.ev.length - i) 0 (by omega) ?_ ?_
  · refine Wk.trans (Wk.nilC 2 2 1 rfl rfl) (Wk.trans (Wk.rowv 5 rfl) ?_)
    rw [vset_nil (es := evX l 0) (i := q) (k := 6) (by simp [evX]), inn_f (by omega)]
    refine Wk.trans (Wk.more) ?_
    exact (Wk.via [0, 1, 2, 3, 4, 5, 6] (by (simp only [go_sem, ↓reduceIte]) <;> trivial) (by first | (simp (maxSteps := 4000000) -implicitDefEqProofs only [go_sem, Nat.reduceAdd, Nat.reduceSub, Nat.reduceLT, Nat.reduceLeDiff, Nat.reduceEqDiff, ↓reduceIte]; done) | ((simp (maxSteps := 4000000) -implicitDefEqProofs only [go_sem, Nat.reduceAdd, Nat.reduceSub, Nat.reduceLT, Nat.reduceLeDiff, Nat.reduceEqDiff, ↓reduceIte]) <;> omega)) (by simp) (by first | (simp; done) | (simp [so]; done)) (by (simp (maxSteps := 4000000) -implicitDefEqProofs only [go_sem, Nat.reduceAdd, Nat.reduceSub, Nat.reduceLT, Nat.reduceLeDiff, Nat.reduceEqDiff, ↓reduceIte]) <;> trivial) (by first | (simp only [go_sem]; done) | ((simp (maxSteps := 4000000) -implicitDefEqProofs only [go_sem, Nat.reduceAdd, Nat.reduceSub, Nat.reduceLT, Nat.reduceLeDiff, Nat.reduceEqDiff, ↓reduceIte]) <;> omega)) (Nat.zero_le _) (fun i h => absurd h (Nat.not_lt_zero i)))
  intro i hi
  rcases Nat.lt_or_ge i l.ev.length with h2 | h2
  case inr =>
    have hii : i = l.ev.length := by omega
    subst hii
    have f1 : decide ((l.ev.length : Int) < l.ev.length) = false := by simp
    simp (maxSteps := 4000000) -implicitDefEqProofs only [go_sem, f1, Option.some.injEq, forall_eq', and_true, true_and, Bool.not_true, Bool.not_false, decide_true, Nat.reduceAdd, Nat.reduceSub, Nat.reduceLT, Nat.reduceLeDiff, Nat.reduceEqDiff, ↓reduceIte]
    rw [evX_all, inn_t hql]
    refine Wk.trans (Wk.frz 3 rfl) (Wk.trans (Wk.frz 4 rfl) ?_)
    exact (Wk.via [5, 6] (by (simp only [go_sem, ↓reduceIte]) <;> trivial) (by first | (simp (maxSteps := 4000000) -implicitDefEqProofs only [go_sem, Nat.reduceAdd, Nat.reduceSub, Nat.reduceLT, Nat.reduceLeDiff, Nat.reduceEqDiff, ↓reduceIte]; done) | ((simp (maxSteps := 4000000) -implicitDefEqProofs only [go_sem, Nat.reduceAdd, Nat.reduceSub, Nat.reduceLT, Nat.reduceLeDiff, Nat.reduceEqDiff, ↓reduceIte]) <;> omega)) (by simp) (by first | (simp; done) | (simp [so]; done)) (by (simp (maxSteps := 4000000) -implicitDefEqProofs only [go_sem, Nat.reduceAdd, Nat.reduceSub, Nat.reduceLT, Nat.reduceLeDiff, Nat.reduceEqDiff, ↓reduceIte]) <;> trivial) (by first | (simp only [go_sem]; done) | ((simp (maxSteps := 4000000) -implicitDefEqProofs only [go_sem, Nat.reduceAdd, Nat.reduceSub, Nat.reduceLT, Nat.reduceLeDiff, Nat.reduceEqDiff, ↓reduceIte]) <;> omega)) (Nat.zero_le _) (fun i h => absurd h (Nat.not_lt_zero i)))
  have f1 : decide ((i : Int) < l.ev.length) = true := by simp; omega
  obtain ⟨s, hsi⟩ : ∃ x, l.ev[i]? = some x := ⟨l.ev[i]'h2, List.getElem?_eq_getElem _⟩
  have n1 : (0 ≤ (i : Int) ∧ (i : Int) < l.ev.length) = True := eq_true (by omega)
  have n2 : (i < l.ev.length) = True := eq_true (by omega)
  have w1 : IntKind.i64.wrap ((i : Int) + 1) = ((i + 1 : Nat) : Int) := by rw [i64_in _ (by omega)]; simp
  have hsl := hs s (List.mem_of_getElem? hsi)
  have c3 := clone_ev s hsl
  have c4 := clone_evV s hsl
  have xl := evX_len (l := l) (j := i) (by omega)
  have xs := evX_S hsi
  by_cases e : i = q
  · subst e
    rw [hq] at hsi; cases hsi
    have e1 := vset_at (k := 6) (m := 7) [D.sl (t.map eD)] xl.symm
    rw [inn_f (by omega)]
    simp (maxSteps := 4000000) -implicitDefEqProofs only [go_sem, f1, n1, n2, hq, Option.some.injEq, forall_eq', and_true, true_and, Bool.not_true, Bool.not_false, decide_true, Nat.reduceAdd, Nat.reduceSub, Nat.reduceLT, Nat.reduceLeDiff, Nat.reduceEqDiff, ↓reduceIte]
    refine DX.plain (.take 0 true (.take 1 true (.take 2 false (.run [3] (fun _ => [true, true]) fun _ => (.run [4] (fun _ => [true, true]) fun _ => (.run [5] (fun _ => [false, false]) fun _ => (.take 6 false (.run [7] (fun _ => []) fun _ => .done)))))))) (by kernel_rfl) (by kernel_rfl) Ty.mixed ?_
    simp (maxSteps := 4000000) -implicitDefEqProofs only [go_sem, xl, Option.some.injEq, forall_eq', and_true, true_and, Bool.not_true, Bool.not_false, decide_true, Nat.reduceAdd, Nat.reduceSub, Nat.reduceLT, Nat.reduceLeDiff, Nat.reduceEqDiff, ↓reduceIte]
    refine ⟨_, _, c4.liftN _ (by simp only [go_sem]), ?_⟩
    simp (maxSteps := 4000000) -implicitDefEqProofs only [go_sem, xl, Option.some.injEq, forall_eq', and_true, true_and, Bool.not_true, Bool.not_false, decide_true, Nat.reduceAdd, Nat.reduceSub, Nat.reduceLT, Nat.reduceLeDiff, Nat.reduceEqDiff, ↓reduceIte]
    refine ⟨⟨fun e he => by simp at he; subst he; rfl, rfl, by omega, by omega⟩, ?_⟩
    rw [e1]
    simp (maxSteps := 4000000) -implicitDefEqProofs only [go_sem, w1, Option.some.injEq, forall_eq', and_true, true_and, Bool.not_true, Bool.not_false, decide_true, Nat.reduceAdd, Nat.reduceSub, Nat.reduceLT, Nat.reduceLeDiff, Nat.reduceEqDiff, ↓reduceIte]
    exact .mk (i + 1) (by omega) (by omega) (by rw [xs, inn_t (by omega)]; exact (Wk.via [0, 1, 2, 3, 4, 9, 7] (by (simp only [go_sem, ↓reduceIte]) <;> trivial) (by first | (simp (maxSteps := 4000000) -implicitDefEqProofs only [go_sem, Nat.reduceAdd, Nat.reduceSub, Nat.reduceLT, Nat.reduceLeDiff, Nat.reduceEqDiff, ↓reduceIte]; done) | ((simp (maxSteps := 4000000) -implicitDefEqProofs only [go_sem, Nat.reduceAdd, Nat.reduceSub, Nat.reduceLT, Nat.reduceLeDiff, Nat.reduceEqDiff, ↓reduceIte]) <;> omega)) (by simp) (by first | (simp; done) | (simp [so]; done)) (by (simp (maxSteps := 4000000) -implicitDefEqProofs only [go_sem, Nat.reduceAdd, Nat.reduceSub, Nat.reduceLT, Nat.reduceLeDiff, Nat.reduceEqDiff, ↓reduceIte]) <;> trivial) (by first | (simp only [go_sem]; done) | ((simp (maxSteps := 4000000) -implicitDefEqProofs only [go_sem, Nat.reduceAdd, Nat.reduceSub, Nat.reduceLT, Nat.reduceLeDiff, Nat.reduceEqDiff, ↓reduceIte]) <;> omega)) (Nat.zero_le _) (fun i h => absurd h (Nat.not_lt_zero i))))
  · have e1 := vset_snoc (k := 6) (i := q) (es := evX l i) [D.sl (s.map eD)] (by rw [xl]; exact fun h => e h.symm)
    have e2 : inn q (i + 1) t = inn q i t := by unfold inn; rcases Nat.lt_or_ge q i with h | h; rw [if_pos h, if_pos (by omega)]; rw [if_neg (by omega), if_neg (by omega)]
    simp (maxSteps := 4000000) -implicitDefEqProofs only [go_sem, f1, n1, n2, hsi, Option.some.injEq, forall_eq', and_true, true_and, Bool.not_true, Bool.not_false, decide_true, Nat.reduceAdd, Nat.reduceSub, Nat.reduceLT, Nat.reduceLeDiff, Nat.reduceEqDiff, ↓reduceIte]
    refine DX.plain (.take 0 true (.take 1 true (.take 2 false (.run [3] (fun _ => [true, true]) fun _ => (.run [4] (fun _ => [true, true]) fun _ => (.run [5] (fun _ => [false, false]) fun _ => (.take 6 false (.run [7] (fun _ => []) fun _ => .done)))))))) (by kernel_rfl) (by kernel_rfl) Ty.mixed ?_
    simp (maxSteps := 4000000) -implicitDefEqProofs only [go_sem, xl, Option.some.injEq, forall_eq', and_true, true_and, Bool.not_true, Bool.not_false, decide_true, Nat.reduceAdd, Nat.reduceSub, Nat.reduceLT, Nat.reduceLeDiff, Nat.reduceEqDiff, ↓reduceIte]
    refine ⟨_, _, c3.liftN _ (by simp only [go_sem]), ?_⟩
    simp (maxSteps := 4000000) -implicitDefEqProofs only [go_sem, xl, Option.some.injEq, forall_eq', and_true, true_and, Bool.not_true, Bool.not_false, decide_true, Nat.reduceAdd, Nat.reduceSub, Nat.reduceLT, Nat.reduceLeDiff, Nat.reduceEqDiff, ↓reduceIte]
    refine ⟨⟨fun e he => by simp at he; subst he; rfl, rfl, by omega, by omega⟩, ?_⟩
    simp only [List.map_cons, List.map_nil] at e1
    rw [e1]
    simp (maxSteps := 4000000) -implicitDefEqProofs only [go_sem, w1, Option.some.injEq, forall_eq', and_true, true_and, Bool.not_true, Bool.not_false, decide_true, Nat.reduceAdd, Nat.reduceSub, Nat.reduceLT, Nat.reduceLeDiff, Nat.reduceEqDiff, ↓reduceIte]
    exact .mk (i + 1) (by omega) (by omega) (by rw [xs, e2]; exact (Wk.via [0, 1, 2, 3, 4, 9, 6] (by (simp only [go_sem, ↓reduceIte]) <;> trivial) (by first | (simp (maxSteps := 4000000) -implicitDefEqProofs only [go_sem, Nat.reduceAdd, Nat.reduceSub, Nat.reduceLT, Nat.reduceLeDiff, Nat.reduceEqDiff, ↓reduceIte]; done) | ((simp (maxSteps := 4000000) -implicitDefEqProofs only [go_sem, Nat.reduceAdd, Nat.reduceSub, Nat.reduceLT, Nat.reduceLeDiff, Nat.reduceEqDiff, ↓reduceIte]) <;> omega)) (by simp) (by first | (simp; done) | (simp [so]; done)) (by (simp (maxSteps := 4000000) -implicitDefEqProofs only [go_sem, Nat.reduceAdd, Nat.reduceSub, Nat.reduceLT, Nat.reduceLeDiff, Nat.reduceEqDiff, ↓reduceIte]) <;> trivial) (by first | (simp only [go_sem]; done) | ((simp (maxSteps := 4000000) -implicitDefEqProofs only [go_sem, Nat.reduceAdd, Nat.reduceSub, Nat.reduceLT, Nat.reduceLeDiff, Nat.reduceEqDiff, ↓reduceIte]) <;> omega)) (Nat.zero_le _) (fun i h => absurd h (Nat.not_lt_zero i))))
end Go.AX.Lg
/- Ledgers: Append of the program. -/
set_option maxHeartbeats 8000000
set_option linter.unusedVariables false
set_option linter.unusedSimpArgs false
set_option maxRecDepth 20000
namespace Go.AX
/-- a slice of slices, one of them apart, all as data -/
theorem Wk.vsets {xs ys : List AV} {σ : List AObj} {X Y : List (List D)} (a c i : Nat) {sz : Nat} (ha : ob σ a = .vec 1 (vset X i c)) (hc : ob σ c = .vec sz (upD Y)) (hne : a ≠ c) (hi : i < X.length) (hy : sbs a (.sl (X.set i [.sl Y])) xs = ys) (hb : bds 0 ys) : Wk 0 xs σ ys [] := by
  have la := some_lt (ob_some ha (by simp))
  have lc := some_lt (ob_some hc (by simp))
  have oc : ob (so σ c (.row sz Y)) c = .row sz Y := by rw [ob_eq, so_eq, List.getElem?_set_self lc]; rfl
  have oa : ob (so σ c (.row sz Y)) a = .vec 1 (vset X i c) := by rw [ob_eq, so_eq, List.getElem?_set_ne (Ne.symm hne), ← ob_eq]; exact ha
  have oa2 : ob (so (so σ c (.row sz Y)) c .gone) a = .vec 1 (vset X i c) := by rw [ob_eq, so_eq, List.getElem?_set_ne (Ne.symm hne), ← ob_eq]; exact oa
  have w1 := Wk.vrow (n0 := 0) (xs := xs) c hc (asEss_up Y) hc
  have w2 := Wk.vrow (n0 := 0) (xs := xs) a oa (asEss_vset oc hi) oa2
  have w3 := Wk.frz (n0 := 0) (xs := xs) (σ := so (so (so σ c (.row sz Y)) c .gone) a (.row 1 (X.set i [.sl Y]))) a (sz := 1) (es := X.set i [.sl Y]) (by
    rw [so_eq, List.getElem?_set_self (by rw [so_eq, so_eq]; simpa using la)])
  rw [hy] at w3
  exact Wk.trans w1 (Wk.trans w2 (Wk.trans w3 (Wk.out hb (rens_id hb))))
attribute [go_sem] vset_set
theorem Spec.at1 {P : Program} {f : FuncId} {args args0 : List AV} {σ : List AObj} {r : AV} {o o' : AObj} (l : Nat) (h7 : Spec P f args0 [o] r [o']) (h1 : args = rens (at0 [l]) args0) (hb : bds 1 args0) (hl : l < σ.length) (hO : ob σ l = renO (at0 [l]) o) (ho : bdO 1 o) :
    Spec P f args σ (ren (rn [l] σ.length) r) (back σ [l] [o']) := by
  subst h1
  exact h7.frame [l] hb (by simp) (by simpa using hl) (by simp [obs, mapO, hO]) ⟨ho, trivial⟩
end Go.AX
namespace Go.AX.Lg
open Go.Proofs Go.RowKit Go.IntWalk Go.AX.Br
def lg0 : Lg := ⟨[], [], []⟩
def addE (l : Lg) (i : Nat) (x : Ev) : Lg := ⟨l.kn, l.br, l.ev.set i ((l.ev.getD i []) ++ [x])⟩
def appR (l : Lg) (nm : ByteArray) (x : Ev) : Lg × Int :=
  if (lview l nm).2 ≠ 0 then (lg0, (lview l nm).2) else if classN l x.ch = none then (lg0, 6)
  else if (l.ev.getD (idx (has nm) l.br).toNat []).length = 40 then (lg0, 4)
  else if allR l (seenL l (lview l nm).1) x ≠ 0 then (lg0, allR l (seenL l (lview l nm).1) x) else (addE l (idx (has nm) l.br).toNat x, 0)
theorem appHas_own (b : Br) (nm : ByteArray) : Spec Try.prog 45 [bA b, .ptr 0 0] [.cells [.d (.str nm)]] (.d (.bool (has nm b))) [.cells [.d (.str nm)]] := by
  unfold bA
  refine spec_of_ev (fn := Try.f45) DX_ok 3000 Try.func45 rfl rfl (Nat.le_of_ble_eq_true rfl) ?_
  simp (maxSteps := 4000000) -implicitDefEqProofs only [Try.f45, go_sem]
  exact Wk.keep (σ := [_]) (τ := [_]) (by simp only [go_sem]) (by simp only [go_sem])
theorem set_map {α : Type} {g : α → List D} (l : List α) (i : Nat) (x : α) : (l.map g).set i (g x) = (l.set i x).map g := by simp
theorem append_lown (l : Lg) (nm : ByteArray) (x : Ev) (hk : l.kn.length ≤ 1000) (hb : l.br.length ≤ 1000) (he : l.ev.length ≤ 1000) :
    Spec Try.prog 13 [lA l, .d (.str nm), .agg [.d (.int .u8 x.kd), .d (.str x.ch)]] [] (.tup [lA (appR l nm x).1, .d (.int .i64 (appR l nm x).2)]) [] := by
  have c1 := view_lown l nm hk hb he
  have vk := lview_ok (l := l) (nm := nm)
  have c2 := classes_own l (by unfold Sm; omega)
  obtain ⟨M, hM⟩ : ∃ M, M = clsM l.kn := ⟨_, rfl⟩
  rw [← hM] at c2
  have c3 := br_indexFunc l.br (has nm) 45 [.ptr 0 0] [.cells [.d (.str nm)]] (by unfold Sm; omega) fun b _ => appHas_own b nm
  obtain ⟨V, hV⟩ : ∃ V, V = lview l nm := ⟨_, rfl⟩
  obtain ⟨R, hR⟩ : ∃ R, R = appR l nm x := ⟨_, rfl⟩
  rw [← hR]
  unfold appR at hR
  rw [← hV] at c1 vk hR
  simp only [lA] at c1 c2 ⊢
  have bad : ∀ (e : Int) {σ : List AObj}, R = (lg0, e) → Wk 0 [.tup [.agg [.nil, .nil, .nil], .d (.int .i64 e)]] σ [.tup [.agg [.d (.sl (R.1.kn.map kD)), .d (.sl (R.1.br.map bD)), .d (.sl (R.1.ev.map esD))], .d (.int .i64 R.2)]] [] := fun e σ h => by
    rw [h]; exact wk_dat (r' := .tup [.agg [.d (.sl []), .d (.sl []), .d (.sl [])], .d (.int .i64 e)]) (by simp only [go_sem]; rfl) rfl (by simp only [go_sem])
  refine spec_of_ev (fn := Try.f13) DX_ok 3000 Try.func13 rfl rfl (Nat.le_of_ble_eq_true rfl) ?_
  simp (maxSteps := 4000000) -implicitDefEqProofs only [Try.f13, go_sem, lA]
  refine ecall0 _ c1 (by simp only [go_sem]) (by simp only [go_sem]) ?_
  cases k1 : (V.2 != 0)
  case true =>
    have : V.2 ≠ 0 := by simpa using k1
    simp (maxSteps := 4000000) -implicitDefEqProofs only [go_sem, k1, Option.some.injEq, forall_eq', and_true, true_and, Bool.not_true, Bool.not_false, decide_true, Nat.reduceAdd, Nat.reduceSub, Nat.reduceLT, Nat.reduceLeDiff, Nat.reduceEqDiff, ↓reduceIte]
    exact bad _ (by rw [hR, if_pos this])
  have k1x : V.2 = 0 := by simpa using k1
  rw [if_neg (by omega)] at hR
  obtain ⟨lo, i, y, s, v, a, hn, hv, hi⟩ := vk k1x
  have nd : (∃ ks, KeyT Try.prog 9 false ks ∧ kindOk false ks [D.str x.ch] ∧ ∀ y ∈ mD sD iD M, kindOk false ks y.1) = True := mneed (kD := sD) (vD := iD) Ty.keyT_9 sD_kind x.ch M
  have gd : lkM [D.str x.ch] (mD sD iD M) = (classN l x.ch).map iD := by
    have := lkM_mD (kD := sD) (vD := iD) sD_eq x.ch M
    rw [show [D.str x.ch] = sD x.ch from rfl, this, hM, class_look lo.nd]
  cases k2 : classN l x.ch with
  | none =>
    rw [if_pos k2] at hR
    rw [k2] at gd
    simp (maxSteps := 4000000) -implicitDefEqProofs only [go_sem, k1, Option.some.injEq, forall_eq', and_true, true_and, Bool.not_true, Bool.not_false, decide_true, Nat.reduceAdd, Nat.reduceSub, Nat.reduceLT, Nat.reduceLeDiff, Nat.reduceEqDiff, ↓reduceIte]
    refine DX.plain (.take 0 false (.take 2 true (.take 3 true (.run [1] (fun _ => [true, true]) fun _ => (.take 4 false (.take 5 false (.take 6 false (.take 7 false (.take 8 false (.take 9 false .done)))))))))) (by kernel_rfl) (by kernel_rfl) Ty.mixed ?_
    simp (maxSteps := 4000000) -implicitDefEqProofs only [go_sem, nd, gd, Option.some.injEq, forall_eq', and_true, true_and, Bool.not_true, Bool.not_false, decide_true, Nat.reduceAdd, Nat.reduceSub, Nat.reduceLT, Nat.reduceLeDiff, Nat.reduceEqDiff, ↓reduceIte]
    refine ⟨_, _, c2.liftN _ (by simp only [go_sem]), ?_⟩
    simp (maxSteps := 4000000) -implicitDefEqProofs only [go_sem, nd, gd, Option.some.injEq, forall_eq', and_true, true_and, Bool.not_true, Bool.not_false, decide_true, Nat.reduceAdd, Nat.reduceSub, Nat.reduceLT, Nat.reduceLeDiff, Nat.reduceEqDiff, ↓reduceIte]
    exact bad _ hR
  | some c =>
  rw [if_neg (by rw [k2]; simp), hi, Int.toNat_natCast] at hR
  rw [k2] at gd
  have hc := classN_range lo.kv k2
  obtain ⟨c, rfl⟩ : ∃ n : Nat, c = n := ⟨c.toNat, by omega⟩
  have gd' : (Option.map iD (some (c : Int))) = some [D.int .i64 (c : Int)] := rfl
  rw [gd'] at gd
  have hs := a.hs
  have hgs : l.ev.getD i [] = s := by rw [List.getD_eq_getElem?_getD, hs]; rfl
  have hil := some_lt hs
  rw [hi] at c3
  rw [hgs] at hR
  have n1 : (0 ≤ (i : Int) ∧ (i : Int) < l.ev.length) = True := eq_true (by omega)
  have n2 : (i < l.ev.length) = True := eq_true (by omega)
  have h40 := lo.own i s hs
  simp (maxSteps := 4000000) -implicitDefEqProofs only [go_sem, k1, Option.some.injEq, forall_eq', and_true, true_and, Bool.not_true, Bool.not_false, decide_true, Nat.reduceAdd, Nat.reduceSub, Nat.reduceLT, Nat.reduceLeDiff, Nat.reduceEqDiff, ↓reduceIte]
  refine DX.plain (.take 0 false (.take 2 true (.take 3 true (.run [1] (fun _ => [true, true]) fun _ => (.take 4 false (.take 5 false (.take 6 false (.take 7 false (.take 8 false (.take 9 false .done)))))))))) (by kernel_rfl) (by kernel_rfl) Ty.mixed ?_
  simp (maxSteps := 4000000) -implicitDefEqProofs only [go_sem, nd, gd, Option.some.injEq, forall_eq', and_true, true_and, Bool.not_true, Bool.not_false, decide_true, Nat.reduceAdd, Nat.reduceSub, Nat.reduceLT, Nat.reduceLeDiff, Nat.reduceEqDiff, ↓reduceIte]
  refine ⟨_, _, c2.liftN _ (by simp only [go_sem]), ?_⟩
  simp (maxSteps := 4000000) -implicitDefEqProofs only [go_sem, nd, gd, Option.some.injEq, forall_eq', and_true, true_and, Bool.not_true, Bool.not_false, decide_true, Nat.reduceAdd, Nat.reduceSub, Nat.reduceLT, Nat.reduceLeDiff, Nat.reduceEqDiff, ↓reduceIte]
  refine .mk [1] [.d (.sl (l.br.map bD)), .fn 45 [.ptr 0 0]] [.cells [.d (.str nm)]] _ _ (by simp only [go_sem]) (by simp only [go_sem]; omega) (by simp) (by simp) (by simp only [go_sem]) (by simp only [go_sem]) c3 ?_
  by_cases k3 : s.length = 40
  · have k3' : ((s.length : Int) == 40) = true := by simp [k3]
    rw [if_pos k3] at hR
    simp (maxSteps := 4000000) -implicitDefEqProofs only [go_sem, n1, n2, hs, k3', Option.some.injEq, forall_eq', and_true, true_and, Bool.not_true, Bool.not_false, decide_true, Nat.reduceAdd, Nat.reduceSub, Nat.reduceLT, Nat.reduceLeDiff, Nat.reduceEqDiff, ↓reduceIte]
    exact bad _ hR
  have k3' : ((s.length : Int) == 40) = false := by simp; omega
  rw [if_neg k3] at hR
  rw [hv] at hR
  simp only at hR
  have alen := a.len
  have h320 := (lo.tab.g.ok.good i y a.hx).2.2
  have fo := folded_own l v lo.kv lo.kl a.inr (by omega) he
  have hkn : Known l (seenL l v) := by rw [a.seen]; exact a.known lo
  rw [foldS_foldE a.inr] at fo
  have ar := allow_ref lo.nd lo.kv hkn (x := x) k2
  have hok := foldE_ok l (seenL l v)
  obtain ⟨S, hS⟩ : ∃ S, S = foldE l (seenL l v) := ⟨_, rfl⟩
  rw [← hS] at fo hok ar
  have ao := allow_own S hok x.kd c (by omega)
  rw [Int.toNat_natCast] at ar
  rw [ar] at ao
  simp only [lA] at fo
  rw [hv] at k1 ⊢
  simp (maxSteps := 4000000) -implicitDefEqProofs only [go_sem, n1, n2, hs, k3', Option.some.injEq, forall_eq', and_true, true_and, Bool.not_true, Bool.not_false, decide_true, Nat.reduceAdd, Nat.reduceSub, Nat.reduceLT, Nat.reduceLeDiff, Nat.reduceEqDiff, ↓reduceIte]
  refine DX.plain (.take 3 true (.take 4 true (.take 5 true (.take 0 false (.take 1 false (.run [2] (fun _ => [true, true, true]) fun _ => (.run [6] (fun _ => [false, false, false]) fun _ => (.take 7 false .done)))))))) (by kernel_rfl) (by kernel_rfl) Ty.mixed ?_
  simp (maxSteps := 4000000) -implicitDefEqProofs only [go_sem, k3', Option.some.injEq, forall_eq', and_true, true_and, Bool.not_true, Bool.not_false, decide_true, Nat.reduceAdd, Nat.reduceSub, Nat.reduceLT, Nat.reduceLeDiff, Nat.reduceEqDiff, ↓reduceIte]
  refine ⟨_, _, fo.liftN _ (by simp only [go_sem]), ?_⟩
  simp (maxSteps := 4000000) -implicitDefEqProofs only [go_sem, Nat.reduceAdd, Nat.reduceSub, Nat.reduceLT, Nat.reduceLeDiff, Nat.reduceEqDiff, ↓reduceIte]
  refine ⟨_, _, ao.at1 5 (by simp only [go_sem]) (by simp only [go_sem]; omega) (by simp) (by simp only [go_sem]) (by simp only [go_sem]), ?_⟩
  simp (maxSteps := 4000000) -implicitDefEqProofs only [go_sem, Nat.reduceAdd, Nat.reduceSub, Nat.reduceLT, Nat.reduceLeDiff, Nat.reduceEqDiff, ↓reduceIte]
  cases k4 : (allR l (seenL l v) x != 0)
  case true =>
    have : allR l (seenL l v) x ≠ 0 := by simpa using k4
    rw [if_pos this] at hR
    simp (maxSteps := 4000000) -implicitDefEqProofs only [go_sem, k4, Option.some.injEq, forall_eq', and_true, true_and, Bool.not_true, Bool.not_false, decide_true, Nat.reduceAdd, Nat.reduceSub, Nat.reduceLT, Nat.reduceLeDiff, Nat.reduceEqDiff, ↓reduceIte]
    exact bad _ hR
  have k4x : allR l (seenL l v) x = 0 := by simpa using k4
  rw [if_neg (by omega)] at hR
  have cl := clone_lownI l i s hs hk hb he fun t ht => by
    obtain ⟨j, hj⟩ := List.getElem?_of_mem ht
    have := lo.own j t hj
    omega
  simp only [lA] at cl
  have vg : ∀ k, (vset (l.ev.map esD) i k).getD i [] = [.own k] := fun k => vset_get (by simpa using hil)
  have ua : upD (s.map eD) ++ [[.d (.int .u8 x.kd), .d (.str x.ch)]] = upD ((s ++ [x]).map eD) := by
    rw [List.map_append, ← upD_app]; rfl
  have sz1 : ∀ k, (∀ e ∈ vset (l.ev.map esD) i k, e.length = 1) = True := fun k => vset_len1 esD_len
  simp (maxSteps := 4000000) -implicitDefEqProofs only [go_sem, k4, Option.some.injEq, forall_eq', and_true, true_and, Bool.not_true, Bool.not_false, decide_true, Nat.reduceAdd, Nat.reduceSub, Nat.reduceLT, Nat.reduceLeDiff, Nat.reduceEqDiff, ↓reduceIte]
  refine ecallN _ _ cl (by simp only [go_sem]) ?_
  simp (maxSteps := 4000000) -implicitDefEqProofs only [go_sem, Nat.reduceAdd, Nat.reduceSub, Nat.reduceLT, Nat.reduceLeDiff, Nat.reduceEqDiff, ↓reduceIte]
  refine DX.plain (.take 0 true (.take 1 true (.take 2 true (.take 3 true (.take 4 true (.take 5 true (.take 6 true (.take 7 true (.take 8 false (.run [9] (fun _ => [true, true, true, true, true, true, true, true]) fun _ => (.run [10] (fun _ => [false, false, false, false, false, true, true, true]) fun _ => (.take 11 false (.run [12] (fun _ => [false, false, false]) fun _ => .done))))))))))))) (by kernel_rfl) (by kernel_rfl) Ty.mixed ?_
  simp (maxSteps := 4000000) -implicitDefEqProofs only [go_sem, n1, n2, vg, Option.some.injEq, forall_eq', and_true, true_and, Bool.not_true, Bool.not_false, decide_true, Nat.reduceAdd, Nat.reduceSub, Nat.reduceLT, Nat.reduceLeDiff, Nat.reduceEqDiff, ↓reduceIte]
  refine ⟨by omega, ⟨fun e he => by simp at he; subst he; rfl, rfl, by omega, by omega⟩, ?_⟩
  rw [ua, hR]
  have es : (l.ev.map esD).set i [.sl ((s ++ [x]).map eD)] = (addE l i x).ev.map esD := by
    rw [show [D.sl ((s ++ [x]).map eD)] = esD (s ++ [x]) from rfl, set_map]
    simp only [addE, hgs]
  refine Wk.vsets (X := l.ev.map esD) (Y := (s ++ [x]).map eD) 6 10 i rfl rfl (by omega) (by simpa using hil) ?_ (by simp only [go_sem])
  rw [es]
  simp only [go_sem, ↓reduceIte]
  rfl
end Go.AX.Lg
/- Ledgers: Twin, Append and Cut of the reference; Cut of the program. -/
set_option maxHeartbeats 8000000
set_option linter.unusedVariables false
set_option linter.unusedSimpArgs false
set_option maxRecDepth 20000
namespace Go.AX.Lg
open Go.Proofs Go.RowKit Go.IntWalk Go.AX.Br
end Go.AX.Lg
/- Ledgers: Append of the reference; Cut, both sides; Twin, Same and Great. -/
set_option maxHeartbeats 8000000
set_option linter.unusedVariables false
set_option linter.unusedSimpArgs false
set_option maxRecDepth 20000
namespace Go.AX.Lg
open Go.Proofs Go.RowKit Go.IntWalk Go.AX.Br
theorem bad_l {R : Lg × Int} (e : Int) {σ : List AObj} (h : R = (lg0, e)) : Wk 0 [.tup [.agg [.nil, .nil, .nil], .d (.int .i64 e)]] σ [.tup [.agg [.d (.sl (R.1.kn.map kD)), .d (.sl (R.1.br.map bD)), .d (.sl (R.1.ev.map esD))], .d (.int .i64 R.2)]] [] := by
  rw [h]; exact wk_dat (r' := .tup [.agg [.d (.sl []), .d (.sl []), .d (.sl [])], .d (.int .i64 e)]) (by simp only [go_sem]; rfl) rfl (by simp only [go_sem])
def lcutR (l : Lg) (frm nm : ByteArray) (at' : Int) : Lg × Int :=
  if lcheck l ≠ 0 then (lg0, lcheck l) else if (cutR l.br (cntL l) frm nm at').2 ≠ 0 then (lg0, (cutR l.br (cntL l) frm nm at').2)
  else (⟨l.kn, (cutR l.br (cntL l) frm nm at').1, l.ev ++ [[]]⟩, 0)
theorem cut_lown (l : Lg) (frm nm : ByteArray) (at' : Int) (hk : l.kn.length ≤ 1000) (hb : l.br.length ≤ 1000) (he : l.ev.length ≤ 1000) :
    Spec Try.prog 20 [lA l, .d (.str frm), .d (.str nm), .d (.int .i64 at')] [] (.tup [lA (lcutR l frm nm at').1, .d (.int .i64 (lcutR l frm nm at').2)]) [] := by
  have c1 := lcheck_own l hk hb he
  have c2 := counts_dat l he
  have c3 := Br.cut_own l.br (cntL l) frm nm at' (by unfold Sm; omega) (by unfold Sm; rw [cnt_len]; omega)
  obtain ⟨C, hC⟩ : ∃ C, C = cutR l.br (cntL l) frm nm at' := ⟨_, rfl⟩
  obtain ⟨R, hR⟩ : ∃ R, R = lcutR l frm nm at' := ⟨_, rfl⟩
  rw [← hR]
  unfold lcutR at hR
  rw [← hC] at c3 hR
  simp only [lA] at c1 c2 ⊢
  have bad := fun (e : Int) {σ : List AObj} (h : R = (lg0, e)) => bad_l (R := R) (σ := σ) e h
  refine spec_of_ev (fn := Try.f20) DX_ok 3000 Try.func20 rfl rfl (Nat.le_of_ble_eq_true rfl) ?_
  simp (maxSteps := 4000000) -implicitDefEqProofs only [Try.f20, go_sem, lA]
  refine ecall0 _ c1 (by simp only [go_sem]) (by simp only [go_sem]) ?_
  cases k1 : (lcheck l != 0)
  case true =>
    have : lcheck l ≠ 0 := by simpa using k1
    simp (maxSteps := 4000000) -implicitDefEqProofs only [go_sem, k1, Option.some.injEq, forall_eq', and_true, true_and, Bool.not_true, Bool.not_false, decide_true, Nat.reduceAdd, Nat.reduceSub, Nat.reduceLT, Nat.reduceLeDiff, Nat.reduceEqDiff, ↓reduceIte]
    exact bad _ (by rw [hR, if_pos this])
  have k1x : lcheck l = 0 := by simpa using k1
  have lo := lok_of k1x
  rw [if_neg (by omega)] at hR
  simp (maxSteps := 4000000) -implicitDefEqProofs only [go_sem, k1, Option.some.injEq, forall_eq', and_true, true_and, Bool.not_true, Bool.not_false, decide_true, Nat.reduceAdd, Nat.reduceSub, Nat.reduceLT, Nat.reduceLeDiff, Nat.reduceEqDiff, ↓reduceIte]
  refine DX.plain (.take 0 false (.take 1 false (.take 2 false (.take 3 false (.take 4 false (.take 5 false (.take 6 false (.take 7 false (.take 8 false (.take 9 false (.take 10 false (.take 11 false (.take 12 false .done))))))))))))) (by kernel_rfl) (by kernel_rfl) Ty.mixed ?_
  simp (maxSteps := 4000000) -implicitDefEqProofs only [go_sem, k1, Option.some.injEq, forall_eq', and_true, true_and, Bool.not_true, Bool.not_false, decide_true, Nat.reduceAdd, Nat.reduceSub, Nat.reduceLT, Nat.reduceLeDiff, Nat.reduceEqDiff, ↓reduceIte]
  refine ⟨_, _, c2.lift0 _ (by simp only [go_sem]) (by simp only [go_sem]), rfl, ?_⟩
  refine ⟨_, _, c3.lift0 _ (by simp only [go_sem]) (by simp only [go_sem]), rfl, ?_⟩
  cases k2 : (C.2 != 0)
  case true =>
    have : C.2 ≠ 0 := by simpa using k2
    simp (maxSteps := 4000000) -implicitDefEqProofs only [go_sem, k2, Option.some.injEq, forall_eq', and_true, true_and, Bool.not_true, Bool.not_false, decide_true, Nat.reduceAdd, Nat.reduceSub, Nat.reduceLT, Nat.reduceLeDiff, Nat.reduceEqDiff, ↓reduceIte]
    exact bad _ (by rw [hR, if_pos this])
  have k2x : C.2 = 0 := by simpa using k2
  rw [if_neg (by omega)] at hR
  have cl := clone_lown l hk hb he fun t ht => by
    obtain ⟨j, hj⟩ := List.getElem?_of_mem ht
    have := lo.own j t hj
    omega
  simp only [lA] at cl
  have e1 : l.ev.map esD ++ [[D.sl []]] = (l.ev ++ [[]]).map esD := by simp [esD]
  simp (maxSteps := 4000000) -implicitDefEqProofs only [go_sem, k2, Option.some.injEq, forall_eq', and_true, true_and, Bool.not_true, Bool.not_false, decide_true, Nat.reduceAdd, Nat.reduceSub, Nat.reduceLT, Nat.reduceLeDiff, Nat.reduceEqDiff, ↓reduceIte]
  refine ecallN _ _ cl (by simp only [go_sem]) ?_
  simp (maxSteps := 4000000) -implicitDefEqProofs only [go_sem, Nat.reduceAdd, Nat.reduceSub, Nat.reduceLT, Nat.reduceLeDiff, Nat.reduceEqDiff, ↓reduceIte]
  refine ⟨⟨fun e he => by simp at he; subst he; rfl, by omega, by omega⟩, ?_⟩
  rw [e1, hR]
  exact wk_dat (r' := .tup [.agg [.d (.sl (l.kn.map kD)), .d (.sl (C.1.map bD)), .d (.sl ((l.ev ++ [[]]).map esD))], .d (.int .i64 0)]) (by simp only [go_sem]; rfl) rfl (by simp only [go_sem])
end Go.AX.Lg
/- Ledgers: Same and Great. -/
set_option maxHeartbeats 8000000
set_option linter.unusedVariables false
set_option linter.unusedSimpArgs false
set_option maxRecDepth 20000
namespace Go.AX.Lg
open Go.Proofs Go.RowKit Go.IntWalk Go.AX.Br
def bigK (k : Kn) : Bool := decide (100 < k.ch.size)
def bigE (x : Ev) : Bool := decide (100 < x.ch.size)
def bigN (n : Nat) : Bool := (decide (8 < n) && decide (n ≤ 40)) || decide (50 < n)
def bigS (s : List Ev) : Bool := bigN s.length || s.any bigE
def greatL (l : Lg) : Bool := l.kn.any bigK || l.ev.any bigS || (decide (40 < l.kn.length) || great l.br [] || decide (20 < l.ev.length))
end Go.AX.Lg
/- Ledgers: the chapter's example. -/
set_option maxHeartbeats 8000000
set_option linter.unusedVariables false
set_option linter.unusedSimpArgs false
set_option maxRecDepth 20000
namespace Go.AX.Lg
open Go.Proofs Go.RowKit Go.IntWalk Go.AX.Br
def sMain : ByteArray := ⟨#[109, 97, 105, 110]⟩
def sR1 : ByteArray := ⟨#[114, 49]⟩
def sFix : ByteArray := ⟨#[102, 105, 120]⟩
def sFix2 : ByteArray := ⟨#[102, 105, 120, 45, 50]⟩
def sOther : ByteArray := ⟨#[111, 116, 104, 101, 114]⟩
def exG : Lg := ⟨[⟨sFix, 3⟩, ⟨sFix2, 3⟩, ⟨sOther, 0⟩], [⟨sMain, ⟨#[]⟩, 0⟩, ⟨sR1, sMain, 1⟩], [[⟨1, sFix⟩, ⟨1, sOther⟩], [⟨3, sFix⟩]]⟩
theorem eff1 : effR exG sMain = ([0, 3], 0) := by kernel_rfl
theorem eff2 : effR exG sR1 = ([], 0) := by kernel_rfl
theorem app1 : (appR exG sR1 ⟨2, sFix2⟩).2 = 0 := by kernel_rfl
theorem app2 : (appR exG sR1 ⟨4, sFix2⟩).2 = 0 := by kernel_rfl
theorem app3 : (appR exG sR1 ⟨1, sFix2⟩).2 = 14 := by kernel_rfl

theorem example_spec : Spec Try.prog 36 [] [] (lA exG) [] := by
  simp -implicitDefEqProofs only [lA]
  refine spec_of_ev (fn := Try.f36) DX_ok 3000 Try.func36 rfl rfl (Nat.le_of_ble_eq_true rfl) ?_
  simp (maxSteps := 4000000) -implicitDefEqProofs only [Try.f36, go_sem]
  simp (maxSteps := 4000000) -implicitDefEqProofs only [go_sem, Nat.reduceAdd, Nat.reduceSub, Nat.reduceLT, Nat.reduceLeDiff, Nat.reduceEqDiff, ↓reduceIte]
  refine ⟨by omega, by omega, by omega, by omega, ?_⟩
  exact wk_datE (by kernel_rfl) (by simp -implicitDefEqProofs only [go_sem])
theorem alive_spec : Spec Try.prog 10 [] [] (.d (.bool true)) [] := by
  have h1 : exG.kn.length ≤ 1000 := by decide
  have h2 : exG.br.length ≤ 1000 := by decide
  have h3 : exG.ev.length ≤ 1000 := by decide
  have s0 := example_spec
  have s1 := Effect_own exG sMain h1 h2 h3
  have s2 := Effect_own exG sR1 h1 h2 h3
  have s3 := append_lown exG sR1 ⟨2, sFix2⟩ h1 h2 h3
  have s4 := append_lown exG sR1 ⟨4, sFix2⟩ h1 h2 h3
  have s5 := append_lown exG sR1 ⟨1, sFix2⟩ h1 h2 h3
  rw [eff1] at s1
  rw [eff2] at s2
  rw [app1] at s3
  rw [app2] at s4
  rw [app3] at s5
  obtain ⟨A, hA⟩ : ∃ A, A = (appR exG sR1 ⟨2, sFix2⟩).1 := ⟨_, rfl⟩
  obtain ⟨B, hB⟩ : ∃ A, A = (appR exG sR1 ⟨4, sFix2⟩).1 := ⟨_, rfl⟩
  obtain ⟨C, hC⟩ : ∃ A, A = (appR exG sR1 ⟨1, sFix2⟩).1 := ⟨_, rfl⟩
  rw [← hA] at s3
  rw [← hB] at s4
  rw [← hC] at s5
  obtain ⟨G, hG⟩ : ∃ A, A = exG := ⟨_, rfl⟩
  rw [← hG] at s0 s1 s2 s3 s4 s5
  simp -implicitDefEqProofs only [lA, sMain, sR1, sFix2] at s0 s1 s2 s3 s4 s5
  have e0 : ((0 : Int) == 0) = true := rfl
  have e1 : ((14 : Int) == 14) = true := rfl
  have e2 : (((0 : Nat) : Int) == 0) = true := rfl
  clear hA hB hC hG h1 h2 h3
  refine spec_of_ev (fn := Try.f10) DX_ok 3000 Try.func10 rfl rfl (Nat.le_of_ble_eq_true rfl) ?_
  simp (maxSteps := 4000000) -implicitDefEqProofs only [Try.f10, go_sem]
  refine ecall0 _ s0 (by simp -implicitDefEqProofs only [go_sem]) (by simp -implicitDefEqProofs only [go_sem]) ?_
  simp (maxSteps := 4000000) -implicitDefEqProofs only [go_sem, Nat.reduceAdd, Nat.reduceSub, Nat.reduceLT, Nat.reduceLeDiff, Nat.reduceEqDiff, ↓reduceIte]
  refine ecall0 _ s1 (by simp -implicitDefEqProofs only [go_sem]) (by simp -implicitDefEqProofs only [go_sem]) ?_
  simp (maxSteps := 4000000) -implicitDefEqProofs only [go_sem, Nat.reduceAdd, Nat.reduceSub, Nat.reduceLT, Nat.reduceLeDiff, Nat.reduceEqDiff, ↓reduceIte]
  refine ecall0 _ s0 (by simp -implicitDefEqProofs only [go_sem]) (by simp -implicitDefEqProofs only [go_sem]) ?_
  simp (maxSteps := 4000000) -implicitDefEqProofs only [go_sem, Nat.reduceAdd, Nat.reduceSub, Nat.reduceLT, Nat.reduceLeDiff, Nat.reduceEqDiff, ↓reduceIte]
  refine ecall0 _ s2 (by simp -implicitDefEqProofs only [go_sem]) (by simp -implicitDefEqProofs only [go_sem]) ?_
  simp (maxSteps := 4000000) -implicitDefEqProofs only [go_sem, Nat.reduceAdd, Nat.reduceSub, Nat.reduceLT, Nat.reduceLeDiff, Nat.reduceEqDiff, ↓reduceIte]
  refine ecall0 _ s0 (by simp -implicitDefEqProofs only [go_sem]) (by simp -implicitDefEqProofs only [go_sem]) ?_
  simp (maxSteps := 4000000) -implicitDefEqProofs only [go_sem, Nat.reduceAdd, Nat.reduceSub, Nat.reduceLT, Nat.reduceLeDiff, Nat.reduceEqDiff, ↓reduceIte]
  refine ecall0 _ s3 (by simp -implicitDefEqProofs only [go_sem]) (by simp -implicitDefEqProofs only [go_sem]) ?_
  simp (maxSteps := 4000000) -implicitDefEqProofs only [go_sem, Nat.reduceAdd, Nat.reduceSub, Nat.reduceLT, Nat.reduceLeDiff, Nat.reduceEqDiff, ↓reduceIte]
  refine ecall0 _ s0 (by simp -implicitDefEqProofs only [go_sem]) (by simp -implicitDefEqProofs only [go_sem]) ?_
  simp (maxSteps := 4000000) -implicitDefEqProofs only [go_sem, Nat.reduceAdd, Nat.reduceSub, Nat.reduceLT, Nat.reduceLeDiff, Nat.reduceEqDiff, ↓reduceIte]
  refine ecall0 _ s4 (by simp -implicitDefEqProofs only [go_sem]) (by simp -implicitDefEqProofs only [go_sem]) ?_
  simp (maxSteps := 4000000) -implicitDefEqProofs only [go_sem, Nat.reduceAdd, Nat.reduceSub, Nat.reduceLT, Nat.reduceLeDiff, Nat.reduceEqDiff, ↓reduceIte]
  refine ecall0 _ s0 (by simp -implicitDefEqProofs only [go_sem]) (by simp -implicitDefEqProofs only [go_sem]) ?_
  simp (maxSteps := 4000000) -implicitDefEqProofs only [go_sem, Nat.reduceAdd, Nat.reduceSub, Nat.reduceLT, Nat.reduceLeDiff, Nat.reduceEqDiff, ↓reduceIte]
  refine ecall0 _ s5 (by simp -implicitDefEqProofs only [go_sem]) (by simp -implicitDefEqProofs only [go_sem]) ?_
  simp (maxSteps := 4000000) -implicitDefEqProofs only [go_sem, e0, e1, e2, Option.some.injEq, forall_eq', and_true, true_and, Bool.not_true, Bool.not_false, decide_true, Nat.reduceAdd, Nat.reduceSub, Nat.reduceLT, Nat.reduceLeDiff, Nat.reduceEqDiff, ↓reduceIte]
  refine ECall.dat (args' := [.d (.sl (([0, 3] : List Int).map iD)), .d (.sl (([0, 3] : List Int).map iD))]) (by simp -implicitDefEqProofs only [go_sem]; rfl) rfl ?_
  refine ecall0 _ (sameInts_ref [0, 3] [0, 3] (by unfold Sm; decide)) (by simp -implicitDefEqProofs only [go_sem]) (by simp -implicitDefEqProofs only [go_sem]) ?_
  simp (maxSteps := 4000000) -implicitDefEqProofs only [go_sem, e0, e1, e2, Option.some.injEq, forall_eq', and_true, true_and, Bool.not_true, Bool.not_false, decide_true, Nat.reduceAdd, Nat.reduceSub, Nat.reduceLT, Nat.reduceLeDiff, Nat.reduceEqDiff, ↓reduceIte]
  exact wk_bool rfl

end Go.AX.Lg

/- Ledgers: views, what is in effect. -/
import Derived.Test.YtjdppplgddldcaaK6
import Derived.KernelRfl
set_option maxHeartbeats 8000000
set_option linter.unusedVariables false
set_option linter.unusedSimpArgs false
set_option maxRecDepth 20000
namespace Go.AX.Lg
open Go.Proofs Go.RowKit Go.IntWalk Go.AX.Br
/-- all that holds of a ledger that is valid -/
structure LOk (l : Lg) : Prop where
  chk : lcheck l = 0
  nd : Nd l
  kv : Kv l
  kl : l.kn.length ≤ 30
  tab : Tab l
  own : ∀ (i : Nat) (s : List Ev), l.ev[i]? = some s → s.length ≤ 40
  good : ∀ i, i < l.ev.length → badB l i = false
theorem lok_of {l : Lg} (h : lcheck l = 0) : LOk l := by
  have h0 := h
  unfold lcheck at h
  split at h
  · cases h
  next k1 =>
  split at h
  · cases h
  next k2 =>
  split at h
  · cases h
  next k3 =>
  split at h
  · next q => exact absurd h q
  next k4 =>
  split at h
  · cases h
  next k5 =>
  split at h
  · cases h
  next k6 =>
  split at h
  · next q => exact absurd h q
  next k7 =>
  split at h
  · cases h
  next k8 =>
  have k7' : fits l.br (cntL l) = 0 := by omega
  refine ⟨h0, cls_len.2.2 (by have := (cls_len (l := l)).1; omega), fun k hk => ?_, by omega, ⟨good_of k7', k7'⟩, fun i s hs => ?_, fun i hi => ?_⟩
  · have := List.any_eq_false.1 (by simpa using k3) k hk
    simp only [badK, Bool.or_eq_true, Bool.not_eq_true', decide_eq_true_eq, not_or] at this
    omega
  · have := List.any_eq_false.1 (by simpa using k6) s (List.mem_of_getElem? hs)
    simp only [many, decide_eq_true_eq] at this
    omega
  · cases q : badB l i
    · rfl
    · exact absurd (List.any_eq_true.2 ⟨i, by simpa using hi, q⟩) k8
/-- the marks of a view, or an error -/
def lview (l : Lg) (nm : ByteArray) : List Mk × Int := if lcheck l ≠ 0 then ([], lcheck l) else viewR l.br (cntL l) nm
/-- a branch of a valid ledger -/
theorem lview_ok {l : Lg} {nm : ByteArray} (h : (lview l nm).2 = 0) : LOk l ∧ ∃ (i : Nat) (x : Br) (s : List Ev) (v : List Mk), At l i x s v ∧ x.name = nm ∧ lview l nm = (v, 0) ∧ idx (has nm) l.br = i := by
  unfold lview at h
  split at h
  · next q => exact absurd h q
  next q =>
  have hc : lcheck l = 0 := by omega
  have lo := lok_of hc
  refine ⟨lo, ?_⟩
  have hf := lo.tab.fits
  unfold viewR at h
  rw [if_neg (by omega)] at h
  split at h
  · cases h
  next q2 =>
  obtain ⟨i, x, h1, h2, h3⟩ := idx_get (p := has nm) (l := l.br) (by omega)
  obtain ⟨y, s, v, a⟩ := at_of lo.tab (some_lt h2)
  have : y = x := by have := a.hx; rw [h2] at this; cases this; rfl
  subst this
  have hn : y.name = nm := by simpa [has] using h3
  refine ⟨i, y, s, v, a, hn, ?_, h1⟩
  unfold lview
  rw [if_neg (by omega), ← hn]
  exact vname lo.tab a
theorem At.known {l : Lg} {i : Nat} {x : Br} {s : List Ev} {v : List Mk} (lo : LOk l) (a : At l i x s v) : Known l (preE l i ++ s) := by
  have hi := some_lt a.hs
  intro y hy
  rcases List.mem_append.1 hy with q | q
  · exact pre_known a (fun j hj => lo.good j (by omega)) y q
  · exact badB_known a (lo.good i hi) y q
theorem view_lown (l : Lg) (nm : ByteArray) (hk : l.kn.length ≤ 1000) (hb : l.br.length ≤ 1000) (he : l.ev.length ≤ 1000) : Spec Try.prog 47 [lA l, .d (.str nm)] [] (.tup [.d (.sl ((lview l nm).1.map mkD)), .d (.int .i64 (lview l nm).2)]) [] := by
  have c1 := lcheck_own l hk hb he
  have c2 := counts_dat l he
  have c3 := View_dat l.br (cntL l) nm (by unfold Sm; omega) (by unfold Sm; rw [cnt_len]; omega)
  simp only [lA] at c1 c2
  obtain ⟨R, hR⟩ : ∃ R, R = lview l nm := ⟨_, rfl⟩
  rw [← hR]
  unfold lview at hR
  refine spec_of_ev (fn := Try.f47) DX_ok 3000 Try.func47 rfl rfl (Nat.le_of_ble_eq_true rfl) ?_
  simp (maxSteps := 4000000) -implicitDefEqProofs only [Try.f47, go_sem, lA]
  refine ecall0 _ c1 (by simp only [go_sem]) (by simp only [go_sem]) ?_
  cases k1 : (lcheck l != 0)
  case true =>
    have : lcheck l ≠ 0 := by simpa using k1
    simp (maxSteps := 4000000) -implicitDefEqProofs only [go_sem, k1, Option.some.injEq, forall_eq', and_true, true_and, Bool.not_true, Bool.not_false, decide_true, Nat.reduceAdd, Nat.reduceSub, Nat.reduceLT, Nat.reduceLeDiff, Nat.reduceEqDiff, ↓reduceIte]
    rw [hR, if_pos this]
    exact wk_dat (r' := .tup [.d (.sl []), .d (.int .i64 (lcheck l))]) (by simp only [go_sem]; rfl) rfl (by simp only [go_sem])
  have k1x : lcheck l = 0 := by simpa using k1
  rw [if_neg (by omega)] at hR
  simp (maxSteps := 4000000) -implicitDefEqProofs only [go_sem, k1, Option.some.injEq, forall_eq', and_true, true_and, Bool.not_true, Bool.not_false, decide_true, Nat.reduceAdd, Nat.reduceSub, Nat.reduceLT, Nat.reduceLeDiff, Nat.reduceEqDiff, ↓reduceIte]
  refine DX.plain (.take 0 false (.take 1 false (.take 2 false (.take 3 false (.take 4 false (.take 5 false (.take 6 false (.take 7 false (.take 8 false (.take 9 false .done)))))))))) (by kernel_rfl) (by kernel_rfl) Ty.mixed ?_
  simp (maxSteps := 4000000) -implicitDefEqProofs only [go_sem, k1, Option.some.injEq, forall_eq', and_true, true_and, Bool.not_true, Bool.not_false, decide_true, Nat.reduceAdd, Nat.reduceSub, Nat.reduceLT, Nat.reduceLeDiff, Nat.reduceEqDiff, ↓reduceIte]
  refine ⟨_, _, c2.lift0 _ (by simp only [go_sem]) (by simp only [go_sem]), rfl, ?_⟩
  refine ⟨_, _, c3.lift0 _ (by simp only [go_sem]) (by simp only [go_sem]), rfl, ?_⟩
  simp (maxSteps := 4000000) -implicitDefEqProofs only [go_sem, Nat.reduceAdd, Nat.reduceSub, Nat.reduceLT, Nat.reduceLeDiff, Nat.reduceEqDiff, ↓reduceIte]
  rw [hR]
  exact (Wk.forget (by (simp only [go_sem]) <;> trivial) (by simp only [go_sem]))
end Go.AX.Lg
/- Ledgers: Effect and After, both sides. -/
set_option maxHeartbeats 8000000
set_option linter.unusedVariables false
set_option linter.unusedSimpArgs false
set_option maxRecDepth 20000
namespace Go.AX.Lg
open Go.Proofs Go.RowKit Go.IntWalk Go.AX.Br
def effN (l : Lg) (s : List Ev) (n : Nat) : List Int := ((List.range n).filter fun (c : Nat) => inR l s c).map Int.ofNat
def effL (l : Lg) (s : List Ev) : List Int := effN l s 30
def effR (l : Lg) (nm : ByteArray) : List Int × Int := if (lview l nm).2 ≠ 0 then ([], (lview l nm).2) else (effL l (seenL l (lview l nm).1), 0)
def aftR (l : Lg) (nm : ByteArray) (n : Int) : List Int × Int :=
  if (lview l nm).2 ≠ 0 then ([], (lview l nm).2) else if n < 0 ∨ ((lview l nm).1.length : Int) < n then ([], 2) else (effL l ((seenL l (lview l nm).1).take n.toNat), 0)
theorem effN_len (l : Lg) (s : List Ev) (n : Nat) : (effN l s n).length ≤ n := by
  unfold effN
  rw [List.length_map]
  have := List.length_filter_le (fun (c : Nat) => inR l s c) (List.range n)
  simpa using this
theorem Effect_own (l : Lg) (nm : ByteArray) (hk : l.kn.length ≤ 1000) (hb : l.br.length ≤ 1000) (he : l.ev.length ≤ 1000) : Spec Try.prog 25 [lA l, .d (.str nm)] [] (.tup [.d (.sl ((effR l nm).1.map iD)), .d (.int .i64 (effR l nm).2)]) [] := by
  have c1 := view_lown l nm hk hb he
  have vk := lview_ok (l := l) (nm := nm)
  obtain ⟨V, hV⟩ : ∃ V, V = lview l nm := ⟨_, rfl⟩
  unfold effR
  rw [← hV] at c1 vk ⊢
  simp only [lA] at c1
  refine spec_of_ev (fn := Try.f25) DX_ok 3000 Try.func25 rfl rfl (Nat.le_of_ble_eq_true rfl) ?_
  simp (maxSteps := 4000000) -implicitDefEqProofs only [Try.f25, go_sem, lA]
  refine ecall0 _ c1 (by simp only [go_sem]) (by simp only [go_sem]) ?_
  cases k1 : (V.2 != 0)
  case true =>
    have : V.2 ≠ 0 := by simpa using k1
    simp (maxSteps := 4000000) -implicitDefEqProofs only [go_sem, k1, Option.some.injEq, forall_eq', and_true, true_and, Bool.not_true, Bool.not_false, decide_true, Nat.reduceAdd, Nat.reduceSub, Nat.reduceLT, Nat.reduceLeDiff, Nat.reduceEqDiff, ↓reduceIte]
    rw [if_pos this]
    exact wk_dat (r' := .tup [.d (.sl []), .d (.int .i64 V.2)]) (by simp only [go_sem]; rfl) rfl (by simp only [go_sem])
  have k1x : V.2 = 0 := by simpa using k1
  obtain ⟨lo, i, x, s, v, a, hn, hv, hi⟩ := vk k1x
  have alen := a.len
  have h40 := lo.own i s a.hs
  have h320 := (lo.tab.g.ok.good i x a.hx).2.2
  have fo := folded_own l v lo.kv lo.kl a.inr (by omega) he
  have hkn : Known l (seenL l v) := by rw [a.seen]; exact a.known lo
  rw [foldS_foldE a.inr] at fo
  have lr := list_own _ (foldE_ok l (seenL l v))
  rw [list_ref lo.nd lo.kv hkn] at lr
  obtain ⟨Z, hZ⟩ : ∃ Z, Z = ((List.range 30).filter fun (c : Nat) => inR l (seenL l v) c).map Int.ofNat := ⟨_, rfl⟩
  rw [← hZ] at lr
  have hZ' : effL l (seenL l v) = Z := hZ.symm
  obtain ⟨S, hS⟩ : ∃ S, S = foldE l (seenL l v) := ⟨_, rfl⟩
  rw [← hS] at fo lr
  simp only [lA] at fo
  rw [hv] at k1 ⊢
  simp (maxSteps := 4000000) -implicitDefEqProofs only [go_sem, k1, Option.some.injEq, forall_eq', and_true, true_and, Bool.not_true, Bool.not_false, decide_true, Nat.reduceAdd, Nat.reduceSub, Nat.reduceLT, Nat.reduceLeDiff, Nat.reduceEqDiff, ↓reduceIte]
  refine ecallN _ _ fo (by simp only [go_sem]) ?_
  simp (maxSteps := 4000000) -implicitDefEqProofs only [go_sem, Nat.reduceAdd, Nat.reduceSub, Nat.reduceLT, Nat.reduceLeDiff, Nat.reduceEqDiff, ↓reduceIte]
  refine .mk [1] [.ptr 0 0] [.cells (stC S)] _ _ rfl (by simp [bds, bd]) (by simp) (by simp) (by simp only [obs, mapO, go_sem]) (by simp only [go_sem]) lr ?_
  simp (maxSteps := 4000000) -implicitDefEqProofs only [go_sem, Nat.reduceAdd, Nat.reduceSub, Nat.reduceLT, Nat.reduceLeDiff, Nat.reduceEqDiff, ↓reduceIte]
  simp only [ne_eq, not_true_eq_false, if_false, hZ']
  exact wk_dat (r' := .tup [.d (.sl (Z.map iD)), .d (.int .i64 0)]) (by simp only [go_sem]; rfl) rfl (by simp only [go_sem])
end Go.AX.Lg
/- Ledgers: Differ, both sides. -/
set_option maxHeartbeats 8000000
set_option linter.unusedVariables false
set_option linter.unusedSimpArgs false
set_option maxRecDepth 20000
namespace Go.AX.Lg
open Go.Proofs Go.RowKit Go.IntWalk Go.AX.Br
def onlyN (p q : Nat → Bool) (n : Nat) : List Int := ((List.range n).filter fun (c : Nat) => p c && !q c).map Int.ofNat
def inF (l : Lg) (s : List Ev) (c : Nat) : Bool := inR l s c
def onlyL (l : Lg) (s t : List Ev) : List Int := onlyN (inF l s) (inF l t) 30
def difR (l : Lg) (a b : ByteArray) : List Int × List Int × Int :=
  if (lview l a).2 ≠ 0 then ([], [], (lview l a).2) else if (lview l b).2 ≠ 0 then ([], [], (lview l b).2)
  else (onlyL l (seenL l (lview l a).1) (seenL l (lview l b).1), onlyL l (seenL l (lview l b).1) (seenL l (lview l a).1), 0)
end Go.AX.Lg
/- Ledgers: tables, numbers and lists compared and copied; branches cut. -/
set_option maxHeartbeats 8000000
set_option linter.unusedVariables false
set_option linter.unusedSimpArgs false
set_option maxRecDepth 20000
namespace Go.AX.Br
open Go.Proofs Go.RowKit Go.IntWalk
instance : DecidableEq Br := fun a b => decidable_of_iff (a.name = b.name ∧ a.frm = b.frm ∧ a.at' = b.at') (by cases a; cases b; simp)
def cutR (l : List Br) (cs : List Int) (frm nm : ByteArray) (at' : Int) : List Br × Int :=
  if (viewR l cs frm).2 ≠ 0 then ([], (viewR l cs frm).2) else if at' < 0 ∨ ((viewR l cs frm).1.length : Int) < at' then ([], 2)
  else if check (l ++ [⟨nm, frm, at'⟩]) ≠ 0 then ([], check (l ++ [⟨nm, frm, at'⟩])) else (l ++ [⟨nm, frm, at'⟩], 0)
end Go.AX.Br
namespace Go.AX.Lg
open Go.Proofs Go.RowKit Go.IntWalk Go.AX.Br
end Go.AX.Lg
/- Ledgers: copied; one branch's events in the call's own. -/
set_option maxHeartbeats 8000000
set_option linter.unusedVariables false
set_option linter.unusedSimpArgs false
set_option maxRecDepth 20000
namespace Go.AX.Lg
open Go.Proofs Go.RowKit Go.IntWalk Go.AX.Br
theorem esDx_len (l : List (List Ev)) : (∀ e ∈ l.map esD, e.length = 1) = True := esD_len
/-- what stands for the events of branch i -/
def inn (i j : Nat) (s : List Ev) : AObj := if i < j then .vec 2 (upD (s.map eD)) else .gone
theorem inn_ren {f : Nat → Nat} {i j : Nat} {s : List Ev} : renO f (inn i j s) = inn i j s := by
  unfold inn
  split
  · simp only [renO, renss_up]
  · rfl
theorem inn_bd {k : Nat} {i j : Nat} {s : List Ev} : bdO k (inn i j s) = True := by
  unfold inn
  split
  · simp only [bdO, bdss_up]
  · rfl
theorem inn_wk {i j : Nat} {s : List Ev} : wkO (inn i j s) (inn i j s) = True := eq_true (wkO_refl _)
attribute [go_sem ↓] inn_ren inn_bd inn_wk
def evX (l : Lg) (j : Nat) : List (List D) := (l.ev.take j).map esD
theorem evX_sz {l : Lg} {j : Nat} : (∀ e ∈ evX l j, e.length = 1) = True := esDx_len _
def zL : AObj := .cells [.nil, .nil, .nil]
attribute [go_sem] evX_sz zL
def cl0 (l : Lg) : List AObj := [lH l, zL, .cells [.own 3, .own 4, .nil], .row 2 (l.kn.map kD), .row 3 (l.br.map bD)]
end Go.AX.Lg
/- Ledgers: Append of the program. -/
set_option maxHeartbeats 8000000
set_option linter.unusedVariables false
set_option linter.unusedSimpArgs false
set_option maxRecDepth 20000
namespace Go.AX
attribute [go_sem] vset_set
end Go.AX
namespace Go.AX.Lg
open Go.Proofs Go.RowKit Go.IntWalk Go.AX.Br
def lg0 : Lg := ⟨[], [], []⟩
def addE (l : Lg) (i : Nat) (x : Ev) : Lg := ⟨l.kn, l.br, l.ev.set i ((l.ev.getD i []) ++ [x])⟩
def appR (l : Lg) (nm : ByteArray) (x : Ev) : Lg × Int :=
  if (lview l nm).2 ≠ 0 then (lg0, (lview l nm).2) else if classN l x.ch = none then (lg0, 6)
  else if (l.ev.getD (idx (has nm) l.br).toNat []).length = 40 then (lg0, 4)
  else if allR l (seenL l (lview l nm).1) x ≠ 0 then (lg0, allR l (seenL l (lview l nm).1) x) else (addE l (idx (has nm) l.br).toNat x, 0)
end Go.AX.Lg
/- Ledgers: Twin, Append and Cut of the reference; Cut of the program. -/
set_option maxHeartbeats 8000000
set_option linter.unusedVariables false
set_option linter.unusedSimpArgs false
set_option maxRecDepth 20000
namespace Go.AX.Lg
open Go.Proofs Go.RowKit Go.IntWalk Go.AX.Br
end Go.AX.Lg
/- Ledgers: Append of the reference; Cut, both sides; Twin, Same and Great. -/
set_option maxHeartbeats 8000000
set_option linter.unusedVariables false
set_option linter.unusedSimpArgs false
set_option maxRecDepth 20000
namespace Go.AX.Lg
open Go.Proofs Go.RowKit Go.IntWalk Go.AX.Br
def lcutR (l : Lg) (frm nm : ByteArray) (at' : Int) : Lg × Int :=
  if lcheck l ≠ 0 then (lg0, lcheck l) else if (cutR l.br (cntL l) frm nm at').2 ≠ 0 then (lg0, (cutR l.br (cntL l) frm nm at').2)
  else (⟨l.kn, (cutR l.br (cntL l) frm nm at').1, l.ev ++ [[]]⟩, 0)
end Go.AX.Lg
/- Ledgers: Same and Great. -/
set_option maxHeartbeats 8000000
set_option linter.unusedVariables false
set_option linter.unusedSimpArgs false
set_option maxRecDepth 20000
namespace Go.AX.Lg
open Go.Proofs Go.RowKit Go.IntWalk Go.AX.Br
def bigK (k : Kn) : Bool := decide (100 < k.ch.size)
def bigE (x : Ev) : Bool := decide (100 < x.ch.size)
def bigN (n : Nat) : Bool := (decide (8 < n) && decide (n ≤ 40)) || decide (50 < n)
def bigS (s : List Ev) : Bool := bigN s.length || s.any bigE
def greatL (l : Lg) : Bool := l.kn.any bigK || l.ev.any bigS || (decide (40 < l.kn.length) || great l.br [] || decide (20 < l.ev.length))
theorem great_lref (l : Lg) (hk : Sm l.kn.length) (hb : Sm l.br.length) (he : Sm l.ev.length) (hs : ∀ s ∈ l.ev, Sm s.length) : Spec Try.prog 31 [lA l] [] (.d (.bool (greatL l))) [] := by
  have c1 := great_ref l.br [] hb
  simp only [List.map_nil] at c1
  unfold Sm at hk hb he hs
  obtain ⟨R, hR⟩ : ∃ R, R = greatL l := ⟨_, rfl⟩
  rw [← hR]
  have yes : greatL l = true → ∀ {σ : List AObj}, Wk 0 [.d (.bool true)] σ [.d (.bool R)] [] := fun h {σ} => wk_bool (by rw [hR, h])
  refine spec_of_ev (fn := Try.f31) DX_ok 3000 Try.func31 rfl rfl (Nat.le_of_ble_eq_true rfl) ?_
  simp (maxSteps := 4000000) -implicitDefEqProofs only [Try.f31, go_sem, lA]
  refine eloop (S := Nat) (fun i => mkE 89 [(1, .ptr 0 0), (3, .d (.int .i64 i))]) (fun i => [lH l]) (fun i => i ≤ l.kn.length ∧ ∀ j y, l.kn[j]? = some y → j < i → bigK y = false) (fun i => l.kn.length - i) 0 ⟨by omega, by omega⟩ (Wk.via [0] (by (simp only [go_sem, ↓reduceIte]) <;> trivial) (by first | (simp (maxSteps := 4000000) -implicitDefEqProofs only [go_sem, Nat.reduceAdd, Nat.reduceSub, Nat.reduceLT, Nat.reduceLeDiff, Nat.reduceEqDiff, ↓reduceIte]; done) | ((simp (maxSteps := 4000000) -implicitDefEqProofs only [go_sem, Nat.reduceAdd, Nat.reduceSub, Nat.reduceLT, Nat.reduceLeDiff, Nat.reduceEqDiff, ↓reduceIte]) <;> omega)) (by simp) (by first | (simp; done) | (simp [so]; done)) (by (simp (maxSteps := 4000000) -implicitDefEqProofs only [go_sem, Nat.reduceAdd, Nat.reduceSub, Nat.reduceLT, Nat.reduceLeDiff, Nat.reduceEqDiff, ↓reduceIte]) <;> trivial) (by first | (simp only [go_sem]; done) | ((simp (maxSteps := 4000000) -implicitDefEqProofs only [go_sem, Nat.reduceAdd, Nat.reduceSub, Nat.reduceLT, Nat.reduceLeDiff, Nat.reduceEqDiff, ↓reduceIte]) <;> omega)) (Nat.zero_le _) (fun i h => absurd h (Nat.not_lt_zero i))) ?_
  rintro i ⟨hi, hj⟩
  rcases Nat.lt_or_ge i l.kn.length with h2 | h2
  case inl =>
    have f1 : decide ((i : Int) < l.kn.length) = true := by simp; omega
    obtain ⟨x, hx⟩ : ∃ x, l.kn[i]? = some x := ⟨l.kn[i]'h2, List.getElem?_eq_getElem _⟩
    have n1 : (0 ≤ (i : Int) ∧ (i : Int) < l.kn.length) = True := eq_true (by omega)
    have n2 : (i < l.kn.length) = True := eq_true (by omega)
    have w1 : IntKind.i64.wrap ((i : Int) + 1) = ((i + 1 : Nat) : Int) := by rw [i64_in _ (by omega)]; simp
    cases g : bigK x
    case true =>
      have d1 : decide ((100 : Int) < x.ch.size) = true := by simp only [bigK, decide_eq_true_eq] at g ⊢; omega
      simp (maxSteps := 4000000) -implicitDefEqProofs only [go_sem, f1, n1, n2, hx, d1, Option.some.injEq, forall_eq', and_true, true_and, Bool.not_true, Bool.not_false, decide_true, Nat.reduceAdd, Nat.reduceSub, Nat.reduceLT, Nat.reduceLeDiff, Nat.reduceEqDiff, ↓reduceIte]
      exact yes (by rw [greatL, any_t hx g]; rfl)
    have d1 : decide ((100 : Int) < x.ch.size) = false := by simp only [bigK, decide_eq_false_iff_not] at g ⊢; omega
    simp (maxSteps := 4000000) -implicitDefEqProofs only [go_sem, f1, n1, n2, hx, d1, w1, Option.some.injEq, forall_eq', and_true, true_and, Bool.not_true, Bool.not_false, decide_true, Nat.reduceAdd, Nat.reduceSub, Nat.reduceLT, Nat.reduceLeDiff, Nat.reduceEqDiff, ↓reduceIte]
    exact .mk (i + 1) ⟨by omega, upto_succ hx g hj⟩ (by omega) (Wk.via [0] (by (simp only [go_sem, ↓reduceIte]) <;> trivial) (by first | (simp (maxSteps := 4000000) -implicitDefEqProofs only [go_sem, Nat.reduceAdd, Nat.reduceSub, Nat.reduceLT, Nat.reduceLeDiff, Nat.reduceEqDiff, ↓reduceIte]; done) | ((simp (maxSteps := 4000000) -implicitDefEqProofs only [go_sem, Nat.reduceAdd, Nat.reduceSub, Nat.reduceLT, Nat.reduceLeDiff, Nat.reduceEqDiff, ↓reduceIte]) <;> omega)) (by simp) (by first | (simp; done) | (simp [so]; done)) (by (simp (maxSteps := 4000000) -implicitDefEqProofs only [go_sem, Nat.reduceAdd, Nat.reduceSub, Nat.reduceLT, Nat.reduceLeDiff, Nat.reduceEqDiff, ↓reduceIte]) <;> trivial) (by first | (simp only [go_sem]; done) | ((simp (maxSteps := 4000000) -implicitDefEqProofs only [go_sem, Nat.reduceAdd, Nat.reduceSub, Nat.reduceLT, Nat.reduceLeDiff, Nat.reduceEqDiff, ↓reduceIte]) <;> omega)) (Nat.zero_le _) (fun i h => absurd h (Nat.not_lt_zero i)))
  have f1 : decide ((i : Int) < l.kn.length) = false := by simp; omega
  have nk : l.kn.any bigK = false := any_f fun j y hy => hj j y hy (by have := some_lt hy; omega)
  simp (maxSteps := 4000000) -implicitDefEqProofs only [go_sem, f1, Option.some.injEq, forall_eq', and_true, true_and, Bool.not_true, Bool.not_false, decide_true, Nat.reduceAdd, Nat.reduceSub, Nat.reduceLT, Nat.reduceLeDiff, Nat.reduceEqDiff, ↓reduceIte]
  clear hj hi h2 f1
  refine eloop (S := Nat) (fun i => mkE 89 [(1, .ptr 0 0), (4, .d (.int .i64 i))]) (fun i => [lH l]) (fun i => i ≤ l.ev.length ∧ ∀ j y, l.ev[j]? = some y → j < i → bigS y = false) (fun i => l.ev.length - i) 0 ⟨by omega, by omega⟩ (Wk.via [0] (by (simp only [go_sem, ↓reduceIte]) <;> trivial) (by first | (simp (maxSteps := 4000000) -implicitDefEqProofs only [go_sem, Nat.reduceAdd, Nat.reduceSub, Nat.reduceLT, Nat.reduceLeDiff, Nat.reduceEqDiff, ↓reduceIte]; done) | ((simp (maxSteps := 4000000) -implicitDefEqProofs only [go_sem, Nat.reduceAdd, Nat.reduceSub, Nat.reduceLT, Nat.reduceLeDiff, Nat.reduceEqDiff, ↓reduceIte]) <;> omega)) (by simp) (by first | (simp; done) | (simp [so]; done)) (by (simp (maxSteps := 4000000) -implicitDefEqProofs only [go_sem, Nat.reduceAdd, Nat.reduceSub, Nat.reduceLT, Nat.reduceLeDiff, Nat.reduceEqDiff, ↓reduceIte]) <;> trivial) (by first | (simp only [go_sem]; done) | ((simp (maxSteps := 4000000) -implicitDefEqProofs only [go_sem, Nat.reduceAdd, Nat.reduceSub, Nat.reduceLT, Nat.reduceLeDiff, Nat.reduceEqDiff, ↓reduceIte]) <;> omega)) (Nat.zero_le _) (fun i h => absurd h (Nat.not_lt_zero i))) ?_
  rintro i ⟨hi, hj⟩
  rcases Nat.lt_or_ge i l.ev.length with h2 | h2
  case inr =>
    have f1 : decide ((i : Int) < l.ev.length) = false := by simp; omega
    have ne : l.ev.any bigS = false := any_f fun j y hy => hj j y hy (by have := some_lt hy; omega)
    have hg : greatL l = (decide (40 < l.kn.length) || great l.br [] || decide (20 < l.ev.length)) := by rw [greatL, nk, ne]; rfl
    cases g1 : decide (40 < l.kn.length)
    case true =>
      have d1 : decide ((40 : Int) < l.kn.length) = true := by simp only [decide_eq_true_eq] at g1 ⊢; omega
      simp (maxSteps := 4000000) -implicitDefEqProofs only [go_sem, f1, d1, Option.some.injEq, forall_eq', and_true, true_and, Bool.not_true, Bool.not_false, decide_true, Nat.reduceAdd, Nat.reduceSub, Nat.reduceLT, Nat.reduceLeDiff, Nat.reduceEqDiff, ↓reduceIte]
      exact yes (by rw [hg, g1]; rfl)
    have d1 : decide ((40 : Int) < l.kn.length) = false := by simp only [decide_eq_false_iff_not] at g1 ⊢; omega
    rw [g1, Bool.false_or] at hg
    simp (maxSteps := 4000000) -implicitDefEqProofs only [go_sem, f1, d1, Option.some.injEq, forall_eq', and_true, true_and, Bool.not_true, Bool.not_false, decide_true, Nat.reduceAdd, Nat.reduceSub, Nat.reduceLT, Nat.reduceLeDiff, Nat.reduceEqDiff, ↓reduceIte]
    refine ECall.dat (args' := [.d (.sl (l.br.map bD)), .d (.sl [])]) (by simp only [go_sem]; rfl) rfl ?_
    refine ecall0 _ c1 (by simp only [go_sem]) (by simp only [go_sem]) ?_
    cases g2 : great l.br []
    case true =>
      simp (maxSteps := 4000000) -implicitDefEqProofs only [go_sem, g2, Option.some.injEq, forall_eq', and_true, true_and, Bool.not_true, Bool.not_false, decide_true, Nat.reduceAdd, Nat.reduceSub, Nat.reduceLT, Nat.reduceLeDiff, Nat.reduceEqDiff, ↓reduceIte]
      exact yes (by rw [hg, g2]; rfl)
    rw [g2, Bool.false_or] at hg
    simp (maxSteps := 4000000) -implicitDefEqProofs only [go_sem, g2, Option.some.injEq, forall_eq', and_true, true_and, Bool.not_true, Bool.not_false, decide_true, Nat.reduceAdd, Nat.reduceSub, Nat.reduceLT, Nat.reduceLeDiff, Nat.reduceEqDiff, ↓reduceIte]
    exact wk_bool (by rw [hR, hg]; exact decide_eq_decide.2 (by omega))
  have f1 : decide ((i : Int) < l.ev.length) = true := by simp; omega
  obtain ⟨s, hx⟩ : ∃ x, l.ev[i]? = some x := ⟨l.ev[i]'h2, List.getElem?_eq_getElem _⟩
  have hsl := hs s (List.mem_of_getElem? hx)
  have n1 : (0 ≤ (i : Int) ∧ (i : Int) < l.ev.length) = True := eq_true (by omega)
  have n2 : (i < l.ev.length) = True := eq_true (by omega)
  have w1 : IntKind.i64.wrap ((i : Int) + 1) = ((i + 1 : Nat) : Int) := by rw [i64_in _ (by omega)]; simp
  have bigT : bigN s.length = true → greatL l = true := fun h => by
    rw [greatL, any_t hx (by rw [bigS, h]; rfl)]; simp
  have d1 : decide ((8 : Int) < s.length) = decide (8 < s.length) := decide_eq_decide.2 (by omega)
  have d2 : decide ((s.length : Int) ≤ 40) = decide (s.length ≤ 40) := decide_eq_decide.2 (by omega)
  have d3 : decide ((50 : Int) < s.length) = decide (50 < s.length) := decide_eq_decide.2 (by omega)
  cases g : bigN s.length
  case true =>
    cases a1 : decide (8 < s.length) <;> cases a2 : decide (s.length ≤ 40) <;> cases a3 : decide (50 < s.length) <;> (try (simp only [bigN, a1, a2, a3] at g; cases g; done)) <;> rw [a1] at d1 <;> rw [a2] at d2 <;> rw [a3] at d3
    all_goals (simp (maxSteps := 4000000) -implicitDefEqProofs only [go_sem, f1, n1, n2, hx, d1, d2, d3, Option.some.injEq, forall_eq', and_true, true_and, Bool.not_true, Bool.not_false, decide_true, Nat.reduceAdd, Nat.reduceSub, Nat.reduceLT, Nat.reduceLeDiff, Nat.reduceEqDiff, ↓reduceIte])
    all_goals exact yes (bigT g)
  have go : (decide (8 < s.length) = false ∧ decide (50 < s.length) = false) ∨ (decide (8 < s.length) = true ∧ decide (s.length ≤ 40) = false ∧ decide (50 < s.length) = false) := by
    simp only [bigN, Bool.or_eq_false_iff, Bool.and_eq_false_iff] at g
    cases a1 : decide (8 < s.length)
    · exact .inl ⟨rfl, g.2⟩
    · refine .inr ⟨rfl, ?_, g.2⟩
      rcases g.1 with q | q
      · rw [a1] at q; cases q
      · exact q
  rcases go with ⟨a1, a3⟩ | ⟨a1, a2, a3⟩
  all_goals rw [a1] at d1
  all_goals rw [a3] at d3
  case' inr => rw [a2] at d2
  all_goals (simp (maxSteps := 4000000) -implicitDefEqProofs only [go_sem, f1, n1, n2, hx, d1, d2, d3, Option.some.injEq, forall_eq', and_true, true_and, Bool.not_true, Bool.not_false, decide_true, Nat.reduceAdd, Nat.reduceSub, Nat.reduceLT, Nat.reduceLeDiff, Nat.reduceEqDiff, ↓reduceIte])
  all_goals refine eloop (S := Nat) (fun k => mkE 89 [(1, .ptr 0 0), (4, .d (.int .i64 i)), (5, .d (.int .i64 k))]) (fun k => [lH l]) (fun k => k ≤ s.length ∧ ∀ j y, s[j]? = some y → j < k → bigE y = false) (fun k => s.length - k) 0 ⟨by omega, by omega⟩ (Wk.via [0] (by (simp only [go_sem, ↓reduceIte]) <;> trivial) (by first | (simp (maxSteps := 4000000) -implicitDefEqProofs only [go_sem, Nat.reduceAdd, Nat.reduceSub, Nat.reduceLT, Nat.reduceLeDiff, Nat.reduceEqDiff, ↓reduceIte]; done) | ((simp (maxSteps := 4000000) -implicitDefEqProofs only [go_sem, Nat.reduceAdd, Nat.reduceSub, Nat.reduceLT, Nat.reduceLeDiff, Nat.reduceEqDiff, ↓reduceIte]) <;> omega)) (by simp) (by first | (simp; done) | (simp [so]; done)) (by (simp (maxSteps := 4000000) -implicitDefEqProofs only [go_sem, Nat.reduceAdd, Nat.reduceSub, Nat.reduceLT, Nat.reduceLeDiff, Nat.reduceEqDiff, ↓reduceIte]) <;> trivial) (by first | (simp only [go_sem]; done) | ((simp (maxSteps := 4000000) -implicitDefEqProofs only [go_sem, Nat.reduceAdd, Nat.reduceSub, Nat.reduceLT, Nat.reduceLeDiff, Nat.reduceEqDiff, ↓reduceIte]) <;> omega)) (Nat.zero_le _) (fun i h => absurd h (Nat.not_lt_zero i))) ?_
  all_goals rintro k ⟨hk2, hjk⟩
  all_goals rcases Nat.lt_or_ge k s.length with h3 | h3
  case' inl.inl | inr.inl =>
    have f2 : decide ((k : Int) < s.length) = true := by simp; omega
    obtain ⟨y, hy⟩ : ∃ x, s[k]? = some x := ⟨s[k]'h3, List.getElem?_eq_getElem _⟩
    have n3 : (0 ≤ (k : Int) ∧ (k : Int) < s.length) = True := eq_true (by omega)
    have n4 : (k < s.length) = True := eq_true (by omega)
    have w2 : IntKind.i64.wrap ((k : Int) + 1) = ((k + 1 : Nat) : Int) := by rw [i64_in _ (by omega)]; simp
    cases gy : bigE y
  case' inl.inl.true | inr.inl.true =>
    have d4 : decide ((100 : Int) < y.ch.size) = true := by simp only [bigE, decide_eq_true_eq] at gy ⊢; omega
    simp (maxSteps := 4000000) -implicitDefEqProofs only [go_sem, n1, n2, hx, f2, n3, n4, hy, d4, Option.some.injEq, forall_eq', and_true, true_and, Bool.not_true, Bool.not_false, decide_true, Nat.reduceAdd, Nat.reduceSub, Nat.reduceLT, Nat.reduceLeDiff, Nat.reduceEqDiff, ↓reduceIte]
  case inl.inl.true | inr.inl.true =>
    exact yes (by rw [greatL, any_t hx (by rw [bigS, any_t hy gy]; simp)]; simp)
  case' inl.inl.false | inr.inl.false =>
    have d4 : decide ((100 : Int) < y.ch.size) = false := by simp only [bigE, decide_eq_false_iff_not] at gy ⊢; omega
    simp (maxSteps := 4000000) -implicitDefEqProofs only [go_sem, n1, n2, hx, f2, n3, n4, hy, d4, w2, Option.some.injEq, forall_eq', and_true, true_and, Bool.not_true, Bool.not_false, decide_true, Nat.reduceAdd, Nat.reduceSub, Nat.reduceLT, Nat.reduceLeDiff, Nat.reduceEqDiff, ↓reduceIte]
  case inl.inl.false | inr.inl.false =>
    exact .mk (k + 1) ⟨by omega, upto_succ hy gy hjk⟩ (by omega) (Wk.via [0] (by (simp only [go_sem, ↓reduceIte]) <;> trivial) (by first | (simp (maxSteps := 4000000) -implicitDefEqProofs only [go_sem, Nat.reduceAdd, Nat.reduceSub, Nat.reduceLT, Nat.reduceLeDiff, Nat.reduceEqDiff, ↓reduceIte]; done) | ((simp (maxSteps := 4000000) -implicitDefEqProofs only [go_sem, Nat.reduceAdd, Nat.reduceSub, Nat.reduceLT, Nat.reduceLeDiff, Nat.reduceEqDiff, ↓reduceIte]) <;> omega)) (by simp) (by first | (simp; done) | (simp [so]; done)) (by (simp (maxSteps := 4000000) -implicitDefEqProofs only [go_sem, Nat.reduceAdd, Nat.reduceSub, Nat.reduceLT, Nat.reduceLeDiff, Nat.reduceEqDiff, ↓reduceIte]) <;> trivial) (by first | (simp only [go_sem]; done) | ((simp (maxSteps := 4000000) -implicitDefEqProofs only [go_sem, Nat.reduceAdd, Nat.reduceSub, Nat.reduceLT, Nat.reduceLeDiff, Nat.reduceEqDiff, ↓reduceIte]) <;> omega)) (Nat.zero_le _) (fun i h => absurd h (Nat.not_lt_zero i)))
  all_goals
    have f2 : decide ((k : Int) < s.length) = false := by simp; omega
    have ns : s.any bigE = false := any_f fun j y hy => hjk j y hy (by have := some_lt hy; omega)
    simp (maxSteps := 4000000) -implicitDefEqProofs only [go_sem, n1, n2, hx, f2, w1, Option.some.injEq, forall_eq', and_true, true_and, Bool.not_true, Bool.not_false, decide_true, Nat.reduceAdd, Nat.reduceSub, Nat.reduceLT, Nat.reduceLeDiff, Nat.reduceEqDiff, ↓reduceIte]
    exact .mk (i + 1) ⟨by omega, upto_succ hx (by rw [bigS, g, ns]; rfl) hj⟩ (by omega) (Wk.via [0] (by (simp only [go_sem, ↓reduceIte]) <;> trivial) (by first | (simp (maxSteps := 4000000) -implicitDefEqProofs only [go_sem, Nat.reduceAdd, Nat.reduceSub, Nat.reduceLT, Nat.reduceLeDiff, Nat.reduceEqDiff, ↓reduceIte]; done) | ((simp (maxSteps := 4000000) -implicitDefEqProofs only [go_sem, Nat.reduceAdd, Nat.reduceSub, Nat.reduceLT, Nat.reduceLeDiff, Nat.reduceEqDiff, ↓reduceIte]) <;> omega)) (by simp) (by first | (simp; done) | (simp [so]; done)) (by (simp (maxSteps := 4000000) -implicitDefEqProofs only [go_sem, Nat.reduceAdd, Nat.reduceSub, Nat.reduceLT, Nat.reduceLeDiff, Nat.reduceEqDiff, ↓reduceIte]) <;> trivial) (by first | (simp only [go_sem]; done) | ((simp (maxSteps := 4000000) -implicitDefEqProofs only [go_sem, Nat.reduceAdd, Nat.reduceSub, Nat.reduceLT, Nat.reduceLeDiff, Nat.reduceEqDiff, ↓reduceIte]) <;> omega)) (Nat.zero_le _) (fun i h => absurd h (Nat.not_lt_zero i)))
end Go.AX.Lg
/- Ledgers: the chapter's example. -/
set_option maxHeartbeats 8000000
set_option linter.unusedVariables false
set_option linter.unusedSimpArgs false
set_option maxRecDepth 20000
namespace Go.AX.Lg
open Go.Proofs Go.RowKit Go.IntWalk Go.AX.Br
def sMain : ByteArray := ⟨#[109, 97, 105, 110]⟩
def sR1 : ByteArray := ⟨#[114, 49]⟩
def sFix : ByteArray := ⟨#[102, 105, 120]⟩
def sFix2 : ByteArray := ⟨#[102, 105, 120, 45, 50]⟩
def sOther : ByteArray := ⟨#[111, 116, 104, 101, 114]⟩
def exG : Lg := ⟨[⟨sFix, 3⟩, ⟨sFix2, 3⟩, ⟨sOther, 0⟩], [⟨sMain, ⟨#[]⟩, 0⟩, ⟨sR1, sMain, 1⟩], [[⟨1, sFix⟩, ⟨1, sOther⟩], [⟨3, sFix⟩]]⟩
end Go.AX.Lg

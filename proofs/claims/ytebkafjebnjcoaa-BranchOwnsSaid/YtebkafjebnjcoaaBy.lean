/- BranchOwns: whatever the input, the law returns true, and its arguments read as they did. No condition. -/
import Derived.Test.YtebkafjebnjcoaaBx
set_option maxHeartbeats 8000000
set_option linter.unusedVariables false
set_option linter.unusedSimpArgs false
set_option maxRecDepth 20000
namespace Go.AX.Br
open Go.Proofs Go.RowKit Go.IntWalk
theorem viewR_idx {l : List Br} {cs : List Int} (h : fits l cs = 0) {j : Nat} {nm : ByteArray} {f : List Mk} (hj : idx (has nm) l = j) (hf : (vw l cs)[j]? = some f) : viewR l cs nm = (f, 0) := by
  simp only [viewR]; rw [if_neg (by omega), if_neg (by omega), hj]; simp [List.getD_eq_getElem?_getD, hf]
theorem hasL_pre (V : List (List Mk)) (l : List Br) (m : Mk) (i : Nat) : ∀ n, i ≤ n → ∃ r, hasL V l m n = hasL V l m i ++ r
  | 0, h => by
    have : i = 0 := by omega
    subst this; exact ⟨[], by simp⟩
  | n + 1, h => by
    rcases Nat.lt_or_ge n i with q | q
    · have : i = n + 1 := by omega
      subst this; exact ⟨[], by simp⟩
    · obtain ⟨r, hr⟩ := hasL_pre V l m i n q
      simp only [hasL]
      rw [hr]
      exact ⟨r ++ _, List.append_assoc _ _ _⟩
theorem hasL_at {V : List (List Mk)} {l : List Br} {m : Mk} {i : Nat} {x : Br} {v : List Mk} (hi : i < l.length) (hx : l[i]? = some x) (hv : V[i]? = some v) (hm : m ∈ v) : (hasL V l m l.length)[(hasL V l m i).length]? = some x.name := by
  obtain ⟨r, hr⟩ := hasL_pre V l m (i + 1) l.length hi
  have : hasL V l m (i + 1) = hasL V l m i ++ [x.name] := by
    simp only [hasL, List.getD_eq_getElem?_getD, hv, hx, Option.getD_some, Option.map_some, if_pos hm]
  rw [hr, this, List.append_assoc, List.getElem?_append_right (Nat.le_refl _)]
  simp
theorem countP_one {m : Mk} : ∀ {v : List Mk}, (∀ (p q : Nat), v[p]? = some m → v[q]? = some m → p = q) → v.countP (fun z => decide (z = m)) = if m ∈ v then 1 else 0
  | [], _ => by simp
  | y :: v, h => by
    have ih := countP_one (m := m) (v := v) fun p q hp hq => by have := h (p + 1) (q + 1) (by simpa using hp) (by simpa using hq); omega
    rw [List.countP_cons, ih]
    by_cases e : y = m
    · have : m ∉ v := fun hm => by
        obtain ⟨q, hq⟩ := List.mem_iff_getElem?.1 hm
        have := h 0 (q + 1) (by simp [e]) (by simpa using hq)
        omega
      simp [e, this]
    · have e' : ¬ m = y := fun h => e h.symm
      simp [e, e']
def memM (m : Mk) (v : List Mk) : Bool := v.any fun z => decide (z = m)
theorem memM_iff (m : Mk) (v : List Mk) : memM m v = decide (m ∈ v) := by
  rw [Bool.eq_iff_iff]; simp [memM]
theorem memM_succ {m z : Mk} {v : List Mk} {n : Nat} (h : v[n]? = some z) : memM m (v.take (n + 1)) = (memM m (v.take n) || decide (z = m)) := by
  rw [List.take_add_one, h]; simp [memM]
theorem own_mem {i : Nat} {c : Int} {m : Mk} : m ∈ Br.own i c ↔ m.b = i ∧ 0 ≤ m.e ∧ m.e < c := by
  simp only [own, List.mem_map, List.mem_range]
  constructor
  · rintro ⟨k, hk, rfl⟩
    exact ⟨rfl, by simp, by simp only; omega⟩
  · rintro ⟨h1, h2, h3⟩
    refine ⟨m.e.toNat, by omega, ?_⟩
    cases m
    simp only at h1 h2 h3
    simp only [Mk.mk.injEq]
    omega
theorem owns_law (l : List Br) (cs : List Int) (m : Mk) (hl : Sm l.length) (hc : Sm cs.length) : Spec Try.prog 7 [.d (.sl (l.map bD)), .d (.sl (cs.map iD)), mkA m] [] (.d (.bool true)) [] := by
  refine spec_of_ev (fn := Try.f7) DX_ok 3000 Try.func7 rfl rfl (Nat.le_of_ble_eq_true rfl) ?_
  simp (maxSteps := 4000000) -implicitDefEqProofs only [Try.f7, go_sem]
  refine ecall0 _ (alive_spec) (by simp only [go_sem]) (by simp only [go_sem]) ?_
  simp (maxSteps := 4000000) -implicitDefEqProofs only [go_sem, Nat.reduceAdd, Nat.reduceSub, Nat.reduceLT, Nat.reduceLeDiff, Nat.reduceEqDiff, ↓reduceIte]
  by_cases h1 : fits l cs = 0
  case neg =>
    have d1 : (fits l cs != 0) = true := by simp [h1]
    refine DX.plain (.take 0 false (.take 1 false (.take 2 false (.take 3 false (.take 4 false (.take 5 false (.take 6 false (.take 7 false (.take 8 false (.take 9 false (.take 10 false (.take 11 false (.take 12 false (.take 13 false (.take 14 false (.take 15 false (.take 16 false (.take 17 false (.take 18 false (.take 19 false (.take 20 false (.take 21 false (.take 22 false (.take 23 false (.take 24 false (.take 25 false (.take 26 false (.take 27 false (.take 28 false (.take 29 false (.take 30 false (.take 31 false (.take 32 false (.take 33 false (.take 34 false .done))))))))))))))))))))))))))))))))))) (by kernel_rfl) (by kernel_rfl) Ty.mixed ?_
    simp (maxSteps := 4000000) -implicitDefEqProofs only [go_sem, d1, Option.some.injEq, forall_eq', and_true, true_and, Bool.not_true, Bool.not_false, decide_true, Nat.reduceAdd, Nat.reduceSub, Nat.reduceLT, Nat.reduceLeDiff, Nat.reduceEqDiff, ↓reduceIte]
    refine ⟨_, _, (fits_ref l cs hl hc).lift0 _ (by simp only [go_sem]) (by simp only [go_sem]), rfl, ?_⟩
    simp (maxSteps := 4000000) -implicitDefEqProofs only [go_sem, d1, Option.some.injEq, forall_eq', and_true, true_and, Bool.not_true, Bool.not_false, decide_true, Nat.reduceAdd, Nat.reduceSub, Nat.reduceLT, Nat.reduceLeDiff, Nat.reduceEqDiff, ↓reduceIte]
    exact wk_bool rfl
  have d1 : (fits l cs != 0) = false := by simp [h1]
  refine DX.plain (.take 0 false (.take 1 false (.take 2 false (.take 3 false (.take 4 false (.take 5 false (.take 6 false (.take 7 false (.take 8 false (.take 9 false (.take 10 false (.take 11 false (.take 12 false (.take 13 false (.take 14 false (.take 15 false (.take 16 false (.take 17 false (.take 18 false (.take 19 false (.take 20 false (.take 21 false (.take 22 false (.take 23 false (.take 24 false (.take 25 false (.take 26 false (.take 27 false (.take 28 false (.take 29 false (.take 30 false (.take 31 false (.take 32 false (.take 33 false (.take 34 false .done))))))))))))))))))))))))))))))))))) (by kernel_rfl) (by kernel_rfl) Ty.mixed ?_
  simp (maxSteps := 4000000) -implicitDefEqProofs only [go_sem, d1, Option.some.injEq, forall_eq', and_true, true_and, Bool.not_true, Bool.not_false, decide_true, Nat.reduceAdd, Nat.reduceSub, Nat.reduceLT, Nat.reduceLeDiff, Nat.reduceEqDiff, ↓reduceIte]
  refine ⟨_, _, (fits_ref l cs hl hc).lift0 _ (by simp only [go_sem]) (by simp only [go_sem]), rfl, ?_⟩
  rcases Int.lt_or_le m.b 0 with h2 | h2
  · have d2 := decide_eq_true h2
    simp (maxSteps := 4000000) -implicitDefEqProofs only [go_sem, d1, d2, Option.some.injEq, forall_eq', and_true, true_and, Bool.not_true, Bool.not_false, decide_true, Nat.reduceAdd, Nat.reduceSub, Nat.reduceLT, Nat.reduceLeDiff, Nat.reduceEqDiff, ↓reduceIte]
    exact wk_bool rfl
  have d2 := decide_eq_false (Int.not_lt.2 h2)
  rcases Int.lt_or_le m.b l.length with h3 | h3
  case inr =>
    have d3 : decide ((l.length : Int) ≤ m.b) = true := by simpa using h3
    simp (maxSteps := 4000000) -implicitDefEqProofs only [go_sem, d1, d2, d3, Option.some.injEq, forall_eq', and_true, true_and, Bool.not_true, Bool.not_false, decide_true, Nat.reduceAdd, Nat.reduceSub, Nat.reduceLT, Nat.reduceLeDiff, Nat.reduceEqDiff, ↓reduceIte]
    exact wk_bool rfl
  have d3 : decide ((l.length : Int) ≤ m.b) = false := by simpa using h3
  rcases Int.lt_or_le m.e 0 with h4 | h4
  · have d4 := decide_eq_true h4
    simp (maxSteps := 4000000) -implicitDefEqProofs only [go_sem, d1, d2, d3, d4, Option.some.injEq, forall_eq', and_true, true_and, Bool.not_true, Bool.not_false, decide_true, Nat.reduceAdd, Nat.reduceSub, Nat.reduceLT, Nat.reduceLeDiff, Nat.reduceEqDiff, ↓reduceIte]
    exact wk_bool rfl
  have d4 := decide_eq_false (Int.not_lt.2 h4)
  have g := good_of h1
  have hl8 := g.ok.len
  obtain ⟨mb, hmb⟩ : ∃ n : Nat, m.b = n := ⟨m.b.toNat, by omega⟩
  obtain ⟨c, hcm⟩ : ∃ c, cs[mb]? = some c := ⟨cs[mb]'(by have := g.len; omega), List.getElem?_eq_getElem _⟩
  have hcd : cs.getD m.b.toNat 0 = c := by rw [hmb, Int.toNat_natCast, List.getD_eq_getElem?_getD, hcm]; rfl
  have n1 : (0 ≤ m.b ∧ m.b < (cs.length : Int)) = True := eq_true (by have := g.len; omega)
  have n2 : (mb < cs.length) = True := eq_true (by have := g.len; omega)
  have n3 : m.b.toNat = mb := by omega
  rcases Int.lt_or_le m.e c with h5 | h5
  case inr =>
    have d5 : decide (c ≤ m.e) = true := by simpa using h5
    simp (maxSteps := 4000000) -implicitDefEqProofs only [go_sem, d1, d2, d3, d4, n1, n2, n3, hcm, d5, Option.some.injEq, forall_eq', and_true, true_and, Bool.not_true, Bool.not_false, decide_true, Nat.reduceAdd, Nat.reduceSub, Nat.reduceLT, Nat.reduceLeDiff, Nat.reduceEqDiff, ↓reduceIte]
    exact wk_bool rfl
  have d5 : decide (c ≤ m.e) = false := by simpa using h5
  have z0 : ((0 : Int) != 0) = false := rfl
  have hsR : hasR l cs m = (hasL (vw l cs) l m l.length, 0) := by
    unfold hasR
    rw [if_neg (by omega), if_neg (by rw [hcd]; omega)]
  have hs := has_own' l cs m hl hc
  rw [hsR] at hs
  have hnl := hasL_len (vw l cs) l m l.length
  simp (maxSteps := 4000000) -implicitDefEqProofs only [go_sem, d1, d2, d3, d4, n1, n2, n3, hcm, d5, Option.some.injEq, forall_eq', and_true, true_and, Bool.not_true, Bool.not_false, decide_true, Nat.reduceAdd, Nat.reduceSub, Nat.reduceLT, Nat.reduceLeDiff, Nat.reduceEqDiff, ↓reduceIte]
  refine ecall0 _ hs (by simp only [go_sem]) (by simp only [go_sem]) ?_
  simp (maxSteps := 4000000) -implicitDefEqProofs only [go_sem, z0, Option.some.injEq, forall_eq', and_true, true_and, Bool.not_true, Bool.not_false, decide_true, Nat.reduceAdd, Nat.reduceSub, Nat.reduceLT, Nat.reduceLeDiff, Nat.reduceEqDiff, ↓reduceIte]
  refine eloop (S := Nat) (fun i => mkE 177 [(0, .d (.sl (l.map bD))), (1, .d (.sl (cs.map iD))), (5, .ptr 0 0), (7, .d (.bool true)), (8, .d (.sl ((hasL (vw l cs) l m l.length).map sD))), (10, .d (.int .i64 (hasL (vw l cs) l m i).length)), (11, .d (.int .i64 i))]) (fun i => [.cells [.d (.int .i64 m.b), .d (.int .i64 m.e)]]) (fun i => i ≤ l.length) (fun i => l.length - i) 0 (Nat.zero_le _) (Wk.sub (by (simp only [go_sem]) <;> trivial)) ?_
  intro i hi
  have hol := hasL_len (vw l cs) l m i
  rcases Nat.lt_or_ge i l.length with q | q
  case inr =>
    have f1 : decide ((i : Int) < l.length) = false := by simp; omega
    have : i = l.length := by omega
    subst this
    have f2 : (((hasL (vw l cs) l m l.length).length : Int) == (hasL (vw l cs) l m l.length).length) = true := by simp
    simp (maxSteps := 4000000) -implicitDefEqProofs only [go_sem, f1, f2, Option.some.injEq, forall_eq', and_true, true_and, Bool.not_true, Bool.not_false, decide_true, Nat.reduceAdd, Nat.reduceSub, Nat.reduceLT, Nat.reduceLeDiff, Nat.reduceEqDiff, ↓reduceIte]
    exact wk_bool rfl
  have f1 : decide ((i : Int) < l.length) = true := by simp; omega
  obtain ⟨x, hx⟩ : ∃ x, l[i]? = some x := ⟨l[i]'(by omega), List.getElem?_eq_getElem _⟩
  obtain ⟨ci, hci⟩ : ∃ x, cs[i]? = some x := ⟨cs[i]'(by have := g.len; omega), List.getElem?_eq_getElem _⟩
  obtain ⟨v, hv⟩ := good_view g q
  have hvl := fit_len g.ok g.fit hx hci hv
  have hgx := g.ok.good _ _ hx
  have hgc := g.cnt ci (List.mem_of_getElem? hci)
  have m1 : (0 ≤ (i : Int) ∧ (i : Int) < l.length) = True := eq_true (by omega)
  have m1' : (i < l.length) = True := eq_true (by omega)
  have w1 : IntKind.i64.wrap ((i : Int) + 1) = i + 1 := i64_in _ (by omega)
  have nx : hasL (vw l cs) l m (i + 1) = hasL (vw l cs) l m i ++ if m ∈ v then [x.name] else [] := by
    simp only [hasL, List.getD_eq_getElem?_getD, hv, hx, Option.getD_some, Option.map_some]
  have hat := fun h => hasL_at (m := m) q hx hv h
  have hlt : m ∈ v → (hasL (vw l cs) l m i).length < (hasL (vw l cs) l m l.length).length := fun h => some_lt (hat h)
  have hone := countP_one (m := m) (v := v) fun p q' hp hq => (shared g hv hv hp hq).1
  have mci : m.b = i → m.e < ci := fun e => by
    have : mb = i := by omega
    subst this; rw [hci] at hcm; cases hcm; exact h5
  have vx := View_own l cs x.name hl hc
  rw [viewR_at' h1 hx hv] at vx
  obtain ⟨told, htold⟩ : ∃ t, t = (hasL (vw l cs) l m i).length := ⟨_, rfl⟩
  rw [← htold] at hat hlt hol
  have nxl : (hasL (vw l cs) l m (i + 1)).length = told + if m ∈ v then 1 else 0 := by rw [nx, List.length_append, htold]; split <;> simp
  rw [← htold]
  obtain ⟨names, hnames⟩ : ∃ n, n = hasL (vw l cs) l m l.length := ⟨_, rfl⟩
  rw [← hnames] at hnl hat hlt
  simp only [← hnames]
  simp (maxSteps := 4000000) -implicitDefEqProofs only [go_sem, f1, m1, hx, Option.some.injEq, forall_eq', and_true, true_and, Bool.not_true, Bool.not_false, decide_true, Nat.reduceAdd, Nat.reduceSub, Nat.reduceLT, Nat.reduceLeDiff, Nat.reduceEqDiff, ↓reduceIte]
  refine ecallN _ _ vx (by simp only [go_sem]) ?_
  simp (maxSteps := 4000000) -implicitDefEqProofs only [go_sem, z0, Option.some.injEq, forall_eq', and_true, true_and, Bool.not_true, Bool.not_false, decide_true, Nat.reduceAdd, Nat.reduceSub, Nat.reduceLT, Nat.reduceLeDiff, Nat.reduceEqDiff, ↓reduceIte]
  refine eloop (S := Nat × Nat) (fun s => mkE 177 [(0, .d (.sl (l.map bD))), (1, .d (.sl (cs.map iD))), (5, .ptr 0 0), (7, .d (.bool true)), (8, .d (.sl (names.map sD))), (10, .d (.int .i64 told)), (11, .d (.int .i64 i)), (12, .d (.sl (v.map mkD))), (14, .d (.int .i64 s.2)), (15, .d (.int .i64 s.1))]) (fun s => [.cells [.d (.int .i64 m.b), .d (.int .i64 m.e)]])
    (fun s => s.1 ≤ v.length ∧ s.2 = (v.take s.1).countP fun z => decide (z = m)) (fun s => v.length - s.1) (0, 0) ⟨Nat.zero_le _, rfl⟩ ?_ ?_
  · refine Wk.trans (Wk.frz 1 rfl) ?_
    simp (maxSteps := 4000000) -implicitDefEqProofs only [go_sem, Nat.reduceAdd, Nat.reduceSub, Nat.reduceLT, Nat.reduceLeDiff, Nat.reduceEqDiff, ↓reduceIte]
    exact (Wk.via [0] (by (simp only [go_sem, ↓reduceIte]) <;> trivial) (by simp (maxSteps := 4000000) -implicitDefEqProofs only [go_sem, Nat.reduceAdd, Nat.reduceSub, Nat.reduceLT, Nat.reduceLeDiff, Nat.reduceEqDiff, ↓reduceIte]) (by simp) (by simp) (by (simp (maxSteps := 4000000) -implicitDefEqProofs only [go_sem, Nat.reduceAdd, Nat.reduceSub, Nat.reduceLT, Nat.reduceLeDiff, Nat.reduceEqDiff, ↓reduceIte]) <;> trivial) (by simp only [go_sem]) (Nat.zero_le _) (fun i h => absurd h (Nat.not_lt_zero i)))
  rintro ⟨k, n⟩ ⟨hk, hn⟩
  simp only at hk hn ⊢
  rcases Nat.lt_or_ge k v.length with q2 | q2
  · have f2 : decide ((k : Int) < v.length) = true := by simp; omega
    obtain ⟨z, hz⟩ : ∃ x, v[k]? = some x := ⟨v[k]'(by omega), List.getElem?_eq_getElem _⟩
    have m4 : (0 ≤ (k : Int) ∧ (k : Int) < v.length) = True := eq_true (by omega)
    have m5 : (k < v.length) = True := eq_true (by omega)
    have w2 : IntKind.i64.wrap ((k : Int) + 1) = k + 1 := i64_in _ (by omega)
    have hnk : n ≤ k := by rw [hn]; exact Nat.le_trans List.countP_le_length (by rw [List.length_take]; omega)
    have w3 : IntKind.i64.wrap ((n : Int) + 1) = n + 1 := i64_in _ (by clear hn; omega)
    have hn2 : (v.take (k + 1)).countP (fun z => decide (z = m)) = n + if decide (z = m) = true then 1 else 0 := by
      rw [List.take_add_one, hz, List.countP_append, hn]; simp [List.countP_cons]
    have hzm := mkD_eq z m
    simp only [mkD, deqs, deq, Bool.and_true] at hzm
    cases h6 : decide (z = m)
    · rw [h6] at hzm hn2
      simp (maxSteps := 4000000) -implicitDefEqProofs only [go_sem, f2, Option.some.injEq, forall_eq', and_true, true_and, Bool.not_true, Bool.not_false, decide_true, Nat.reduceAdd, Nat.reduceSub, Nat.reduceLT, Nat.reduceLeDiff, Nat.reduceEqDiff, ↓reduceIte]
      refine DX.plain (.take 0 false (.take 1 false (.take 2 false (.take 3 false (.take 4 false (.take 5 false .done)))))) (by kernel_rfl) (by kernel_rfl) Ty.mixed ?_
      simp (maxSteps := 4000000) -implicitDefEqProofs only [go_sem, m4, m5, hz, hzm, w2, Option.some.injEq, forall_eq', and_true, true_and, Bool.not_true, Bool.not_false, decide_true, Nat.reduceAdd, Nat.reduceSub, Nat.reduceLT, Nat.reduceLeDiff, Nat.reduceEqDiff, ↓reduceIte]
      exact .mk (k + 1, n) ⟨q2, hn2.symm⟩ (by simp only; omega) (Wk.sub (by (simp only [go_sem]) <;> trivial))
    · rw [h6] at hzm hn2
      simp (maxSteps := 4000000) -implicitDefEqProofs only [go_sem, f2, Option.some.injEq, forall_eq', and_true, true_and, Bool.not_true, Bool.not_false, decide_true, Nat.reduceAdd, Nat.reduceSub, Nat.reduceLT, Nat.reduceLeDiff, Nat.reduceEqDiff, ↓reduceIte]
      refine DX.plain (.take 0 false (.take 1 false (.take 2 false (.take 3 false (.take 4 false (.take 5 false .done)))))) (by kernel_rfl) (by kernel_rfl) Ty.mixed ?_
      simp (maxSteps := 4000000) -implicitDefEqProofs only [go_sem, m4, m5, hz, hzm, w2, w3, Option.some.injEq, forall_eq', and_true, true_and, Bool.not_true, Bool.not_false, decide_true, Nat.reduceAdd, Nat.reduceSub, Nat.reduceLT, Nat.reduceLeDiff, Nat.reduceEqDiff, ↓reduceIte]
      exact .mk (k + 1, n + 1) ⟨q2, hn2.symm⟩ (by simp only; omega) (Wk.sub (by (simp only [go_sem]) <;> trivial))
  have f2 : decide ((k : Int) < v.length) = false := by simp; omega
  rw [List.take_of_length_le q2, hone] at hn
  have w4 : IntKind.i64.wrap ((told : Int) + 1) = told + 1 := i64_in _ (by clear hn htold; omega)
  have y1 : ((1 : Int) == 1) = true := rfl
  have y2 : ((0 : Int) == 1) = false := rfl
  have y3 : decide ((1 : Int) < 1) = false := rfl
  have y4 : decide ((1 : Int) < 0) = false := rfl
  have y5 : decide (x.name = x.name) = true := by simp
  have t1 : m ∈ v → decide ((names.length : Int) ≤ told) = false := fun h => by have := hlt h; simp; omega
  have t2 : m ∈ v → (0 ≤ (told : Int) ∧ (told : Int) < names.length) = True := fun h => eq_true (by have := hlt h; omega)
  have t3 : m ∈ v → (told < names.length) = True := fun h => eq_true (hlt h)
  have nl1 : m ∈ v → (hasL (vw l cs) l m (i + 1)).length = told + 1 := fun h => by rw [nxl, if_pos h]
  have nl0 : m ∉ v → (hasL (vw l cs) l m (i + 1)).length = told := fun h => by rw [nxl, if_neg h]; rfl
  rcases Nat.eq_zero_or_pos i with h0 | h0
  · have g0 : decide (0 < (i : Int)) = false := by simp [h0]
    have hvm : (m.b == (i : Int)) = decide (m ∈ v) := by
      subst h0
      rw [g.fit.zero ci v hci hv, Bool.eq_iff_iff]
      simp only [beq_iff_eq, decide_eq_true_eq, own_mem]
      exact ⟨fun e => ⟨e, h4, mci e⟩, fun e => e.1⟩
    by_cases hin : m ∈ v
    · rw [if_pos hin] at hn
      rw [decide_eq_true hin] at hvm
      subst hn
      have t1 := t1 hin
      have t2 := t2 hin
      have t3 := t3 hin
      have hat := hat hin
      simp (maxSteps := 4000000) -implicitDefEqProofs only [go_sem, f2, g0, hvm, y1, y3, Int.natCast_one, Option.some.injEq, forall_eq', and_true, true_and, Bool.not_true, Bool.not_false, decide_true, Nat.reduceAdd, Nat.reduceSub, Nat.reduceLT, Nat.reduceLeDiff, Nat.reduceEqDiff, ↓reduceIte]
      refine DX.plain (.take 0 false (.take 1 false (.take 2 false (.take 3 false (.take 4 false (.take 5 false (.take 6 false (.take 7 false (.take 8 false (.take 9 false (.take 10 false (.take 11 false (.take 12 false (.take 13 false (.take 14 false (.take 15 false .done)))))))))))))))) (by kernel_rfl) (by kernel_rfl) Ty.mixed ?_
      simp (maxSteps := 4000000) -implicitDefEqProofs only [go_sem, t1, t2, t3, hat, m1, m1', hx, y5, w4, w1, Option.some.injEq, forall_eq', and_true, true_and, Bool.not_true, Bool.not_false, decide_true, Nat.reduceAdd, Nat.reduceSub, Nat.reduceLT, Nat.reduceLeDiff, Nat.reduceEqDiff, ↓reduceIte]
      exact .mk (i + 1) q (by omega) (by rw [nl1 hin]; exact (Wk.sub (by (simp only [go_sem]) <;> trivial)))
    · rw [if_neg hin] at hn
      rw [decide_eq_false hin] at hvm
      subst hn
      simp (maxSteps := 4000000) -implicitDefEqProofs only [go_sem, f2, g0, hvm, y2, y4, Int.natCast_zero, w1, Option.some.injEq, forall_eq', and_true, true_and, Bool.not_true, Bool.not_false, decide_true, Nat.reduceAdd, Nat.reduceSub, Nat.reduceLT, Nat.reduceLeDiff, Nat.reduceEqDiff, ↓reduceIte]
      exact .mk (i + 1) q (by omega) (by rw [nl0 hin]; exact (Wk.sub (by (simp only [go_sem]) <;> trivial)))
  · have g0 : decide (0 < (i : Int)) = true := by simp; omega
    obtain ⟨j, f, j1, j2, j3, j4, j5⟩ := g.fit.step i x ci v h0 hx hci hv
    have hfx := View_own l cs x.frm hl hc
    rw [viewR_idx h1 j2 j3] at hfx
    obtain ⟨cj, hcj⟩ : ∃ x, cs[j]? = some x := ⟨cs[j]'(by have := g.len; omega), List.getElem?_eq_getElem _⟩
    obtain ⟨xj, hxj⟩ : ∃ x, l[j]? = some x := ⟨l[j]'(by omega), List.getElem?_eq_getElem _⟩
    have hfl := fit_len g.ok g.fit hxj hcj j3
    have hgj := g.ok.good _ _ hxj
    have hgcj := g.cnt cj (List.mem_of_getElem? hcj)
    have hvm : ((m.b == (i : Int)) || memM m (f.take x.at'.toNat)) = decide (m ∈ v) := by
      rw [memM_iff, j5, Bool.eq_iff_iff]
      simp only [Bool.or_eq_true, beq_iff_eq, decide_eq_true_eq, List.mem_append, own_mem]
      exact ⟨fun e => e.elim (fun e => .inr ⟨e, h4, mci e⟩) .inl, fun e => e.elim .inr fun e => .inl e.1⟩
    simp (maxSteps := 4000000) -implicitDefEqProofs only [go_sem, f2, g0, m1, hx, Option.some.injEq, forall_eq', and_true, true_and, Bool.not_true, Bool.not_false, decide_true, Nat.reduceAdd, Nat.reduceSub, Nat.reduceLT, Nat.reduceLeDiff, Nat.reduceEqDiff, ↓reduceIte]
    refine ecallN _ _ hfx (by simp only [go_sem]) ?_
    simp (maxSteps := 4000000) -implicitDefEqProofs only [go_sem, z0, Option.some.injEq, forall_eq', and_true, true_and, Bool.not_true, Bool.not_false, decide_true, Nat.reduceAdd, Nat.reduceSub, Nat.reduceLT, Nat.reduceLeDiff, Nat.reduceEqDiff, ↓reduceIte]
    refine eloop (S := Nat) (fun k => mkE 177 [(0, .d (.sl (l.map bD))), (1, .d (.sl (cs.map iD))), (5, .ptr 0 0), (7, .d (.bool true)), (8, .d (.sl (names.map sD))), (10, .d (.int .i64 told)), (11, .d (.int .i64 i)), (14, .d (.int .i64 n)), (16, .d (.bool ((m.b == (i : Int)) || memM m (f.take k)))), (17, .d (.sl (f.map mkD))), (19, .d (.int .i64 k))]) (fun s => [.cells [.d (.int .i64 m.b), .d (.int .i64 m.e)]])
      (fun k => k ≤ x.at'.toNat) (fun k => f.length - k) 0 (Nat.zero_le _) ?_ ?_
    · have e0 : ((m.b == (i : Int)) || memM m (f.take 0)) = (m.b == (i : Int)) := by simp [memM]
      rw [e0]
      refine Wk.trans (Wk.frz 1 rfl) ?_
      simp (maxSteps := 4000000) -implicitDefEqProofs only [go_sem, Nat.reduceAdd, Nat.reduceSub, Nat.reduceLT, Nat.reduceLeDiff, Nat.reduceEqDiff, ↓reduceIte]
      exact (Wk.via [0] (by (simp only [go_sem, ↓reduceIte]) <;> trivial) (by simp (maxSteps := 4000000) -implicitDefEqProofs only [go_sem, Nat.reduceAdd, Nat.reduceSub, Nat.reduceLT, Nat.reduceLeDiff, Nat.reduceEqDiff, ↓reduceIte]) (by simp) (by simp) (by (simp (maxSteps := 4000000) -implicitDefEqProofs only [go_sem, Nat.reduceAdd, Nat.reduceSub, Nat.reduceLT, Nat.reduceLeDiff, Nat.reduceEqDiff, ↓reduceIte]) <;> trivial) (by simp only [go_sem]) (Nat.zero_le _) (fun i h => absurd h (Nat.not_lt_zero i)))
    intro k hk
    rcases Nat.lt_or_ge k x.at'.toNat with q3 | q3
    · have f3 : decide ((k : Int) < f.length) = true := by simp; omega
      have f4 : decide ((k : Int) < x.at') = true := by simp; omega
      obtain ⟨z, hz⟩ : ∃ x, f[k]? = some x := ⟨f[k]'(by omega), List.getElem?_eq_getElem _⟩
      have m4 : (0 ≤ (k : Int) ∧ (k : Int) < f.length) = True := eq_true (by omega)
      have m5 : (k < f.length) = True := eq_true (by omega)
      have w2 : IntKind.i64.wrap ((k : Int) + 1) = k + 1 := i64_in _ (by omega)
      have hzm := mkD_eq z m
      simp only [mkD, deqs, deq, Bool.and_true] at hzm
      have ns := memM_succ (m := m) hz
      cases h7 : (m.b == (i : Int)) || memM m (f.take k)
      · have e2 : ((m.b == (i : Int)) || memM m (f.take (k + 1))) = decide (z = m) := by
          rw [ns, ← Bool.or_assoc, h7, Bool.false_or]
        cases h8 : decide (z = m)
        · rw [h8] at hzm e2
          simp (maxSteps := 4000000) -implicitDefEqProofs only [go_sem, f3, f4, m1, hx, Option.some.injEq, forall_eq', and_true, true_and, Bool.not_true, Bool.not_false, decide_true, Nat.reduceAdd, Nat.reduceSub, Nat.reduceLT, Nat.reduceLeDiff, Nat.reduceEqDiff, ↓reduceIte]
          refine DX.plain (.take 0 false (.take 1 false (.take 2 false (.take 3 false (.take 4 false (.take 5 false (.take 6 false (.take 7 false (.take 8 false (.take 9 false .done)))))))))) (by kernel_rfl) (by kernel_rfl) Ty.mixed ?_
          simp (maxSteps := 4000000) -implicitDefEqProofs only [go_sem, m4, m5, hz, hzm, w2, Option.some.injEq, forall_eq', and_true, true_and, Bool.not_true, Bool.not_false, decide_true, Nat.reduceAdd, Nat.reduceSub, Nat.reduceLT, Nat.reduceLeDiff, Nat.reduceEqDiff, ↓reduceIte]
          exact .mk (k + 1) q3 (by omega) (by rw [e2]; exact (Wk.sub (by (simp only [go_sem]) <;> trivial)))
        · rw [h8] at hzm e2
          simp (maxSteps := 4000000) -implicitDefEqProofs only [go_sem, f3, f4, m1, hx, Option.some.injEq, forall_eq', and_true, true_and, Bool.not_true, Bool.not_false, decide_true, Nat.reduceAdd, Nat.reduceSub, Nat.reduceLT, Nat.reduceLeDiff, Nat.reduceEqDiff, ↓reduceIte]
          refine DX.plain (.take 0 false (.take 1 false (.take 2 false (.take 3 false (.take 4 false (.take 5 false (.take 6 false (.take 7 false (.take 8 false (.take 9 false .done)))))))))) (by kernel_rfl) (by kernel_rfl) Ty.mixed ?_
          simp (maxSteps := 4000000) -implicitDefEqProofs only [go_sem, m4, m5, hz, hzm, w2, Option.some.injEq, forall_eq', and_true, true_and, Bool.not_true, Bool.not_false, decide_true, Nat.reduceAdd, Nat.reduceSub, Nat.reduceLT, Nat.reduceLeDiff, Nat.reduceEqDiff, ↓reduceIte]
          exact .mk (k + 1) q3 (by omega) (by rw [e2]; exact (Wk.sub (by (simp only [go_sem]) <;> trivial)))
      · have e2 : ((m.b == (i : Int)) || memM m (f.take (k + 1))) = true := by
          rw [ns, ← Bool.or_assoc, h7, Bool.true_or]
        simp (maxSteps := 4000000) -implicitDefEqProofs only [go_sem, f3, f4, m1, hx, Option.some.injEq, forall_eq', and_true, true_and, Bool.not_true, Bool.not_false, decide_true, Nat.reduceAdd, Nat.reduceSub, Nat.reduceLT, Nat.reduceLeDiff, Nat.reduceEqDiff, ↓reduceIte]
        refine DX.plain (.take 0 false (.take 1 false (.take 2 false (.take 3 false (.take 4 false (.take 5 false (.take 6 false (.take 7 false (.take 8 false (.take 9 false .done)))))))))) (by kernel_rfl) (by kernel_rfl) Ty.mixed ?_
        simp (maxSteps := 4000000) -implicitDefEqProofs only [go_sem, m4, w2, Option.some.injEq, forall_eq', and_true, true_and, Bool.not_true, Bool.not_false, decide_true, Nat.reduceAdd, Nat.reduceSub, Nat.reduceLT, Nat.reduceLeDiff, Nat.reduceEqDiff, ↓reduceIte]
        exact .mk (k + 1) q3 (by omega) (by rw [e2]; exact (Wk.sub (by (simp only [go_sem]) <;> trivial)))
    have ek : k = x.at'.toNat := by omega
    subst ek
    rw [hvm]
    have f4 : decide ((x.at'.toNat : Int) < x.at') = false := by simp; omega
    rcases Nat.lt_or_ge x.at'.toNat f.length with q4 | q4
    · have f3 : decide ((x.at'.toNat : Int) < f.length) = true := by simp; omega
      by_cases hin : m ∈ v
      · rw [if_pos hin] at hn
        rw [decide_eq_true hin]
        subst hn
        have t1 := t1 hin
        have t2 := t2 hin
        have t3 := t3 hin
        have hat := hat hin
        simp (maxSteps := 4000000) -implicitDefEqProofs only [go_sem, f3, f4, m1, hx, y1, y3, Int.natCast_one, Option.some.injEq, forall_eq', and_true, true_and, Bool.not_true, Bool.not_false, decide_true, Nat.reduceAdd, Nat.reduceSub, Nat.reduceLT, Nat.reduceLeDiff, Nat.reduceEqDiff, ↓reduceIte]
        refine DX.plain (.take 0 false (.take 1 false (.take 2 false (.take 3 false (.take 4 false (.take 5 false (.take 6 false (.take 7 false (.take 8 false (.take 9 false (.take 10 false (.take 11 false (.take 12 false (.take 13 false (.take 14 false (.take 15 false .done)))))))))))))))) (by kernel_rfl) (by kernel_rfl) Ty.mixed ?_
        simp (maxSteps := 4000000) -implicitDefEqProofs only [go_sem, t1, t2, t3, hat, m1, m1', hx, y5, w4, w1, Option.some.injEq, forall_eq', and_true, true_and, Bool.not_true, Bool.not_false, decide_true, Nat.reduceAdd, Nat.reduceSub, Nat.reduceLT, Nat.reduceLeDiff, Nat.reduceEqDiff, ↓reduceIte]
        exact .mk (i + 1) q (by omega) (by rw [nl1 hin]; exact (Wk.sub (by (simp only [go_sem]) <;> trivial)))
      · rw [if_neg hin] at hn
        rw [decide_eq_false hin]
        subst hn
        simp (maxSteps := 4000000) -implicitDefEqProofs only [go_sem, f3, f4, m1, hx, y2, y4, Int.natCast_zero, w1, Option.some.injEq, forall_eq', and_true, true_and, Bool.not_true, Bool.not_false, decide_true, Nat.reduceAdd, Nat.reduceSub, Nat.reduceLT, Nat.reduceLeDiff, Nat.reduceEqDiff, ↓reduceIte]
        exact .mk (i + 1) q (by omega) (by rw [nl0 hin]; exact (Wk.sub (by (simp only [go_sem]) <;> trivial)))
    · have f3 : decide ((x.at'.toNat : Int) < f.length) = false := by simp; omega
      by_cases hin : m ∈ v
      · rw [if_pos hin] at hn
        rw [decide_eq_true hin]
        subst hn
        have t1 := t1 hin
        have t2 := t2 hin
        have t3 := t3 hin
        have hat := hat hin
        simp (maxSteps := 4000000) -implicitDefEqProofs only [go_sem, f3, y1, y3, Int.natCast_one, Option.some.injEq, forall_eq', and_true, true_and, Bool.not_true, Bool.not_false, decide_true, Nat.reduceAdd, Nat.reduceSub, Nat.reduceLT, Nat.reduceLeDiff, Nat.reduceEqDiff, ↓reduceIte]
        refine DX.plain (.take 0 false (.take 1 false (.take 2 false (.take 3 false (.take 4 false (.take 5 false (.take 6 false (.take 7 false (.take 8 false (.take 9 false (.take 10 false (.take 11 false (.take 12 false (.take 13 false (.take 14 false (.take 15 false .done)))))))))))))))) (by kernel_rfl) (by kernel_rfl) Ty.mixed ?_
        simp (maxSteps := 4000000) -implicitDefEqProofs only [go_sem, t1, t2, t3, hat, m1, m1', hx, y5, w4, w1, Option.some.injEq, forall_eq', and_true, true_and, Bool.not_true, Bool.not_false, decide_true, Nat.reduceAdd, Nat.reduceSub, Nat.reduceLT, Nat.reduceLeDiff, Nat.reduceEqDiff, ↓reduceIte]
        exact .mk (i + 1) q (by omega) (by rw [nl1 hin]; exact (Wk.sub (by (simp only [go_sem]) <;> trivial)))
      · rw [if_neg hin] at hn
        rw [decide_eq_false hin]
        subst hn
        simp (maxSteps := 4000000) -implicitDefEqProofs only [go_sem, f3, y2, y4, Int.natCast_zero, w1, Option.some.injEq, forall_eq', and_true, true_and, Bool.not_true, Bool.not_false, decide_true, Nat.reduceAdd, Nat.reduceSub, Nat.reduceLT, Nat.reduceLeDiff, Nat.reduceEqDiff, ↓reduceIte]
        exact .mk (i + 1) q (by omega) (by rw [nl0 hin]; exact (Wk.sub (by (simp only [go_sem]) <;> trivial)))
end Go.AX.Br
namespace Go.Proofs.Ytebkafjebnjcoaa
open Go.AX Go.AX.Br Go.RowKit
set_option maxRecDepth 100000 in
theorem branchOwns_lifted (os : Os) (started : os.Started) (H : Type) (enc : TypeId × Value → H) :
    ReturnsInHanded {} Try.checked os 7 .any (Rows.branchOwnsSpec.pre6 enc Try.prog Try.f7 Rows.branchOwnsRow.domain false) (Rows.branchOwnsSpec.post enc Try.prog Try.f7 false true false false) := by
  refine Go.AX.lifted (C := Try.checked) (f := 7) (fn := Try.f7) (s := Rows.branchOwnsSpec) (rt := 4) (n := 8) (by kernel_rfl) (by kernel_rfl) Try.func7 rfl ?_ rfl (by kernel_rfl) (by kernel_rfl) (by kernel_rfl) (by kernel_rfl) os started H enc
    (ChangeSpec.witness6 (enc := enc) (C := Try.checked) false ⟨#[], #[.slice none 0 0, .slice none 0 0, .agg #[.int .i64 0, .int .i64 0]], []⟩ 8 (by kernel_rfl) (by kernel_rfl) (by kernel_rfl) (by kernel_rfl)) ?_
  · intro H ds h
    match ds, h with
    | [a0, a1, a2], _ => rfl
  · intro xs hx
    have hp : Try.f7.params.toList = [22, 23, 45] := rfl
    rw [hp] at hx ⊢
    have i0 : isA Try.prog 22 = false := by kernel_rfl
    have i1 : isA Try.prog 23 = false := by kernel_rfl
    have i2 : isA Try.prog 45 = true := by kernel_rfl
    rcases xs with _ | ⟨d0, _ | ⟨d1, _ | ⟨d2, _ | ⟨d3, xs⟩⟩⟩⟩ <;> simp only [Tyds, and_false] at hx
    obtain ⟨k0, k1, k2, _⟩ := hx
    obtain ⟨l, rfl, hl, wl⟩ := branches_of k0
    obtain ⟨cs, rfl, hcs, wcs⟩ := ints_of k1
    obtain ⟨m, rfl, hm⟩ := mark_of k2
    simp only [avs, i0, i1, i2, dv, Bool.false_eq_true, if_false, if_true, List.headD_cons, List.map_cons, List.map_nil]
    exact owns_law l cs m hl hcs
theorem branchOwns_over : Rows.branchOwnsRow.holds Try.pinned (OpenSpec.ofChange Rows.branchOwnsSpec) :=
  OpenClaim.holds_of_wide 7 Try.f7 rfl rfl rfl rfl rfl rfl rfl ⟨rfl, rfl, rfl, rfl, rfl⟩ rfl rfl rfl rfl rfl (by kernel_rfl) Try.func7 (by kernel_rfl)
    (of_decide_eq_true (by kernel_rfl)) (by unfold Func.isWrapper; first | (rw [if_pos (by decide +kernel)]; kernel_rfl) | (rw [if_neg (by decide +kernel)]; exact ⟨rfl, rfl⟩))
    (fun os started H enc _ => branchOwns_lifted os started H enc)
/-- The row, under a short name, for the claim. -/
theorem branchOwns_holds : Rows.BranchOwnsSaid := branchOwns_over
#print axioms branchOwns_holds
end Go.Proofs.Ytebkafjebnjcoaa

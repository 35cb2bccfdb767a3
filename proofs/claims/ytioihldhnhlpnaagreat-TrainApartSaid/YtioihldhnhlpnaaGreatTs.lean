/- TrainApart: whatever the input, the law returns true, and its arguments read as they did. No condition. -/
import Derived.Test.YtioihldhnhlpnaaGreatK12
set_option maxHeartbeats 8000000
set_option linter.unusedVariables false
set_option linter.unusedSimpArgs false
set_option maxRecDepth 20000
namespace Go.AX.Tr
open Go.Proofs Go.RowKit Go.IntWalk Go.AX.Br Go.AX.Lg Go.AX.Qu Go.AX.Wn
theorem at_has2 {t : Tr} {i : Nat} {x : Br} (hx : t.lg.br[i]? = some x) : 0 ≤ idx (has x.name) t.lg.br := (idx_le hx (p := has x.name) (by simp [has])).1
theorem iEqI (x y : Int) : (x == y) = decide (x = y) := by rw [Bool.eq_iff_iff]; simp
theorem iBne (a b : Int) : (a != b) = !(a == b) := rfl
theorem sameIs_ref (a b : List Int) (ha : Sm a.length) : Spec Tryz.prog 31 [.d (.sl (a.map iD)), .d (.sl (b.map iD))] [] (.d (.bool (decide (a = b)))) [] := by
  unfold Sm at ha
  refine spec_of_ev (fn := Tryz.f31) DX_ok 3000 Tryz.func31 rfl rfl (Nat.le_of_ble_eq_true rfl) ?_
  simp (maxSteps := 4000000) -implicitDefEqProofs only [Tryz.f31, go_sem]
  by_cases h1 : a.length = b.length
  · have d1 : ((a.length : Int) != b.length) = false := by simp [h1]
    simp (maxSteps := 4000000) -implicitDefEqProofs only [go_sem, d1, Option.some.injEq, forall_eq', and_true, true_and, Bool.not_true, Bool.not_false, decide_true, Nat.reduceAdd, Nat.reduceSub, Nat.reduceLT, Nat.reduceLeDiff, Nat.reduceEqDiff, ↓reduceIte]
    refine eloop (S := Nat) (fun i => mkE 26 [(0, .d (.sl (a.map iD))), (1, .d (.sl (b.map iD))), (5, .d (.int .i64 i))]) (fun i => []) (fun i => i ≤ a.length ∧ ∀ j x, a[j]? = some x → j < i → b[j]? = some x) (fun i => a.length - i) 0 ⟨by omega, by omega⟩ (Wk.sub (by (simp only [go_sem]) <;> trivial)) ?_
    rintro i ⟨hi, hj⟩
    rcases Nat.lt_or_ge i a.length with h2 | h2
    · have d2 : decide ((i : Int) < a.length) = true := by simp; omega
      obtain ⟨x, hx⟩ : ∃ x, a[i]? = some x := ⟨a[i]'(by omega), List.getElem?_eq_getElem _⟩
      obtain ⟨y, hy⟩ : ∃ x, b[i]? = some x := ⟨b[i]'(by omega), List.getElem?_eq_getElem _⟩
      have n1 : (0 ≤ (i : Int) ∧ (i : Int) < a.length) = True := eq_true (by omega)
      have n2 : (0 ≤ (i : Int) ∧ (i : Int) < b.length) = True := eq_true (by omega)
      have n3 : (i < a.length) = True := eq_true (by omega)
      have n4 : (i < b.length) = True := eq_true (by omega)
      have w1 : IntKind.i64.wrap ((i : Int) + 1) = i + 1 := i64_in _ (by omega)
      by_cases h3 : x = y
      · have hxy := (iEqI x y).trans (decide_eq_true h3)
        simp (maxSteps := 4000000) -implicitDefEqProofs only [go_sem, d2, Option.some.injEq, forall_eq', and_true, true_and, Bool.not_true, Bool.not_false, decide_true, Nat.reduceAdd, Nat.reduceSub, Nat.reduceLT, Nat.reduceLeDiff, Nat.reduceEqDiff, ↓reduceIte]
        refine DX.plain (.take 0 false (.take 1 false (.take 2 false (.take 3 false (.take 4 false (.take 5 false (.take 6 false (.take 7 false (.take 8 false .done))))))))) (by kernel_rfl) (by kernel_rfl) Ty.mixed ?_
        simp (maxSteps := 4000000) -implicitDefEqProofs only [go_sem, n1, n2, n3, n4, hx, hy, hxy, w1, iBne, Option.some.injEq, forall_eq', and_true, true_and, Bool.not_true, Bool.not_false, decide_true, Nat.reduceAdd, Nat.reduceSub, Nat.reduceLT, Nat.reduceLeDiff, Nat.reduceEqDiff, ↓reduceIte]
        exact .mk (i + 1) ⟨by omega, upto_succ hx (by rw [h3]; exact hy) hj⟩ (by omega) (Wk.sub (by (simp only [go_sem]) <;> trivial))
      · have hxy := (iEqI x y).trans (decide_eq_false h3)
        simp (maxSteps := 4000000) -implicitDefEqProofs only [go_sem, d2, Option.some.injEq, forall_eq', and_true, true_and, Bool.not_true, Bool.not_false, decide_true, Nat.reduceAdd, Nat.reduceSub, Nat.reduceLT, Nat.reduceLeDiff, Nat.reduceEqDiff, ↓reduceIte]
        refine DX.plain (.take 0 false (.take 1 false (.take 2 false (.take 3 false (.take 4 false (.take 5 false (.take 6 false (.take 7 false (.take 8 false .done))))))))) (by kernel_rfl) (by kernel_rfl) Ty.mixed ?_
        simp (maxSteps := 4000000) -implicitDefEqProofs only [go_sem, n1, n2, n3, n4, hx, hy, hxy, iBne, Option.some.injEq, forall_eq', and_true, true_and, Bool.not_true, Bool.not_false, decide_true, Nat.reduceAdd, Nat.reduceSub, Nat.reduceLT, Nat.reduceLeDiff, Nat.reduceEqDiff, ↓reduceIte]
        refine wk_bool (decide_eq_false fun e => h3 ?_).symm
        subst e; rw [hx] at hy; exact Option.some.inj hy
    · have d2 : decide ((i : Int) < a.length) = false := by simp; omega
      simp (maxSteps := 4000000) -implicitDefEqProofs only [go_sem, d2, Option.some.injEq, forall_eq', and_true, true_and, Bool.not_true, Bool.not_false, decide_true, Nat.reduceAdd, Nat.reduceSub, Nat.reduceLT, Nat.reduceLeDiff, Nat.reduceEqDiff, ↓reduceIte]
      refine wk_bool (decide_eq_true ?_).symm
      refine List.ext_getElem? fun j => ?_
      rcases Nat.lt_or_ge j a.length with q | q
      · have hx := List.getElem?_eq_getElem q
        rw [hx]; exact (hj j _ hx (by omega)).symm
      · rw [List.getElem?_eq_none q, List.getElem?_eq_none (by omega)]
  · have d1 : ((a.length : Int) != b.length) = true := by simp; omega
    simp (maxSteps := 4000000) -implicitDefEqProofs only [go_sem, d1, Option.some.injEq, forall_eq', and_true, true_and, Bool.not_true, Bool.not_false, decide_true, Nat.reduceAdd, Nat.reduceSub, Nat.reduceLT, Nat.reduceLeDiff, Nat.reduceEqDiff, ↓reduceIte]
    exact wk_bool (decide_eq_false fun e => h1 (by rw [e])).symm

/-- what a pick did -/
theorem pick_eff {t : Tr} {i j : Nat} {x : Br} {r : Rq} {l' : Lg} (o : TOk t) (hx : t.lg.br[i]? = some x) (hj : t.q[j]? = some r) (hr : r.br = x.name) (h : appR t.lg r.br ⟨2, r.ch⟩ = (l', 0)) :
    ∃ (c : Nat) (X : List Int), classR t.lg r.ch = c ∧ classR l' r.ch = c ∧ effR t.lg x.name = (X, 0) ∧ X.length ≤ 30 ∧ (∃ Y, effR l' x.name = (Y, 0) ∧ Y.length = X.length + 1 ∧ inI Y c = true ∧ Y.length ≤ 30) ∧
      ∀ (k : Nat) (y : Br), t.lg.br[k]? = some y → k ≠ i → ∃ Z, effR t.lg y.name = (Z, 0) ∧ effR l' y.name = (Z, 0) ∧ Z.length ≤ 30 := by
  obtain ⟨i', x', s, v, c, m, k, p, h40, hin, rfl⟩ := app_ok o.lo (o.qk r (List.mem_of_getElem? hj)) h
  have e1 : idx (has x.name) t.lg.br = i := o.lo.tab.g.ok.name i x hx
  have e2 := p.hi
  rw [hr, e1] at e2
  have : i' = i := by omega
  subst this
  have hxx : x' = x := by have := p.a.hx; rw [hx] at this; exact (Option.some.inj this).symm
  subst hxx
  have hal : allR t.lg (preE t.lg i' ++ s) ⟨2, r.ch⟩ = 0 := by simp only [allR, p.hcr, hin]; simp
  obtain ⟨k1, k2, -⟩ := add_ok o.lo p.a (e := ⟨2, r.ch⟩) h40 p.hc hal
  obtain ⟨t1, t2, t3⟩ := all_turn (e := ⟨2, r.ch⟩) p.hc hal
  have kmn : (addE t.lg i' ⟨2, r.ch⟩).kn = t.lg.kn := rfl
  obtain ⟨S, hS⟩ : ∃ S, S = preE t.lg i' ++ s := ⟨_, rfl⟩
  have ex := o.lo.eff p.a
  have ey := k2 i' x' s v p.a
  rw [if_pos rfl, ← List.append_assoc, ← hS] at ey
  rw [← hS] at ex t1 t2 t3
  have hd : ∀ d : Nat, inR t.lg S d = (inR t.lg (S ++ [⟨2, r.ch⟩]) d && !decide ((d : Int) = c)) := fun d => by
    by_cases q : d = c
    · subst q; rw [t3, t1]; simp
    · rw [t2 d q, decide_eq_false (by omega)]; simp
  have ht : inR t.lg (S ++ [⟨2, r.ch⟩]) c = true := by rw [t3]; rfl
  have hl := effN_one hd ht 30
  rw [if_pos p.hc30] at hl
  refine ⟨c, effL t.lg S, p.hcr, ?_, ex, effN_len _ _ _, ⟨effL t.lg (S ++ [⟨2, r.ch⟩]), ey, by unfold effL; exact hl, by rw [effL_in p.hc30]; exact ht, effN_len _ _ _⟩, fun k y hy hk => ?_⟩
  · unfold classR; rw [kn_classN kmn]; exact p.hcr
  · obtain ⟨y', u, w, b⟩ := at_of o.lo.tab (some_lt hy)
    have : y' = y := by have := b.hx; rw [hy] at this; exact (Option.some.inj this).symm
    subst this
    have := k2 k y' u w b
    rw [if_neg hk] at this
    exact ⟨_, o.lo.eff b, this, effN_len _ _ _⟩
theorem inI_snoc {l : List Int} {n : Nat} {y c : Int} (h : l[n]? = some y) : inI (l.take (n + 1)) c = (inI (l.take n) c || (y == c)) := by
  unfold inI
  rw [List.take_add_one, h, Option.toList_some, List.any_append]; simp
theorem apart_tlaw (t : Tr) (ii tk : Int) (ht : TSm t) : Spec Tryz.prog 7 [tA t, .d (.int .i64 ii), .d (.int .i64 tk)] [] (.d (.bool true)) [] := by
  have c0 := alive_tspec
  have c1 := tgreat_ref t ht
  simp only [tA, tC] at c1
  have b1 : (!true) = false := rfl
  have b2 : (!false) = true := rfl
  refine spec_of_ev (fn := Tryz.f7) DX_ok 3000 Tryz.func7 rfl rfl (Nat.le_of_ble_eq_true rfl) ?_
  simp (maxSteps := 4000000) -implicitDefEqProofs only [Tryz.f7, go_sem, tA]
  refine ecall0 _ c0 (by simp only [go_sem]) (by simp only [go_sem]) ?_
  simp (maxSteps := 4000000) -implicitDefEqProofs only [go_sem, Nat.reduceAdd, Nat.reduceSub, Nat.reduceLT, Nat.reduceLeDiff, Nat.reduceEqDiff, ↓reduceIte]
  refine ecall0 _ c1 (by simp only [go_sem]) (by simp only [go_sem]) ?_
  cases g1 : tgreat t
  case true =>
    simp (maxSteps := 4000000) -implicitDefEqProofs only [go_sem, g1, Option.some.injEq, forall_eq', and_true, true_and, Bool.not_true, Bool.not_false, decide_true, Nat.reduceAdd, Nat.reduceSub, Nat.reduceLT, Nat.reduceLeDiff, Nat.reduceEqDiff, ↓reduceIte]
    exact wk_bool rfl
  have f := tfit_of g1
  have c2 := tcheck_ref t f.k f.b f.e f.q f.h f.c
  simp only [tA, tC] at c2
  simp (maxSteps := 4000000) -implicitDefEqProofs only [go_sem, g1, Option.some.injEq, forall_eq', and_true, true_and, Bool.not_true, Bool.not_false, decide_true, Nat.reduceAdd, Nat.reduceSub, Nat.reduceLT, Nat.reduceLeDiff, Nat.reduceEqDiff, ↓reduceIte]
  refine ecall0 _ c2 (by simp only [go_sem]) (by simp only [go_sem]) ?_
  cases g2 : (tcheck t != 0)
  case true =>
    simp (maxSteps := 4000000) -implicitDefEqProofs only [go_sem, g2, Option.some.injEq, forall_eq', and_true, true_and, Bool.not_true, Bool.not_false, decide_true, Nat.reduceAdd, Nat.reduceSub, Nat.reduceLT, Nat.reduceLeDiff, Nat.reduceEqDiff, ↓reduceIte]
    exact wk_bool rfl
  have o := tok_of (t := t) (by simpa using g2)
  cases g3 : decide (ii < 0)
  case true =>
    simp (maxSteps := 4000000) -implicitDefEqProofs only [go_sem, g2, g3, Option.some.injEq, forall_eq', and_true, true_and, Bool.not_true, Bool.not_false, decide_true, Nat.reduceAdd, Nat.reduceSub, Nat.reduceLT, Nat.reduceLeDiff, Nat.reduceEqDiff, ↓reduceIte]
    exact wk_bool rfl
  cases g4 : decide ((t.lg.br.length : Int) ≤ ii)
  case true =>
    simp (maxSteps := 4000000) -implicitDefEqProofs only [go_sem, g2, g3, g4, Option.some.injEq, forall_eq', and_true, true_and, Bool.not_true, Bool.not_false, decide_true, Nat.reduceAdd, Nat.reduceSub, Nat.reduceLT, Nat.reduceLeDiff, Nat.reduceEqDiff, ↓reduceIte]
    exact wk_bool rfl
  obtain ⟨i, rfl⟩ : ∃ n : Nat, ii = n := ⟨ii.toNat, by have := of_decide_eq_false g3; omega⟩
  have hi : i < t.lg.br.length := by have := of_decide_eq_false g4; omega
  obtain ⟨x, hx⟩ : ∃ x, t.lg.br[i]? = some x := ⟨t.lg.br[i]'hi, List.getElem?_eq_getElem _⟩
  have hb := at_has2 hx
  have fb := f.b
  have fq := f.q
  have n1 : (0 ≤ (i : Int) ∧ (i : Int) < t.lg.br.length) = True := eq_true (by omega)
  have n2 : (i < t.lg.br.length) = True := eq_true (by omega)
  have c4 := first_ref t.q x.name (by unfold Sm; omega)
  have c5 := Step_own t x.name tk f
  have z0 : ((0 : Int) != 0) = false := rfl
  have y0 : ((0 : Int) == 0) = true := rfl
  simp only [tA, tC] at c5
  simp (maxSteps := 4000000) -implicitDefEqProofs only [go_sem, g2, g3, g4, b1, n1, n2, hx, Option.some.injEq, forall_eq', and_true, true_and, Bool.not_true, Bool.not_false, decide_true, Nat.reduceAdd, Nat.reduceSub, Nat.reduceLT, Nat.reduceLeDiff, Nat.reduceEqDiff, ↓reduceIte]
  refine ecall0 _ c4 (by simp only [go_sem]) (by simp only [go_sem]) ?_
  by_cases he : (stepR t x.name tk).2.2 = 0
  case neg =>
    have e0 : (stepR t x.name tk).1 = t0 := by rw [step_no he]
    have d0 : ((stepR t x.name tk).2.2 != 0) = true := by simpa using he
    have zl : (((([] : List D).length : Nat) : Int) == 0) = true := rfl
    rw [e0] at c5
    obtain ⟨E, hE⟩ : ∃ E, E = (stepR t x.name tk).2 := ⟨_, rfl⟩
    rw [← hE] at c5 d0
    simp only [t0, lg0] at c5
    simp (maxSteps := 4000000) -implicitDefEqProofs only [go_sem, Nat.reduceAdd, Nat.reduceSub, Nat.reduceLT, Nat.reduceLeDiff, Nat.reduceEqDiff, ↓reduceIte]
    refine ecall0 _ c5 (by simp only [go_sem]) (by simp only [go_sem]) ?_
    simp (maxSteps := 4000000) -implicitDefEqProofs only [go_sem, d0, zl, y0, Option.some.injEq, forall_eq', and_true, true_and, Bool.not_true, Bool.not_false, decide_true, Nat.reduceAdd, Nat.reduceSub, Nat.reduceLT, Nat.reduceLeDiff, Nat.reduceEqDiff, ↓reduceIte]
    try exact wk_bool rfl
  obtain ⟨-, j, r, l', e1, hj, hrb, -, kn, -, -, -, es, hl⟩ := step_ok he
  obtain ⟨oA, bA⟩ := step_tok he
  have fA := step_fit f he
  have z6 := fun hp : outR t r = 5 => pick_eff (x := x) o hx hj hrb (by
    rcases hl with ⟨-, h⟩ | ⟨h, -⟩
    · exact h
    · exact absurd hp h)
  have bS := bA
  rw [es] at c5 oA bA fA bS
  obtain ⟨s, hs⟩ : ∃ s, s = outR t r := ⟨_, rfl⟩
  rw [← hs] at c5 oA bA fA hl z6
  have hc3 : outcR t j = (s, 0) := by
    unfold outcR
    rw [if_neg (by simp [o.chk]), if_neg (by have := some_lt hj; omega), Int.toNat_natCast, hj, hs]; rfl
  have c6 := Outcome_own t j f
  rw [hc3] at c6
  obtain ⟨A, hA⟩ : ∃ A : Tr, A = ⟨l', stQ t j s, t.hs, t.cl⟩ := ⟨_, rfl⟩
  rw [← hA] at c5 oA bA fA
  have hAl : A.lg = l' := by rw [hA]
  have hAq : A.q = stQ t j s := by rw [hA]
  have qat : ∀ k y, t.q[k]? = some y → A.q[k]? = some (if j = k then setSt y s else y) := fun k y hy => by rw [hAq, stQ, mod_at, hy]; rfl
  have ql2 : A.q.length = t.q.length := by rw [hAq]; simp [stQ]
  have bA2 : A.lg.br = t.lg.br := by rw [hA]; exact bS
  have bl2 : A.lg.br.length = t.lg.br.length := by rw [bA2]
  have qj := qat j r hj
  rw [if_pos rfl] at qj
  obtain ⟨z, hz⟩ : ∃ z, z = setSt r s := ⟨_, rfl⟩
  rw [← hz] at qj
  have z3 : z.st = s := by rw [hz]; rfl
  have c7 := tcheck_ref A fA.k fA.b fA.e fA.q fA.h fA.c
  rw [oA.chk] at c7
  have c8 := Outcome_own A j fA
  have c9 := same_lref t.lg (by have := f.k; unfold Sm; omega) (by unfold Sm; omega) (by have := f.e; unfold Sm; omega) fun s hs => by have := f.s s hs; unfold Sm; omega
  have c10 := class_ref t.lg r.ch (by have := f.k; unfold Sm; omega)
  have c11 := fun nm => Effect_own t.lg nm f.k f.b f.e
  have c12 := fun nm => Effect_own A.lg nm fA.k fA.b fA.e
  have c13 := Br.same_ref t.lg.br t.lg.br (by unfold Sm; omega)
  rw [decide_eq_true rfl] at c13
  have c14 := fun (Z : List Int) (hz : Z.length ≤ 30) => sameIs_ref Z Z (by unfold Sm; omega)
  simp only [tA, tC, lA] at c5 c6 c7 c8 c9 c10 c11 c12
  have zn : ∀ n : Int, (n != n) = false := fun n => by simp
  have m1 : (0 ≤ (j : Int) ∧ (j : Int) < t.q.length) = True := eq_true (by have := some_lt hj; omega)
  have m2 : (j < t.q.length) = True := eq_true (some_lt hj)
  have dj : decide ((j : Int) < 0) = false := decide_eq_false (by omega)
  rw [e1]
  simp (maxSteps := 4000000) -implicitDefEqProofs only [go_sem, Nat.reduceAdd, Nat.reduceSub, Nat.reduceLT, Nat.reduceLeDiff, Nat.reduceEqDiff, ↓reduceIte]
  refine ecall0 _ c5 (by simp only [go_sem]) (by simp only [go_sem]) ?_
  simp (maxSteps := 4000000) -implicitDefEqProofs only [go_sem, z0, dj, Option.some.injEq, forall_eq', and_true, true_and, Bool.not_true, Bool.not_false, decide_true, Nat.reduceAdd, Nat.reduceSub, Nat.reduceLT, Nat.reduceLeDiff, Nat.reduceEqDiff, ↓reduceIte]
  refine ecall0 _ c7 (by simp only [go_sem]) (by simp only [go_sem]) ?_
  simp (maxSteps := 4000000) -implicitDefEqProofs only [go_sem, z0, ql2, bl2, zn, m1, m2, qj, z3, Option.some.injEq, forall_eq', and_true, true_and, Bool.not_true, Bool.not_false, decide_true, Nat.reduceAdd, Nat.reduceSub, Nat.reduceLT, Nat.reduceLeDiff, Nat.reduceEqDiff, ↓reduceIte]
  refine ecall0 _ c6 (by simp only [go_sem]) (by simp only [go_sem]) ?_
  simp (maxSteps := 4000000) -implicitDefEqProofs only [go_sem, z0, zn, Option.some.injEq, forall_eq', and_true, true_and, Bool.not_true, Bool.not_false, decide_true, Nat.reduceAdd, Nat.reduceSub, Nat.reduceLT, Nat.reduceLeDiff, Nat.reduceEqDiff, ↓reduceIte]
  refine eloop (S := Nat) (fun k => mkE 277 [(1, .d (.int .i64 i)), (3, .ptr 0 0), (7, .d (.bool true)), (9, .d (.int .i64 j)), (10, .ptr 1 0), (11, .d (.int .u8 s)), (15, .d (.int .i64 k))]) (fun k => [tH t, tH A]) (fun k => k ≤ t.q.length) (fun k => t.q.length - k) 0 (by omega) (Wk.via [0, 1] (by (simp only [go_sem, ↓reduceIte]) <;> trivial) (by first | (simp (maxSteps := 4000000) -implicitDefEqProofs only [go_sem, Nat.reduceAdd, Nat.reduceSub, Nat.reduceLT, Nat.reduceLeDiff, Nat.reduceEqDiff, ↓reduceIte]; done) | ((simp (maxSteps := 4000000) -implicitDefEqProofs only [go_sem, Nat.reduceAdd, Nat.reduceSub, Nat.reduceLT, Nat.reduceLeDiff, Nat.reduceEqDiff, ↓reduceIte]) <;> omega)) (by simp) (by first | (simp; done) | (simp [so]; done)) (by (simp (maxSteps := 4000000) -implicitDefEqProofs only [go_sem, Nat.reduceAdd, Nat.reduceSub, Nat.reduceLT, Nat.reduceLeDiff, Nat.reduceEqDiff, ↓reduceIte]) <;> trivial) (by first | (simp only [go_sem]; done) | ((simp (maxSteps := 4000000) -implicitDefEqProofs only [go_sem, Nat.reduceAdd, Nat.reduceSub, Nat.reduceLT, Nat.reduceLeDiff, Nat.reduceEqDiff, ↓reduceIte]) <;> omega)) (Nat.zero_le _) (fun i h => absurd h (Nat.not_lt_zero i))) ?_
  intro k hk
  rcases Nat.lt_or_ge k t.q.length with h2 | h2
  case inl =>
    have f1 : decide ((k : Int) < t.q.length) = true := by simp; omega
    obtain ⟨y, hy⟩ : ∃ x, t.q[k]? = some x := ⟨t.q[k]'h2, List.getElem?_eq_getElem _⟩
    have hy2 := qat k y hy
    have m3 : (0 ≤ (k : Int) ∧ (k : Int) < t.q.length) = True := eq_true (by omega)
    have m4 : (k < t.q.length) = True := eq_true (by omega)
    have w1 : IntKind.i64.wrap ((k : Int) + 1) = ((k + 1 : Nat) : Int) := by rw [i64_in _ (by omega)]; simp
    have zz : ∀ n : Int, (n == n) = true := fun n => by simp
    have bb : ∀ n : Bool, (n == n) = true := fun n => by simp
    have hxy := (rqEq y y).trans (decide_eq_true rfl)
    by_cases q : k = j
    · have d1 : ((k : Int) != j) = false := by simp; omega
      simp (maxSteps := 4000000) -implicitDefEqProofs only [go_sem, f1, Option.some.injEq, forall_eq', and_true, true_and, Bool.not_true, Bool.not_false, decide_true, Nat.reduceAdd, Nat.reduceSub, Nat.reduceLT, Nat.reduceLeDiff, Nat.reduceEqDiff, ↓reduceIte]
      refine DX.plain (.take 0 false (.take 1 false (.take 2 false (.take 3 false (.take 4 false (.take 5 false (.take 6 false (.take 7 false (.take 8 false (.take 9 false (.take 10 false (.take 11 false (.take 12 false (.take 13 false (.take 14 false (.take 15 false .done)))))))))))))))) (by kernel_rfl) (by kernel_rfl) Ty.mixed ?_
      simp (maxSteps := 4000000) -implicitDefEqProofs only [go_sem, d1, w1, Option.some.injEq, forall_eq', and_true, true_and, Bool.not_true, Bool.not_false, decide_true, Nat.reduceAdd, Nat.reduceSub, Nat.reduceLT, Nat.reduceLeDiff, Nat.reduceEqDiff, ↓reduceIte]
      exact .mk (k + 1) (by omega) (by omega) (Wk.via [0, 1] (by (simp only [go_sem, ↓reduceIte]) <;> trivial) (by first | (simp (maxSteps := 4000000) -implicitDefEqProofs only [go_sem, Nat.reduceAdd, Nat.reduceSub, Nat.reduceLT, Nat.reduceLeDiff, Nat.reduceEqDiff, ↓reduceIte]; done) | ((simp (maxSteps := 4000000) -implicitDefEqProofs only [go_sem, Nat.reduceAdd, Nat.reduceSub, Nat.reduceLT, Nat.reduceLeDiff, Nat.reduceEqDiff, ↓reduceIte]) <;> omega)) (by simp) (by first | (simp; done) | (simp [so]; done)) (by (simp (maxSteps := 4000000) -implicitDefEqProofs only [go_sem, Nat.reduceAdd, Nat.reduceSub, Nat.reduceLT, Nat.reduceLeDiff, Nat.reduceEqDiff, ↓reduceIte]) <;> trivial) (by first | (simp only [go_sem]; done) | ((simp (maxSteps := 4000000) -implicitDefEqProofs only [go_sem, Nat.reduceAdd, Nat.reduceSub, Nat.reduceLT, Nat.reduceLeDiff, Nat.reduceEqDiff, ↓reduceIte]) <;> omega)) (Nat.zero_le _) (fun i h => absurd h (Nat.not_lt_zero i)))
    · have d1 : ((k : Int) != j) = true := by simp; omega
      rw [if_neg (by omega)] at hy2
      simp (maxSteps := 4000000) -implicitDefEqProofs only [go_sem, f1, Option.some.injEq, forall_eq', and_true, true_and, Bool.not_true, Bool.not_false, decide_true, Nat.reduceAdd, Nat.reduceSub, Nat.reduceLT, Nat.reduceLeDiff, Nat.reduceEqDiff, ↓reduceIte]
      refine DX.plain (.take 0 false (.take 1 false (.take 2 false (.take 3 false (.take 4 false (.take 5 false (.take 6 false (.take 7 false (.take 8 false (.take 9 false (.take 10 false (.take 11 false (.take 12 false (.take 13 false (.take 14 false (.take 15 false .done)))))))))))))))) (by kernel_rfl) (by kernel_rfl) Ty.mixed ?_
      simp (maxSteps := 4000000) -implicitDefEqProofs only [go_sem, d1, m3, m4, ql2, hy, hy2, hxy, zz, bb, w1, Option.some.injEq, forall_eq', and_true, true_and, Bool.not_true, Bool.not_false, decide_true, Nat.reduceAdd, Nat.reduceSub, Nat.reduceLT, Nat.reduceLeDiff, Nat.reduceEqDiff, ↓reduceIte]
      exact .mk (k + 1) (by omega) (by omega) (Wk.via [0, 1] (by (simp only [go_sem, ↓reduceIte]) <;> trivial) (by first | (simp (maxSteps := 4000000) -implicitDefEqProofs only [go_sem, Nat.reduceAdd, Nat.reduceSub, Nat.reduceLT, Nat.reduceLeDiff, Nat.reduceEqDiff, ↓reduceIte]; done) | ((simp (maxSteps := 4000000) -implicitDefEqProofs only [go_sem, Nat.reduceAdd, Nat.reduceSub, Nat.reduceLT, Nat.reduceLeDiff, Nat.reduceEqDiff, ↓reduceIte]) <;> omega)) (by simp) (by first | (simp; done) | (simp [so]; done)) (by (simp (maxSteps := 4000000) -implicitDefEqProofs only [go_sem, Nat.reduceAdd, Nat.reduceSub, Nat.reduceLT, Nat.reduceLeDiff, Nat.reduceEqDiff, ↓reduceIte]) <;> trivial) (by first | (simp only [go_sem]; done) | ((simp (maxSteps := 4000000) -implicitDefEqProofs only [go_sem, Nat.reduceAdd, Nat.reduceSub, Nat.reduceLT, Nat.reduceLeDiff, Nat.reduceEqDiff, ↓reduceIte]) <;> omega)) (Nat.zero_le _) (fun i h => absurd h (Nat.not_lt_zero i)))
  have f1 : decide ((k : Int) < t.q.length) = false := by simp; omega
  by_cases h5 : s = 5
  case neg =>
    have d5 : (s != 5) = true := by simpa using h5
    have hll : A.lg = t.lg := by
      rcases hl with ⟨h, -⟩ | ⟨-, h⟩
      · exact absurd h h5
      · rw [hAl, h]
    have q1 : A.lg.kn = t.lg.kn := by rw [hll]
    have q3 : A.lg.ev = t.lg.ev := by rw [hll]
    simp (maxSteps := 4000000) -implicitDefEqProofs only [go_sem, f1, d5, q1, bA2, q3, Option.some.injEq, forall_eq', and_true, true_and, Bool.not_true, Bool.not_false, decide_true, Nat.reduceAdd, Nat.reduceSub, Nat.reduceLT, Nat.reduceLeDiff, Nat.reduceEqDiff, ↓reduceIte]
    refine ecall0 _ c9 (by simp only [go_sem]) (by simp only [go_sem]) ?_
    simp (maxSteps := 4000000) -implicitDefEqProofs only [go_sem, Nat.reduceAdd, Nat.reduceSub, Nat.reduceLT, Nat.reduceLeDiff, Nat.reduceEqDiff, ↓reduceIte]
    exact wk_bool rfl
  obtain ⟨c, X, k1, k2, k3, k4, ⟨Y, k5, k6, k7, k8⟩, k9⟩ := z6 h5
  rw [k1] at c10
  rw [← hAl] at k2 k5 k9
  have hc8 : outcR A j = (6, 0) := by
    unfold outcR
    rw [if_neg (by simp [oA.chk]), if_neg (by rw [ql2]; have := some_lt hj; omega), Int.toNat_natCast, qj]
    simp only [Option.map_some, Option.getD_some, outR]
    rw [show z.br = x.name by rw [hz]; exact hrb, show z.ch = r.ch by rw [hz]; rfl, k2, k5]
    rw [if_pos k7]
  rw [hc8] at c8
  have y6 : ((6 : Int) == 6) = true := rfl
  have d5 : (s != 5) = false := by rw [h5]; rfl
  simp (maxSteps := 4000000) -implicitDefEqProofs only [go_sem, f1, d5, Option.some.injEq, forall_eq', and_true, true_and, Bool.not_true, Bool.not_false, decide_true, Nat.reduceAdd, Nat.reduceSub, Nat.reduceLT, Nat.reduceLeDiff, Nat.reduceEqDiff, ↓reduceIte]
  refine DX.plain (.take 0 false (.take 1 false (.take 2 false (.take 3 false (.take 4 false (.take 5 false (.take 6 false (.take 7 false (.take 8 false (.take 9 false .done)))))))))) (by kernel_rfl) (by kernel_rfl) Ty.mixed ?_
  simp (maxSteps := 4000000) -implicitDefEqProofs only [go_sem, m1, m2, hj, Option.some.injEq, forall_eq', and_true, true_and, Bool.not_true, Bool.not_false, decide_true, Nat.reduceAdd, Nat.reduceSub, Nat.reduceLT, Nat.reduceLeDiff, Nat.reduceEqDiff, ↓reduceIte]
  refine ⟨_, _, c10.lift0 _ (by simp only [go_sem]) (by simp only [go_sem]), rfl, ?_⟩
  refine eloop (S := Nat) (fun k => mkE 277 [(1, .d (.int .i64 i)), (3, .ptr 0 0), (7, .d (.bool true)), (9, .d (.int .i64 j)), (10, .ptr 1 0), (16, .d (.int .i64 c)), (17, .d (.int .i64 k))]) (fun k => [tH t, tH A]) (fun k => k ≤ t.lg.br.length) (fun k => t.lg.br.length - k) 0 (by omega) (Wk.via [0, 1] (by (simp only [go_sem, ↓reduceIte]) <;> trivial) (by first | (simp (maxSteps := 4000000) -implicitDefEqProofs only [go_sem, Nat.reduceAdd, Nat.reduceSub, Nat.reduceLT, Nat.reduceLeDiff, Nat.reduceEqDiff, ↓reduceIte]; done) | ((simp (maxSteps := 4000000) -implicitDefEqProofs only [go_sem, Nat.reduceAdd, Nat.reduceSub, Nat.reduceLT, Nat.reduceLeDiff, Nat.reduceEqDiff, ↓reduceIte]) <;> omega)) (by simp) (by first | (simp; done) | (simp [so]; done)) (by (simp (maxSteps := 4000000) -implicitDefEqProofs only [go_sem, Nat.reduceAdd, Nat.reduceSub, Nat.reduceLT, Nat.reduceLeDiff, Nat.reduceEqDiff, ↓reduceIte]) <;> trivial) (by first | (simp only [go_sem]; done) | ((simp (maxSteps := 4000000) -implicitDefEqProofs only [go_sem, Nat.reduceAdd, Nat.reduceSub, Nat.reduceLT, Nat.reduceLeDiff, Nat.reduceEqDiff, ↓reduceIte]) <;> omega)) (Nat.zero_le _) (fun i h => absurd h (Nat.not_lt_zero i))) ?_
  clear hk h2 f1
  intro k hk
  rcases Nat.lt_or_ge k t.lg.br.length with h2 | h2
  case inr =>
    have f1 : decide ((k : Int) < t.lg.br.length) = false := by simp; omega
    simp (maxSteps := 4000000) -implicitDefEqProofs only [go_sem, f1, Option.some.injEq, forall_eq', and_true, true_and, Bool.not_true, Bool.not_false, decide_true, Nat.reduceAdd, Nat.reduceSub, Nat.reduceLT, Nat.reduceLeDiff, Nat.reduceEqDiff, ↓reduceIte]
    refine ecall0 _ c8 (by simp only [go_sem]) (by simp only [go_sem]) ?_
    simp (maxSteps := 4000000) -implicitDefEqProofs only [go_sem, y0, y6, bA2, Option.some.injEq, forall_eq', and_true, true_and, Bool.not_true, Bool.not_false, decide_true, Nat.reduceAdd, Nat.reduceSub, Nat.reduceLT, Nat.reduceLeDiff, Nat.reduceEqDiff, ↓reduceIte]
    refine ecall0 _ c13 (by simp only [go_sem]) (by simp only [go_sem]) ?_
    simp (maxSteps := 4000000) -implicitDefEqProofs only [go_sem, y0, y6, Option.some.injEq, forall_eq', and_true, true_and, Bool.not_true, Bool.not_false, decide_true, Nat.reduceAdd, Nat.reduceSub, Nat.reduceLT, Nat.reduceLeDiff, Nat.reduceEqDiff, ↓reduceIte]
    exact wk_bool rfl
  have f1 : decide ((k : Int) < t.lg.br.length) = true := by simp; omega
  obtain ⟨y, hy⟩ : ∃ x, t.lg.br[k]? = some x := ⟨t.lg.br[k]'h2, List.getElem?_eq_getElem _⟩
  have m3 : (0 ≤ (k : Int) ∧ (k : Int) < t.lg.br.length) = True := eq_true (by omega)
  have m4 : (k < t.lg.br.length) = True := eq_true (by omega)
  have w1 : IntKind.i64.wrap ((k : Int) + 1) = ((k + 1 : Nat) : Int) := by rw [i64_in _ (by omega)]; simp
  have d1 := c11 y.name
  have d2 := c12 y.name
  obtain ⟨U, V, v1, v2, v3, v4⟩ : ∃ U V, effR t.lg y.name = (U, 0) ∧ effR A.lg y.name = (V, 0) ∧ V.length ≤ 30 ∧ ((k ≠ i ∧ U = V) ∨ (k = i ∧ V.length = U.length + 1 ∧ inI V c = true)) := by
    by_cases q : k = i
    · subst q
      rw [hx] at hy; cases hy
      exact ⟨X, Y, k3, k5, k8, .inr ⟨rfl, k6, k7⟩⟩
    · obtain ⟨Z, p1, p2, p3⟩ := k9 k y hy q
      exact ⟨Z, Z, p1, p2, p3, .inl ⟨q, rfl⟩⟩
  rw [v1] at d1
  rw [v2] at d2
  have d3 := c14 V v3
  rw [decide_eq_true rfl] at d3
  simp (maxSteps := 4000000) -implicitDefEqProofs only [go_sem, f1, m3, m4, hy, Option.some.injEq, forall_eq', and_true, true_and, Bool.not_true, Bool.not_false, decide_true, Nat.reduceAdd, Nat.reduceSub, Nat.reduceLT, Nat.reduceLeDiff, Nat.reduceEqDiff, ↓reduceIte]
  refine ecall0 _ d1 (by simp only [go_sem]) (by simp only [go_sem]) ?_
  simp (maxSteps := 4000000) -implicitDefEqProofs only [go_sem, Nat.reduceAdd, Nat.reduceSub, Nat.reduceLT, Nat.reduceLeDiff, Nat.reduceEqDiff, ↓reduceIte]
  refine ecall0 _ d2 (by simp only [go_sem]) (by simp only [go_sem]) ?_
  rcases v4 with ⟨q, q2⟩ | ⟨q, q2, q3⟩
  · rw [q2]
    have r1 : ((k : Int) != i) = true := by simp; omega
    have r2 : ((k : Int) == i) = false := by simp; omega
    simp (maxSteps := 4000000) -implicitDefEqProofs only [go_sem, z0, r1, r2, Option.some.injEq, forall_eq', and_true, true_and, Bool.not_true, Bool.not_false, decide_true, Nat.reduceAdd, Nat.reduceSub, Nat.reduceLT, Nat.reduceLeDiff, Nat.reduceEqDiff, ↓reduceIte]
    refine ecall0 _ d3 (by simp only [go_sem]) (by simp only [go_sem]) ?_
    simp (maxSteps := 4000000) -implicitDefEqProofs only [go_sem, b1, r2, Option.some.injEq, forall_eq', and_true, true_and, Bool.not_true, Bool.not_false, decide_true, Nat.reduceAdd, Nat.reduceSub, Nat.reduceLT, Nat.reduceLeDiff, Nat.reduceEqDiff, ↓reduceIte]
    refine eloop (S := Nat) (fun n => mkE 277 [(1, .d (.int .i64 i)), (3, .ptr 0 0), (7, .d (.bool true)), (9, .d (.int .i64 j)), (10, .ptr 1 0), (16, .d (.int .i64 c)), (17, .d (.int .i64 k)), (21, .d (.sl (V.map iD))), (23, .d (.bool (inI (V.take n) c))), (24, .d (.int .i64 n))]) (fun n => [tH t, tH A]) (fun n => n ≤ V.length) (fun n => V.length - n) 0 (by omega) (Wk.via [0, 1] (by (simp only [go_sem, ↓reduceIte]) <;> trivial) (by first | (simp (maxSteps := 4000000) -implicitDefEqProofs only [go_sem, Nat.reduceAdd, Nat.reduceSub, Nat.reduceLT, Nat.reduceLeDiff, Nat.reduceEqDiff, ↓reduceIte]; done) | ((simp (maxSteps := 4000000) -implicitDefEqProofs only [go_sem, Nat.reduceAdd, Nat.reduceSub, Nat.reduceLT, Nat.reduceLeDiff, Nat.reduceEqDiff, ↓reduceIte]) <;> omega)) (by simp) (by first | (simp; done) | (simp [so]; done)) (by (simp (maxSteps := 4000000) -implicitDefEqProofs only [go_sem, Nat.reduceAdd, Nat.reduceSub, Nat.reduceLT, Nat.reduceLeDiff, Nat.reduceEqDiff, ↓reduceIte]) <;> trivial) (by first | (simp only [go_sem]; done) | ((simp (maxSteps := 4000000) -implicitDefEqProofs only [go_sem, Nat.reduceAdd, Nat.reduceSub, Nat.reduceLT, Nat.reduceLeDiff, Nat.reduceEqDiff, ↓reduceIte]) <;> omega)) (Nat.zero_le _) (fun i h => absurd h (Nat.not_lt_zero i))) ?_
    intro n hn
    rcases Nat.lt_or_ge n V.length with h3 | h3
    · have f2 : decide ((n : Int) < V.length) = true := by simp; omega
      obtain ⟨e, hv⟩ : ∃ x, V[n]? = some x := ⟨V[n]'h3, List.getElem?_eq_getElem _⟩
      have p1 : (0 ≤ (n : Int) ∧ (n : Int) < V.length) = True := eq_true (by omega)
      have p2 : (n < V.length) = True := eq_true (by omega)
      have w2 : IntKind.i64.wrap ((n : Int) + 1) = ((n + 1 : Nat) : Int) := by rw [i64_in _ (by omega)]; simp
      have sn := inI_snoc (c := c) hv
      cases gI : inI (V.take n) c
      · rw [gI, Bool.false_or] at sn
        simp (maxSteps := 4000000) -implicitDefEqProofs only [go_sem, f2, p1, p2, hv, w2, gI, Option.some.injEq, forall_eq', and_true, true_and, Bool.not_true, Bool.not_false, decide_true, Nat.reduceAdd, Nat.reduceSub, Nat.reduceLT, Nat.reduceLeDiff, Nat.reduceEqDiff, ↓reduceIte]
        exact .mk (n + 1) (by omega) (by omega) (by rw [sn]; exact (Wk.via [0, 1] (by (simp only [go_sem, ↓reduceIte]) <;> trivial) (by first | (simp (maxSteps := 4000000) -implicitDefEqProofs only [go_sem, Nat.reduceAdd, Nat.reduceSub, Nat.reduceLT, Nat.reduceLeDiff, Nat.reduceEqDiff, ↓reduceIte]; done) | ((simp (maxSteps := 4000000) -implicitDefEqProofs only [go_sem, Nat.reduceAdd, Nat.reduceSub, Nat.reduceLT, Nat.reduceLeDiff, Nat.reduceEqDiff, ↓reduceIte]) <;> omega)) (by simp) (by first | (simp; done) | (simp [so]; done)) (by (simp (maxSteps := 4000000) -implicitDefEqProofs only [go_sem, Nat.reduceAdd, Nat.reduceSub, Nat.reduceLT, Nat.reduceLeDiff, Nat.reduceEqDiff, ↓reduceIte]) <;> trivial) (by first | (simp only [go_sem]; done) | ((simp (maxSteps := 4000000) -implicitDefEqProofs only [go_sem, Nat.reduceAdd, Nat.reduceSub, Nat.reduceLT, Nat.reduceLeDiff, Nat.reduceEqDiff, ↓reduceIte]) <;> omega)) (Nat.zero_le _) (fun i h => absurd h (Nat.not_lt_zero i))))
      · rw [gI, Bool.true_or] at sn
        simp (maxSteps := 4000000) -implicitDefEqProofs only [go_sem, f2, p1, p2, hv, w2, gI, Option.some.injEq, forall_eq', and_true, true_and, Bool.not_true, Bool.not_false, decide_true, Nat.reduceAdd, Nat.reduceSub, Nat.reduceLT, Nat.reduceLeDiff, Nat.reduceEqDiff, ↓reduceIte]
        exact .mk (n + 1) (by omega) (by omega) (by rw [sn]; exact (Wk.via [0, 1] (by (simp only [go_sem, ↓reduceIte]) <;> trivial) (by first | (simp (maxSteps := 4000000) -implicitDefEqProofs only [go_sem, Nat.reduceAdd, Nat.reduceSub, Nat.reduceLT, Nat.reduceLeDiff, Nat.reduceEqDiff, ↓reduceIte]; done) | ((simp (maxSteps := 4000000) -implicitDefEqProofs only [go_sem, Nat.reduceAdd, Nat.reduceSub, Nat.reduceLT, Nat.reduceLeDiff, Nat.reduceEqDiff, ↓reduceIte]) <;> omega)) (by simp) (by first | (simp; done) | (simp [so]; done)) (by (simp (maxSteps := 4000000) -implicitDefEqProofs only [go_sem, Nat.reduceAdd, Nat.reduceSub, Nat.reduceLT, Nat.reduceLeDiff, Nat.reduceEqDiff, ↓reduceIte]) <;> trivial) (by first | (simp only [go_sem]; done) | ((simp (maxSteps := 4000000) -implicitDefEqProofs only [go_sem, Nat.reduceAdd, Nat.reduceSub, Nat.reduceLT, Nat.reduceLeDiff, Nat.reduceEqDiff, ↓reduceIte]) <;> omega)) (Nat.zero_le _) (fun i h => absurd h (Nat.not_lt_zero i))))
    · have f2 : decide ((n : Int) < V.length) = false := by simp; omega
      simp (maxSteps := 4000000) -implicitDefEqProofs only [go_sem, f2, r2, w1, Option.some.injEq, forall_eq', and_true, true_and, Bool.not_true, Bool.not_false, decide_true, Nat.reduceAdd, Nat.reduceSub, Nat.reduceLT, Nat.reduceLeDiff, Nat.reduceEqDiff, ↓reduceIte]
      exact .mk (k + 1) (by omega) (by omega) (Wk.via [0, 1] (by (simp only [go_sem, ↓reduceIte]) <;> trivial) (by first | (simp (maxSteps := 4000000) -implicitDefEqProofs only [go_sem, Nat.reduceAdd, Nat.reduceSub, Nat.reduceLT, Nat.reduceLeDiff, Nat.reduceEqDiff, ↓reduceIte]; done) | ((simp (maxSteps := 4000000) -implicitDefEqProofs only [go_sem, Nat.reduceAdd, Nat.reduceSub, Nat.reduceLT, Nat.reduceLeDiff, Nat.reduceEqDiff, ↓reduceIte]) <;> omega)) (by simp) (by first | (simp; done) | (simp [so]; done)) (by (simp (maxSteps := 4000000) -implicitDefEqProofs only [go_sem, Nat.reduceAdd, Nat.reduceSub, Nat.reduceLT, Nat.reduceLeDiff, Nat.reduceEqDiff, ↓reduceIte]) <;> trivial) (by first | (simp only [go_sem]; done) | ((simp (maxSteps := 4000000) -implicitDefEqProofs only [go_sem, Nat.reduceAdd, Nat.reduceSub, Nat.reduceLT, Nat.reduceLeDiff, Nat.reduceEqDiff, ↓reduceIte]) <;> omega)) (Nat.zero_le _) (fun i h => absurd h (Nat.not_lt_zero i)))
  · subst q
    have r1 : ((k : Int) != k) = false := by simp
    have r2 : ((k : Int) == k) = true := by simp
    have w3 : IntKind.i64.wrap ((U.length : Int) + 1) = (U.length : Int) + 1 := i64_in _ (by omega)
    have r3 : ((V.length : Int) != (U.length : Int) + 1) = false := by rw [q2]; simp
    simp (maxSteps := 4000000) -implicitDefEqProofs only [go_sem, z0, r1, r2, w3, r3, Option.some.injEq, forall_eq', and_true, true_and, Bool.not_true, Bool.not_false, decide_true, Nat.reduceAdd, Nat.reduceSub, Nat.reduceLT, Nat.reduceLeDiff, Nat.reduceEqDiff, ↓reduceIte]
    refine eloop (S := Nat) (fun n => mkE 277 [(1, .d (.int .i64 k)), (3, .ptr 0 0), (7, .d (.bool true)), (9, .d (.int .i64 j)), (10, .ptr 1 0), (16, .d (.int .i64 c)), (17, .d (.int .i64 k)), (21, .d (.sl (V.map iD))), (23, .d (.bool (inI (V.take n) c))), (24, .d (.int .i64 n))]) (fun n => [tH t, tH A]) (fun n => n ≤ V.length) (fun n => V.length - n) 0 (by omega) (Wk.via [0, 1] (by (simp only [go_sem, ↓reduceIte]) <;> trivial) (by first | (simp (maxSteps := 4000000) -implicitDefEqProofs only [go_sem, Nat.reduceAdd, Nat.reduceSub, Nat.reduceLT, Nat.reduceLeDiff, Nat.reduceEqDiff, ↓reduceIte]; done) | ((simp (maxSteps := 4000000) -implicitDefEqProofs only [go_sem, Nat.reduceAdd, Nat.reduceSub, Nat.reduceLT, Nat.reduceLeDiff, Nat.reduceEqDiff, ↓reduceIte]) <;> omega)) (by simp) (by first | (simp; done) | (simp [so]; done)) (by (simp (maxSteps := 4000000) -implicitDefEqProofs only [go_sem, Nat.reduceAdd, Nat.reduceSub, Nat.reduceLT, Nat.reduceLeDiff, Nat.reduceEqDiff, ↓reduceIte]) <;> trivial) (by first | (simp only [go_sem]; done) | ((simp (maxSteps := 4000000) -implicitDefEqProofs only [go_sem, Nat.reduceAdd, Nat.reduceSub, Nat.reduceLT, Nat.reduceLeDiff, Nat.reduceEqDiff, ↓reduceIte]) <;> omega)) (Nat.zero_le _) (fun i h => absurd h (Nat.not_lt_zero i))) ?_
    intro n hn
    rcases Nat.lt_or_ge n V.length with h3 | h3
    · have f2 : decide ((n : Int) < V.length) = true := by simp; omega
      obtain ⟨e, hv⟩ : ∃ x, V[n]? = some x := ⟨V[n]'h3, List.getElem?_eq_getElem _⟩
      have p1 : (0 ≤ (n : Int) ∧ (n : Int) < V.length) = True := eq_true (by omega)
      have p2 : (n < V.length) = True := eq_true (by omega)
      have w2 : IntKind.i64.wrap ((n : Int) + 1) = ((n + 1 : Nat) : Int) := by rw [i64_in _ (by omega)]; simp
      have sn := inI_snoc (c := c) hv
      cases gI : inI (V.take n) c
      · rw [gI, Bool.false_or] at sn
        simp (maxSteps := 4000000) -implicitDefEqProofs only [go_sem, f2, p1, p2, hv, w2, gI, Option.some.injEq, forall_eq', and_true, true_and, Bool.not_true, Bool.not_false, decide_true, Nat.reduceAdd, Nat.reduceSub, Nat.reduceLT, Nat.reduceLeDiff, Nat.reduceEqDiff, ↓reduceIte]
        exact .mk (n + 1) (by omega) (by omega) (by rw [sn]; exact (Wk.via [0, 1] (by (simp only [go_sem, ↓reduceIte]) <;> trivial) (by first | (simp (maxSteps := 4000000) -implicitDefEqProofs only [go_sem, Nat.reduceAdd, Nat.reduceSub, Nat.reduceLT, Nat.reduceLeDiff, Nat.reduceEqDiff, ↓reduceIte]; done) | ((simp (maxSteps := 4000000) -implicitDefEqProofs only [go_sem, Nat.reduceAdd, Nat.reduceSub, Nat.reduceLT, Nat.reduceLeDiff, Nat.reduceEqDiff, ↓reduceIte]) <;> omega)) (by simp) (by first | (simp; done) | (simp [so]; done)) (by (simp (maxSteps := 4000000) -implicitDefEqProofs only [go_sem, Nat.reduceAdd, Nat.reduceSub, Nat.reduceLT, Nat.reduceLeDiff, Nat.reduceEqDiff, ↓reduceIte]) <;> trivial) (by first | (simp only [go_sem]; done) | ((simp (maxSteps := 4000000) -implicitDefEqProofs only [go_sem, Nat.reduceAdd, Nat.reduceSub, Nat.reduceLT, Nat.reduceLeDiff, Nat.reduceEqDiff, ↓reduceIte]) <;> omega)) (Nat.zero_le _) (fun i h => absurd h (Nat.not_lt_zero i))))
      · rw [gI, Bool.true_or] at sn
        simp (maxSteps := 4000000) -implicitDefEqProofs only [go_sem, f2, p1, p2, hv, w2, gI, Option.some.injEq, forall_eq', and_true, true_and, Bool.not_true, Bool.not_false, decide_true, Nat.reduceAdd, Nat.reduceSub, Nat.reduceLT, Nat.reduceLeDiff, Nat.reduceEqDiff, ↓reduceIte]
        exact .mk (n + 1) (by omega) (by omega) (by rw [sn]; exact (Wk.via [0, 1] (by (simp only [go_sem, ↓reduceIte]) <;> trivial) (by first | (simp (maxSteps := 4000000) -implicitDefEqProofs only [go_sem, Nat.reduceAdd, Nat.reduceSub, Nat.reduceLT, Nat.reduceLeDiff, Nat.reduceEqDiff, ↓reduceIte]; done) | ((simp (maxSteps := 4000000) -implicitDefEqProofs only [go_sem, Nat.reduceAdd, Nat.reduceSub, Nat.reduceLT, Nat.reduceLeDiff, Nat.reduceEqDiff, ↓reduceIte]) <;> omega)) (by simp) (by first | (simp; done) | (simp [so]; done)) (by (simp (maxSteps := 4000000) -implicitDefEqProofs only [go_sem, Nat.reduceAdd, Nat.reduceSub, Nat.reduceLT, Nat.reduceLeDiff, Nat.reduceEqDiff, ↓reduceIte]) <;> trivial) (by first | (simp only [go_sem]; done) | ((simp (maxSteps := 4000000) -implicitDefEqProofs only [go_sem, Nat.reduceAdd, Nat.reduceSub, Nat.reduceLT, Nat.reduceLeDiff, Nat.reduceEqDiff, ↓reduceIte]) <;> omega)) (Nat.zero_le _) (fun i h => absurd h (Nat.not_lt_zero i))))
    · have f2 : decide ((n : Int) < V.length) = false := by simp; omega
      rw [List.take_of_length_le h3, q3]
      simp (maxSteps := 4000000) -implicitDefEqProofs only [go_sem, f2, r2, b1, w1, Option.some.injEq, forall_eq', and_true, true_and, Bool.not_true, Bool.not_false, decide_true, Nat.reduceAdd, Nat.reduceSub, Nat.reduceLT, Nat.reduceLeDiff, Nat.reduceEqDiff, ↓reduceIte]
      exact .mk (k + 1) (by omega) (by omega) (Wk.via [0, 1] (by (simp only [go_sem, ↓reduceIte]) <;> trivial) (by first | (simp (maxSteps := 4000000) -implicitDefEqProofs only [go_sem, Nat.reduceAdd, Nat.reduceSub, Nat.reduceLT, Nat.reduceLeDiff, Nat.reduceEqDiff, ↓reduceIte]; done) | ((simp (maxSteps := 4000000) -implicitDefEqProofs only [go_sem, Nat.reduceAdd, Nat.reduceSub, Nat.reduceLT, Nat.reduceLeDiff, Nat.reduceEqDiff, ↓reduceIte]) <;> omega)) (by simp) (by first | (simp; done) | (simp [so]; done)) (by (simp (maxSteps := 4000000) -implicitDefEqProofs only [go_sem, Nat.reduceAdd, Nat.reduceSub, Nat.reduceLT, Nat.reduceLeDiff, Nat.reduceEqDiff, ↓reduceIte]) <;> trivial) (by first | (simp only [go_sem]; done) | ((simp (maxSteps := 4000000) -implicitDefEqProofs only [go_sem, Nat.reduceAdd, Nat.reduceSub, Nat.reduceLT, Nat.reduceLeDiff, Nat.reduceEqDiff, ↓reduceIte]) <;> omega)) (Nat.zero_le _) (fun i h => absurd h (Nat.not_lt_zero i)))
end Go.AX.Tr
namespace Go.Proofs.YtioihldhnhlpnaaGreat
open Go.AX Go.AX.Tr Go.RowKit
set_option maxRecDepth 100000 in
theorem trainApart_lifted (os : Os) (started : os.Started) (H : Type) (enc : TypeId × Value → H) :
    ReturnsInHanded {} Tryz.checked os 7 .any (Rows.trainApartSpec.pre6 enc Tryz.prog Tryz.f7 Rows.trainApartRow.domain false) (Rows.trainApartSpec.post enc Tryz.prog Tryz.f7 false true false false) := by
  refine Go.AX.lifted (C := Tryz.checked) (f := 7) (fn := Tryz.f7) (s := Rows.trainApartSpec) (rt := 4) (n := 8) (by kernel_rfl) (by kernel_rfl) Tryz.func7 rfl ?_ rfl (by kernel_rfl) (by kernel_rfl) (by kernel_rfl) (by kernel_rfl) os started H enc
    (ChangeSpec.witness6 (enc := enc) (C := Tryz.checked) false ⟨#[], #[.agg #[.slice none 0 0, .slice none 0 0, .slice none 0 0, .slice none 0 0, .slice none 0 0, .slice none 0 0], .int .i64 0, .int .i64 0], []⟩ 8 (by kernel_rfl) (by kernel_rfl) (by kernel_rfl) (by kernel_rfl)) ?_
  · intro H ds h
    match ds, h with
    | [a0, a1, a2], _ => rfl
  · intro xs hx
    have hp : Tryz.f7.params.toList = [31, 3, 3] := rfl
    rw [hp] at hx ⊢
    have i0 : isA Tryz.prog 31 = true := by kernel_rfl
    have i1 : isA Tryz.prog 3 = false := by kernel_rfl
    have i2 : isA Tryz.prog 3 = false := by kernel_rfl
    rcases xs with _ | ⟨d0, _ | ⟨d1, _ | ⟨d2, _ | ⟨d3, xs⟩⟩⟩⟩ <;> simp only [Tyds, and_false] at hx
    obtain ⟨k0, k1, k2, _⟩ := hx
    obtain ⟨t, rfl, ht⟩ := train_of k0
    obtain ⟨ii, rfl, hii⟩ := int_of k1
    obtain ⟨tk, rfl, htk⟩ := int_of k2
    simp only [avs, i0, i1, i2, dv, Bool.false_eq_true, if_false, if_true, List.headD_cons, List.map_cons, List.map_nil]
    exact apart_tlaw t ii tk ht
theorem trainApart_over : Rows.trainApartRow.holds Tryz.pinned (OpenSpec.ofChange Rows.trainApartSpec) :=
  OpenClaim.holds_of_wide 7 Tryz.f7 rfl rfl rfl rfl rfl rfl rfl ⟨rfl, rfl, rfl, rfl, rfl⟩ rfl rfl rfl rfl rfl (by kernel_rfl) Tryz.func7 (by kernel_rfl)
    (of_decide_eq_true (by kernel_rfl)) (by unfold Func.isWrapper; first | (rw [if_pos (by decide +kernel)]; kernel_rfl) | (rw [if_neg (by decide +kernel)]; exact ⟨rfl, rfl⟩))
    (fun os started H enc _ => trainApart_lifted os started H enc)
/-- The row, under a short name, for the claim. -/
theorem trainApart_holds : Rows.TrainApartSaid := trainApart_over
#print axioms trainApart_holds
end Go.Proofs.YtioihldhnhlpnaaGreat

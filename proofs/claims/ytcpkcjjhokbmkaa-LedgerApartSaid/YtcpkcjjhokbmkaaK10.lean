/- LedgerCuts: whatever the input, the law returns true, and its arguments read as they did. No condition. -/
import Derived.Test.YtcpkcjjhokbmkaaK9
set_option maxHeartbeats 8000000
set_option linter.unusedVariables false
set_option linter.unusedSimpArgs false
set_option maxRecDepth 20000
namespace Go.AX.Lg
open Go.Proofs Go.RowKit Go.IntWalk Go.AX.Br
theorem onlyN_self (p : Nat → Bool) : ∀ n, onlyN p p n = []
  | 0 => rfl
  | n + 1 => by rw [onlyN_no (by cases p n <;> rfl), onlyN_self p n]
theorem onlyL_self (l : Lg) (s : List Ev) : onlyL l s s = [] := onlyN_self _ _
theorem vlen_le {l : Lg} (lo : LOk l) {i : Nat} {x : Br} {s : List Ev} {v : List Mk} (a : At l i x s v) : v.length ≤ 320 := by
  have := view_bound lo.tab.g i v a.hv
  have := some_lt a.hx
  have := lo.tab.g.ok.len
  omega
theorem cuts_law (l : Lg) (ii at' : Int) (hl : LSm l) (hii : -9223372036854775808 ≤ ii ∧ ii ≤ 9223372036854775807) (hat : -9223372036854775808 ≤ at' ∧ at' ≤ 9223372036854775807) : Spec Try.prog 8 [lA l, .d (.int .i64 ii), .d (.int .i64 at')] [] (.d (.bool true)) [] := by
  have c0 := alive_spec
  have c1 := great_lref l hl.k hl.b hl.e hl.s
  simp only [lA] at c1
  refine spec_of_ev (fn := Try.f8) DX_ok 3000 Try.func8 rfl rfl (Nat.le_of_ble_eq_true rfl) ?_
  simp (maxSteps := 4000000) -implicitDefEqProofs only [Try.f8, go_sem, lA]
  refine ecall0 _ c0 (by simp only [go_sem]) (by simp only [go_sem]) ?_
  simp (maxSteps := 4000000) -implicitDefEqProofs only [go_sem, Nat.reduceAdd, Nat.reduceSub, Nat.reduceLT, Nat.reduceLeDiff, Nat.reduceEqDiff, ↓reduceIte]
  refine ecall0 _ c1 (by simp only [go_sem]) (by simp only [go_sem]) ?_
  cases g1 : greatL l
  case true =>
    simp (maxSteps := 4000000) -implicitDefEqProofs only [go_sem, g1, Option.some.injEq, forall_eq', and_true, true_and, Bool.not_true, Bool.not_false, decide_true, Nat.reduceAdd, Nat.reduceSub, Nat.reduceLT, Nat.reduceLeDiff, Nat.reduceEqDiff, ↓reduceIte]
    exact wk_bool rfl
  have f := fit_of g1
  have fk := f.k
  have fb := f.b
  have fe := f.e
  have c2 := lcheck_ref l (by omega) (by omega) (by omega)
  simp only [lA] at c2
  simp (maxSteps := 4000000) -implicitDefEqProofs only [go_sem, g1, Option.some.injEq, forall_eq', and_true, true_and, Bool.not_true, Bool.not_false, decide_true, Nat.reduceAdd, Nat.reduceSub, Nat.reduceLT, Nat.reduceLeDiff, Nat.reduceEqDiff, ↓reduceIte]
  refine ecall0 _ c2 (by simp only [go_sem]) (by simp only [go_sem]) ?_
  cases g2 : (lcheck l != 0)
  case true =>
    simp (maxSteps := 4000000) -implicitDefEqProofs only [go_sem, g2, Option.some.injEq, forall_eq', and_true, true_and, Bool.not_true, Bool.not_false, decide_true, Nat.reduceAdd, Nat.reduceSub, Nat.reduceLT, Nat.reduceLeDiff, Nat.reduceEqDiff, ↓reduceIte]
    exact wk_bool rfl
  have lo := lok_of (l := l) (by simpa using g2)
  cases g3 : decide (ii < 0)
  case true =>
    simp (maxSteps := 4000000) -implicitDefEqProofs only [go_sem, g2, g3, Option.some.injEq, forall_eq', and_true, true_and, Bool.not_true, Bool.not_false, decide_true, Nat.reduceAdd, Nat.reduceSub, Nat.reduceLT, Nat.reduceLeDiff, Nat.reduceEqDiff, ↓reduceIte]
    exact wk_bool rfl
  cases g4 : decide ((l.br.length : Int) ≤ ii)
  case true =>
    simp (maxSteps := 4000000) -implicitDefEqProofs only [go_sem, g2, g3, g4, Option.some.injEq, forall_eq', and_true, true_and, Bool.not_true, Bool.not_false, decide_true, Nat.reduceAdd, Nat.reduceSub, Nat.reduceLT, Nat.reduceLeDiff, Nat.reduceEqDiff, ↓reduceIte]
    exact wk_bool rfl
  obtain ⟨i, rfl⟩ : ∃ n : Nat, ii = n := ⟨ii.toNat, by have := of_decide_eq_false g3; omega⟩
  have hi : i < l.br.length := by have := of_decide_eq_false g4; omega
  obtain ⟨x, s, v, a⟩ := at_of lo.tab hi
  have hx := a.hx
  have vl := vlen_le lo a
  have n1 : (0 ≤ (i : Int) ∧ (i : Int) < l.br.length) = True := eq_true (by omega)
  have n2 : (i < l.br.length) = True := eq_true (by omega)
  have z0 : ((0 : Int) != 0) = false := rfl
  have c3 := cut_lown l x.name sNew at' (by omega) (by omega) (by omega)
  have c4 := After_own l x.name at' (by omega) (by omega) (by omega)
  have c5 := index_ref l.br sNew (by unfold Sm; omega)
  have hvw : viewR l.br (cntL l) x.name = (v, 0) := vname lo.tab a
  have eaft : aftR l x.name at' = if at' < 0 ∨ (v.length : Int) < at' then ([], 2) else (effL l ((seenL l v).take at'.toNat), 0) := by
    unfold aftR; rw [lo.view a]; simp only [ne_eq, not_true_eq_false, if_false]
  have ecut : cutR l.br (cntL l) x.name sNew at' = if at' < 0 ∨ (v.length : Int) < at' then ([], 2) else if check (l.br ++ [⟨sNew, x.name, at'⟩]) ≠ 0 then ([], check (l.br ++ [⟨sNew, x.name, at'⟩])) else (l.br ++ [⟨sNew, x.name, at'⟩], 0) := by
    unfold cutR; rw [hvw]; simp only [ne_eq, not_true_eq_false, if_false]
  have elc : lcutR l x.name sNew at' = if at' < 0 ∨ (v.length : Int) < at' then (lg0, 2) else if check (l.br ++ [⟨sNew, x.name, at'⟩]) ≠ 0 then (lg0, check (l.br ++ [⟨sNew, x.name, at'⟩])) else (⟨l.kn, l.br ++ [⟨sNew, x.name, at'⟩], l.ev ++ [[]]⟩, 0) := by
    unfold lcutR
    rw [if_neg (by have := lo.chk; omega), ecut]
    split
    · simp
    split
    · next h => simp [h]
    · simp
  rw [eaft] at c4
  rw [elc] at c3
  by_cases hb : at' < 0 ∨ (v.length : Int) < at'
  · rw [if_pos hb] at c3 c4
    have z2 : ((2 : Int) != 0) = true := rfl
    have z3 : ((2 : Int) == 2) = true := rfl
    simp only [lA, sNew] at c3 c4
    simp (maxSteps := 4000000) -implicitDefEqProofs only [go_sem, g2, g3, g4, n1, n2, hx, Option.some.injEq, forall_eq', and_true, true_and, Bool.not_true, Bool.not_false, decide_true, Nat.reduceAdd, Nat.reduceSub, Nat.reduceLT, Nat.reduceLeDiff, Nat.reduceEqDiff, ↓reduceIte]
    refine ecall0 _ c3 (by simp only [go_sem]) (by simp only [go_sem]) ?_
    simp (maxSteps := 4000000) -implicitDefEqProofs only [go_sem, Nat.reduceAdd, Nat.reduceSub, Nat.reduceLT, Nat.reduceLeDiff, Nat.reduceEqDiff, ↓reduceIte]
    refine ecall0 _ c4 (by simp only [go_sem]) (by simp only [go_sem]) ?_
    simp (maxSteps := 4000000) -implicitDefEqProofs only [go_sem, z2, z3, Option.some.injEq, forall_eq', and_true, true_and, Bool.not_true, Bool.not_false, decide_true, Nat.reduceAdd, Nat.reduceSub, Nat.reduceLT, Nat.reduceLeDiff, Nat.reduceEqDiff, ↓reduceIte]
    exact wk_bool rfl
  rw [if_neg hb] at c3 c4
  obtain ⟨p1, p2, p3, p4⟩ := lo.parts
  by_cases hk : check (l.br ++ [⟨sNew, x.name, at'⟩]) = 0
  case neg =>
    rw [if_pos hk] at c3
    have z2 : (check (l.br ++ [⟨sNew, x.name, at'⟩]) != 0) = true := by simp [hk]
    have z3 : ((0 : Int) == 2) = false := rfl
    obtain ⟨K, hK⟩ : ∃ K, K = check (l.br ++ [⟨sNew, x.name, at'⟩]) := ⟨_, rfl⟩
    rw [← hK] at c3 z2
    have dich : l.br.length = 8 ∨ 0 ≤ idx (has sNew) l.br := by
      rcases Nat.decEq l.br.length 8 with h8 | h8
      · refine .inr ?_
        rcases Int.lt_or_le (idx (has sNew) l.br) 0 with hn | hn
        · exact absurd (check_more p3 h8 sNew_name (y := ⟨sNew, x.name, at'⟩) ⟨by simp only; omega, by simp only; omega⟩ hn (by simp only; rw [lo.tab.g.ok.name i x hx]; omega)) hk
        · exact hn
      · exact .inl h8
    simp only [lA, sNew] at c3 c4 c5
    have d8 : (((l.br.length : Int) == 8) || decide (0 ≤ idx (has sNew) l.br)) = true := by
      simp only [Bool.or_eq_true, beq_iff_eq, decide_eq_true_eq]
      rcases dich with h | h
      · left; omega
      · exact .inr h
    simp only [sNew] at d8
    simp (maxSteps := 4000000) -implicitDefEqProofs only [go_sem, g2, g3, g4, n1, n2, hx, Option.some.injEq, forall_eq', and_true, true_and, Bool.not_true, Bool.not_false, decide_true, Nat.reduceAdd, Nat.reduceSub, Nat.reduceLT, Nat.reduceLeDiff, Nat.reduceEqDiff, ↓reduceIte]
    refine ecall0 _ c3 (by simp only [go_sem]) (by simp only [go_sem]) ?_
    simp (maxSteps := 4000000) -implicitDefEqProofs only [go_sem, Nat.reduceAdd, Nat.reduceSub, Nat.reduceLT, Nat.reduceLeDiff, Nat.reduceEqDiff, ↓reduceIte]
    refine ecall0 _ c4 (by simp only [go_sem]) (by simp only [go_sem]) ?_
    cases q8 : ((l.br.length : Int) == 8)
    case true =>
      simp (maxSteps := 4000000) -implicitDefEqProofs only [go_sem, z2, z3, q8, Option.some.injEq, forall_eq', and_true, true_and, Bool.not_true, Bool.not_false, decide_true, Nat.reduceAdd, Nat.reduceSub, Nat.reduceLT, Nat.reduceLeDiff, Nat.reduceEqDiff, ↓reduceIte]
      exact wk_bool rfl
    rw [q8, Bool.false_or] at d8
    simp (maxSteps := 4000000) -implicitDefEqProofs only [go_sem, z2, z3, q8, Option.some.injEq, forall_eq', and_true, true_and, Bool.not_true, Bool.not_false, decide_true, Nat.reduceAdd, Nat.reduceSub, Nat.reduceLT, Nat.reduceLeDiff, Nat.reduceEqDiff, ↓reduceIte]
    refine ecall0 _ c5 (by simp only [go_sem]) (by simp only [go_sem]) ?_
    simp (maxSteps := 4000000) -implicitDefEqProofs only [go_sem, Nat.reduceAdd, Nat.reduceSub, Nat.reduceLT, Nat.reduceLeDiff, Nat.reduceEqDiff, ↓reduceIte]
    exact wk_bool d8
  rw [if_neg (by omega)] at c3
  obtain ⟨k1, k2, k3, k4, k5⟩ := cut_ok lo a (y := ⟨sNew, x.name, at'⟩) rfl hk (by simp only; omega)
  simp only at k2 k3 k4
  obtain ⟨M, hM⟩ : ∃ M : Lg, M = ⟨l.kn, l.br ++ [⟨sNew, x.name, at'⟩], l.ev ++ [[]]⟩ := ⟨_, rfl⟩
  rw [← hM] at c3 k1 k2 k3 k4 k5
  have m1 : M.kn.length ≤ 1000 := by rw [hM]; simp only; omega
  have m2 : M.br.length ≤ 1000 := by rw [hM]; simp; omega
  have m3 : M.ev.length ≤ 1000 := by rw [hM]; simp; omega
  have kn : M.kn = l.kn := by rw [hM]
  have c6 := lcheck_ref M m1 m2 m3
  rw [k1.chk] at c6
  have c7 := Effect_own M sNew m1 m2 m3
  rw [k2] at c7
  have c8 := counts_ref l (by omega)
  have c9 := View_ref l.br (cntL l) x.name (by unfold Sm; omega) (by unfold Sm; rw [cnt_len]; omega)
  rw [hvw] at c9
  have c10 := Differ_own M x.name sNew m1 m2 m3
  have ed : difR M x.name sNew = (onlyL M (seenL M v) (seenL M (v.take at'.toNat)), onlyL M (seenL M (v.take at'.toNat)) (seenL M v), 0) := by
    unfold difR; rw [k3, k4]; simp only [ne_eq, not_true_eq_false, if_false]
  rw [ed] at c10
  have hend : at' = v.length → onlyL M (seenL M v) (seenL M (v.take at'.toNat)) = [] ∧ onlyL M (seenL M (v.take at'.toNat)) (seenL M v) = [] := fun e => by
    rw [show at'.toNat = v.length by omega, List.take_length]
    exact ⟨onlyL_self _ _, onlyL_self _ _⟩
  obtain ⟨X, hX⟩ : ∃ X, X = onlyL M (seenL M v) (seenL M (v.take at'.toNat)) := ⟨_, rfl⟩
  obtain ⟨Y, hY⟩ : ∃ X, X = onlyL M (seenL M (v.take at'.toNat)) (seenL M v) := ⟨_, rfl⟩
  rw [← hX, ← hY] at hend c10
  obtain ⟨Z, hZ⟩ : ∃ X, X = effL l ((seenL l v).take at'.toNat) := ⟨_, rfl⟩
  rw [← hZ] at c4 c7
  have zl : Z.length ≤ 30 := by rw [hZ]; exact effN_len _ _ _
  have c11 := sameInts_ref Z Z (by unfold Sm; omega)
  have zz : decide (Z = Z) = true := by simp
  rw [zz] at c11
  clear k5 ed hX hY hZ elc ecut eaft hM kn
  simp only [lA, sNew] at c3 c4 c6 c7 c8 c10
  simp (maxSteps := 4000000) -implicitDefEqProofs only [go_sem, g2, g3, g4, n1, n2, hx, Option.some.injEq, forall_eq', and_true, true_and, Bool.not_true, Bool.not_false, decide_true, Nat.reduceAdd, Nat.reduceSub, Nat.reduceLT, Nat.reduceLeDiff, Nat.reduceEqDiff, ↓reduceIte]
  refine ecall0 _ c3 (by simp only [go_sem]) (by simp only [go_sem]) ?_
  simp (maxSteps := 4000000) -implicitDefEqProofs only [go_sem, Nat.reduceAdd, Nat.reduceSub, Nat.reduceLT, Nat.reduceLeDiff, Nat.reduceEqDiff, ↓reduceIte]
  refine ecall0 _ c4 (by simp only [go_sem]) (by simp only [go_sem]) ?_
  simp (maxSteps := 4000000) -implicitDefEqProofs only [go_sem, z0, Option.some.injEq, forall_eq', and_true, true_and, Bool.not_true, Bool.not_false, decide_true, Nat.reduceAdd, Nat.reduceSub, Nat.reduceLT, Nat.reduceLeDiff, Nat.reduceEqDiff, ↓reduceIte]
  refine ecall0 _ c6 (by simp only [go_sem]) (by simp only [go_sem]) ?_
  simp (maxSteps := 4000000) -implicitDefEqProofs only [go_sem, z0, Option.some.injEq, forall_eq', and_true, true_and, Bool.not_true, Bool.not_false, decide_true, Nat.reduceAdd, Nat.reduceSub, Nat.reduceLT, Nat.reduceLeDiff, Nat.reduceEqDiff, ↓reduceIte]
  refine ecall0 _ c7 (by simp only [go_sem]) (by simp only [go_sem]) ?_
  simp (maxSteps := 4000000) -implicitDefEqProofs only [go_sem, Nat.reduceAdd, Nat.reduceSub, Nat.reduceLT, Nat.reduceLeDiff, Nat.reduceEqDiff, ↓reduceIte]
  refine DX.plain (.take 0 false (.take 1 false (.take 2 false (.take 3 false (.take 4 false (.take 5 false (.take 6 false (.take 7 false (.take 8 false (.take 9 false (.take 10 false .done))))))))))) (by kernel_rfl) (by kernel_rfl) Ty.mixed ?_
  simp (maxSteps := 4000000) -implicitDefEqProofs only [go_sem, z0, Option.some.injEq, forall_eq', and_true, true_and, Bool.not_true, Bool.not_false, decide_true, Nat.reduceAdd, Nat.reduceSub, Nat.reduceLT, Nat.reduceLeDiff, Nat.reduceEqDiff, ↓reduceIte]
  refine ⟨_, _, c8.lift0 _ (by simp only [go_sem]) (by simp only [go_sem]), rfl, ?_⟩
  refine ⟨_, _, c9.lift0 _ (by simp only [go_sem]) (by simp only [go_sem]), rfl, ?_⟩
  simp (maxSteps := 4000000) -implicitDefEqProofs only [go_sem, Nat.reduceAdd, Nat.reduceSub, Nat.reduceLT, Nat.reduceLeDiff, Nat.reduceEqDiff, ↓reduceIte]
  refine ecall0 _ c10 (by simp only [go_sem]) (by simp only [go_sem]) ?_
  simp (maxSteps := 4000000) -implicitDefEqProofs only [go_sem, z0, Option.some.injEq, forall_eq', and_true, true_and, Bool.not_true, Bool.not_false, decide_true, Nat.reduceAdd, Nat.reduceSub, Nat.reduceLT, Nat.reduceLeDiff, Nat.reduceEqDiff, ↓reduceIte]
  refine ecall0 _ c11 (by simp only [go_sem]) (by simp only [go_sem]) ?_
  by_cases q : at' = v.length
  · obtain ⟨h1, h2⟩ := hend q
    have z1 : (at' != (v.length : Int)) = false := by simp [q]
    have z2 : (((0 : Nat) : Int) == 0) = true := rfl
    rw [h1, h2]
    simp (maxSteps := 4000000) -implicitDefEqProofs only [go_sem, z1, z2, Option.some.injEq, forall_eq', and_true, true_and, Bool.not_true, Bool.not_false, decide_true, Nat.reduceAdd, Nat.reduceSub, Nat.reduceLT, Nat.reduceLeDiff, Nat.reduceEqDiff, ↓reduceIte]
    exact wk_bool rfl
  · have z1 : (at' != (v.length : Int)) = true := by simp [q]
    simp (maxSteps := 4000000) -implicitDefEqProofs only [go_sem, z1, Option.some.injEq, forall_eq', and_true, true_and, Bool.not_true, Bool.not_false, decide_true, Nat.reduceAdd, Nat.reduceSub, Nat.reduceLT, Nat.reduceLeDiff, Nat.reduceEqDiff, ↓reduceIte]
    exact wk_bool rfl
end Go.AX.Lg
namespace Go.Proofs.Ytcpkcjjhokbmkaa
open Go.AX Go.AX.Lg Go.RowKit
set_option maxRecDepth 100000 in
theorem ledgerCuts_lifted (os : Os) (started : os.Started) (H : Type) (enc : TypeId × Value → H) :
    ReturnsInHanded {} Try.checked os 8 .any (Rows.ledgerCutsSpec.pre6 enc Try.prog Try.f8 Rows.ledgerCutsRow.domain false) (Rows.ledgerCutsSpec.post enc Try.prog Try.f8 false true false false) := by
  refine Go.AX.lifted (C := Try.checked) (f := 8) (fn := Try.f8) (s := Rows.ledgerCutsSpec) (rt := 4) (n := 8) (by kernel_rfl) (by kernel_rfl) Try.func8 rfl ?_ rfl (by kernel_rfl) (by kernel_rfl) (by kernel_rfl) (by kernel_rfl) os started H enc
    (ChangeSpec.witness6 (enc := enc) (C := Try.checked) false ⟨#[], #[.agg #[.slice none 0 0, .slice none 0 0, .slice none 0 0], .int .i64 0, .int .i64 0], []⟩ 8 (by kernel_rfl) (by kernel_rfl) (by kernel_rfl) (by kernel_rfl)) ?_
  · intro H ds h
    match ds, h with
    | [a0, a1, a2], _ => rfl
  · intro xs hx
    have hp : Try.f8.params.toList = [26, 3, 3] := rfl
    rw [hp] at hx ⊢
    have i0 : isA Try.prog 26 = true := by kernel_rfl
    have i1 : isA Try.prog 3 = false := by kernel_rfl
    have i2 : isA Try.prog 3 = false := by kernel_rfl
    rcases xs with _ | ⟨d0, _ | ⟨d1, _ | ⟨d2, _ | ⟨d3, xs⟩⟩⟩⟩ <;> simp only [Tyds, and_false] at hx
    obtain ⟨k0, k1, k2, _⟩ := hx
    obtain ⟨l, rfl, hl⟩ := ledger_of k0
    obtain ⟨ii, rfl, hii⟩ := int_of k1
    obtain ⟨at', rfl, hat'⟩ := int_of k2
    simp only [avs, i0, i1, i2, dv, Bool.false_eq_true, if_false, if_true, List.headD_cons, List.map_cons, List.map_nil]
    exact cuts_law l ii at' hl hii hat'
theorem ledgerCuts_over : Rows.ledgerCutsRow.holds Try.pinned (OpenSpec.ofChange Rows.ledgerCutsSpec) :=
  OpenClaim.holds_of_wide 8 Try.f8 rfl rfl rfl rfl rfl rfl rfl ⟨rfl, rfl, rfl, rfl, rfl⟩ rfl rfl rfl rfl rfl (by kernel_rfl) Try.func8 (by kernel_rfl)
    (of_decide_eq_true (by kernel_rfl)) (by unfold Func.isWrapper; first | (rw [if_pos (by decide +kernel)]; kernel_rfl) | (rw [if_neg (by decide +kernel)]; exact ⟨rfl, rfl⟩))
    (fun os started H enc _ => ledgerCuts_lifted os started H enc)
/-- The row, under a short name, for the claim. -/
theorem ledgerCuts_holds : Rows.LedgerCutsSaid := ledgerCuts_over
#print axioms ledgerCuts_holds
end Go.Proofs.Ytcpkcjjhokbmkaa

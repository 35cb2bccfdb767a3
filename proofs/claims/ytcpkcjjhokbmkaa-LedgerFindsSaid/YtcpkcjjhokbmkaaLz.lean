/- LedgerFinds: whatever the input, the law returns true, and its arguments read as they did. No condition. -/
import Derived.Test.YtcpkcjjhokbmkaaK10
set_option maxHeartbeats 8000000
set_option linter.unusedVariables false
set_option linter.unusedSimpArgs false
set_option maxRecDepth 20000
namespace Go.AX.Lg
open Go.Proofs Go.RowKit Go.IntWalk Go.AX.Br
theorem Last_ref (l : Lg) (nm : ByteArray) (c : Int) (hk : l.kn.length ≤ 1000) (hb : l.br.length ≤ 1000) (he : l.ev.length ≤ 1000) : Spec Try.prog 27 [lA l, .d (.str nm), .d (.int .i64 c)] [] (.tup [.agg [.d (.int .i64 (lasR l nm c).1.b), .d (.int .i64 (lasR l nm c).1.e)], .d (.int .u8 (lasR l nm c).2.1), .d (.int .i64 (lasR l nm c).2.2)]) [] := by
  have c1 := view_lref l nm hk hb he
  have c2 := counts_ref l he
  have vk := lview_ok (l := l) (nm := nm)
  obtain ⟨V, hV⟩ : ∃ V, V = lview l nm := ⟨_, rfl⟩
  obtain ⟨R, hR⟩ : ∃ R, R = lasR l nm c := ⟨_, rfl⟩
  rw [← hR]
  rw [← hV] at c1 vk
  simp only [lA] at c1 c2
  refine spec_of_ev (fn := Try.f27) DX_ok 3000 Try.func27 rfl rfl (Nat.le_of_ble_eq_true rfl) ?_
  simp (maxSteps := 4000000) -implicitDefEqProofs only [Try.f27, go_sem, lA]
  refine ecall0 _ c1 (by simp only [go_sem]) (by simp only [go_sem]) ?_
  cases k1 : (V.2 != 0)
  case true =>
    have : V.2 ≠ 0 := by simpa using k1
    have e : R = (⟨0, 0⟩, 0, V.2) := by rw [hR, lasR, ← hV, if_pos this]
    simp (maxSteps := 4000000) -implicitDefEqProofs only [go_sem, k1, Option.some.injEq, forall_eq', and_true, true_and, Bool.not_true, Bool.not_false, decide_true, Nat.reduceAdd, Nat.reduceSub, Nat.reduceLT, Nat.reduceLeDiff, Nat.reduceEqDiff, ↓reduceIte]
    rw [e]
    exact (Wk.forget (by (simp only [go_sem]) <;> trivial) (by simp only [go_sem]))
  have k1x : V.2 = 0 := by simpa using k1
  obtain ⟨lo, i, x, s, v, a, hn, hv, hi⟩ := vk k1x
  have alen := a.len
  have h40 := lo.own i s a.hs
  have h320 := (lo.tab.g.ok.good i x a.hx).2.2
  have hlv : lview l nm = (v, 0) := by rw [← hV]; exact hv
  rw [hv] at k1 ⊢
  obtain ⟨S, hS⟩ : ∃ S, S = seenL l v := ⟨_, rfl⟩
  have hSl : S.length = v.length := by rw [hS]; exact seenL_len a.inr
  have c3 := last_ref l S c (by unfold Sm; omega) (by unfold Sm; omega)
  have c4 := View_ref l.br (cntL l) nm (by unfold Sm; omega) (by unfold Sm; rw [cnt_len]; omega)
  rw [← hn, vname lo.tab a, hn] at c4
  simp only [lA] at c3
  simp only [← hS]
  simp (maxSteps := 4000000) -implicitDefEqProofs only [go_sem, k1, Option.some.injEq, forall_eq', and_true, true_and, Bool.not_true, Bool.not_false, decide_true, Nat.reduceAdd, Nat.reduceSub, Nat.reduceLT, Nat.reduceLeDiff, Nat.reduceEqDiff, ↓reduceIte]
  refine ecall0 _ c3 (by simp only [go_sem]) (by simp only [go_sem]) ?_
  cases g1 : decide (c < 0)
  case true =>
    have e : R = (⟨0, 0⟩, 0, 6) := by
      rw [hR]; unfold lasR
      rw [hlv, if_neg (by simp), if_pos (.inl (of_decide_eq_true g1))]
    simp (maxSteps := 4000000) -implicitDefEqProofs only [go_sem, g1, Option.some.injEq, forall_eq', and_true, true_and, Bool.not_true, Bool.not_false, decide_true, Nat.reduceAdd, Nat.reduceSub, Nat.reduceLT, Nat.reduceLeDiff, Nat.reduceEqDiff, ↓reduceIte]
    rw [e]
    exact (Wk.forget (by (simp only [go_sem]) <;> trivial) (by simp only [go_sem]))
  cases g2 : decide (lastR l S c < 0)
  case true =>
    have e : R = (⟨0, 0⟩, 0, 6) := by
      rw [hR]; unfold lasR
      rw [hlv, if_neg (by simp), if_pos (.inr (by rw [← hS]; exact of_decide_eq_true g2))]
    simp (maxSteps := 4000000) -implicitDefEqProofs only [go_sem, g1, g2, Option.some.injEq, forall_eq', and_true, true_and, Bool.not_true, Bool.not_false, decide_true, Nat.reduceAdd, Nat.reduceSub, Nat.reduceLT, Nat.reduceLeDiff, Nat.reduceEqDiff, ↓reduceIte]
    rw [e]
    exact (Wk.forget (by (simp only [go_sem]) <;> trivial) (by simp only [go_sem]))
  have g1' := of_decide_eq_false g1
  have g2' := of_decide_eq_false g2
  obtain ⟨k, y, hk1, hk2, -⟩ := lastN_get (p := isC l c) (s := S) (Nat.le_refl _) (by unfold lastR at g2'; omega)
  have hk1' : lastR l S c = k := hk1
  have hkl := some_lt hk2
  obtain ⟨m, hm⟩ : ∃ m, v[k]? = some m := ⟨v[k]'(by omega), List.getElem?_eq_getElem _⟩
  have e : R = (m, y.kd, 0) := by
    rw [hR]
    exact lasR_at hlv (by omega) (by rw [← hS]; exact hk1') hm (by rw [← hS]; exact hk2)
  have n1 : (0 ≤ (k : Int) ∧ (k : Int) < v.length) = True := eq_true (by omega)
  have n2 : (k < v.length) = True := eq_true (by omega)
  have n3 : (0 ≤ (k : Int) ∧ (k : Int) < S.length) = True := eq_true (by omega)
  have n4 : (k < S.length) = True := eq_true (by omega)
  rw [hk1'] at g2 ⊢
  simp (maxSteps := 4000000) -implicitDefEqProofs only [go_sem, g1, g2, Option.some.injEq, forall_eq', and_true, true_and, Bool.not_true, Bool.not_false, decide_true, Nat.reduceAdd, Nat.reduceSub, Nat.reduceLT, Nat.reduceLeDiff, Nat.reduceEqDiff, ↓reduceIte]
  refine DX.plain (.take 0 false (.take 1 false (.take 2 false (.take 3 false (.take 4 false (.take 5 false (.take 6 false (.take 7 false (.take 8 false (.take 9 false (.take 10 false .done))))))))))) (by kernel_rfl) (by kernel_rfl) Ty.mixed ?_
  simp (maxSteps := 4000000) -implicitDefEqProofs only [go_sem, g1, Option.some.injEq, forall_eq', and_true, true_and, Bool.not_true, Bool.not_false, decide_true, Nat.reduceAdd, Nat.reduceSub, Nat.reduceLT, Nat.reduceLeDiff, Nat.reduceEqDiff, ↓reduceIte]
  refine ⟨_, _, c2.lift0 _ (by simp only [go_sem]) (by simp only [go_sem]), rfl, ?_⟩
  refine ⟨_, _, c4.lift0 _ (by simp only [go_sem]) (by simp only [go_sem]), rfl, ?_⟩
  simp (maxSteps := 4000000) -implicitDefEqProofs only [go_sem, Nat.reduceAdd, Nat.reduceSub, Nat.reduceLT, Nat.reduceLeDiff, Nat.reduceEqDiff, ↓reduceIte]
  refine DX.plain (.take 0 false (.take 1 false (.take 2 false (.take 3 false (.take 4 true (.take 5 true (.take 6 true (.take 7 true (.take 8 true (.run [9] (fun _ => [true, true, true, true, true]) fun _ => (.take 10 false (.take 11 false .done)))))))))))) (by kernel_rfl) (by kernel_rfl) Ty.mixed ?_
  simp (maxSteps := 4000000) -implicitDefEqProofs only [go_sem, n1, n2, n3, n4, hm, hk2, Option.some.injEq, forall_eq', and_true, true_and, Bool.not_true, Bool.not_false, decide_true, Nat.reduceAdd, Nat.reduceSub, Nat.reduceLT, Nat.reduceLeDiff, Nat.reduceEqDiff, ↓reduceIte]
  refine ⟨⟨eD y, by simp [hk2], rfl, rfl⟩, ?_⟩
  rw [e]
  exact (Wk.forget (by (simp only [go_sem]) <;> trivial) (by simp only [go_sem]))
theorem eff_len2 (l : Lg) (nm : ByteArray) : Sm (effR l nm).1.length := by
  have : (effR l nm).1.length ≤ 30 := by
    unfold effR
    split
    · simp
    · exact effN_len _ _ _
  unfold Sm; omega
theorem aft_len2 (l : Lg) (nm : ByteArray) (n : Int) : Sm (aftR l nm n).1.length := by
  have : (aftR l nm n).1.length ≤ 30 := by
    unfold aftR
    split
    · simp
    split
    · simp
    · exact effN_len _ _ _
  unfold Sm; omega
theorem dif_len2 (l : Lg) (a b : ByteArray) : Sm (difR l a b).1.length ∧ Sm (difR l a b).2.1.length := by
  have : (difR l a b).1.length ≤ 30 ∧ (difR l a b).2.1.length ≤ 30 := by
    unfold difR
    split
    · simp
    split
    · simp
    · exact ⟨onlyN_len _ _ _, onlyN_len _ _ _⟩
  unfold Sm; omega
theorem finds_law (l : Lg) (na nb : ByteArray) (n c : Int) (hl : LSm l) : Spec Try.prog 5 [lA l, .d (.str na), .d (.str nb), .d (.int .i64 n), .d (.int .i64 c)] [] (.d (.bool true)) [] := by
  have c1 := great_lref l hl.k hl.b hl.e hl.s
  simp only [lA] at c1
  refine spec_of_ev (fn := Try.f5) DX_ok 3000 Try.func5 rfl rfl (Nat.le_of_ble_eq_true rfl) ?_
  simp (maxSteps := 4000000) -implicitDefEqProofs only [Try.f5, go_sem, lA]
  refine ecall0 _ c1 (by simp only [go_sem]) (by simp only [go_sem]) ?_
  cases g1 : greatL l
  case true =>
    simp (maxSteps := 4000000) -implicitDefEqProofs only [go_sem, g1, Option.some.injEq, forall_eq', and_true, true_and, Bool.not_true, Bool.not_false, decide_true, Nat.reduceAdd, Nat.reduceSub, Nat.reduceLT, Nat.reduceLeDiff, Nat.reduceEqDiff, ↓reduceIte]
    exact wk_bool rfl
  have f := fit_of g1
  have fk : l.kn.length ≤ 1000 := by have := f.k; omega
  have fb : l.br.length ≤ 1000 := by have := f.b; omega
  have fe : l.ev.length ≤ 1000 := by have := f.e; omega
  cases g2 : decide ((100 : Int) < na.size)
  case true =>
    simp (maxSteps := 4000000) -implicitDefEqProofs only [go_sem, g1, g2, Option.some.injEq, forall_eq', and_true, true_and, Bool.not_true, Bool.not_false, decide_true, Nat.reduceAdd, Nat.reduceSub, Nat.reduceLT, Nat.reduceLeDiff, Nat.reduceEqDiff, ↓reduceIte]
    exact wk_bool rfl
  cases g3 : decide ((100 : Int) < nb.size)
  case true =>
    simp (maxSteps := 4000000) -implicitDefEqProofs only [go_sem, g1, g2, g3, Option.some.injEq, forall_eq', and_true, true_and, Bool.not_true, Bool.not_false, decide_true, Nat.reduceAdd, Nat.reduceSub, Nat.reduceLT, Nat.reduceLeDiff, Nat.reduceEqDiff, ↓reduceIte]
    exact wk_bool rfl
  have c2 := Effect_own l na fk fb fe
  have c3 := Effect_ref l na fk fb fe
  have c4 := After_own l na n fk fb fe
  have c5 := After_ref l na n fk fb fe
  have c6 := Last_own l na c fk fb fe
  have c7 := Last_ref l na c fk fb fe
  have c8 := Differ_own l na nb fk fb fe
  have c9 := Differ_ref l na nb fk fb fe
  have c10 := lcheck_own l fk fb fe
  have c11 := lcheck_ref l fk fb fe
  have l1 := eff_len2 l na
  have l2 := aft_len2 l na n
  obtain ⟨l3, l4⟩ := dif_len2 l na nb
  obtain ⟨A, hA⟩ : ∃ A, A = effR l na := ⟨_, rfl⟩
  obtain ⟨B, hB⟩ : ∃ A, A = aftR l na n := ⟨_, rfl⟩
  obtain ⟨C, hC⟩ : ∃ A, A = lasR l na c := ⟨_, rfl⟩
  obtain ⟨D, hD⟩ : ∃ A, A = difR l na nb := ⟨_, rfl⟩
  obtain ⟨F, hF⟩ : ∃ A, A = lcheck l := ⟨_, rfl⟩
  rw [← hA] at c2 c3 l1
  rw [← hB] at c4 c5 l2
  rw [← hC] at c6 c7
  rw [← hD] at c8 c9 l3 l4
  rw [← hF] at c10 c11
  have s1 := sameInts_ref A.1 A.1 l1
  have s2 := sameInts_ref B.1 B.1 l2
  have s3 := sameInts_ref D.1 D.1 l3
  have s4 := sameInts_ref D.2.1 D.2.1 l4
  rw [decide_eq_true rfl] at s1 s2 s3 s4
  have z1 : ∀ n : Int, (n == n) = true := fun n => by simp
  simp only [lA] at c2 c3 c4 c5 c6 c7 c8 c9 c10 c11
  simp (maxSteps := 4000000) -implicitDefEqProofs only [go_sem, g1, g2, g3, Option.some.injEq, forall_eq', and_true, true_and, Bool.not_true, Bool.not_false, decide_true, Nat.reduceAdd, Nat.reduceSub, Nat.reduceLT, Nat.reduceLeDiff, Nat.reduceEqDiff, ↓reduceIte]
  refine ecall0 _ c2 (by simp only [go_sem]) (by simp only [go_sem]) ?_
  simp (maxSteps := 4000000) -implicitDefEqProofs only [go_sem, Nat.reduceAdd, Nat.reduceSub, Nat.reduceLT, Nat.reduceLeDiff, Nat.reduceEqDiff, ↓reduceIte]
  refine ecall0 _ c3 (by simp only [go_sem]) (by simp only [go_sem]) ?_
  simp (maxSteps := 4000000) -implicitDefEqProofs only [go_sem, Nat.reduceAdd, Nat.reduceSub, Nat.reduceLT, Nat.reduceLeDiff, Nat.reduceEqDiff, ↓reduceIte]
  refine ecall0 _ c4 (by simp only [go_sem]) (by simp only [go_sem]) ?_
  simp (maxSteps := 4000000) -implicitDefEqProofs only [go_sem, Nat.reduceAdd, Nat.reduceSub, Nat.reduceLT, Nat.reduceLeDiff, Nat.reduceEqDiff, ↓reduceIte]
  refine ecall0 _ c5 (by simp only [go_sem]) (by simp only [go_sem]) ?_
  simp (maxSteps := 4000000) -implicitDefEqProofs only [go_sem, Nat.reduceAdd, Nat.reduceSub, Nat.reduceLT, Nat.reduceLeDiff, Nat.reduceEqDiff, ↓reduceIte]
  refine ecall0 _ c6 (by simp only [go_sem]) (by simp only [go_sem]) ?_
  simp (maxSteps := 4000000) -implicitDefEqProofs only [go_sem, Nat.reduceAdd, Nat.reduceSub, Nat.reduceLT, Nat.reduceLeDiff, Nat.reduceEqDiff, ↓reduceIte]
  refine ecall0 _ c7 (by simp only [go_sem]) (by simp only [go_sem]) ?_
  simp (maxSteps := 4000000) -implicitDefEqProofs only [go_sem, Nat.reduceAdd, Nat.reduceSub, Nat.reduceLT, Nat.reduceLeDiff, Nat.reduceEqDiff, ↓reduceIte]
  refine ecall0 _ c8 (by simp only [go_sem]) (by simp only [go_sem]) ?_
  simp (maxSteps := 4000000) -implicitDefEqProofs only [go_sem, Nat.reduceAdd, Nat.reduceSub, Nat.reduceLT, Nat.reduceLeDiff, Nat.reduceEqDiff, ↓reduceIte]
  refine ecall0 _ c9 (by simp only [go_sem]) (by simp only [go_sem]) ?_
  simp (maxSteps := 4000000) -implicitDefEqProofs only [go_sem, Nat.reduceAdd, Nat.reduceSub, Nat.reduceLT, Nat.reduceLeDiff, Nat.reduceEqDiff, ↓reduceIte]
  refine DX.plain (.take 0 false (.take 1 false (.take 2 false (.take 3 false (.take 4 false (.take 5 false (.take 6 false (.take 7 false (.take 8 false (.take 9 false (.take 10 false (.take 11 false (.take 12 false (.take 13 false (.take 14 false (.take 15 false (.take 16 false (.take 17 false (.take 18 false (.take 19 false (.take 20 false (.take 21 false (.take 22 false (.take 23 false (.take 24 false (.take 25 false (.take 26 false (.take 27 false (.take 28 false (.take 29 false (.take 30 false (.take 31 false (.take 32 false (.take 33 false (.take 34 false (.take 35 false (.take 36 false (.take 37 false (.take 38 false (.take 39 false (.take 40 false (.take 41 false (.take 42 false (.take 43 false (.take 44 false (.take 45 false (.take 46 false (.take 47 false (.take 48 false (.take 49 false (.take 50 false (.take 51 false (.take 52 false (.take 53 false (.take 54 false (.take 55 false .done)))))))))))))))))))))))))))))))))))))))))))))))))))))))) (by kernel_rfl) (by kernel_rfl) Ty.mixed ?_
  simp (maxSteps := 4000000) -implicitDefEqProofs only [go_sem, z1, Option.some.injEq, forall_eq', and_true, true_and, Bool.not_true, Bool.not_false, decide_true, Nat.reduceAdd, Nat.reduceSub, Nat.reduceLT, Nat.reduceLeDiff, Nat.reduceEqDiff, ↓reduceIte]
  refine ⟨_, _, c10.lift0 _ (by simp only [go_sem]) (by simp only [go_sem]), rfl, ?_⟩
  refine ⟨_, _, c11.lift0 _ (by simp only [go_sem]) (by simp only [go_sem]), rfl, ?_⟩
  simp (maxSteps := 4000000) -implicitDefEqProofs only [go_sem, z1, Option.some.injEq, forall_eq', and_true, true_and, Bool.not_true, Bool.not_false, decide_true, Nat.reduceAdd, Nat.reduceSub, Nat.reduceLT, Nat.reduceLeDiff, Nat.reduceEqDiff, ↓reduceIte]
  refine ⟨_, _, s1.lift0 _ (by simp only [go_sem]) (by simp only [go_sem]), rfl, ?_⟩
  simp (maxSteps := 4000000) -implicitDefEqProofs only [go_sem, z1, Option.some.injEq, forall_eq', and_true, true_and, Bool.not_true, Bool.not_false, decide_true, Nat.reduceAdd, Nat.reduceSub, Nat.reduceLT, Nat.reduceLeDiff, Nat.reduceEqDiff, ↓reduceIte]
  refine ⟨_, _, s2.lift0 _ (by simp only [go_sem]) (by simp only [go_sem]), rfl, ?_⟩
  simp (maxSteps := 4000000) -implicitDefEqProofs only [go_sem, z1, Option.some.injEq, forall_eq', and_true, true_and, Bool.not_true, Bool.not_false, decide_true, Nat.reduceAdd, Nat.reduceSub, Nat.reduceLT, Nat.reduceLeDiff, Nat.reduceEqDiff, ↓reduceIte]
  refine ⟨_, _, s3.lift0 _ (by simp only [go_sem]) (by simp only [go_sem]), rfl, ?_⟩
  simp (maxSteps := 4000000) -implicitDefEqProofs only [go_sem, z1, Option.some.injEq, forall_eq', and_true, true_and, Bool.not_true, Bool.not_false, decide_true, Nat.reduceAdd, Nat.reduceSub, Nat.reduceLT, Nat.reduceLeDiff, Nat.reduceEqDiff, ↓reduceIte]
  refine ⟨_, _, s4.lift0 _ (by simp only [go_sem]) (by simp only [go_sem]), rfl, ?_⟩
  simp (maxSteps := 4000000) -implicitDefEqProofs only [go_sem, z1, Option.some.injEq, forall_eq', and_true, true_and, Bool.not_true, Bool.not_false, decide_true, Nat.reduceAdd, Nat.reduceSub, Nat.reduceLT, Nat.reduceLeDiff, Nat.reduceEqDiff, ↓reduceIte]
  exact wk_bool rfl
end Go.AX.Lg
namespace Go.Proofs.Ytcpkcjjhokbmkaa
open Go.AX Go.AX.Lg Go.RowKit
set_option maxRecDepth 100000 in
theorem ledgerFinds_lifted (os : Os) (started : os.Started) (H : Type) (enc : TypeId × Value → H) :
    ReturnsInHanded {} Try.checked os 5 .any (Rows.ledgerFindsSpec.pre6 enc Try.prog Try.f5 Rows.ledgerFindsRow.domain false) (Rows.ledgerFindsSpec.post enc Try.prog Try.f5 false true false false) := by
  refine Go.AX.lifted (C := Try.checked) (f := 5) (fn := Try.f5) (s := Rows.ledgerFindsSpec) (rt := 4) (n := 8) (by kernel_rfl) (by kernel_rfl) Try.func5 rfl ?_ rfl (by kernel_rfl) (by kernel_rfl) (by kernel_rfl) (by kernel_rfl) os started H enc
    (ChangeSpec.witness6 (enc := enc) (C := Try.checked) false ⟨#[], #[.agg #[.slice none 0 0, .slice none 0 0, .slice none 0 0], .string ByteArray.empty, .string ByteArray.empty, .int .i64 0, .int .i64 0], []⟩ 8 (by kernel_rfl) (by kernel_rfl) (by kernel_rfl) (by kernel_rfl)) ?_
  · intro H ds h
    match ds, h with
    | [a0, a1, a2, a3, a4], _ => rfl
  · intro xs hx
    have hp : Try.f5.params.toList = [26, 9, 9, 3, 3] := rfl
    rw [hp] at hx ⊢
    have i0 : isA Try.prog 26 = true := by kernel_rfl
    have i1 : isA Try.prog 9 = false := by kernel_rfl
    have i2 : isA Try.prog 9 = false := by kernel_rfl
    have i3 : isA Try.prog 3 = false := by kernel_rfl
    have i4 : isA Try.prog 3 = false := by kernel_rfl
    rcases xs with _ | ⟨d0, _ | ⟨d1, _ | ⟨d2, _ | ⟨d3, _ | ⟨d4, _ | ⟨d5, xs⟩⟩⟩⟩⟩⟩ <;> simp only [Tyds, and_false] at hx
    obtain ⟨k0, k1, k2, k3, k4, _⟩ := hx
    obtain ⟨l, rfl, hl⟩ := ledger_of k0
    obtain ⟨na, rfl, hna⟩ := str_of k1
    obtain ⟨nb, rfl, hnb⟩ := str_of k2
    obtain ⟨n, rfl, hn⟩ := int_of k3
    obtain ⟨c, rfl, hc⟩ := int_of k4
    simp only [avs, i0, i1, i2, i3, i4, dv, Bool.false_eq_true, if_false, if_true, List.headD_cons, List.map_cons, List.map_nil]
    exact finds_law l na nb n c hl
theorem ledgerFinds_over : Rows.ledgerFindsRow.holds Try.pinned (OpenSpec.ofChange Rows.ledgerFindsSpec) :=
  OpenClaim.holds_of_wide 5 Try.f5 rfl rfl rfl rfl rfl rfl rfl ⟨rfl, rfl, rfl, rfl, rfl⟩ rfl rfl rfl rfl rfl (by kernel_rfl) Try.func5 (by kernel_rfl)
    (of_decide_eq_true (by kernel_rfl)) (by unfold Func.isWrapper; first | (rw [if_pos (by decide +kernel)]; kernel_rfl) | (rw [if_neg (by decide +kernel)]; exact ⟨rfl, rfl⟩))
    (fun os started H enc _ => ledgerFinds_lifted os started H enc)
/-- The row, under a short name, for the claim. -/
theorem ledgerFinds_holds : Rows.LedgerFindsSaid := ledgerFinds_over
#print axioms ledgerFinds_holds
end Go.Proofs.Ytcpkcjjhokbmkaa

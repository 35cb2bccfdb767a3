/- delta.Make: of data. -/
import Derived.Test.YtmffhidhmbncbaaK12
set_option maxHeartbeats 8000000
set_option linter.unusedVariables false
set_option linter.unusedSimpArgs false
set_option maxRecDepth 20000
namespace Go.AX.De
open Go.Proofs Go.RowKit Go.IntWalk Go.AX.Co
theorem make_dat {o : Obj} (hg : GlO o) (b s : List Int) (hB : Bytes b) (hS : Bytes s) (hlb : b.length ≤ 140737488351232) (hls : s.length ≤ 140737488351232) :
    Spec Try.prog 18 [.d (.sl (b.map bY)), .d (.sl (s.map bY))] [.obj 0 o] (.tup [.d (.sl ((makes b s).1.map pD)), .d (.int .i64 (makes b s).2)]) [.obj 0 o] := by
  have dm : decide (300 < (if (b.length : Int) < s.length then (s.length : Int) else b.length)) = decide (300 < b.length ∨ 300 < s.length) := by
    rw [Bool.eq_iff_iff]; simp only [decide_eq_true_eq]; split <;> omega
  generalize hR : makes b s = R
  unfold makes at hR
  refine spec_of_ev (fn := Try.f18) DX_ok 3000 Try.func18 rfl rfl (Nat.le_of_ble_eq_true rfl) ?_
  simp (maxSteps := 4000000) -implicitDefEqProofs only [Try.f18, go_sem]
  by_cases h0 : 300 < b.length ∨ 300 < s.length
  · rw [if_pos h0] at hR
    subst hR
    rw [decide_eq_true h0] at dm
    simp (maxSteps := 4000000) -implicitDefEqProofs only [go_sem, dm, Option.some.injEq, forall_eq', and_true, true_and, Bool.not_true, Bool.not_false, decide_true, Nat.reduceAdd, Nat.reduceSub, Nat.reduceLT, Nat.reduceLeDiff, Nat.reduceEqDiff, ↓reduceIte]
    exact Wk.end1 (by simp only [go_sem]; rfl) (by simp only [go_sem]) (by simp only [go_sem])
  rw [if_neg h0] at hR
  rw [decide_eq_false h0] at dm
  subst hR
  have hb : b.length ≤ 300 := by omega
  have hs : s.length ≤ 300 := by omega
  obtain ⟨N, hN⟩ : ∃ N, N = s.length + 1 := ⟨_, rfl⟩
  have w1 : IntKind.i64.wrap ((s.length : Int) + 1) = (N : Int) := by rw [i64_in _ (by omega), hN]; simp
  simp (maxSteps := 4000000) -implicitDefEqProofs only [go_sem, dm, Option.some.injEq, forall_eq', and_true, true_and, Bool.not_true, Bool.not_false, decide_true, Nat.reduceAdd, Nat.reduceSub, Nat.reduceLT, Nat.reduceLeDiff, Nat.reduceEqDiff, ↓reduceIte]
  refine DX.join (mkE 160 [(0, .d (.sl (b.map bY))), (1, .d (.sl (s.map bY))), (6, .d (.int .i64 s.length)), (7, .own 1), (8, .own 2)]) ([.obj 0 o] ++ [.row 1 ((cA b s s.length).map iD), .row 1 ((fA b s s.length).map iD)])
    (.take 0 true (.take 1 true (.take 3 true (.run [2, 4] (fun i => if i = 2 then [true, false, false] else [false, true, true]) fun i => if i = 2 then ((.take 5 true (.run [4] (fun i => [true, false]) fun i => (.take 6 false .done)))) else ((.run [2] (fun i => [false, false]) fun i => (.take 5 false (.take 6 false .done)))))))) (by kernel_rfl) (by kernel_rfl) Ty.mixed ?_ ?_
  · have z1 : List.replicate N [D.int .i64 0] = (cA b s s.length).map iD := by rw [cA_end, ← hN, List.map_replicate]; rfl
    have z2 : List.replicate s.length [D.int .i64 0] = (fA b s s.length).map iD := by rw [fA_end, List.map_replicate]; rfl
    simp (maxSteps := 4000000) -implicitDefEqProofs only [go_sem, w1, z1, z2, Option.some.injEq, forall_eq', and_true, true_and, Bool.not_true, Bool.not_false, decide_true, Nat.reduceAdd, Nat.reduceSub, Nat.reduceLT, Nat.reduceLeDiff, Nat.reduceEqDiff, ↓reduceIte]
    exact ⟨⟨by omega, by omega, (Wk.via [0, 1, 2] (by (simp only [go_sem, ↓reduceIte]) <;> trivial) (by (simp (maxSteps := 4000000) -implicitDefEqProofs only [go_sem, Nat.reduceAdd, Nat.reduceSub, Nat.reduceLT, Nat.reduceLeDiff, Nat.reduceEqDiff, ↓reduceIte]) <;> omega) (by simp) (by simp) (by (simp (maxSteps := 4000000) -implicitDefEqProofs only [go_sem, Nat.reduceAdd, Nat.reduceSub, Nat.reduceLT, Nat.reduceLeDiff, Nat.reduceEqDiff, ↓reduceIte]) <;> trivial) (by (simp (maxSteps := 4000000) -implicitDefEqProofs only [go_sem, Nat.reduceAdd, Nat.reduceSub, Nat.reduceLT, Nat.reduceLeDiff, Nat.reduceEqDiff, ↓reduceIte]) <;> omega) (Nat.le_of_ble_eq_true rfl) (at0_pre rfl))⟩, by omega, by omega, (Wk.via [0, 2, 1] (by (simp only [go_sem, ↓reduceIte]) <;> trivial) (by (simp (maxSteps := 4000000) -implicitDefEqProofs only [go_sem, Nat.reduceAdd, Nat.reduceSub, Nat.reduceLT, Nat.reduceLeDiff, Nat.reduceEqDiff, ↓reduceIte]) <;> omega) (by simp) (by simp) (by (simp (maxSteps := 4000000) -implicitDefEqProofs only [go_sem, Nat.reduceAdd, Nat.reduceSub, Nat.reduceLT, Nat.reduceLeDiff, Nat.reduceEqDiff, ↓reduceIte]) <;> trivial) (by (simp (maxSteps := 4000000) -implicitDefEqProofs only [go_sem, Nat.reduceAdd, Nat.reduceSub, Nat.reduceLT, Nat.reduceLeDiff, Nat.reduceEqDiff, ↓reduceIte]) <;> omega) (Nat.le_of_ble_eq_true rfl) (at0_pre rfl))⟩
  have w2 : IntKind.i64.wrap ((s.length : Int) - 1) = (s.length : Int) - 1 := i64_in _ (by omega)
  simp (maxSteps := 4000000) -implicitDefEqProofs only [go_sem, w2, Option.some.injEq, forall_eq', and_true, true_and, Bool.not_true, Bool.not_false, decide_true, Nat.reduceAdd, Nat.reduceSub, Nat.reduceLT, Nat.reduceLeDiff, Nat.reduceEqDiff, ↓reduceIte]
  refine eloop (S := Nat) (fun j => mkE 160 [(0, .d (.sl (b.map bY))), (1, .d (.sl (s.map bY))), (6, .d (.int .i64 s.length)), (7, .own 1), (8, .own 2), (9, .d (.int .i64 ((j : Int) - 1)))]) (fun j => [.obj 0 o] ++ [.row 1 ((cA b s j).map iD), .row 1 ((fA b s j).map iD)]) (fun j => j ≤ s.length) (fun j => j) s.length (Nat.le_refl _) (Wk.sub (by (simp only [go_sem]) <;> trivial)) ?_
  intro j hj
  obtain ⟨z, hz⟩ : ∃ z, (j : Int) - 1 = z := ⟨_, rfl⟩
  rw [hz]
  by_cases h1 : j = 0
  · have d1 : decide (0 ≤ z) = false := by simp; omega
    subst h1
    obtain ⟨F, hFF⟩ : ∃ F, F = fA b s 0 := ⟨_, rfl⟩
    have lF : F.length = s.length := by rw [hFF, fA_0, fst_len]
    rw [← hFF]
    simp (maxSteps := 4000000) -implicitDefEqProofs only [go_sem, d1, Option.some.injEq, forall_eq', and_true, true_and, Bool.not_true, Bool.not_false, decide_true, Nat.reduceAdd, Nat.reduceSub, Nat.reduceLT, Nat.reduceLeDiff, Nat.reduceEqDiff, ↓reduceIte]
    refine eloop (S := Nat × Nat × List Part) (fun q => mkE 160 [(0, .d (.sl (b.map bY))), (1, .d (.sl (s.map bY))), (6, .d (.int .i64 s.length)), (8, .own 2), (14, .own 3), (15, .d (.int .i64 q.1))]) (fun q => [.obj 0 o] ++ [.row 1 ((cA b s 0).map iD), .row 1 (F.map iD), .row 3 (q.2.2.map pD)])
      (fun q => q.1 ≤ s.length ∧ s.length ≤ q.1 + q.2.1 ∧ q.2.2.length ≤ q.1 ∧ q.2.2 ++ mkP b q.2.1 (s.drop q.1) = mkP b s.length s) (fun q => s.length - q.1) ((0, s.length, []) : Nat × Nat × List Part) ⟨Nat.zero_le _, by simp, Nat.le_refl _, by simp⟩ (Wk.trans (Wk.nil 14 3 rfl) (Wk.sub (by (simp only [go_sem]) <;> trivial))) ?_
    intro q hq
    obtain ⟨i, d, out⟩ := q
    simp only at hq ⊢
    have q1 := hq.1
    have q2 := hq.2.1
    have q3 := hq.2.2.1
    have q4 := hq.2.2.2
    clear hq
    by_cases h2 : i < s.length
    case neg =>
      have d2 : decide ((i : Int) < s.length) = false := by simp; omega
      rw [List.drop_eq_nil_of_le (by omega), mkP_nil, List.append_nil] at q4
      rw [← q4]
      simp (maxSteps := 4000000) -implicitDefEqProofs only [go_sem, d2, Option.some.injEq, forall_eq', and_true, true_and, Bool.not_true, Bool.not_false, decide_true, Nat.reduceAdd, Nat.reduceSub, Nat.reduceLT, Nat.reduceLeDiff, Nat.reduceEqDiff, ↓reduceIte]
      exact Wk.end1 (by simp only [go_sem]; rfl) (by simp only [go_sem]) (by simp only [go_sem])
    have d2 : decide ((i : Int) < s.length) = true := by simp; omega
    obtain ⟨d, rfl⟩ : ∃ e, d = e + 1 := ⟨d - 1, by omega⟩
    have hne : s.drop i ≠ [] := fun e => by have := congrArg List.length e; simp at this; omega
    have hf : F[i]? = some (fir b (s.drop i)) := by rw [hFF, fA_0]; exact fst_at h2
    have fb := fir_bd (b := b) hne
    have lgb := lg_le b (s.drop i)
    rw [mkP, if_neg hne] at q4
    generalize fir b (s.drop i) = f at hf fb q4
    rw [List.length_drop] at fb lgb
    have n1 : (0 ≤ (i : Int) ∧ (i : Int) < (s.length : Int)) = True := eq_true (by omega)
    have n2 : (i < s.length) = True := eq_true h2
    by_cases h3 : 0 < f
    · obtain ⟨K, hK⟩ : ∃ K : Nat, f = (K : Int) := ⟨f.toNat, by omega⟩
      subst hK
      rw [if_pos h3, Int.toNat_natCast, List.drop_drop] at q4
      have d3 : decide (0 < (K : Int)) = true := decide_eq_true h3
      have w3 : IntKind.i64.wrap ((i : Int) + K) = ((i + K : Nat) : Int) := by rw [i64_in _ (by omega)]; simp
      have w4 : IntKind.i64.wrap (0 - (K : Int)) = -(K : Int) := by rw [i64_in _ (by omega)]; omega
      have w5 : (if (K : Int) < -(K : Int) then -(K : Int) else (K : Int)) = (K : Int) := if_neg (by omega)
      have eP : List.drop i (List.take (i + K) s) = (s.drop i).take K := by rw [List.drop_take]; congr 1; omega
      have pl : ((s.drop i).take K).length = K := by rw [List.length_take, List.length_drop]; omega
      have eO : i + K - i = K := by omega
      have ci := index_dat hg b ((s.drop i).take K) hB (fun e he => hS e (List.mem_of_mem_drop (List.mem_of_mem_take he))) (fun e => by subst e; simp at lgb; omega) (fun e => by rw [e] at pl; simp at pl; omega) (by omega) (by omega)
      have hvd : (out.map pD ++ [[.int .i64 (Lib.index (u8s b) (u8s ((s.drop i).take K))), .int .i64 K, .sl []]] : List (List D)) = (out ++ [(⟨Lib.index (u8s b) (u8s ((s.drop i).take K)), K, []⟩ : Part)]).map pD := by
        rw [List.map_append]; simp only [List.map_cons, List.map_nil, pD]
      generalize hx : Lib.index (u8s b) (u8s ((s.drop i).take K)) = x at ci hvd q4
      simp (maxSteps := 4000000) -implicitDefEqProofs only [go_sem, d2, lF, n1, n2, hf, d3, w3, eP, eO, Option.some.injEq, forall_eq', and_true, true_and, Bool.not_true, Bool.not_false, decide_true, Nat.reduceAdd, Nat.reduceSub, Nat.reduceLT, Nat.reduceLeDiff, Nat.reduceEqDiff, ↓reduceIte]
      refine ⟨by omega, .all _ _ (ci.gl _ 0 (by rfl) (by simp only [go_sem]) (by simp only [go_sem])) ?_⟩
      simp (maxSteps := 4000000) -implicitDefEqProofs only [go_sem, Nat.reduceAdd, Nat.reduceSub, Nat.reduceLT, Nat.reduceLeDiff, Nat.reduceEqDiff, ↓reduceIte]
      refine ⟨by decide, ⟨fun e he => by simp at he; subst he; rfl, by first | omega | (rw [List.length_map]; omega), by first | omega | (rw [List.length_map]; omega)⟩, ?_⟩
      refine DX.plain (.take 0 false (.take 1 false (.take 2 false (.take 3 false (.take 4 false (.take 5 false (.take 6 false (.take 7 false (.take 8 false (.take 9 false (.take 10 false (.take 11 false (.take 12 false .done))))))))))))) (by kernel_rfl) (by kernel_rfl) Ty.mixed ?_
      simp (maxSteps := 4000000) -implicitDefEqProofs only [go_sem, lF, n1, n2, hf, w3, w4, w5, Option.some.injEq, forall_eq', and_true, true_and, Bool.not_true, Bool.not_false, decide_true, Nat.reduceAdd, Nat.reduceSub, Nat.reduceLT, Nat.reduceLeDiff, Nat.reduceEqDiff, ↓reduceIte]
      exact .mk ((i + K, d, out ++ [(⟨x, K, []⟩ : Part)]) : Nat × Nat × List Part) ⟨by first | omega | (simp only; omega), by first | omega | (simp only; omega), by simp only [List.length_append, List.length_cons, List.length_nil]; omega, by rw [List.append_assoc]; exact q4⟩ (by first | omega | (simp only; omega)) (by rw [hvd]; exact (Wk.via [0, 1, 2, 5] (by (simp only [go_sem, ↓reduceIte]) <;> trivial) (by (simp (maxSteps := 4000000) -implicitDefEqProofs only [go_sem, Nat.reduceAdd, Nat.reduceSub, Nat.reduceLT, Nat.reduceLeDiff, Nat.reduceEqDiff, ↓reduceIte]) <;> omega) (by simp) (by simp) (by (simp (maxSteps := 4000000) -implicitDefEqProofs only [go_sem, Nat.reduceAdd, Nat.reduceSub, Nat.reduceLT, Nat.reduceLeDiff, Nat.reduceEqDiff, ↓reduceIte]) <;> trivial) (by (simp (maxSteps := 4000000) -implicitDefEqProofs only [go_sem, Nat.reduceAdd, Nat.reduceSub, Nat.reduceLT, Nat.reduceLeDiff, Nat.reduceEqDiff, ↓reduceIte]) <;> omega) (Nat.le_of_ble_eq_true rfl) (at0_pre rfl)))
    · obtain ⟨K, hK⟩ : ∃ K : Nat, f = -(K : Int) := ⟨(-f).toNat, by omega⟩
      subst hK
      have h5 : 0 < K := by omega
      rw [if_neg h3, Int.neg_neg, Int.toNat_natCast, List.drop_drop] at q4
      have d3 : decide (0 < -(K : Int)) = false := decide_eq_false h3
      have w3 : IntKind.i64.wrap ((i : Int) - -(K : Int)) = ((i + K : Nat) : Int) := by rw [i64_in _ (by omega)]; omega
      have w3' : IntKind.i64.wrap ((i : Int) + K) = ((i + K : Nat) : Int) := by rw [i64_in _ (by omega)]; simp
      have w4 : IntKind.i64.wrap (0 - -(K : Int)) = (K : Int) := by rw [i64_in _ (by omega)]; omega
      have w5 : (if -(K : Int) < (K : Int) then (K : Int) else -(K : Int)) = (K : Int) := if_pos (by omega)
      have eP : List.drop i (List.take (i + K) s) = (s.drop i).take K := by rw [List.drop_take]; congr 1; omega
      have eO : i + K - i = K := by omega
      have pl : ((s.drop i).take K).length = K := by rw [List.length_take, List.length_drop]; omega
      have ci := clone_bytes ((s.drop i).take K) (by omega)
      have hvd : (out.map pD ++ [[.int .i64 0, .int .i64 0, .sl (((s.drop i).take K).map bY)]] : List (List D)) = (out ++ [(⟨0, 0, (s.drop i).take K⟩ : Part)]).map pD := by
        rw [List.map_append]; simp only [List.map_cons, List.map_nil, pD, bIY]
      generalize hx : (s.drop i).take K = x at ci hvd q4 eP
      simp (maxSteps := 4000000) -implicitDefEqProofs only [go_sem, d2, lF, n1, n2, hf, d3, w3, eP, eO, Option.some.injEq, forall_eq', and_true, true_and, Bool.not_true, Bool.not_false, decide_true, Nat.reduceAdd, Nat.reduceSub, Nat.reduceLT, Nat.reduceLeDiff, Nat.reduceEqDiff, ↓reduceIte]
      refine ⟨by omega, .all _ _ (ci.lift0 _ (by simp only [go_sem]) (by simp only [go_sem])) ?_⟩
      simp (maxSteps := 4000000) -implicitDefEqProofs only [go_sem, Nat.reduceAdd, Nat.reduceSub, Nat.reduceLT, Nat.reduceLeDiff, Nat.reduceEqDiff, ↓reduceIte]
      refine ⟨by decide, ⟨fun e he => by simp at he; subst he; rfl, by first | omega | (rw [List.length_map]; omega), by first | omega | (rw [List.length_map]; omega)⟩, ?_⟩
      refine DX.plain (.take 0 false (.take 1 false (.take 2 false (.take 3 false (.take 4 false (.take 5 false (.take 6 false (.take 7 false (.take 8 false (.take 9 false (.take 10 false (.take 11 false (.take 12 false .done))))))))))))) (by kernel_rfl) (by kernel_rfl) Ty.mixed ?_
      simp (maxSteps := 4000000) -implicitDefEqProofs only [go_sem, lF, n1, n2, hf, w3', w4, w5, Option.some.injEq, forall_eq', and_true, true_and, Bool.not_true, Bool.not_false, decide_true, Nat.reduceAdd, Nat.reduceSub, Nat.reduceLT, Nat.reduceLeDiff, Nat.reduceEqDiff, ↓reduceIte]
      exact .mk ((i + K, d, out ++ [(⟨0, 0, x⟩ : Part)]) : Nat × Nat × List Part) ⟨by first | omega | (simp only; omega), by first | omega | (simp only; omega), by simp only [List.length_append, List.length_cons, List.length_nil]; omega, by rw [List.append_assoc]; exact q4⟩ (by first | omega | (simp only; omega)) (by rw [hvd]; exact (Wk.via [0, 1, 2, 5] (by (simp only [go_sem, ↓reduceIte]) <;> trivial) (by (simp (maxSteps := 4000000) -implicitDefEqProofs only [go_sem, Nat.reduceAdd, Nat.reduceSub, Nat.reduceLT, Nat.reduceLeDiff, Nat.reduceEqDiff, ↓reduceIte]) <;> omega) (by simp) (by simp) (by (simp (maxSteps := 4000000) -implicitDefEqProofs only [go_sem, Nat.reduceAdd, Nat.reduceSub, Nat.reduceLT, Nat.reduceLeDiff, Nat.reduceEqDiff, ↓reduceIte]) <;> trivial) (by (simp (maxSteps := 4000000) -implicitDefEqProofs only [go_sem, Nat.reduceAdd, Nat.reduceSub, Nat.reduceLT, Nat.reduceLeDiff, Nat.reduceEqDiff, ↓reduceIte]) <;> omega) (Nat.le_of_ble_eq_true rfl) (at0_pre rfl)))
  obtain ⟨i, rfl⟩ : ∃ i, j = i + 1 := ⟨j - 1, by omega⟩
  have d1 : decide (0 ≤ z) = true := by simp; omega
  have ez : z = (i : Int) := by omega
  subst ez
  have hi : i < s.length := by omega
  obtain ⟨t, hd, hL, hF⟩ := lst_at (b := b) hi
  rw [cA_up, fA_up]
  have hlc : (lst b (s.drop (i + 1))).length = s.length - i := by rw [lst_len, List.length_drop]; omega
  have hlf : (fst' b (s.drop (i + 1))).length = s.length - i - 1 := by rw [fst_len, List.length_drop]; omega
  have hcb : ∀ y ∈ lst b (s.drop (i + 1)), 0 ≤ y ∧ y ≤ 302 := fun y hy => by have := (lst_bd b (s.drop (i + 1))).1 y hy; rw [List.length_drop] at this; omega
  have hg1 : lg b (s.drop i) ≤ s.length - i := by have := (lg_le b (s.drop i)).1; rw [List.length_drop] at this; exact this
  have cp := copied_dat b (s.drop i) (by omega) (by rw [List.length_drop]; omega)
  generalize hLL : lg b (s.drop i) = L at hL hF hg1 cp
  generalize lst b (s.drop (i + 1)) = c at hL hF hlc hcb
  generalize fst' b (s.drop (i + 1)) = d at hF hlf
  have lA : ∀ x, (cR i x c).length = N := fun x => by rw [cR_len]; omega
  have lF : ∀ x, (cR i x d).length = s.length := fun x => by rw [cR_len]; omega
  have n1 : (0 ≤ (i : Int) ∧ (i : Int) < (N : Int)) = True := eq_true (by omega)
  have n2 : (i < N) = True := eq_true (by omega)
  have n3 : (0 ≤ (i : Int) ∧ (i : Int) < (s.length : Int)) = True := eq_true (by omega)
  have n4 : (i < s.length) = True := eq_true hi
  simp (maxSteps := 4000000) -implicitDefEqProofs only [go_sem, d1, lA, lF, n1, n2, n3, n4, cR_set, cR_at, List.take_length, Option.some.injEq, forall_eq', and_true, true_and, Bool.not_true, Bool.not_false, decide_true, Nat.reduceAdd, Nat.reduceSub, Nat.reduceLT, Nat.reduceLeDiff, Nat.reduceEqDiff, ↓reduceIte]
  refine ⟨by omega, .all _ _ (cp.lift0 _ (by simp only [go_sem]) (by simp only [go_sem])) ?_⟩
  simp (maxSteps := 4000000) -implicitDefEqProofs only [go_sem, Nat.reduceAdd, Nat.reduceSub, Nat.reduceLT, Nat.reduceLeDiff, Nat.reduceEqDiff, ↓reduceIte]
  refine eloop (S := Nat × Int × Int) (fun q => mkE 160 [(0, .d (.sl (b.map bY))), (1, .d (.sl (s.map bY))), (6, .d (.int .i64 s.length)), (7, .own 1), (8, .own 2), (9, .d (.int .i64 i)), (10, .d (.int .i64 q.1))]) (fun q => [.obj 0 o] ++ [.row 1 ((cR i q.2.1 c).map iD), .row 1 ((cR i q.2.2 d).map iD)])
    (fun q => q.1 ≤ L ∧ cpl c q.1 (q.2.1, q.2.2) = cpl c L (-1, 0) ∧ -1 ≤ q.2.1 ∧ q.2.1 ≤ 1000) (fun q => q.1) ((L, -1, 0) : Nat × Int × Int) ⟨Nat.le_refl _, rfl, by first | omega | (simp only; omega), by first | omega | (simp only; omega)⟩ (Wk.sub (by (simp only [go_sem]) <;> trivial)) ?_
  intro q hq
  obtain ⟨k, x, f⟩ := q
  simp only at hq ⊢
  have q1 := hq.1
  have q2 := hq.2.1
  have q3 := hq.2.2.1
  have q4 := hq.2.2.2
  clear hq
  have ax : (cR i x c)[i]? = some x := cR_at i x c
  have af : (cR i f d)[i]? = some f := cR_at i f d
  by_cases hk : k = 0
  case neg =>
    obtain ⟨k', hk'⟩ : ∃ k', k = k' + 1 := ⟨k - 1, by omega⟩
    obtain ⟨y, hy⟩ : ∃ y, c[k']? = some y := ⟨c[k']'(by omega), List.getElem?_eq_getElem _⟩
    have yb := hcb y (List.mem_of_getElem? hy)
    have d2 : decide (0 < (k : Int)) = true := by simp; omega
    have w3 : IntKind.i64.wrap ((i : Int) + k) = ((i + k : Nat) : Int) := by rw [i64_in _ (by omega)]; simp
    have ay : (cR i x c)[i + k]? = some y := by rw [hk', cR_up]; exact hy
    have n5 : (0 ≤ ((i + k : Nat) : Int) ∧ ((i + k : Nat) : Int) < (N : Int)) = True := eq_true (by omega)
    have n6 : (i + k < N) = True := eq_true (by omega)
    have w4 : IntKind.i64.wrap (3 + y) = 3 + y := i64_in _ (by omega)
    have w5 : IntKind.i64.wrap ((k : Int) - 1) = (k' : Int) := by rw [i64_in _ (by omega)]; omega
    have ey : c.getD k' 0 = y := by simp [List.getD, hy]
    rw [hk', cpl, ey] at q2
    have ek : ((k' : Int) + 1) = (k : Int) := by omega
    rw [ek] at q2
    by_cases hc : x < 0 ∨ 3 + y < x
    · have es : stp (x, f) (3 + y) k = (3 + y, (k : Int)) := by simp only [stp]; rw [if_pos hc]
      rw [es] at q2
      by_cases hx : x < 0
      · have d3 : decide (x < 0) = true := decide_eq_true hx
        simp (maxSteps := 4000000) -implicitDefEqProofs only [go_sem, d2, lA, lF, n1, n2, n3, n4, n5, n6, w3, w4, w5, d3, ax, ay, cR_at, cR_set, Option.some.injEq, forall_eq', and_true, true_and, Bool.not_true, Bool.not_false, decide_true, Nat.reduceAdd, Nat.reduceSub, Nat.reduceLT, Nat.reduceLeDiff, Nat.reduceEqDiff, ↓reduceIte]
        exact .mk ((k', 3 + y, (k : Int)) : Nat × Int × Int) ⟨by first | omega | (simp only; omega), q2, by first | omega | (simp only; omega), by first | omega | (simp only; omega)⟩ (by first | omega | (simp only; omega)) (Wk.sub (by (simp only [go_sem]) <;> trivial))
      · have d3 : decide (x < 0) = false := decide_eq_false hx
        have d4 : decide (3 + y < x) = true := decide_eq_true (by omega)
        simp (maxSteps := 4000000) -implicitDefEqProofs only [go_sem, d2, lA, lF, n1, n2, n3, n4, n5, n6, w3, w4, w5, d3, d4, ax, ay, cR_at, cR_set, Option.some.injEq, forall_eq', and_true, true_and, Bool.not_true, Bool.not_false, decide_true, Nat.reduceAdd, Nat.reduceSub, Nat.reduceLT, Nat.reduceLeDiff, Nat.reduceEqDiff, ↓reduceIte]
        exact .mk ((k', 3 + y, (k : Int)) : Nat × Int × Int) ⟨by first | omega | (simp only; omega), q2, by first | omega | (simp only; omega), by first | omega | (simp only; omega)⟩ (by first | omega | (simp only; omega)) (Wk.sub (by (simp only [go_sem]) <;> trivial))
    · have es : stp (x, f) (3 + y) k = (x, f) := by simp only [stp]; rw [if_neg hc]
      rw [es] at q2
      have d3 : decide (x < 0) = false := decide_eq_false (by omega)
      have d4 : decide (3 + y < x) = false := decide_eq_false (by omega)
      simp (maxSteps := 4000000) -implicitDefEqProofs only [go_sem, d2, lA, lF, n1, n2, n3, n4, n5, n6, w3, w4, w5, d3, d4, ax, ay, cR_at, cR_set, Option.some.injEq, forall_eq', and_true, true_and, Bool.not_true, Bool.not_false, decide_true, Nat.reduceAdd, Nat.reduceSub, Nat.reduceLT, Nat.reduceLeDiff, Nat.reduceEqDiff, ↓reduceIte]
      exact .mk ((k', x, f) : Nat × Int × Int) ⟨by first | omega | (simp only; omega), q2, by first | omega | (simp only; omega), by first | omega | (simp only; omega)⟩ (by first | omega | (simp only; omega)) (Wk.sub (by (simp only [go_sem]) <;> trivial))
  have d2 : decide (0 < (k : Int)) = false := by simp; omega
  rw [hk, cpl] at q2
  clear ax af
  simp (maxSteps := 4000000) -implicitDefEqProofs only [go_sem, d2, Option.some.injEq, forall_eq', and_true, true_and, Bool.not_true, Bool.not_false, decide_true, Nat.reduceAdd, Nat.reduceSub, Nat.reduceLT, Nat.reduceLeDiff, Nat.reduceEqDiff, ↓reduceIte]
  refine eloop (S := Nat × Int × Int) (fun q => mkE 160 [(0, .d (.sl (b.map bY))), (1, .d (.sl (s.map bY))), (6, .d (.int .i64 s.length)), (7, .own 1), (8, .own 2), (9, .d (.int .i64 i)), (12, .d (.int .i64 q.1))]) (fun q => [.obj 0 o] ++ [.row 1 ((cR i q.2.1 c).map iD), .row 1 ((cR i q.2.2 d).map iD)])
    (fun q => 1 ≤ q.1 ∧ q.1 ≤ s.length - i + 1 ∧ inl (c.drop (q.1 - 1)) q.1 (q.2.1, q.2.2) = best c L ∧ -1 ≤ q.2.1 ∧ q.2.1 ≤ 1000) (fun q => s.length + 2 - q.1) ((1, x, f) : Nat × Int × Int) ⟨Nat.le_refl _, by simp, by simp only [best, ← q2]; rfl, q3, q4⟩ (Wk.sub (by (simp only [go_sem]) <;> trivial)) ?_
  clear q2 q3 q4 hk q1 d2
  clear x f k
  intro q hq
  obtain ⟨m, x, f⟩ := q
  simp only at hq ⊢
  have q1 := hq.1
  have q1' := hq.2.1
  have q2 := hq.2.2.1
  have q3 := hq.2.2.2.1
  have q4 := hq.2.2.2.2
  clear hq
  have ax : (cR i x c)[i]? = some x := cR_at i x c
  have w6 : IntKind.i64.wrap ((s.length : Int) - i) = (s.length : Int) - i := i64_in _ (by omega)
  by_cases hm : m ≤ s.length - i
  case neg =>
    have d5 : decide ((m : Int) ≤ (s.length : Int) - i) = false := by simp; omega
    rw [List.drop_eq_nil_of_le (by omega), inl] at q2
    have w7 : IntKind.i64.wrap ((i : Int) - 1) = (i : Int) - 1 := i64_in _ (by omega)
    rw [← q2] at hL hF
    simp only at hL hF
    have eA : (cR i x c).map iD = (cA b s i).map iD := by rw [cA, hL, cR]
    have eF : (cR i f d).map iD = (fA b s i).map iD := by rw [fA, hF, cR]
    simp (maxSteps := 4000000) -implicitDefEqProofs only [go_sem, d5, w6, w7, eA, eF, Option.some.injEq, forall_eq', and_true, true_and, Bool.not_true, Bool.not_false, decide_true, Nat.reduceAdd, Nat.reduceSub, Nat.reduceLT, Nat.reduceLeDiff, Nat.reduceEqDiff, ↓reduceIte]
    exact .mk i (by omega) (by omega) (Wk.sub (by (simp only [go_sem]) <;> trivial))
  obtain ⟨m', hm'⟩ : ∃ m', m = m' + 1 := ⟨m - 1, by omega⟩
  obtain ⟨y, hy⟩ : ∃ y, c[m']? = some y := ⟨c[m']'(by omega), List.getElem?_eq_getElem _⟩
  have yb := hcb y (List.mem_of_getElem? hy)
  have d5 : decide ((m : Int) ≤ (s.length : Int) - i) = true := by simp; omega
  have w3 : IntKind.i64.wrap ((i : Int) + m) = ((i + m : Nat) : Int) := by rw [i64_in _ (by omega)]; simp
  have w7 : IntKind.i64.wrap (1 + (m : Int)) = 1 + (m : Int) := i64_in _ (by omega)
  have w8 : IntKind.i64.wrap (1 + (m : Int) + y) = 1 + (m : Int) + y := i64_in _ (by omega)
  have w9 : IntKind.i64.wrap ((m : Int) + 1) = ((m + 1 : Nat) : Int) := by rw [i64_in _ (by omega)]; simp
  have w10 : IntKind.i64.wrap (0 - (m : Int)) = -(m : Int) := by rw [i64_in _ (by omega)]; omega
  have ay : (cR i x c)[i + m]? = some y := by rw [hm', cR_up]; exact hy
  have n5 : (0 ≤ ((i + m : Nat) : Int) ∧ ((i + m : Nat) : Int) < (N : Int)) = True := eq_true (by omega)
  have n6 : (i + m < N) = True := eq_true (by omega)
  have ed : c.drop (m - 1) = y :: c.drop (m + 1 - 1) := by
    have hlt := (List.getElem?_eq_some_iff.1 hy).1
    rw [hm', Nat.add_sub_cancel, Nat.add_sub_cancel, List.drop_eq_getElem_cons hlt, (List.getElem?_eq_some_iff.1 hy).2]
  rw [ed, inl] at q2
  by_cases hc : x < 0 ∨ 1 + (m : Int) + y < x
  · have es : stp (x, f) (1 + (m : Int) + y) (-(m : Int)) = (1 + (m : Int) + y, -(m : Int)) := by simp only [stp]; rw [if_pos hc]
    rw [es] at q2
    by_cases hx : x < 0
    · have d3 : decide (x < 0) = true := decide_eq_true hx
      simp (maxSteps := 4000000) -implicitDefEqProofs only [go_sem, d5, w6, lA, lF, n1, n2, n3, n4, n5, n6, w3, w7, w8, w9, w10, d3, ax, ay, cR_at, cR_set, Option.some.injEq, forall_eq', and_true, true_and, Bool.not_true, Bool.not_false, decide_true, Nat.reduceAdd, Nat.reduceSub, Nat.reduceLT, Nat.reduceLeDiff, Nat.reduceEqDiff, ↓reduceIte]
      exact .mk ((m + 1, 1 + (m : Int) + y, -(m : Int)) : Nat × Int × Int) ⟨by first | omega | (simp only; omega), by first | omega | (simp only; omega), q2, by first | omega | (simp only; omega), by first | omega | (simp only; omega)⟩ (by first | omega | (simp only; omega)) (Wk.sub (by (simp only [go_sem]) <;> trivial))
    · have d3 : decide (x < 0) = false := decide_eq_false hx
      have d4 : decide (1 + (m : Int) + y < x) = true := decide_eq_true (by omega)
      simp (maxSteps := 4000000) -implicitDefEqProofs only [go_sem, d5, w6, lA, lF, n1, n2, n3, n4, n5, n6, w3, w7, w8, w9, w10, d3, d4, ax, ay, cR_at, cR_set, Option.some.injEq, forall_eq', and_true, true_and, Bool.not_true, Bool.not_false, decide_true, Nat.reduceAdd, Nat.reduceSub, Nat.reduceLT, Nat.reduceLeDiff, Nat.reduceEqDiff, ↓reduceIte]
      exact .mk ((m + 1, 1 + (m : Int) + y, -(m : Int)) : Nat × Int × Int) ⟨by first | omega | (simp only; omega), by first | omega | (simp only; omega), q2, by first | omega | (simp only; omega), by first | omega | (simp only; omega)⟩ (by first | omega | (simp only; omega)) (Wk.sub (by (simp only [go_sem]) <;> trivial))
  · have es : stp (x, f) (1 + (m : Int) + y) (-(m : Int)) = (x, f) := by simp only [stp]; rw [if_neg hc]
    rw [es] at q2
    have d3 : decide (x < 0) = false := decide_eq_false (by omega)
    have d4 : decide (1 + (m : Int) + y < x) = false := decide_eq_false (by omega)
    simp (maxSteps := 4000000) -implicitDefEqProofs only [go_sem, d5, w6, lA, lF, n1, n2, n3, n4, n5, n6, w3, w7, w8, w9, w10, d3, d4, ax, ay, cR_at, cR_set, Option.some.injEq, forall_eq', and_true, true_and, Bool.not_true, Bool.not_false, decide_true, Nat.reduceAdd, Nat.reduceSub, Nat.reduceLT, Nat.reduceLeDiff, Nat.reduceEqDiff, ↓reduceIte]
    exact .mk ((m + 1, x, f) : Nat × Int × Int) ⟨by first | omega | (simp only; omega), by first | omega | (simp only; omega), q2, by first | omega | (simp only; omega), by first | omega | (simp only; omega)⟩ (by first | omega | (simp only; omega)) (Wk.sub (by (simp only [go_sem]) <;> trivial))
end Go.AX.De

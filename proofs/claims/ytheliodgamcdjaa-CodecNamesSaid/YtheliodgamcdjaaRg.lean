/- The statement CodecNames: the chapter's examples, limits, numbers at the ends, errors. No condition. -/
import Derived.Test.YtheliodgamcdjaaK9
import Derived.Test.YtheliodgamcdjaaRows
set_option maxHeartbeats 8000000
set_option linter.unusedVariables false
set_option linter.unusedSimpArgs false
set_option maxRecDepth 20000
namespace Go.AX.Co
open Go.Proofs Go.RowKit Go.IntWalk
theorem fitB_num (n : Int) (h : -9223372036854775808 ≤ n ∧ n ≤ 9223372036854775807) : FitB (.mk 1 n [] []) := .mk _ _ _ _ (by omega) h (fun e he => by simp at he) (by simp) (by simp) (by simp)
theorem fitB_txt (b : List Int) (h : b.length ≤ 900000) (hb : Bytes b) : FitB (.mk 2 0 b []) := .mk _ _ _ _ (by omega) (by omega) hb h (by simp) (by simp)
theorem v0_fitB : FitB v0 := .mk _ _ _ _ (by omega) (by omega) (fun e he => by simp at he) (by simp) (by simp) (by simp)
theorem enc_txt (b : List Int) : encP (.mk 2 0 b []) = if 3000 < (2 :: (codeF 10 b.length ++ b)).length then ([], 4) else (2 :: (codeF 10 b.length ++ b), 0) := by
  have hr : rightP 6 (.mk 2 0 b []) = true := rfl
  have he : encV (.mk 2 0 b []) = 2 :: (codeF 10 b.length ++ b) := by rw [encV, if_neg (by decide), if_pos rfl]
  rw [encP_eq, hr, if_neg (by simp), he]
def pat : List Int := [3, 1, 3, 1, 3, 1, 3, 1, 3, 1, 3, 1]
theorem pat_next (i : Nat) (h : i < 6) : pat.take (2 * (i + 1)) = pat.take (2 * i) ++ [3, 1] := by
  have : i = 0 ∨ i = 1 ∨ i = 2 ∨ i = 3 ∨ i = 4 ∨ i = 5 := by omega
  rcases this with h | h | h | h | h | h <;> (subst h; rfl)
theorem codecNames : Spec Try.prog 8 [] [] (.d (.bool true)) [] := by
  have nn : ∀ n : Int, (n == n) = true := fun n => by simp
  have ca : (((3000 : Nat) : Int) == 3000) = true := rfl
  have cb : (((2 : Nat) : Int) == 2) = true := rfl
  apply Exists.elim (show ∃ Z : List Int, Z = List.replicate 2997 0 from ⟨_, rfl⟩)
  intro Z1 hZ1
  apply Exists.elim (show ∃ Z : List Int, Z = List.replicate 2998 0 from ⟨_, rfl⟩)
  intro Z2 hZ2
  have l1 : Z1.length = 2997 := by rw [hZ1, List.length_replicate]
  have l2 : Z2.length = 2998 := by rw [hZ2, List.length_replicate]
  have r1 : List.replicate (Int.toNat 2997) [D.int .u8 0] = Z1.map bY := by rw [hZ1, List.map_replicate]; rfl
  have r2 : List.replicate (Int.toNat 2998) [D.int .u8 0] = Z2.map bY := by rw [hZ2, List.map_replicate]; rfl
  have e1 : encP (.mk 2 0 Z1 []) = (2 :: (codeF 10 2997 ++ Z1), 0) := by
    have hc : (codeF 10 2997).length = 2 := by kernel_rfl
    rw [enc_txt, l1, if_neg (by rw [List.length_cons, List.length_append, hc]; omega)]
  have e2 : encP (.mk 2 0 Z2 []) = ([], 4) := by
    have hc : (codeF 10 2998).length = 2 := by kernel_rfl
    rw [enc_txt, l2, if_pos (by rw [List.length_cons, List.length_append, hc]; omega)]
  have e1l : (2 :: (codeF 10 2997 ++ Z1)).length = 3000 := by
    have hc : (codeF 10 2997).length = 2 := by kernel_rfl
    rw [List.length_cons, List.length_append, hc, l1]
  clear hZ1 hZ2
  have k0 := number_spec (9223372036854775807)
  have k1 := is_spec (.mk 1 (9223372036854775807) [] []) [1, 254, 255, 255, 255, 255, 255, 255, 255, 255, 1] (fit_num _ (by decide)) (bytes_dec (by kernel_rfl)) (by kernel_rfl)
  have k2 := number_spec (-9223372036854775808)
  have k3 := is_spec (.mk 1 (-9223372036854775808) [] []) [1, 255, 255, 255, 255, 255, 255, 255, 255, 255, 1] (fit_num _ (by decide)) (bytes_dec (by kernel_rfl)) (by kernel_rfl)
  have k4 := number_spec (63)
  have k5 := is_spec (.mk 1 (63) [] []) [1, 126] (fit_num _ (by decide)) (bytes_dec (by kernel_rfl)) (by kernel_rfl)
  have k6 := number_spec (64)
  have k7 := is_spec (.mk 1 (64) [] []) [1, 128, 1] (fit_num _ (by decide)) (bytes_dec (by kernel_rfl)) (by kernel_rfl)
  have k8 := number_spec (-64)
  have k9 := is_spec (.mk 1 (-64) [] []) [1, 127] (fit_num _ (by decide)) (bytes_dec (by kernel_rfl)) (by kernel_rfl)
  have k10 := is_spec (.mk 2 0 [] []) [2, 0] (fit_txt _ (by simp)) (bytes_dec (by kernel_rfl)) (by kernel_rfl)
  have k11 := is_spec (.mk 3 0 [] []) [3, 0] (fit_lst _ (by simp) (by simp)) (bytes_dec (by kernel_rfl)) (by kernel_rfl)
  have k12 := refused_spec [] (by simp) (bytes_dec (by kernel_rfl)) (by kernel_rfl)
  have k13 := refused_spec [1] (by simp) (bytes_dec (by kernel_rfl)) (by kernel_rfl)
  have k14 := refused_spec [0, 0] (by simp) (bytes_dec (by kernel_rfl)) (by kernel_rfl)
  have k15 := refused_spec [4, 0] (by simp) (bytes_dec (by kernel_rfl)) (by kernel_rfl)
  have k16 := refused_spec [1, 128] (by simp) (bytes_dec (by kernel_rfl)) (by kernel_rfl)
  have k17 := refused_spec [1, 255, 255, 255, 255, 255, 255, 255, 255, 255, 2] (by simp) (bytes_dec (by kernel_rfl)) (by kernel_rfl)
  have k18 := refused_spec [1, 255, 255, 255, 255, 255, 255, 255, 255, 255, 129, 0] (by simp) (bytes_dec (by kernel_rfl)) (by kernel_rfl)
  have k19 := refused_spec [2, 1] (by simp) (bytes_dec (by kernel_rfl)) (by kernel_rfl)
  have k20 := refused_spec [2, 128, 0] (by simp) (bytes_dec (by kernel_rfl)) (by kernel_rfl)
  have k21 := refused_spec [3, 1] (by simp) (bytes_dec (by kernel_rfl)) (by kernel_rfl)
  have k22 := refused_spec [3, 2, 1, 0] (by simp) (bytes_dec (by kernel_rfl)) (by kernel_rfl)
  have k23 := refused_spec [3, 255, 255, 255, 255, 255, 255, 255, 255, 255, 1] (by simp) (bytes_dec (by kernel_rfl)) (by kernel_rfl)
  have k24 := decode_own [1, 0, 0] (by simp) (bytes_dec (by kernel_rfl))
  have k25 := next_own [1, 0, 0] (by simp) (bytes_dec (by kernel_rfl))
  have k26 := deep_spec 6 (by omega) (by omega)
  have k27 := check_own (deepV 5) (deep_fit 5).fitW
  have k28 := deep_spec 7 (by omega) (by omega)
  have k29 := check_own (deepV 6) (deep_fit 6).fitW
  have k30 := refused_spec [3, 1, 3, 1, 3, 1, 3, 1, 3, 1, 3, 1, 3, 0] (by simp) (bytes_dec (by kernel_rfl)) (by kernel_rfl)
  have k31 := text_spec Z1 (by omega)
  have k32 := size_own (.mk 2 0 Z1 []) (fit_txt _ (by omega))
  have k33 := text_spec Z2 (by omega)
  have k34 := check_own (.mk 2 0 Z2 []) (fit_txt _ (by omega))
  have k35 := list_spec [v0]
  have k36 := check_own (.mk 3 0 [] [v0]) (fit_lst _ (by simp) (fun x hx => by simp only [List.mem_singleton] at hx; subst hx; exact v0_fit))
  have k37 := check_own (.mk 1 0 [1] []) (.mk _ _ _ _ (by omega) (by simp) (by simp) (by simp))
  have k38 := check_own (.mk 2 1 [] []) (.mk _ _ _ _ (by omega) (by simp) (by simp) (by simp))
  have k39 := check_own (.mk 3 1 [] []) (.mk _ _ _ _ (by omega) (by simp) (by simp) (by simp))
  have k40 := check_own (.mk 2 0 [] [v0]) (.mk _ _ _ _ (by omega) (by simp) (by simp) (fun x hx => by simp only [List.mem_singleton] at hx; subst hx; exact v0_fit))
  have k41 := check_own (.mk 3 0 [1] []) (.mk _ _ _ _ (by omega) (by simp) (by simp) (by simp))
  have k42 := number_spec (1)
  have k43 := number_spec (2)
  have k44 := cmp_own (.mk 1 1 [] []) (.mk 1 2 [] []) (fitB_num 1 (by decide)) (fitB_num 2 (by decide))
  have k45 := text_spec [98] (by simp)
  have k46 := text_spec [97, 98] (by simp)
  have k47 := cmp_own (.mk 2 0 [98] []) (.mk 2 0 [97, 98] []) (fitB_txt [98] (by simp) (bytes_dec (by kernel_rfl))) (fitB_txt [97, 98] (by simp) (bytes_dec (by kernel_rfl)))
  have k48 := deep_spec 3 (by omega) (by omega)
  have k49 := deep_spec 3 (by omega) (by omega)
  have k50 := cmp_own (deepV 2) (deepV 2) (deep_fit 2) (deep_fit 2)
  have k51 := deep_spec 7 (by omega) (by omega)
  have k52 := cmp_own v0 (deepV 6) v0_fitB (deep_fit 6)
  have k53 := text_spec [] (by simp)
  have k54 := number_spec (9)
  have k55 := cmp_own (.mk 2 0 [] []) (.mk 1 9 [] []) (fitB_txt [] (by simp) (bytes_dec (by kernel_rfl))) (fitB_num 9 (by decide))
  have k56 := alive_spec
  rw [show decP [1, 0, 0] = (v0, 12) by kernel_rfl] at k24
  rw [show nextP [1, 0, 0] = (.mk 1 0 [] [], 2, 0) by kernel_rfl] at k25
  rw [show (encP (deepV 5)).2 = 0 by kernel_rfl] at k27
  rw [show (encP (deepV 6)).2 = 8 by kernel_rfl] at k29
  rw [e1, e1l] at k32
  rw [e2] at k34
  rw [show (encP (.mk 3 0 [] [v0])).2 = 8 by kernel_rfl] at k36
  rw [show (encP (.mk 1 0 [1] [])).2 = 8 by kernel_rfl] at k37
  rw [show (encP (.mk 2 1 [] [])).2 = 8 by kernel_rfl] at k38
  rw [show (encP (.mk 3 1 [] [])).2 = 8 by kernel_rfl] at k39
  rw [show (encP (.mk 2 0 [] [v0])).2 = 8 by kernel_rfl] at k40
  rw [show (encP (.mk 3 0 [1] [])).2 = 8 by kernel_rfl] at k41
  rw [show cmpP (.mk 1 1 [] []) (.mk 1 2 [] []) = (-1, 0) by kernel_rfl] at k44
  rw [show cmpP (.mk 2 0 [98] []) (.mk 2 0 [97, 98] []) = (1, 0) by kernel_rfl] at k47
  rw [show cmpP (deepV 2) (deepV 2) = (0, 0) by kernel_rfl] at k50
  rw [show cmpP v0 (deepV 6) = (0, 8) by kernel_rfl] at k52
  rw [show cmpP (.mk 2 0 [] []) (.mk 1 9 [] []) = (1, 0) by kernel_rfl] at k55
  have j1 := list_spec [.mk 1 1 [] [], .mk 1 2 [] []]
  have j2 := list_spec [.mk 1 1 [] []]
  have j3 := cmp_own (.mk 3 0 [] [.mk 1 1 [] [], .mk 1 2 [] []]) (.mk 3 0 [] [.mk 1 1 [] []]) (.mk _ _ _ _ (by omega) (by omega) (fun e he => by simp at he) (by simp) (by simp) (fun x hx => by simp only [List.mem_cons, List.not_mem_nil, or_false] at hx; rcases hx with rfl | rfl; exact fitB_num 1 (by decide); exact fitB_num 2 (by decide))) (.mk _ _ _ _ (by omega) (by omega) (fun e he => by simp at he) (by simp) (by simp) (fun x hx => by simp only [List.mem_singleton] at hx; subst hx; exact fitB_num 1 (by decide)))
  rw [show cmpP (.mk 3 0 [] [.mk 1 1 [] [], .mk 1 2 [] []]) (.mk 3 0 [] [.mk 1 1 [] []]) = (1, 0) by kernel_rfl] at j3
  simp only [vA, vD, vDs, v0, deepV, deepL, List.map_cons, List.map_nil, bY, Nat.add_one_sub_one, Nat.reduceSub, Nat.reduceAdd] at k0 k1 k2 k3 k4 k5 k6 k7 k8 k9 k10 k11 k12 k13 k14 k15 k16 k17 k18 k19 k20 k21 k22 k23 k24 k25 k26 k27 k28 k29 k30 k31 k32 k33 k34 k35 k36 k37 k38 k39 k40 k41 k42 k43 k44 k45 k46 k47 k48 k49 k50 k51 k52 k53 k54 k55 j1 j2 j3
  refine spec_of_ev (fn := Try.f8) DX_ok 3000 Try.func8 rfl rfl (Nat.le_of_ble_eq_true rfl) ?_
  simp (maxSteps := 4000000) -implicitDefEqProofs only [Try.f8, go_sem]
  refine .all _ _ (k0.lift0 _ (by simp only [go_sem]) (by simp only [go_sem])) ?_
  simp (maxSteps := 4000000) -implicitDefEqProofs only [go_sem, nn, ca, cb, r1, r2, Option.some.injEq, forall_eq', and_true, true_and, Bool.not_true, Bool.not_false, decide_true, Nat.reduceAdd, Nat.reduceSub, Nat.reduceLT, Nat.reduceLeDiff, Nat.reduceEqDiff, ↓reduceIte]
  refine ECall.dat (by simp only [go_sem]; rfl) (by rfl) ?_
  refine .all _ _ (k1.lift0 _ (by simp only [go_sem]) (by simp only [go_sem])) ?_
  simp (maxSteps := 4000000) -implicitDefEqProofs only [go_sem, nn, ca, cb, r1, r2, Option.some.injEq, forall_eq', and_true, true_and, Bool.not_true, Bool.not_false, decide_true, Nat.reduceAdd, Nat.reduceSub, Nat.reduceLT, Nat.reduceLeDiff, Nat.reduceEqDiff, ↓reduceIte]
  refine .all _ _ (k2.lift0 _ (by simp only [go_sem]) (by simp only [go_sem])) ?_
  simp (maxSteps := 4000000) -implicitDefEqProofs only [go_sem, nn, ca, cb, r1, r2, Option.some.injEq, forall_eq', and_true, true_and, Bool.not_true, Bool.not_false, decide_true, Nat.reduceAdd, Nat.reduceSub, Nat.reduceLT, Nat.reduceLeDiff, Nat.reduceEqDiff, ↓reduceIte]
  refine ECall.dat (by simp only [go_sem]; rfl) (by rfl) ?_
  refine .all _ _ (k3.lift0 _ (by simp only [go_sem]) (by simp only [go_sem])) ?_
  simp (maxSteps := 4000000) -implicitDefEqProofs only [go_sem, nn, ca, cb, r1, r2, Option.some.injEq, forall_eq', and_true, true_and, Bool.not_true, Bool.not_false, decide_true, Nat.reduceAdd, Nat.reduceSub, Nat.reduceLT, Nat.reduceLeDiff, Nat.reduceEqDiff, ↓reduceIte]
  refine .all _ _ (k4.lift0 _ (by simp only [go_sem]) (by simp only [go_sem])) ?_
  simp (maxSteps := 4000000) -implicitDefEqProofs only [go_sem, nn, ca, cb, r1, r2, Option.some.injEq, forall_eq', and_true, true_and, Bool.not_true, Bool.not_false, decide_true, Nat.reduceAdd, Nat.reduceSub, Nat.reduceLT, Nat.reduceLeDiff, Nat.reduceEqDiff, ↓reduceIte]
  refine ECall.dat (by simp only [go_sem]; rfl) (by rfl) ?_
  refine .all _ _ (k5.lift0 _ (by simp only [go_sem]) (by simp only [go_sem])) ?_
  simp (maxSteps := 4000000) -implicitDefEqProofs only [go_sem, nn, ca, cb, r1, r2, Option.some.injEq, forall_eq', and_true, true_and, Bool.not_true, Bool.not_false, decide_true, Nat.reduceAdd, Nat.reduceSub, Nat.reduceLT, Nat.reduceLeDiff, Nat.reduceEqDiff, ↓reduceIte]
  refine .all _ _ (k6.lift0 _ (by simp only [go_sem]) (by simp only [go_sem])) ?_
  simp (maxSteps := 4000000) -implicitDefEqProofs only [go_sem, nn, ca, cb, r1, r2, Option.some.injEq, forall_eq', and_true, true_and, Bool.not_true, Bool.not_false, decide_true, Nat.reduceAdd, Nat.reduceSub, Nat.reduceLT, Nat.reduceLeDiff, Nat.reduceEqDiff, ↓reduceIte]
  refine ECall.dat (by simp only [go_sem]; rfl) (by rfl) ?_
  refine .all _ _ (k7.lift0 _ (by simp only [go_sem]) (by simp only [go_sem])) ?_
  simp (maxSteps := 4000000) -implicitDefEqProofs only [go_sem, nn, ca, cb, r1, r2, Option.some.injEq, forall_eq', and_true, true_and, Bool.not_true, Bool.not_false, decide_true, Nat.reduceAdd, Nat.reduceSub, Nat.reduceLT, Nat.reduceLeDiff, Nat.reduceEqDiff, ↓reduceIte]
  refine .all _ _ (k8.lift0 _ (by simp only [go_sem]) (by simp only [go_sem])) ?_
  simp (maxSteps := 4000000) -implicitDefEqProofs only [go_sem, nn, ca, cb, r1, r2, Option.some.injEq, forall_eq', and_true, true_and, Bool.not_true, Bool.not_false, decide_true, Nat.reduceAdd, Nat.reduceSub, Nat.reduceLT, Nat.reduceLeDiff, Nat.reduceEqDiff, ↓reduceIte]
  refine ECall.dat (by simp only [go_sem]; rfl) (by rfl) ?_
  refine .all _ _ (k9.lift0 _ (by simp only [go_sem]) (by simp only [go_sem])) ?_
  simp (maxSteps := 4000000) -implicitDefEqProofs only [go_sem, nn, ca, cb, r1, r2, Option.some.injEq, forall_eq', and_true, true_and, Bool.not_true, Bool.not_false, decide_true, Nat.reduceAdd, Nat.reduceSub, Nat.reduceLT, Nat.reduceLeDiff, Nat.reduceEqDiff, ↓reduceIte]
  refine ECall.dat (by simp only [go_sem]; rfl) (by rfl) ?_
  refine .all _ _ (k10.lift0 _ (by simp only [go_sem]) (by simp only [go_sem])) ?_
  simp (maxSteps := 4000000) -implicitDefEqProofs only [go_sem, nn, ca, cb, r1, r2, Option.some.injEq, forall_eq', and_true, true_and, Bool.not_true, Bool.not_false, decide_true, Nat.reduceAdd, Nat.reduceSub, Nat.reduceLT, Nat.reduceLeDiff, Nat.reduceEqDiff, ↓reduceIte]
  refine ECall.dat (by simp only [go_sem]; rfl) (by rfl) ?_
  refine .all _ _ (k11.lift0 _ (by simp only [go_sem]) (by simp only [go_sem])) ?_
  simp (maxSteps := 4000000) -implicitDefEqProofs only [go_sem, nn, ca, cb, r1, r2, Option.some.injEq, forall_eq', and_true, true_and, Bool.not_true, Bool.not_false, decide_true, Nat.reduceAdd, Nat.reduceSub, Nat.reduceLT, Nat.reduceLeDiff, Nat.reduceEqDiff, ↓reduceIte]
  refine ECall.dat (by simp only [go_sem]; rfl) (by rfl) ?_
  refine .all _ _ (k12.lift0 _ (by simp only [go_sem]) (by simp only [go_sem])) ?_
  simp (maxSteps := 4000000) -implicitDefEqProofs only [go_sem, nn, ca, cb, r1, r2, Option.some.injEq, forall_eq', and_true, true_and, Bool.not_true, Bool.not_false, decide_true, Nat.reduceAdd, Nat.reduceSub, Nat.reduceLT, Nat.reduceLeDiff, Nat.reduceEqDiff, ↓reduceIte]
  refine ECall.dat (by simp only [go_sem]; rfl) (by rfl) ?_
  refine .all _ _ (k13.lift0 _ (by simp only [go_sem]) (by simp only [go_sem])) ?_
  simp (maxSteps := 4000000) -implicitDefEqProofs only [go_sem, nn, ca, cb, r1, r2, Option.some.injEq, forall_eq', and_true, true_and, Bool.not_true, Bool.not_false, decide_true, Nat.reduceAdd, Nat.reduceSub, Nat.reduceLT, Nat.reduceLeDiff, Nat.reduceEqDiff, ↓reduceIte]
  refine ECall.dat (by simp only [go_sem]; rfl) (by rfl) ?_
  refine .all _ _ (k14.lift0 _ (by simp only [go_sem]) (by simp only [go_sem])) ?_
  simp (maxSteps := 4000000) -implicitDefEqProofs only [go_sem, nn, ca, cb, r1, r2, Option.some.injEq, forall_eq', and_true, true_and, Bool.not_true, Bool.not_false, decide_true, Nat.reduceAdd, Nat.reduceSub, Nat.reduceLT, Nat.reduceLeDiff, Nat.reduceEqDiff, ↓reduceIte]
  refine ECall.dat (by simp only [go_sem]; rfl) (by rfl) ?_
  refine .all _ _ (k15.lift0 _ (by simp only [go_sem]) (by simp only [go_sem])) ?_
  simp (maxSteps := 4000000) -implicitDefEqProofs only [go_sem, nn, ca, cb, r1, r2, Option.some.injEq, forall_eq', and_true, true_and, Bool.not_true, Bool.not_false, decide_true, Nat.reduceAdd, Nat.reduceSub, Nat.reduceLT, Nat.reduceLeDiff, Nat.reduceEqDiff, ↓reduceIte]
  refine ECall.dat (by simp only [go_sem]; rfl) (by rfl) ?_
  refine .all _ _ (k16.lift0 _ (by simp only [go_sem]) (by simp only [go_sem])) ?_
  simp (maxSteps := 4000000) -implicitDefEqProofs only [go_sem, nn, ca, cb, r1, r2, Option.some.injEq, forall_eq', and_true, true_and, Bool.not_true, Bool.not_false, decide_true, Nat.reduceAdd, Nat.reduceSub, Nat.reduceLT, Nat.reduceLeDiff, Nat.reduceEqDiff, ↓reduceIte]
  refine ECall.dat (by simp only [go_sem]; rfl) (by rfl) ?_
  refine .all _ _ (k17.lift0 _ (by simp only [go_sem]) (by simp only [go_sem])) ?_
  simp (maxSteps := 4000000) -implicitDefEqProofs only [go_sem, nn, ca, cb, r1, r2, Option.some.injEq, forall_eq', and_true, true_and, Bool.not_true, Bool.not_false, decide_true, Nat.reduceAdd, Nat.reduceSub, Nat.reduceLT, Nat.reduceLeDiff, Nat.reduceEqDiff, ↓reduceIte]
  refine ECall.dat (by simp only [go_sem]; rfl) (by rfl) ?_
  refine .all _ _ (k18.lift0 _ (by simp only [go_sem]) (by simp only [go_sem])) ?_
  simp (maxSteps := 4000000) -implicitDefEqProofs only [go_sem, nn, ca, cb, r1, r2, Option.some.injEq, forall_eq', and_true, true_and, Bool.not_true, Bool.not_false, decide_true, Nat.reduceAdd, Nat.reduceSub, Nat.reduceLT, Nat.reduceLeDiff, Nat.reduceEqDiff, ↓reduceIte]
  refine ECall.dat (by simp only [go_sem]; rfl) (by rfl) ?_
  refine .all _ _ (k19.lift0 _ (by simp only [go_sem]) (by simp only [go_sem])) ?_
  simp (maxSteps := 4000000) -implicitDefEqProofs only [go_sem, nn, ca, cb, r1, r2, Option.some.injEq, forall_eq', and_true, true_and, Bool.not_true, Bool.not_false, decide_true, Nat.reduceAdd, Nat.reduceSub, Nat.reduceLT, Nat.reduceLeDiff, Nat.reduceEqDiff, ↓reduceIte]
  refine ECall.dat (by simp only [go_sem]; rfl) (by rfl) ?_
  refine .all _ _ (k20.lift0 _ (by simp only [go_sem]) (by simp only [go_sem])) ?_
  simp (maxSteps := 4000000) -implicitDefEqProofs only [go_sem, nn, ca, cb, r1, r2, Option.some.injEq, forall_eq', and_true, true_and, Bool.not_true, Bool.not_false, decide_true, Nat.reduceAdd, Nat.reduceSub, Nat.reduceLT, Nat.reduceLeDiff, Nat.reduceEqDiff, ↓reduceIte]
  refine ECall.dat (by simp only [go_sem]; rfl) (by rfl) ?_
  refine .all _ _ (k21.lift0 _ (by simp only [go_sem]) (by simp only [go_sem])) ?_
  simp (maxSteps := 4000000) -implicitDefEqProofs only [go_sem, nn, ca, cb, r1, r2, Option.some.injEq, forall_eq', and_true, true_and, Bool.not_true, Bool.not_false, decide_true, Nat.reduceAdd, Nat.reduceSub, Nat.reduceLT, Nat.reduceLeDiff, Nat.reduceEqDiff, ↓reduceIte]
  refine ECall.dat (by simp only [go_sem]; rfl) (by rfl) ?_
  refine .all _ _ (k22.lift0 _ (by simp only [go_sem]) (by simp only [go_sem])) ?_
  simp (maxSteps := 4000000) -implicitDefEqProofs only [go_sem, nn, ca, cb, r1, r2, Option.some.injEq, forall_eq', and_true, true_and, Bool.not_true, Bool.not_false, decide_true, Nat.reduceAdd, Nat.reduceSub, Nat.reduceLT, Nat.reduceLeDiff, Nat.reduceEqDiff, ↓reduceIte]
  refine ECall.dat (by simp only [go_sem]; rfl) (by rfl) ?_
  refine .all _ _ (k23.lift0 _ (by simp only [go_sem]) (by simp only [go_sem])) ?_
  simp (maxSteps := 4000000) -implicitDefEqProofs only [go_sem, nn, ca, cb, r1, r2, Option.some.injEq, forall_eq', and_true, true_and, Bool.not_true, Bool.not_false, decide_true, Nat.reduceAdd, Nat.reduceSub, Nat.reduceLT, Nat.reduceLeDiff, Nat.reduceEqDiff, ↓reduceIte]
  --W [(1, .d (.bool true)), (2, .d (.bool true))]
  refine ECall.dat (by simp only [go_sem]; rfl) (by rfl) ?_
  refine .all _ _ (k24.lift0 _ (by simp only [go_sem]) (by simp only [go_sem])) ?_
  simp (maxSteps := 4000000) -implicitDefEqProofs only [go_sem, nn, ca, cb, r1, r2, Option.some.injEq, forall_eq', and_true, true_and, Bool.not_true, Bool.not_false, decide_true, Nat.reduceAdd, Nat.reduceSub, Nat.reduceLT, Nat.reduceLeDiff, Nat.reduceEqDiff, ↓reduceIte]
  refine ECall.dat (by simp only [go_sem]; rfl) (by rfl) ?_
  refine .all _ _ (k25.lift0 _ (by simp only [go_sem]) (by simp only [go_sem])) ?_
  simp (maxSteps := 4000000) -implicitDefEqProofs only [go_sem, nn, ca, cb, r1, r2, Option.some.injEq, forall_eq', and_true, true_and, Bool.not_true, Bool.not_false, decide_true, Nat.reduceAdd, Nat.reduceSub, Nat.reduceLT, Nat.reduceLeDiff, Nat.reduceEqDiff, ↓reduceIte]
  --W [(1, .d (.bool true)), (2, .d (.bool true)), (4, .d (.int .i64 12)), (6, .d (.int .i64 2)), (7, .d (.int .i64 0))]
  refine .all _ _ (k26.lift0 _ (by simp only [go_sem]) (by simp only [go_sem])) ?_
  simp (maxSteps := 4000000) -implicitDefEqProofs only [go_sem, nn, ca, cb, r1, r2, Option.some.injEq, forall_eq', and_true, true_and, Bool.not_true, Bool.not_false, decide_true, Nat.reduceAdd, Nat.reduceSub, Nat.reduceLT, Nat.reduceLeDiff, Nat.reduceEqDiff, ↓reduceIte]
  refine .all _ _ (k27.lift0 _ (by simp only [go_sem]) (by simp only [go_sem])) ?_
  simp (maxSteps := 4000000) -implicitDefEqProofs only [go_sem, nn, ca, cb, r1, r2, Option.some.injEq, forall_eq', and_true, true_and, Bool.not_true, Bool.not_false, decide_true, Nat.reduceAdd, Nat.reduceSub, Nat.reduceLT, Nat.reduceLeDiff, Nat.reduceEqDiff, ↓reduceIte]
  refine .all _ _ (k28.lift0 _ (by simp only [go_sem]) (by simp only [go_sem])) ?_
  simp (maxSteps := 4000000) -implicitDefEqProofs only [go_sem, nn, ca, cb, r1, r2, Option.some.injEq, forall_eq', and_true, true_and, Bool.not_true, Bool.not_false, decide_true, Nat.reduceAdd, Nat.reduceSub, Nat.reduceLT, Nat.reduceLeDiff, Nat.reduceEqDiff, ↓reduceIte]
  refine .all _ _ (k29.lift0 _ (by simp only [go_sem]) (by simp only [go_sem])) ?_
  simp (maxSteps := 4000000) -implicitDefEqProofs only [go_sem, nn, ca, cb, r1, r2, Option.some.injEq, forall_eq', and_true, true_and, Bool.not_true, Bool.not_false, decide_true, Nat.reduceAdd, Nat.reduceSub, Nat.reduceLT, Nat.reduceLeDiff, Nat.reduceEqDiff, ↓reduceIte]
  refine eloop (S := Nat) (fun i => mkE 328 [(1, .d (.bool true)), (2, .d (.bool true)), (4, .d (.int .i64 12)), (6, .d (.int .i64 2)), (7, .d (.int .i64 0)), (8, .d (.int .i64 0)), (9, .d (.int .i64 8)), (10, .own 0), (11, .d (.int .i64 i))]) (fun i => [.row 1 ((pat.take (2 * i)).map bY)]) (fun i => i ≤ 6) (fun i => 6 - i) 0 (by omega) (Wk.trans (Wk.nil 10 1 rfl) (Wk.via [22] (by (simp only [go_sem, ↓reduceIte]) <;> trivial) (by first | (simp (maxSteps := 4000000) -implicitDefEqProofs only [go_sem, Nat.reduceAdd, Nat.reduceSub, Nat.reduceLT, Nat.reduceLeDiff, Nat.reduceEqDiff, ↓reduceIte]; done) | ((simp (maxSteps := 4000000) -implicitDefEqProofs only [go_sem, Nat.reduceAdd, Nat.reduceSub, Nat.reduceLT, Nat.reduceLeDiff, Nat.reduceEqDiff, ↓reduceIte]) <;> omega)) (by simp) (by first | (simp; done) | (simp [so]; done)) (by (simp (maxSteps := 4000000) -implicitDefEqProofs only [go_sem, Nat.reduceAdd, Nat.reduceSub, Nat.reduceLT, Nat.reduceLeDiff, Nat.reduceEqDiff, ↓reduceIte]) <;> trivial) (by first | (simp only [go_sem]; done) | ((simp (maxSteps := 4000000) -implicitDefEqProofs only [go_sem, Nat.reduceAdd, Nat.reduceSub, Nat.reduceLT, Nat.reduceLeDiff, Nat.reduceEqDiff, ↓reduceIte]) <;> omega)) (Nat.zero_le _) (fun i h => absurd h (Nat.not_lt_zero i)))) ?_
  intro i hi
  have d6 : decide ((i : Int) < 6) = decide (i < 6) := by rw [Bool.eq_iff_iff]; simp; omega
  by_cases h6 : i < 6
  · rw [decide_eq_true h6] at d6
    have w1 : IntKind.i64.wrap ((i : Int) + 1) = ((i + 1 : Nat) : Int) := by rw [i64_in _ (by omega)]; simp
    have hl : (pat.take (2 * i)).length ≤ 12 := by rw [List.length_take]; show min (2 * i) 12 ≤ 12; omega
    have em : ((pat.take (2 * i)).map bY ++ [[.int .u8 3], [.int .u8 1]] : List (List D)) = (pat.take (2 * (i + 1))).map bY := by rw [pat_next i h6, List.map_append]; rfl
    simp (maxSteps := 4000000) -implicitDefEqProofs only [go_sem, d6, w1, Option.some.injEq, forall_eq', and_true, true_and, Bool.not_true, Bool.not_false, decide_true, Nat.reduceAdd, Nat.reduceSub, Nat.reduceLT, Nat.reduceLeDiff, Nat.reduceEqDiff, ↓reduceIte]
    refine ⟨⟨fun e he => by simp at he; rcases he with rfl | rfl <;> rfl, by omega, by omega⟩, ?_⟩
    exact .mk (i + 1) (by omega) (by omega) (by rw [em]; exact (Wk.via [2] (by (simp only [go_sem, ↓reduceIte]) <;> trivial) (by first | (simp (maxSteps := 4000000) -implicitDefEqProofs only [go_sem, Nat.reduceAdd, Nat.reduceSub, Nat.reduceLT, Nat.reduceLeDiff, Nat.reduceEqDiff, ↓reduceIte]; done) | ((simp (maxSteps := 4000000) -implicitDefEqProofs only [go_sem, Nat.reduceAdd, Nat.reduceSub, Nat.reduceLT, Nat.reduceLeDiff, Nat.reduceEqDiff, ↓reduceIte]) <;> omega)) (by simp) (by first | (simp; done) | (simp [so]; done)) (by (simp (maxSteps := 4000000) -implicitDefEqProofs only [go_sem, Nat.reduceAdd, Nat.reduceSub, Nat.reduceLT, Nat.reduceLeDiff, Nat.reduceEqDiff, ↓reduceIte]) <;> trivial) (by first | (simp only [go_sem]; done) | ((simp (maxSteps := 4000000) -implicitDefEqProofs only [go_sem, Nat.reduceAdd, Nat.reduceSub, Nat.reduceLT, Nat.reduceLeDiff, Nat.reduceEqDiff, ↓reduceIte]) <;> omega)) (Nat.zero_le _) (fun i h => absurd h (Nat.not_lt_zero i))))
  rw [decide_eq_false h6] at d6
  have h6' : i = 6 := by omega
  subst h6'
  rw [show pat.take (2 * 6) = pat from rfl]
  simp only [pat, List.map_cons, List.map_nil, bY]
  simp (maxSteps := 4000000) -implicitDefEqProofs only [go_sem, d6, Option.some.injEq, forall_eq', and_true, true_and, Bool.not_true, Bool.not_false, decide_true, Nat.reduceAdd, Nat.reduceSub, Nat.reduceLT, Nat.reduceLeDiff, Nat.reduceEqDiff, ↓reduceIte]
  refine ⟨(by first | (intro e he; simp at he; rcases he with rfl | rfl <;> rfl) | exact ⟨(by intro e he; simp at he; rcases he with rfl | rfl <;> rfl), by decide, by decide⟩), ?_⟩
  refine ECall.dat (by simp only [go_sem]; rfl) (by rfl) ?_
  refine .all _ _ (k30.lift0 _ (by simp only [go_sem]) (by simp only [go_sem])) ?_
  simp (maxSteps := 4000000) -implicitDefEqProofs only [go_sem, nn, ca, cb, r1, r2, Option.some.injEq, forall_eq', and_true, true_and, Bool.not_true, Bool.not_false, decide_true, Nat.reduceAdd, Nat.reduceSub, Nat.reduceLT, Nat.reduceLeDiff, Nat.reduceEqDiff, ↓reduceIte]
  refine ⟨(by first | omega | decide | (refine ⟨?_, ?_, ?_, ?_, ?_⟩ <;> first | omega | decide | rfl)), ?_⟩
  refine ECall.dat (by simp only [go_sem]; rfl) (by rfl) ?_
  refine .all _ _ (k31.lift0 _ (by simp only [go_sem]) (by simp only [go_sem])) ?_
  simp (maxSteps := 4000000) -implicitDefEqProofs only [go_sem, nn, ca, cb, r1, r2, Option.some.injEq, forall_eq', and_true, true_and, Bool.not_true, Bool.not_false, decide_true, Nat.reduceAdd, Nat.reduceSub, Nat.reduceLT, Nat.reduceLeDiff, Nat.reduceEqDiff, ↓reduceIte]
  refine ECall.dat (by simp only [go_sem]; rfl) (by rfl) ?_
  refine .all _ _ (k32.lift0 _ (by simp only [go_sem]) (by simp only [go_sem])) ?_
  simp (maxSteps := 4000000) -implicitDefEqProofs only [go_sem, nn, ca, cb, r1, r2, Option.some.injEq, forall_eq', and_true, true_and, Bool.not_true, Bool.not_false, decide_true, Nat.reduceAdd, Nat.reduceSub, Nat.reduceLT, Nat.reduceLeDiff, Nat.reduceEqDiff, ↓reduceIte]
  refine ⟨(by first | omega | decide | (refine ⟨?_, ?_, ?_, ?_, ?_⟩ <;> first | omega | decide | rfl)), ?_⟩
  refine ECall.dat (by simp only [go_sem]; rfl) (by rfl) ?_
  refine .all _ _ (k33.lift0 _ (by simp only [go_sem]) (by simp only [go_sem])) ?_
  simp (maxSteps := 4000000) -implicitDefEqProofs only [go_sem, nn, ca, cb, r1, r2, Option.some.injEq, forall_eq', and_true, true_and, Bool.not_true, Bool.not_false, decide_true, Nat.reduceAdd, Nat.reduceSub, Nat.reduceLT, Nat.reduceLeDiff, Nat.reduceEqDiff, ↓reduceIte]
  refine ECall.dat (by simp only [go_sem]; rfl) (by rfl) ?_
  refine .all _ _ (k34.lift0 _ (by simp only [go_sem]) (by simp only [go_sem])) ?_
  simp (maxSteps := 4000000) -implicitDefEqProofs only [go_sem, nn, ca, cb, r1, r2, Option.some.injEq, forall_eq', and_true, true_and, Bool.not_true, Bool.not_false, decide_true, Nat.reduceAdd, Nat.reduceSub, Nat.reduceLT, Nat.reduceLeDiff, Nat.reduceEqDiff, ↓reduceIte]
  refine ⟨(by first | omega | decide | (refine ⟨?_, ?_, ?_, ?_, ?_⟩ <;> first | omega | decide | rfl)), ?_⟩
  refine ECall.dat (by simp only [go_sem]; rfl) (by rfl) ?_
  refine .all _ _ (k35.lift0 _ (by simp only [go_sem]) (by simp only [go_sem])) ?_
  simp (maxSteps := 4000000) -implicitDefEqProofs only [go_sem, nn, ca, cb, r1, r2, Option.some.injEq, forall_eq', and_true, true_and, Bool.not_true, Bool.not_false, decide_true, Nat.reduceAdd, Nat.reduceSub, Nat.reduceLT, Nat.reduceLeDiff, Nat.reduceEqDiff, ↓reduceIte]
  refine ECall.dat (by simp only [go_sem]; rfl) (by rfl) ?_
  refine .all _ _ (k36.lift0 _ (by simp only [go_sem]) (by simp only [go_sem])) ?_
  simp (maxSteps := 4000000) -implicitDefEqProofs only [go_sem, nn, ca, cb, r1, r2, Option.some.injEq, forall_eq', and_true, true_and, Bool.not_true, Bool.not_false, decide_true, Nat.reduceAdd, Nat.reduceSub, Nat.reduceLT, Nat.reduceLeDiff, Nat.reduceEqDiff, ↓reduceIte]
  refine ECall.dat (by simp only [go_sem]; rfl) (by rfl) ?_
  refine .all _ _ (k37.lift0 _ (by simp only [go_sem]) (by simp only [go_sem])) ?_
  simp (maxSteps := 4000000) -implicitDefEqProofs only [go_sem, nn, ca, cb, r1, r2, Option.some.injEq, forall_eq', and_true, true_and, Bool.not_true, Bool.not_false, decide_true, Nat.reduceAdd, Nat.reduceSub, Nat.reduceLT, Nat.reduceLeDiff, Nat.reduceEqDiff, ↓reduceIte]
  refine ECall.dat (by simp only [go_sem]; rfl) (by rfl) ?_
  refine .all _ _ (k38.lift0 _ (by simp only [go_sem]) (by simp only [go_sem])) ?_
  simp (maxSteps := 4000000) -implicitDefEqProofs only [go_sem, nn, ca, cb, r1, r2, Option.some.injEq, forall_eq', and_true, true_and, Bool.not_true, Bool.not_false, decide_true, Nat.reduceAdd, Nat.reduceSub, Nat.reduceLT, Nat.reduceLeDiff, Nat.reduceEqDiff, ↓reduceIte]
  refine ECall.dat (by simp only [go_sem]; rfl) (by rfl) ?_
  refine .all _ _ (k39.lift0 _ (by simp only [go_sem]) (by simp only [go_sem])) ?_
  simp (maxSteps := 4000000) -implicitDefEqProofs only [go_sem, nn, ca, cb, r1, r2, Option.some.injEq, forall_eq', and_true, true_and, Bool.not_true, Bool.not_false, decide_true, Nat.reduceAdd, Nat.reduceSub, Nat.reduceLT, Nat.reduceLeDiff, Nat.reduceEqDiff, ↓reduceIte]
  refine ⟨(by first | omega | decide | (refine ⟨?_, ?_, ?_, ?_, ?_⟩ <;> first | omega | decide | rfl)), ?_⟩
  refine ECall.dat (by simp only [go_sem]; rfl) (by rfl) ?_
  refine .all _ _ (k40.lift0 _ (by simp only [go_sem]) (by simp only [go_sem])) ?_
  simp (maxSteps := 4000000) -implicitDefEqProofs only [go_sem, nn, ca, cb, r1, r2, Option.some.injEq, forall_eq', and_true, true_and, Bool.not_true, Bool.not_false, decide_true, Nat.reduceAdd, Nat.reduceSub, Nat.reduceLT, Nat.reduceLeDiff, Nat.reduceEqDiff, ↓reduceIte]
  refine ECall.dat (by simp only [go_sem]; rfl) (by rfl) ?_
  refine .all _ _ (k41.lift0 _ (by simp only [go_sem]) (by simp only [go_sem])) ?_
  simp (maxSteps := 4000000) -implicitDefEqProofs only [go_sem, nn, ca, cb, r1, r2, Option.some.injEq, forall_eq', and_true, true_and, Bool.not_true, Bool.not_false, decide_true, Nat.reduceAdd, Nat.reduceSub, Nat.reduceLT, Nat.reduceLeDiff, Nat.reduceEqDiff, ↓reduceIte]
  refine .all _ _ (k42.lift0 _ (by simp only [go_sem]) (by simp only [go_sem])) ?_
  simp (maxSteps := 4000000) -implicitDefEqProofs only [go_sem, nn, ca, cb, r1, r2, Option.some.injEq, forall_eq', and_true, true_and, Bool.not_true, Bool.not_false, decide_true, Nat.reduceAdd, Nat.reduceSub, Nat.reduceLT, Nat.reduceLeDiff, Nat.reduceEqDiff, ↓reduceIte]
  --W [(1, .d (.bool true)), (2, .d (.bool true)), (22, .d (.bool true))]
  refine .all _ _ (k43.lift0 _ (by simp only [go_sem]) (by simp only [go_sem])) ?_
  simp (maxSteps := 4000000) -implicitDefEqProofs only [go_sem, nn, ca, cb, r1, r2, Option.some.injEq, forall_eq', and_true, true_and, Bool.not_true, Bool.not_false, decide_true, Nat.reduceAdd, Nat.reduceSub, Nat.reduceLT, Nat.reduceLeDiff, Nat.reduceEqDiff, ↓reduceIte]
  refine .all _ _ (k44.lift0 _ (by simp only [go_sem]) (by simp only [go_sem])) ?_
  simp (maxSteps := 4000000) -implicitDefEqProofs only [go_sem, nn, ca, cb, r1, r2, Option.some.injEq, forall_eq', and_true, true_and, Bool.not_true, Bool.not_false, decide_true, Nat.reduceAdd, Nat.reduceSub, Nat.reduceLT, Nat.reduceLeDiff, Nat.reduceEqDiff, ↓reduceIte]
  refine DX.join (mkE 328 [(1, .d (.bool true)), (2, .d (.bool true)), (22, .d (.bool true)), (25, .d (.int .i64 (-1))), (26, .d (.int .i64 0)), (27, .d (.int .i64 1)), (28, .d (.int .i64 0))]) [] (.take 0 true (.take 1 true (.take 4 true (.run [2, 5] (fun i => if i = 2 then [true, false, false] else [false, true, true]) fun i => if i = 2 then ((.run [3, 5] (fun i => if i = 3 then [true] else [false]) fun i => if i = 3 then ((.run [5] (fun i => [false]) fun i => (.run [6] (fun i => []) fun i => (.run [7] (fun i => []) fun i => (.take 8 false (.take 9 false (.take 10 false (.take 11 false (.take 12 false .done))))))))) else ((.run [3] (fun i => []) fun i => (.run [6] (fun i => []) fun i => (.run [7] (fun i => []) fun i => (.take 8 false (.take 9 false (.take 10 false (.take 11 false (.take 12 false .done))))))))))) else ((.run [2] (fun i => [false, false]) fun i => (.run [3] (fun i => []) fun i => (.run [6] (fun i => []) fun i => (.run [7] (fun i => []) fun i => (.take 8 false (.take 9 false (.take 10 false (.take 11 false (.take 12 false .done)))))))))))))) (by kernel_rfl) (by kernel_rfl) Ty.mixed ?_ ?_
  · simp (maxSteps := 4000000) -implicitDefEqProofs only [go_sem, nn, Option.some.injEq, forall_eq', and_true, true_and, Bool.not_true, Bool.not_false, decide_true, Nat.reduceAdd, Nat.reduceSub, Nat.reduceLT, Nat.reduceLeDiff, Nat.reduceEqDiff, ↓reduceIte]
    repeat' (first
      | (refine Wk.forget ?_ ?_; (· ((simp only [go_sem]) <;> trivial)); (· simp only [go_sem]))
      | decide
      | (refine And.intro ?_ ?_)
      | (refine ⟨_, _, Spec.frz 11 rfl (j1.lift0 _ (by simp only [go_sem]) (by simp only [go_sem])), ?_⟩; (try simp (maxSteps := 4000000) -implicitDefEqProofs only [go_sem, nn, Option.some.injEq, forall_eq', and_true, true_and, Bool.not_true, Bool.not_false, decide_true, Nat.reduceAdd, Nat.reduceSub, Nat.reduceLT, Nat.reduceLeDiff, Nat.reduceEqDiff, ↓reduceIte]))
      | (refine ⟨_, _, Spec.frz 11 rfl (j2.lift0 _ (by simp only [go_sem]) (by simp only [go_sem])), ?_⟩; (try simp (maxSteps := 4000000) -implicitDefEqProofs only [go_sem, nn, Option.some.injEq, forall_eq', and_true, true_and, Bool.not_true, Bool.not_false, decide_true, Nat.reduceAdd, Nat.reduceSub, Nat.reduceLT, Nat.reduceLeDiff, Nat.reduceEqDiff, ↓reduceIte]))
      | (refine ⟨_, _, Spec.frz 12 rfl (j1.lift0 _ (by simp only [go_sem]) (by simp only [go_sem])), ?_⟩; (try simp (maxSteps := 4000000) -implicitDefEqProofs only [go_sem, nn, Option.some.injEq, forall_eq', and_true, true_and, Bool.not_true, Bool.not_false, decide_true, Nat.reduceAdd, Nat.reduceSub, Nat.reduceLT, Nat.reduceLeDiff, Nat.reduceEqDiff, ↓reduceIte]))
      | (refine ⟨_, _, Spec.frz 12 rfl (j2.lift0 _ (by simp only [go_sem]) (by simp only [go_sem])), ?_⟩; (try simp (maxSteps := 4000000) -implicitDefEqProofs only [go_sem, nn, Option.some.injEq, forall_eq', and_true, true_and, Bool.not_true, Bool.not_false, decide_true, Nat.reduceAdd, Nat.reduceSub, Nat.reduceLT, Nat.reduceLeDiff, Nat.reduceEqDiff, ↓reduceIte]))
      | (refine ⟨_, _, j3.lift0 _ (by simp only [go_sem]) (by simp only [go_sem]), ?_⟩; (try simp (maxSteps := 4000000) -implicitDefEqProofs only [go_sem, nn, Option.some.injEq, forall_eq', and_true, true_and, Bool.not_true, Bool.not_false, decide_true, Nat.reduceAdd, Nat.reduceSub, Nat.reduceLT, Nat.reduceLeDiff, Nat.reduceEqDiff, ↓reduceIte])))
  simp (maxSteps := 4000000) -implicitDefEqProofs only [go_sem, nn, Option.some.injEq, forall_eq', and_true, true_and, Bool.not_true, Bool.not_false, decide_true, Nat.reduceAdd, Nat.reduceSub, Nat.reduceLT, Nat.reduceLeDiff, Nat.reduceEqDiff, ↓reduceIte]
  refine ECall.dat (by simp only [go_sem]; rfl) (by rfl) ?_
  refine .all _ _ (k45.lift0 _ (by simp only [go_sem]) (by simp only [go_sem])) ?_
  simp (maxSteps := 4000000) -implicitDefEqProofs only [go_sem, nn, ca, cb, r1, r2, Option.some.injEq, forall_eq', and_true, true_and, Bool.not_true, Bool.not_false, decide_true, Nat.reduceAdd, Nat.reduceSub, Nat.reduceLT, Nat.reduceLeDiff, Nat.reduceEqDiff, ↓reduceIte]
  refine ECall.dat (by simp only [go_sem]; rfl) (by rfl) ?_
  refine .all _ _ (k46.lift0 _ (by simp only [go_sem]) (by simp only [go_sem])) ?_
  simp (maxSteps := 4000000) -implicitDefEqProofs only [go_sem, nn, ca, cb, r1, r2, Option.some.injEq, forall_eq', and_true, true_and, Bool.not_true, Bool.not_false, decide_true, Nat.reduceAdd, Nat.reduceSub, Nat.reduceLT, Nat.reduceLeDiff, Nat.reduceEqDiff, ↓reduceIte]
  refine .all _ _ (k47.lift0 _ (by simp only [go_sem]) (by simp only [go_sem])) ?_
  simp (maxSteps := 4000000) -implicitDefEqProofs only [go_sem, nn, ca, cb, r1, r2, Option.some.injEq, forall_eq', and_true, true_and, Bool.not_true, Bool.not_false, decide_true, Nat.reduceAdd, Nat.reduceSub, Nat.reduceLT, Nat.reduceLeDiff, Nat.reduceEqDiff, ↓reduceIte]
  refine .all _ _ (k48.lift0 _ (by simp only [go_sem]) (by simp only [go_sem])) ?_
  simp (maxSteps := 4000000) -implicitDefEqProofs only [go_sem, nn, ca, cb, r1, r2, Option.some.injEq, forall_eq', and_true, true_and, Bool.not_true, Bool.not_false, decide_true, Nat.reduceAdd, Nat.reduceSub, Nat.reduceLT, Nat.reduceLeDiff, Nat.reduceEqDiff, ↓reduceIte]
  refine .all _ _ (k49.lift0 _ (by simp only [go_sem]) (by simp only [go_sem])) ?_
  simp (maxSteps := 4000000) -implicitDefEqProofs only [go_sem, nn, ca, cb, r1, r2, Option.some.injEq, forall_eq', and_true, true_and, Bool.not_true, Bool.not_false, decide_true, Nat.reduceAdd, Nat.reduceSub, Nat.reduceLT, Nat.reduceLeDiff, Nat.reduceEqDiff, ↓reduceIte]
  refine .all _ _ (k50.lift0 _ (by simp only [go_sem]) (by simp only [go_sem])) ?_
  simp (maxSteps := 4000000) -implicitDefEqProofs only [go_sem, nn, ca, cb, r1, r2, Option.some.injEq, forall_eq', and_true, true_and, Bool.not_true, Bool.not_false, decide_true, Nat.reduceAdd, Nat.reduceSub, Nat.reduceLT, Nat.reduceLeDiff, Nat.reduceEqDiff, ↓reduceIte]
  refine .all _ _ (k51.lift0 _ (by simp only [go_sem]) (by simp only [go_sem])) ?_
  simp (maxSteps := 4000000) -implicitDefEqProofs only [go_sem, nn, ca, cb, r1, r2, Option.some.injEq, forall_eq', and_true, true_and, Bool.not_true, Bool.not_false, decide_true, Nat.reduceAdd, Nat.reduceSub, Nat.reduceLT, Nat.reduceLeDiff, Nat.reduceEqDiff, ↓reduceIte]
  refine ECall.dat (by simp only [go_sem]; rfl) (by rfl) ?_
  refine .all _ _ (k52.lift0 _ (by simp only [go_sem]) (by simp only [go_sem])) ?_
  simp (maxSteps := 4000000) -implicitDefEqProofs only [go_sem, nn, ca, cb, r1, r2, Option.some.injEq, forall_eq', and_true, true_and, Bool.not_true, Bool.not_false, decide_true, Nat.reduceAdd, Nat.reduceSub, Nat.reduceLT, Nat.reduceLeDiff, Nat.reduceEqDiff, ↓reduceIte]
  refine ECall.dat (by simp only [go_sem]; rfl) (by rfl) ?_
  refine .all _ _ (k53.lift0 _ (by simp only [go_sem]) (by simp only [go_sem])) ?_
  simp (maxSteps := 4000000) -implicitDefEqProofs only [go_sem, nn, ca, cb, r1, r2, Option.some.injEq, forall_eq', and_true, true_and, Bool.not_true, Bool.not_false, decide_true, Nat.reduceAdd, Nat.reduceSub, Nat.reduceLT, Nat.reduceLeDiff, Nat.reduceEqDiff, ↓reduceIte]
  refine .all _ _ (k54.lift0 _ (by simp only [go_sem]) (by simp only [go_sem])) ?_
  simp (maxSteps := 4000000) -implicitDefEqProofs only [go_sem, nn, ca, cb, r1, r2, Option.some.injEq, forall_eq', and_true, true_and, Bool.not_true, Bool.not_false, decide_true, Nat.reduceAdd, Nat.reduceSub, Nat.reduceLT, Nat.reduceLeDiff, Nat.reduceEqDiff, ↓reduceIte]
  refine .all _ _ (k55.lift0 _ (by simp only [go_sem]) (by simp only [go_sem])) ?_
  simp (maxSteps := 4000000) -implicitDefEqProofs only [go_sem, nn, ca, cb, r1, r2, Option.some.injEq, forall_eq', and_true, true_and, Bool.not_true, Bool.not_false, decide_true, Nat.reduceAdd, Nat.reduceSub, Nat.reduceLT, Nat.reduceLeDiff, Nat.reduceEqDiff, ↓reduceIte]
  refine .all _ _ (k56.lift0 _ (by simp only [go_sem]) (by simp only [go_sem])) ?_
  simp (maxSteps := 4000000) -implicitDefEqProofs only [go_sem, nn, ca, cb, r1, r2, Option.some.injEq, forall_eq', and_true, true_and, Bool.not_true, Bool.not_false, decide_true, Nat.reduceAdd, Nat.reduceSub, Nat.reduceLT, Nat.reduceLeDiff, Nat.reduceEqDiff, ↓reduceIte]
  exact wk_bool rfl
end Go.AX.Co
namespace Go.Proofs.Ytheliodgamcdjaa
open Go.AX Go.AX.Co Go.RowKit
set_option maxRecDepth 100000 in
theorem codecNames_lifted (os : Os) (started : os.Started) (H : Type) (enc : TypeId × Value → H) :
    ReturnsInHanded {} Try.checked os 8 .any (Rows.codecNamesSpec.pre6 enc Try.prog Try.f8 Rows.codecNamesRow.domain false) (Rows.codecNamesSpec.post enc Try.prog Try.f8 false true false false) := by
  refine Go.AX.lifted (C := Try.checked) (f := 8) (fn := Try.f8) (s := Rows.codecNamesSpec) (rt := 4) (n := 8) (by kernel_rfl) (by kernel_rfl) Try.func8 rfl ?_ rfl (by kernel_rfl) (by kernel_rfl) (by kernel_rfl) (by kernel_rfl) os started H enc
    (ChangeSpec.witness6 (enc := enc) (C := Try.checked) false ⟨#[], #[], []⟩ 8 (by kernel_rfl) (by kernel_rfl) (by kernel_rfl) (by kernel_rfl)) ?_
  · intro H ds h
    match ds, h with
    | [], _ => rfl
  · intro xs hx
    have hp : Try.f8.params.toList = [] := rfl
    rw [hp] at hx ⊢
    match xs, hx with
    | [], _ => exact codecNames
theorem codecNames_over : Rows.codecNamesRow.holds Try.pinned (OpenSpec.ofChange Rows.codecNamesSpec) :=
  OpenClaim.holds_of_wide 8 Try.f8 rfl rfl rfl rfl rfl rfl rfl ⟨rfl, rfl, rfl, rfl, rfl⟩ rfl rfl rfl rfl rfl (by kernel_rfl) Try.func8 (by kernel_rfl)
    (of_decide_eq_true (by kernel_rfl)) (by unfold Func.isWrapper; first | (rw [if_pos (by decide +kernel)]; kernel_rfl) | (rw [if_neg (by decide +kernel)]; exact ⟨rfl, rfl⟩))
    (fun os started H enc _ => codecNames_lifted os started H enc)
/-- The row, under a short name, for the claim. -/
theorem codecNames_holds : Rows.CodecNamesSaid := codecNames_over
#print axioms codecNames_holds
end Go.Proofs.Ytheliodgamcdjaa

/- ForwardNames: the law returns true. It has no arguments and no condition. -/
import Derived.Test.YtjdppplgddldcaaK15
import Derived.KernelRfl
set_option maxHeartbeats 8000000
set_option linter.unusedVariables false
set_option linter.unusedSimpArgs false
set_option maxRecDepth 20000
namespace Go.AX.Fw
open Go.Proofs Go.RowKit Go.IntWalk Go.AX.Br Go.AX.Lg
def sRthree : ByteArray := ⟨#[114, 51]⟩
def exB : Lg := ⟨[⟨sFix, 30⟩], exF.br, exF.ev⟩
def noN : List ByteArray := List.replicate 9 ⟨#[]⟩
def noS : List St := List.replicate 301 ⟨0, ⟨#[]⟩, ⟨#[]⟩⟩
def exQ : List St := [⟨3, sMain, sRtwo⟩, ⟨3, sR1, sMain⟩]
def exR : List St := [⟨3, sR1, sMain⟩, ⟨3, sR1, sMain⟩]
def exH : List St := [⟨3, sR1, sMain⟩]
theorem nm_a : fcheck exB exO = 8 := by kernel_rfl
theorem nm_b : fcheck exF [] = 2 := by kernel_rfl
theorem nm_c : fcheck exF noN = 4 := by kernel_rfl
theorem nm_d : fcheck exF [sR1, sRthree] = 6 := by kernel_rfl
theorem nm_e : fcheck exF [sR1, sMain, sR1] = 14 := by kernel_rfl
theorem nm_f : alwR exF exO 30 sR1 = (false, 2) := by kernel_rfl
theorem nm_g : alwR exF exO (-1) sR1 = (false, 2) := by kernel_rfl
theorem nm_h : alwR exF exO 3 sRthree = (false, 6) := by kernel_rfl
theorem nm_i : wrkR exF exO noS = (0, 4) := by kernel_rfl
theorem nm_j : clsR exF exO noS = (false, 4) := by kernel_rfl
theorem nm_p : plnR exF exO = (exP, 0) := by kernel_rfl
theorem nm_k : wrkR exF exO exP = (2, 0) := by kernel_rfl
theorem nm_l : wrkR exF exO exQ = (0, 0) := by kernel_rfl
theorem nm_m : wrkR exF exO exR = (1, 0) := by kernel_rfl
theorem nm_q : clsR exF exO exH = (false, 0) := by kernel_rfl
theorem nm_r : clsR exF exO exP = (true, 0) := by kernel_rfl
theorem nm_s : plnR exF [sMain, sRtwo, sR1] = ([], 0) := by kernel_rfl
theorem nm_t : alwR exF exO 7 sMain = (true, 0) := by kernel_rfl
theorem noN_sD : noN.map sD = List.replicate 9 [.str ⟨#[]⟩] := rfl
theorem noS_stD : noS.map stD = List.replicate 301 [.int .i64 0, .str ⟨#[]⟩, .str ⟨#[]⟩] := by simp only [noS, List.map_replicate, stD]

theorem example_kspec : Spec Try.prog 29 [] [] (.agg [.own 0, .d (.sl (exF.br.map bD)), .d (.sl (exF.ev.map esD))]) [.row 2 [[.str ⟨#[102, 105, 120]⟩, .int .i64 3]]] := by
  refine spec_of_ev (fn := Try.f29) DX_ok 3000 Try.func29 rfl rfl (Nat.le_of_ble_eq_true rfl) ?_
  simp (maxSteps := 4000000) -implicitDefEqProofs only [Try.f29, go_sem]
  simp (maxSteps := 4000000) -implicitDefEqProofs only [go_sem, Nat.reduceAdd, Nat.reduceSub, Nat.reduceLT, Nat.reduceLeDiff, Nat.reduceEqDiff, ↓reduceIte]
  repeat' (first | (refine And.intro (by omega) ?_))
  rw [show exF.br.map bD = [[.str ⟨#[109, 97, 105, 110]⟩, .str ByteArray.empty, .int .i64 0], [.str ⟨#[114, 50]⟩, .str ⟨#[109, 97, 105, 110]⟩, .int .i64 0], [.str ⟨#[114, 49]⟩, .str ⟨#[109, 97, 105, 110]⟩, .int .i64 0]] from rfl, show exF.ev.map esD = [[.sl []], [.sl []], [.sl [[.int .u8 1, .str ⟨#[102, 105, 120]⟩]]]] from rfl]
  refine Wk.trans (Wk.frz 2 rfl) (Wk.trans (Wk.frz 4 rfl) ?_)
  exact (Wk.via [1] (by (simp -implicitDefEqProofs only [go_sem, ↓reduceIte]) <;> trivial) (by first | (simp (maxSteps := 4000000) -implicitDefEqProofs only [go_sem, Nat.reduceAdd, Nat.reduceSub, Nat.reduceLT, Nat.reduceLeDiff, Nat.reduceEqDiff, ↓reduceIte]; done) | ((simp (maxSteps := 4000000) -implicitDefEqProofs only [go_sem, Nat.reduceAdd, Nat.reduceSub, Nat.reduceLT, Nat.reduceLeDiff, Nat.reduceEqDiff, ↓reduceIte]) <;> omega)) (by simp) (by first | (simp; done) | (simp [so]; done)) (by (simp (maxSteps := 4000000) -implicitDefEqProofs only [go_sem, Nat.reduceAdd, Nat.reduceSub, Nat.reduceLT, Nat.reduceLeDiff, Nat.reduceEqDiff, ↓reduceIte]) <;> trivial) (by first | (simp -implicitDefEqProofs only [go_sem]; done) | ((simp (maxSteps := 4000000) -implicitDefEqProofs only [go_sem, Nat.reduceAdd, Nat.reduceSub, Nat.reduceLT, Nat.reduceLeDiff, Nat.reduceEqDiff, ↓reduceIte]) <;> omega)) (Nat.zero_le _) (fun i h => absurd h (Nat.not_lt_zero i)))
theorem names_fspec : Spec Try.prog 8 [] [] (.d (.bool true)) [] := by
  have s0 := example_fspec
  have s1 := order_fspec
  have sk := example_kspec
  have s_a := fcheck_own exB exO (by decide) (by decide) (by decide) (by decide)
  rw [nm_a] at s_a
  have s_b := fcheck_own exF [] (by decide) (by decide) (by decide) (by decide)
  rw [nm_b] at s_b
  have s_c := fcheck_own exF noN (by decide) (by decide) (by decide) (by decide)
  rw [nm_c] at s_c
  have s_d := fcheck_own exF [sR1, sRthree] (by decide) (by decide) (by decide) (by decide)
  rw [nm_d] at s_d
  have s_e := fcheck_own exF [sR1, sMain, sR1] (by decide) (by decide) (by decide) (by decide)
  rw [nm_e] at s_e
  have s_f := Allowed_own exF exO 30 sR1 (by decide) (by decide) (by decide) (by decide)
  rw [nm_f] at s_f
  have s_g := Allowed_own exF exO (-1) sR1 (by decide) (by decide) (by decide) (by decide)
  rw [nm_g] at s_g
  have s_h := Allowed_own exF exO 3 sRthree (by decide) (by decide) (by decide) (by decide)
  rw [nm_h] at s_h
  have s_i := Works_own exF exO noS (by decide) (by decide) (by decide) (by decide) (by decide)
  rw [nm_i] at s_i
  have s_j := Closes_own exF exO noS (by decide) (by decide) (by decide) (by decide) (by decide)
  rw [nm_j] at s_j
  have s_p := Plan_own exF exO (by decide) (by decide) (by decide) (by decide)
  rw [nm_p] at s_p
  have s_k := Works_own exF exO exP (by decide) (by decide) (by decide) (by decide) (by decide)
  rw [nm_k] at s_k
  have s_l := Works_own exF exO exQ (by decide) (by decide) (by decide) (by decide) (by decide)
  rw [nm_l] at s_l
  have s_m := Works_own exF exO exR (by decide) (by decide) (by decide) (by decide) (by decide)
  rw [nm_m] at s_m
  have s_q := Closes_own exF exO exH (by decide) (by decide) (by decide) (by decide) (by decide)
  rw [nm_q] at s_q
  have s_r := Closes_own exF exO exP (by decide) (by decide) (by decide) (by decide) (by decide)
  rw [nm_r] at s_r
  have s_s := Plan_own exF [sMain, sRtwo, sR1] (by decide) (by decide) (by decide) (by decide)
  rw [nm_s] at s_s
  have s_t := Allowed_own exF exO 7 sMain (by decide) (by decide) (by decide) (by decide)
  rw [nm_t] at s_t
  rw [noN_sD] at s_c
  rw [noS_stD] at s_i s_j
  simp -implicitDefEqProofs only [List.map_nil] at s_b s_s
  simp -implicitDefEqProofs only [lA, exB] at s_a
  obtain ⟨G, hG⟩ : ∃ A, A = exF := ⟨_, rfl⟩
  obtain ⟨O, hO⟩ : ∃ A, A = exO := ⟨_, rfl⟩
  rw [← hG] at sk s0 s_a s_b s_c s_d s_e s_f s_g s_h s_i s_j s_p s_k s_l s_m s_q s_r s_s s_t
  rw [← hO] at s1 s_a s_f s_g s_h s_i s_j s_p s_k s_l s_m s_q s_r s_t
  have p0 : exP.map stD = [[.int .i64 3, .str ⟨#[114, 49]⟩, .str ⟨#[109, 97, 105, 110]⟩], [.int .i64 3, .str ⟨#[109, 97, 105, 110]⟩, .str ⟨#[114, 50]⟩]] := rfl
  obtain ⟨P, hP⟩ : ∃ P, P = exP.map stD := ⟨_, rfl⟩
  rw [← hP] at s_p s_k s_r p0
  have pl : P.length = 2 := by rw [p0]; rfl
  have g0 : P[0]? = some [.int .i64 3, .str ⟨#[114, 49]⟩, .str ⟨#[109, 97, 105, 110]⟩] := by rw [p0]; rfl
  have g1 : P[1]? = some [.int .i64 3, .str ⟨#[109, 97, 105, 110]⟩, .str ⟨#[114, 50]⟩] := by rw [p0]; rfl
  have gt : P.take 1 = [[.int .i64 3, .str ⟨#[114, 49]⟩, .str ⟨#[109, 97, 105, 110]⟩]] := by rw [p0]; rfl
  obtain ⟨K9, hK9⟩ : ∃ A, A = List.replicate 9 [D.str ⟨#[]⟩] := ⟨_, rfl⟩
  obtain ⟨K301, hK301⟩ : ∃ A, A = List.replicate 301 [D.int .i64 0, .str ⟨#[]⟩, .str ⟨#[]⟩] := ⟨_, rfl⟩
  rw [← hK9] at s_c
  rw [← hK301] at s_i s_j
  simp -implicitDefEqProofs only [lA, sRtwo, sMain, sR1, sRthree] at s0 s1 s_a s_b s_c s_d s_e s_f s_g s_h s_i s_j s_p s_k s_l s_m s_q s_r s_s s_t
  clear hG hO hP
  have n0 : (0 ≤ (0 : Int) ∧ (0 : Int) < ((2 : Nat) : Int)) = True := eq_true (by omega)
  have n1 : (0 ≤ (1 : Int) ∧ (1 : Int) < ((2 : Nat) : Int)) = True := eq_true (by omega)
  refine spec_of_ev (fn := Try.f8) DX_ok 3000 Try.func8 rfl rfl (Nat.le_of_ble_eq_true rfl) ?_
  simp (maxSteps := 4000000) -implicitDefEqProofs only [Try.f8, go_sem]
  refine ecallN _ _ sk (by simp -implicitDefEqProofs only [go_sem]) ?_
  have n00 : (0 ≤ (0 : Int) ∧ (0 : Int) < ((1 : Nat) : Int)) = True := eq_true (by omega)
  simp (maxSteps := 4000000) -implicitDefEqProofs only [go_sem, n00, List.getElem?_cons_zero, List.set_cons_zero, Option.some.injEq, forall_eq', and_true, true_and, Bool.not_true, Bool.not_false, decide_true, Nat.reduceAdd, Nat.reduceSub, Nat.reduceLT, Nat.reduceLeDiff, Nat.reduceEqDiff, ↓reduceIte]
  refine DX.plain (.take 0 true (.run [1] (fun _ => [true]) fun _ => (.run [2] (fun _ => [false]) fun _ => (.take 3 false .done)))) (by kernel_rfl) (by kernel_rfl) Ty.mixed ?_
  simp (maxSteps := 4000000) -implicitDefEqProofs only [go_sem, pl, Option.some.injEq, forall_eq', and_true, true_and, Bool.not_true, Bool.not_false, decide_true, Nat.reduceAdd, Nat.reduceSub, Nat.reduceLT, Nat.reduceLeDiff, Nat.reduceEqDiff, ↓reduceIte]
  refine ⟨_, _, s1.lift0 _ (by simp -implicitDefEqProofs only [go_sem]) (by simp -implicitDefEqProofs only [go_sem]), ?_⟩
  simp (maxSteps := 4000000) -implicitDefEqProofs only [go_sem, Nat.reduceAdd, Nat.reduceSub, Nat.reduceLT, Nat.reduceLeDiff, Nat.reduceEqDiff, ↓reduceIte]
  refine ⟨_, _, Spec.frz 0 rfl (s_a.lift0 _ (by simp -implicitDefEqProofs only [go_sem]) (by simp -implicitDefEqProofs only [go_sem])), ?_⟩
  simp (maxSteps := 4000000) -implicitDefEqProofs only [go_sem, Nat.reduceAdd, Nat.reduceSub, Nat.reduceLT, Nat.reduceLeDiff, Nat.reduceEqDiff, ↓reduceIte]
  refine ecall0 _ s0 (by simp -implicitDefEqProofs only [go_sem]) (by simp -implicitDefEqProofs only [go_sem]) ?_
  simp (maxSteps := 4000000) -implicitDefEqProofs only [go_sem, Nat.reduceAdd, Nat.reduceSub, Nat.reduceLT, Nat.reduceLeDiff, Nat.reduceEqDiff, ↓reduceIte]
  refine ECall.dat (args' := [.agg [.d (.sl (G.kn.map kD)), .d (.sl (G.br.map bD)), .d (.sl (G.ev.map esD))], .d (.sl [])]) (by simp -implicitDefEqProofs only [go_sem]; rfl) rfl ?_
  refine ecall0 _ s_b (by simp -implicitDefEqProofs only [go_sem]) (by simp -implicitDefEqProofs only [go_sem]) ?_
  simp (maxSteps := 4000000) -implicitDefEqProofs only [go_sem, Nat.reduceAdd, Nat.reduceSub, Nat.reduceLT, Nat.reduceLeDiff, Nat.reduceEqDiff, ↓reduceIte]
  have hk9 : List.replicate (Int.toNat 9) [D.str ByteArray.empty] = K9 := hK9.symm
  have hk301 : List.replicate (Int.toNat 301) [D.int .i64 0, .str ByteArray.empty, .str ByteArray.empty] = K301 := hK301.symm
  refine DX.plain (.take 0 true (.run [1] (fun _ => [true]) fun _ => (.run [2] (fun _ => [false]) fun _ => (.take 3 false .done)))) (by kernel_rfl) (by kernel_rfl) Ty.mixed ?_
  simp (maxSteps := 4000000) -implicitDefEqProofs only [go_sem, hk9, Option.some.injEq, forall_eq', and_true, true_and, Bool.not_true, Bool.not_false, decide_true, Nat.reduceAdd, Nat.reduceSub, Nat.reduceLT, Nat.reduceLeDiff, Nat.reduceEqDiff, ↓reduceIte]
  refine ⟨_, _, s0.lift0 _ (by simp -implicitDefEqProofs only [go_sem]) (by simp -implicitDefEqProofs only [go_sem]), rfl, ?_⟩
  refine ⟨by decide, s0.lift0 _ (by simp -implicitDefEqProofs only [go_sem]) (by simp -implicitDefEqProofs only [go_sem]), ?_⟩
  refine ⟨_, _, Spec.frz 2 rfl (s_c.lift0 _ (by simp -implicitDefEqProofs only [go_sem]) (by simp -implicitDefEqProofs only [go_sem])), ?_⟩
  simp (maxSteps := 4000000) -implicitDefEqProofs only [go_sem, Nat.reduceAdd, Nat.reduceSub, Nat.reduceLT, Nat.reduceLeDiff, Nat.reduceEqDiff, ↓reduceIte]
  refine ecall0 _ s0 (by simp -implicitDefEqProofs only [go_sem]) (by simp -implicitDefEqProofs only [go_sem]) ?_
  simp (maxSteps := 4000000) -implicitDefEqProofs only [go_sem, Nat.reduceAdd, Nat.reduceSub, Nat.reduceLT, Nat.reduceLeDiff, Nat.reduceEqDiff, ↓reduceIte]
  repeat' (first | (refine And.intro (by omega) ?_))
  refine ECall.dat (args' := [.agg [.d (.sl (G.kn.map kD)), .d (.sl (G.br.map bD)), .d (.sl (G.ev.map esD))], .d (.sl [[.str ⟨#[114, 49]⟩], [.str ⟨#[114, 51]⟩]])]) (by simp -implicitDefEqProofs only [go_sem]; rfl) rfl ?_
  refine ecall0 _ s_d (by simp -implicitDefEqProofs only [go_sem]) (by simp -implicitDefEqProofs only [go_sem]) ?_
  simp (maxSteps := 4000000) -implicitDefEqProofs only [go_sem, Nat.reduceAdd, Nat.reduceSub, Nat.reduceLT, Nat.reduceLeDiff, Nat.reduceEqDiff, ↓reduceIte]
  refine ecall0 _ s0 (by simp -implicitDefEqProofs only [go_sem]) (by simp -implicitDefEqProofs only [go_sem]) ?_
  simp (maxSteps := 4000000) -implicitDefEqProofs only [go_sem, Nat.reduceAdd, Nat.reduceSub, Nat.reduceLT, Nat.reduceLeDiff, Nat.reduceEqDiff, ↓reduceIte]
  repeat' (first | (refine And.intro (by omega) ?_))
  refine ECall.dat (args' := [.agg [.d (.sl (G.kn.map kD)), .d (.sl (G.br.map bD)), .d (.sl (G.ev.map esD))], .d (.sl [[.str ⟨#[114, 49]⟩], [.str ⟨#[109, 97, 105, 110]⟩], [.str ⟨#[114, 49]⟩]])]) (by simp -implicitDefEqProofs only [go_sem]; rfl) rfl ?_
  refine ecall0 _ s_e (by simp -implicitDefEqProofs only [go_sem]) (by simp -implicitDefEqProofs only [go_sem]) ?_
  simp (maxSteps := 4000000) -implicitDefEqProofs only [go_sem, Nat.reduceAdd, Nat.reduceSub, Nat.reduceLT, Nat.reduceLeDiff, Nat.reduceEqDiff, ↓reduceIte]
  refine ecall0 _ s0 (by simp -implicitDefEqProofs only [go_sem]) (by simp -implicitDefEqProofs only [go_sem]) ?_
  simp (maxSteps := 4000000) -implicitDefEqProofs only [go_sem, Nat.reduceAdd, Nat.reduceSub, Nat.reduceLT, Nat.reduceLeDiff, Nat.reduceEqDiff, ↓reduceIte]
  refine ecall0 _ s1 (by simp -implicitDefEqProofs only [go_sem]) (by simp -implicitDefEqProofs only [go_sem]) ?_
  simp (maxSteps := 4000000) -implicitDefEqProofs only [go_sem, Nat.reduceAdd, Nat.reduceSub, Nat.reduceLT, Nat.reduceLeDiff, Nat.reduceEqDiff, ↓reduceIte]
  refine ecall0 _ s_f (by simp -implicitDefEqProofs only [go_sem]) (by simp -implicitDefEqProofs only [go_sem]) ?_
  simp (maxSteps := 4000000) -implicitDefEqProofs only [go_sem, Nat.reduceAdd, Nat.reduceSub, Nat.reduceLT, Nat.reduceLeDiff, Nat.reduceEqDiff, ↓reduceIte]
  refine ecall0 _ s0 (by simp -implicitDefEqProofs only [go_sem]) (by simp -implicitDefEqProofs only [go_sem]) ?_
  simp (maxSteps := 4000000) -implicitDefEqProofs only [go_sem, Nat.reduceAdd, Nat.reduceSub, Nat.reduceLT, Nat.reduceLeDiff, Nat.reduceEqDiff, ↓reduceIte]
  refine ecall0 _ s1 (by simp -implicitDefEqProofs only [go_sem]) (by simp -implicitDefEqProofs only [go_sem]) ?_
  simp (maxSteps := 4000000) -implicitDefEqProofs only [go_sem, Nat.reduceAdd, Nat.reduceSub, Nat.reduceLT, Nat.reduceLeDiff, Nat.reduceEqDiff, ↓reduceIte]
  refine ecall0 _ s_g (by simp -implicitDefEqProofs only [go_sem]) (by simp -implicitDefEqProofs only [go_sem]) ?_
  simp (maxSteps := 4000000) -implicitDefEqProofs only [go_sem, Nat.reduceAdd, Nat.reduceSub, Nat.reduceLT, Nat.reduceLeDiff, Nat.reduceEqDiff, ↓reduceIte]
  refine ecall0 _ s0 (by simp -implicitDefEqProofs only [go_sem]) (by simp -implicitDefEqProofs only [go_sem]) ?_
  simp (maxSteps := 4000000) -implicitDefEqProofs only [go_sem, Nat.reduceAdd, Nat.reduceSub, Nat.reduceLT, Nat.reduceLeDiff, Nat.reduceEqDiff, ↓reduceIte]
  refine ecall0 _ s1 (by simp -implicitDefEqProofs only [go_sem]) (by simp -implicitDefEqProofs only [go_sem]) ?_
  simp (maxSteps := 4000000) -implicitDefEqProofs only [go_sem, Nat.reduceAdd, Nat.reduceSub, Nat.reduceLT, Nat.reduceLeDiff, Nat.reduceEqDiff, ↓reduceIte]
  refine ecall0 _ s_h (by simp -implicitDefEqProofs only [go_sem]) (by simp -implicitDefEqProofs only [go_sem]) ?_
  simp (maxSteps := 4000000) -implicitDefEqProofs only [go_sem, Nat.reduceAdd, Nat.reduceSub, Nat.reduceLT, Nat.reduceLeDiff, Nat.reduceEqDiff, ↓reduceIte]
  refine DX.plain (.take 0 true (.take 1 true (.run [2] (fun _ => [true, true]) fun _ => (.run [3] (fun _ => [false, false]) fun _ => (.take 4 false (.take 5 false (.take 6 false (.take 7 false (.take 8 false .done))))))))) (by kernel_rfl) (by kernel_rfl) Ty.mixed ?_
  simp (maxSteps := 4000000) -implicitDefEqProofs only [go_sem, hk301, Option.some.injEq, forall_eq', and_true, true_and, Bool.not_true, Bool.not_false, decide_true, Nat.reduceAdd, Nat.reduceSub, Nat.reduceLT, Nat.reduceLeDiff, Nat.reduceEqDiff, ↓reduceIte]
  refine ⟨_, _, s0.lift0 _ (by simp -implicitDefEqProofs only [go_sem]) (by simp -implicitDefEqProofs only [go_sem]), rfl, ?_⟩
  refine ⟨_, _, s1.lift0 _ (by simp -implicitDefEqProofs only [go_sem]) (by simp -implicitDefEqProofs only [go_sem]), rfl, ?_⟩
  refine ⟨by decide, ⟨s1.lift0 _ (by simp -implicitDefEqProofs only [go_sem]) (by simp -implicitDefEqProofs only [go_sem]), s0.lift0 _ (by simp -implicitDefEqProofs only [go_sem]) (by simp -implicitDefEqProofs only [go_sem])⟩, ?_⟩
  refine ⟨_, _, Spec.frz 5 rfl (s_i.lift0 _ (by simp -implicitDefEqProofs only [go_sem]) (by simp -implicitDefEqProofs only [go_sem])), ?_⟩
  simp (maxSteps := 4000000) -implicitDefEqProofs only [go_sem, Nat.reduceAdd, Nat.reduceSub, Nat.reduceLT, Nat.reduceLeDiff, Nat.reduceEqDiff, ↓reduceIte]
  refine DX.plain (.take 0 true (.take 1 true (.run [2] (fun _ => [true, true]) fun _ => (.run [3] (fun _ => [false, false]) fun _ => (.take 4 false (.take 5 false (.take 6 false (.take 7 false (.take 8 false .done))))))))) (by kernel_rfl) (by kernel_rfl) Ty.mixed ?_
  simp (maxSteps := 4000000) -implicitDefEqProofs only [go_sem, hk301, Option.some.injEq, forall_eq', and_true, true_and, Bool.not_true, Bool.not_false, decide_true, Nat.reduceAdd, Nat.reduceSub, Nat.reduceLT, Nat.reduceLeDiff, Nat.reduceEqDiff, ↓reduceIte]
  refine ⟨_, _, s0.lift0 _ (by simp -implicitDefEqProofs only [go_sem]) (by simp -implicitDefEqProofs only [go_sem]), rfl, ?_⟩
  refine ⟨_, _, s1.lift0 _ (by simp -implicitDefEqProofs only [go_sem]) (by simp -implicitDefEqProofs only [go_sem]), rfl, ?_⟩
  refine ⟨by decide, ⟨s1.lift0 _ (by simp -implicitDefEqProofs only [go_sem]) (by simp -implicitDefEqProofs only [go_sem]), s0.lift0 _ (by simp -implicitDefEqProofs only [go_sem]) (by simp -implicitDefEqProofs only [go_sem])⟩, ?_⟩
  refine ⟨_, _, Spec.frz 6 rfl (s_j.lift0 _ (by simp -implicitDefEqProofs only [go_sem]) (by simp -implicitDefEqProofs only [go_sem])), ?_⟩
  simp (maxSteps := 4000000) -implicitDefEqProofs only [go_sem, Nat.reduceAdd, Nat.reduceSub, Nat.reduceLT, Nat.reduceLeDiff, Nat.reduceEqDiff, ↓reduceIte]
  have z2 : (((2 : Nat) : Int) != 2) = false := rfl
  refine ecall0 _ s0 (by simp -implicitDefEqProofs only [go_sem]) (by simp -implicitDefEqProofs only [go_sem]) ?_
  simp (maxSteps := 4000000) -implicitDefEqProofs only [go_sem, Nat.reduceAdd, Nat.reduceSub, Nat.reduceLT, Nat.reduceLeDiff, Nat.reduceEqDiff, ↓reduceIte]
  refine ecall0 _ s1 (by simp -implicitDefEqProofs only [go_sem]) (by simp -implicitDefEqProofs only [go_sem]) ?_
  simp (maxSteps := 4000000) -implicitDefEqProofs only [go_sem, Nat.reduceAdd, Nat.reduceSub, Nat.reduceLT, Nat.reduceLeDiff, Nat.reduceEqDiff, ↓reduceIte]
  refine ecall0 _ s_p (by simp -implicitDefEqProofs only [go_sem]) (by simp -implicitDefEqProofs only [go_sem]) ?_
  simp (maxSteps := 4000000) -implicitDefEqProofs only [go_sem, pl, z2, Option.some.injEq, forall_eq', and_true, true_and, Bool.not_true, Bool.not_false, decide_true, Nat.reduceAdd, Nat.reduceSub, Nat.reduceLT, Nat.reduceLeDiff, Nat.reduceEqDiff, ↓reduceIte]
  refine ecall0 _ s0 (by simp -implicitDefEqProofs only [go_sem]) (by simp -implicitDefEqProofs only [go_sem]) ?_
  simp (maxSteps := 4000000) -implicitDefEqProofs only [go_sem, Nat.reduceAdd, Nat.reduceSub, Nat.reduceLT, Nat.reduceLeDiff, Nat.reduceEqDiff, ↓reduceIte]
  refine ecall0 _ s1 (by simp -implicitDefEqProofs only [go_sem]) (by simp -implicitDefEqProofs only [go_sem]) ?_
  simp (maxSteps := 4000000) -implicitDefEqProofs only [go_sem, Nat.reduceAdd, Nat.reduceSub, Nat.reduceLT, Nat.reduceLeDiff, Nat.reduceEqDiff, ↓reduceIte]
  refine ecall0 _ s_k (by simp -implicitDefEqProofs only [go_sem]) (by simp -implicitDefEqProofs only [go_sem]) ?_
  simp (maxSteps := 4000000) -implicitDefEqProofs only [go_sem, Nat.reduceAdd, Nat.reduceSub, Nat.reduceLT, Nat.reduceLeDiff, Nat.reduceEqDiff, ↓reduceIte]
  refine DX.plain (.take 0 true (.take 1 true (.take 2 false (.take 3 false (.take 4 false (.take 5 false (.take 6 false (.take 7 false (.run [8] (fun _ => [true, true]) fun _ => (.run [9] (fun _ => [false, false]) fun _ => (.take 10 false (.take 11 false (.take 12 false (.take 13 false (.take 14 false .done))))))))))))))) (by kernel_rfl) (by kernel_rfl) Ty.mixed ?_
  simp (maxSteps := 4000000) -implicitDefEqProofs only [go_sem, pl, n0, n1, g0, g1, Option.some.injEq, forall_eq', and_true, true_and, Bool.not_true, Bool.not_false, decide_true, Nat.reduceAdd, Nat.reduceSub, Nat.reduceLT, Nat.reduceLeDiff, Nat.reduceEqDiff, ↓reduceIte]
  refine ⟨_, _, s0.lift0 _ (by simp -implicitDefEqProofs only [go_sem]) (by simp -implicitDefEqProofs only [go_sem]), rfl, ?_⟩
  refine ⟨_, _, s1.lift0 _ (by simp -implicitDefEqProofs only [go_sem]) (by simp -implicitDefEqProofs only [go_sem]), rfl, ?_⟩
  refine ⟨by omega, ⟨s1.lift0 _ (by simp -implicitDefEqProofs only [go_sem]) (by simp -implicitDefEqProofs only [go_sem]), s0.lift0 _ (by simp -implicitDefEqProofs only [go_sem]) (by simp -implicitDefEqProofs only [go_sem])⟩, ?_⟩
  refine ⟨_, _, Spec.frz 7 rfl (s_l.lift0 _ (by simp -implicitDefEqProofs only [go_sem]) (by simp -implicitDefEqProofs only [go_sem])), ?_⟩
  simp (maxSteps := 4000000) -implicitDefEqProofs only [go_sem, Nat.reduceAdd, Nat.reduceSub, Nat.reduceLT, Nat.reduceLeDiff, Nat.reduceEqDiff, ↓reduceIte]
  refine ecall0 _ s0 (by simp -implicitDefEqProofs only [go_sem]) (by simp -implicitDefEqProofs only [go_sem]) ?_
  simp (maxSteps := 4000000) -implicitDefEqProofs only [go_sem, Nat.reduceAdd, Nat.reduceSub, Nat.reduceLT, Nat.reduceLeDiff, Nat.reduceEqDiff, ↓reduceIte]
  refine ecall0 _ s1 (by simp -implicitDefEqProofs only [go_sem]) (by simp -implicitDefEqProofs only [go_sem]) ?_
  simp (maxSteps := 4000000) -implicitDefEqProofs only [go_sem, Nat.reduceAdd, Nat.reduceSub, Nat.reduceLT, Nat.reduceLeDiff, Nat.reduceEqDiff, ↓reduceIte]
  repeat' (first | (refine And.intro (by omega) ?_))
  refine ECall.dat (args' := [.agg [.d (.sl (G.kn.map kD)), .d (.sl (G.br.map bD)), .d (.sl (G.ev.map esD))], .d (.sl (O.map sD)), .d (.sl [[.int .i64 3, .str ⟨#[114, 49]⟩, .str ⟨#[109, 97, 105, 110]⟩], [.int .i64 3, .str ⟨#[114, 49]⟩, .str ⟨#[109, 97, 105, 110]⟩]])]) (by simp -implicitDefEqProofs only [go_sem]; rfl) rfl ?_
  refine ecall0 _ s_m (by simp -implicitDefEqProofs only [go_sem]) (by simp -implicitDefEqProofs only [go_sem]) ?_
  simp (maxSteps := 4000000) -implicitDefEqProofs only [go_sem, Nat.reduceAdd, Nat.reduceSub, Nat.reduceLT, Nat.reduceLeDiff, Nat.reduceEqDiff, ↓reduceIte]
  have nt : (0 ≤ (1 : Int) ∧ (1 : Int) ≤ ((2 : Nat) : Int)) = True := eq_true (by omega)
  have n3 : (0 ≤ (0 : Int) ∧ (0 : Int) ≤ 1 ∧ (1 : Int) ≤ ((2 : Nat) : Int)) = True := eq_true (by omega)
  have pe : ∀ e ∈ P, e.length = 3 := by rw [p0]; decide
  refine DX.plain (.take 0 true (.take 1 true (.take 2 false (.take 3 false (.run [4] (fun _ => [false, false]) fun _ => (.take 5 false (.take 6 false (.take 7 false (.take 8 false (.take 9 false .done)))))))))) (by kernel_rfl) (by kernel_rfl) Ty.mixed ?_
  simp (maxSteps := 4000000) -implicitDefEqProofs only [go_sem, pl, nt, n3, gt, Option.some.injEq, forall_eq', and_true, true_and, Bool.not_true, Bool.not_false, decide_true, Nat.reduceAdd, Nat.reduceSub, Nat.reduceLT, Nat.reduceLeDiff, Nat.reduceEqDiff, ↓reduceIte]
  refine ⟨_, _, s0.lift0 _ (by simp -implicitDefEqProofs only [go_sem]) (by simp -implicitDefEqProofs only [go_sem]), rfl, ?_⟩
  refine ⟨_, _, s1.lift0 _ (by simp -implicitDefEqProofs only [go_sem]) (by simp -implicitDefEqProofs only [go_sem]), rfl, ?_⟩
  refine ⟨pe, by omega, ?_⟩
  refine ⟨_, _, s_q.lift0 _ (by simp -implicitDefEqProofs only [go_sem]) (by simp -implicitDefEqProofs only [go_sem]), ?_⟩
  simp (maxSteps := 4000000) -implicitDefEqProofs only [go_sem, Nat.reduceAdd, Nat.reduceSub, Nat.reduceLT, Nat.reduceLeDiff, Nat.reduceEqDiff, ↓reduceIte]
  refine ecall0 _ s0 (by simp -implicitDefEqProofs only [go_sem]) (by simp -implicitDefEqProofs only [go_sem]) ?_
  simp (maxSteps := 4000000) -implicitDefEqProofs only [go_sem, Nat.reduceAdd, Nat.reduceSub, Nat.reduceLT, Nat.reduceLeDiff, Nat.reduceEqDiff, ↓reduceIte]
  refine ecall0 _ s1 (by simp -implicitDefEqProofs only [go_sem]) (by simp -implicitDefEqProofs only [go_sem]) ?_
  simp (maxSteps := 4000000) -implicitDefEqProofs only [go_sem, Nat.reduceAdd, Nat.reduceSub, Nat.reduceLT, Nat.reduceLeDiff, Nat.reduceEqDiff, ↓reduceIte]
  refine ecall0 _ s_r (by simp -implicitDefEqProofs only [go_sem]) (by simp -implicitDefEqProofs only [go_sem]) ?_
  simp (maxSteps := 4000000) -implicitDefEqProofs only [go_sem, Nat.reduceAdd, Nat.reduceSub, Nat.reduceLT, Nat.reduceLeDiff, Nat.reduceEqDiff, ↓reduceIte]
  refine ecall0 _ s0 (by simp -implicitDefEqProofs only [go_sem]) (by simp -implicitDefEqProofs only [go_sem]) ?_
  simp (maxSteps := 4000000) -implicitDefEqProofs only [go_sem, Nat.reduceAdd, Nat.reduceSub, Nat.reduceLT, Nat.reduceLeDiff, Nat.reduceEqDiff, ↓reduceIte]
  repeat' (first | (refine And.intro (by omega) ?_))
  refine ECall.dat (args' := [.agg [.d (.sl (G.kn.map kD)), .d (.sl (G.br.map bD)), .d (.sl (G.ev.map esD))], .d (.sl [[.str ⟨#[109, 97, 105, 110]⟩], [.str ⟨#[114, 50]⟩], [.str ⟨#[114, 49]⟩]])]) (by simp -implicitDefEqProofs only [go_sem]; rfl) rfl ?_
  refine ecall0 _ s_s (by simp -implicitDefEqProofs only [go_sem]) (by simp -implicitDefEqProofs only [go_sem]) ?_
  simp (maxSteps := 4000000) -implicitDefEqProofs only [go_sem, Nat.reduceAdd, Nat.reduceSub, Nat.reduceLT, Nat.reduceLeDiff, Nat.reduceEqDiff, ↓reduceIte]
  refine ecall0 _ s0 (by simp -implicitDefEqProofs only [go_sem]) (by simp -implicitDefEqProofs only [go_sem]) ?_
  simp (maxSteps := 4000000) -implicitDefEqProofs only [go_sem, Nat.reduceAdd, Nat.reduceSub, Nat.reduceLT, Nat.reduceLeDiff, Nat.reduceEqDiff, ↓reduceIte]
  refine ecall0 _ s1 (by simp -implicitDefEqProofs only [go_sem]) (by simp -implicitDefEqProofs only [go_sem]) ?_
  simp (maxSteps := 4000000) -implicitDefEqProofs only [go_sem, Nat.reduceAdd, Nat.reduceSub, Nat.reduceLT, Nat.reduceLeDiff, Nat.reduceEqDiff, ↓reduceIte]
  refine ecall0 _ s_t (by simp -implicitDefEqProofs only [go_sem]) (by simp -implicitDefEqProofs only [go_sem]) ?_
  simp (maxSteps := 4000000) -implicitDefEqProofs only [go_sem, Nat.reduceAdd, Nat.reduceSub, Nat.reduceLT, Nat.reduceLeDiff, Nat.reduceEqDiff, ↓reduceIte]
  have e0 : ((0 : Int) == 0) = true := rfl
  have e1 : ((1 : Int) == 1) = true := rfl
  have e2 : ((2 : Int) == 2) = true := rfl
  have e4 : ((4 : Int) == 4) = true := rfl
  have e6 : ((6 : Int) == 6) = true := rfl
  have e8 : ((8 : Int) == 8) = true := rfl
  have e14 : ((14 : Int) == 14) = true := rfl
  have q5 : (((0 : Nat) : Int) == 0) = true := rfl
  have b2 : (!false) = true := rfl
  refine ecall0 _ alive_fspec (by simp -implicitDefEqProofs only [go_sem]) (by simp -implicitDefEqProofs only [go_sem]) ?_
  simp (maxSteps := 4000000) -implicitDefEqProofs only [go_sem, q5, e0, e1, e2, e4, e6, e8, e14, b2, Option.some.injEq, forall_eq', and_true, true_and, Bool.not_true, Bool.not_false, decide_true, Nat.reduceAdd, Nat.reduceSub, Nat.reduceLT, Nat.reduceLeDiff, Nat.reduceEqDiff, ↓reduceIte]
  exact wk_bool rfl

end Go.AX.Fw
namespace Go.Proofs.Ytjdppplgddldcaa
open Go.AX Go.AX.Fw Go.RowKit
set_option maxRecDepth 100000 in
theorem forwardNames_lifted (os : Os) (started : os.Started) (H : Type) (enc : TypeId × Value → H) :
    ReturnsInHanded {} Try.checked os 8 .any (Rows.forwardNamesSpec.pre6 enc Try.prog Try.f8 Rows.forwardNamesRow.domain false) (Rows.forwardNamesSpec.post enc Try.prog Try.f8 false true false false) := by
  refine Go.AX.lifted (C := Try.checked) (f := 8) (fn := Try.f8) (s := Rows.forwardNamesSpec) (rt := 4) (n := 8) (by kernel_rfl) (by kernel_rfl) Try.func8 rfl ?_ rfl (by kernel_rfl) (by kernel_rfl) (by kernel_rfl) (by kernel_rfl) os started H enc
    (ChangeSpec.witness6 (enc := enc) (C := Try.checked) false ⟨#[], #[], []⟩ 8 (by kernel_rfl) (by kernel_rfl) (by kernel_rfl) (by kernel_rfl)) ?_
  · intro H ds h
    match ds, h with
    | [], _ => rfl
  · intro xs hx
    have hp : Try.f8.params.toList = [] := rfl
    rw [hp] at hx ⊢
    match xs, hx with
    | [], _ => exact names_fspec
theorem forwardNames_over : Rows.forwardNamesRow.holds Try.pinned (OpenSpec.ofChange Rows.forwardNamesSpec) :=
  OpenClaim.holds_of_wide 8 Try.f8 rfl rfl rfl rfl rfl rfl rfl ⟨rfl, rfl, rfl, rfl, rfl⟩ rfl rfl rfl rfl rfl (by kernel_rfl) Try.func8 (by kernel_rfl)
    (of_decide_eq_true (by kernel_rfl)) (by unfold Func.isWrapper; first | (rw [if_pos (by decide +kernel)]; kernel_rfl) | (rw [if_neg (by decide +kernel)]; exact ⟨rfl, rfl⟩))
    (fun os started H enc _ => forwardNames_lifted os started H enc)
/-- The row, under a short name, for the claim. -/
theorem forwardNames_holds : Rows.ForwardNamesSaid := forwardNames_over
#print axioms forwardNames_holds
end Go.Proofs.Ytjdppplgddldcaa

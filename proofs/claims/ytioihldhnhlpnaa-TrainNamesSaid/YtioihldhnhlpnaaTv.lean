/- TrainNames: the law returns true. It has no arguments and no condition. -/
import Derived.Test.YtioihldhnhlpnaaK12
import Derived.KernelRfl
set_option maxHeartbeats 8000000
set_option linter.unusedVariables false
set_option linter.unusedSimpArgs false
set_option maxRecDepth 20000
namespace Go.AX.Tr
open Go.Proofs Go.RowKit Go.IntWalk Go.AX.Br Go.AX.Lg Go.AX.Qu Go.AX.Wn
theorem exX_len : exX.q.length = 2 := by kernel_rfl
theorem exX_q1 : exX.q[1]? = some ⟨sR1, sOther, 2, false, 0⟩ := by kernel_rfl
def fullH (X G : Tr) : Nat → List AObj
  | 0 => [.cells (tC X), .cells (tC G), .cells [.d (.sl (G.lg.kn.map kD)), .d (.sl (G.lg.br.map bD)), .own 3, .d (.sl (G.q.map rD)), .d (.sl (G.hs.map hD)), .d (.sl (G.cl.map clD))], .vec 1 [[.own 4], [.nil]], .vec 2 [[.d (.int .u8 1), .d (.str ⟨#[102, 105, 120]⟩)]]]
  | n + 1 => [.cells (tC X), .cells (tC G), .cells [.d (.sl (G.lg.kn.map kD)), .d (.sl (G.lg.br.map bD)), .own 3, .d (.sl (G.q.map rD)), .d (.sl (G.hs.map hD)), .d (.sl (G.cl.map clD))], .vec 1 [[.own 4], [.own 5]], .vec 2 [[.d (.int .u8 1), .d (.str ⟨#[102, 105, 120]⟩)]], .row 2 ((altE (n + 1)).map eD)]
theorem altE_succ (i : Nat) : altE (i + 1) = altE i ++ [⟨if i % 2 = 0 then 2 else 3, sFix⟩] := by
  simp only [altE, List.range_succ, List.map_append, List.map_cons, List.map_nil]

theorem names_tspec : Spec Try.prog 3 [] [] (.d (.bool true)) [] := by
  have s_0 := example_tspec
  have vK := example_K
  have vQ := example_Q
  have vH := example_H
  have vC := example_C
  have vE := example_E
  have hK : xK = exT.lg.kn.map kD := rfl
  have hB : xB = exT.lg.br.map bD := rfl
  have hE : xE = exT.lg.ev.map esD := rfl
  have hQ : xQ = exT.q.map rD := rfl
  have hH : xH = exT.hs.map hD := rfl
  have hC : xC = exT.cl.map clD := rfl
  rw [hB, hE, hQ, hH, hC] at vK
  rw [hB, hE, hK, hH, hC] at vQ
  rw [hB, hE, hQ, hK, hC] at vH
  rw [hB, hE, hQ, hH, hK] at vC
  rw [hB, hK, hQ, hH, hC] at vE
  have s_bad := tcheck_own exT1 (by decide) (by decide) (by decide) (by decide) (by decide) (by decide)
  rw [nm_bad] at s_bad
  have s_queue := tcheck_own exT2 (by decide) (by decide) (by decide) (by decide) (by decide) (by decide)
  rw [nm_queue] at s_queue
  have s_hold := tcheck_own exT3 (by decide) (by decide) (by decide) (by decide) (by decide) (by decide)
  rw [nm_hold] at s_hold
  have s_many := tcheck_own exT4 (by decide) (by decide) (by decide) (by decide) (by decide) (by decide)
  rw [nm_many] at s_many
  have s_change := tcheck_own exT5 (by decide) (by decide) (by decide) (by decide) (by decide) (by decide)
  rw [nm_change] at s_change
  have s_clash := tcheck_own exT6 (by decide) (by decide) (by decide) (by decide) (by decide) (by decide)
  rw [nm_clash] at s_clash
  have s_branch := tcheck_own exT7 (by decide) (by decide) (by decide) (by decide) (by decide) (by decide)
  rw [nm_branch] at s_branch
  have s_twice := tcheck_own exT8 (by decide) (by decide) (by decide) (by decide) (by decide) (by decide)
  rw [nm_twice] at s_twice
  have s_a := Outcome_own exT 2 exT_fit
  rw [nm_a] at s_a
  have s_b := Outcome_own exT (-1) exT_fit
  rw [nm_b] at s_b
  have s_c := Step_own exT sR2 0 exT_fit
  rw [nm_c] at s_c
  have s_d := Step_own exT sMain 0 exT_fit
  rw [nm_d] at s_d
  have s_e := Step_own exT sR1 (-1) exT_fit
  rw [nm_e] at s_e
  have s_f := Step_own exT sR1 1000001 exT_fit
  rw [nm_f] at s_f
  have s_g := Run_own exT sR2 0 0 exT_fit
  rw [nm_g] at s_g
  have s_h := Run_own exT sR1 0 31 exT_fit
  rw [nm_h] at s_h
  have s_i := Run_own exT sR1 1000001 0 exT_fit
  rw [nm_i] at s_i
  have s_j := Run_own exOv sR1 5 30 exOv_fit
  rw [nm_j] at s_j
  have s_k := Wait_own exOv sR1 5 exOv_fit
  rw [nm_k] at s_k
  have s_m := Run_own exT sMain 0 30 exT_fit
  rw [nm_m] at s_m
  have s_o := Step_own exF sR1 0 exF_fit
  rw [nm_o] at s_o
  have s_q := Run_own exF sR1 0 2 exF_fit
  rw [nm_q] at s_q
  have s_si := sameStates_ref [5] [5] (by unfold Sm; decide)
  have s_sa := same_tref exT exT_fit
  have s_sf := same_tref exF exF_fit
  obtain ⟨X, hX⟩ : ∃ A, A = exX := ⟨_, rfl⟩
  have xq := exX_q
  rw [← hX] at s_j xq
  have xl := exX_len
  have x1 := exX_q1
  rw [← hX] at xl x1
  obtain ⟨Zc, hZc⟩ : ∃ A, A = stepR exT sR2 0 := ⟨_, rfl⟩
  rw [← hZc] at s_c
  obtain ⟨Zd, hZd⟩ : ∃ A, A = stepR exT sMain 0 := ⟨_, rfl⟩
  rw [← hZd] at s_d
  obtain ⟨Ze, hZe⟩ : ∃ A, A = stepR exT sR1 (-1) := ⟨_, rfl⟩
  rw [← hZe] at s_e
  obtain ⟨Zf, hZf⟩ : ∃ A, A = stepR exT sR1 1000001 := ⟨_, rfl⟩
  rw [← hZf] at s_f
  obtain ⟨Zg, hZg⟩ : ∃ A, A = runR exT sR2 0 0 := ⟨_, rfl⟩
  rw [← hZg] at s_g
  obtain ⟨Zh, hZh⟩ : ∃ A, A = runR exT sR1 0 31 := ⟨_, rfl⟩
  rw [← hZh] at s_h
  obtain ⟨Zi, hZi⟩ : ∃ A, A = runR exT sR1 1000001 0 := ⟨_, rfl⟩
  rw [← hZi] at s_i
  obtain ⟨Zo, hZo⟩ : ∃ A, A = stepR exF sR1 0 := ⟨_, rfl⟩
  rw [← hZo] at s_o
  simp -implicitDefEqProofs only [tA, tC, sR2, sMain, sR1] at s_0 s_si s_sa s_sf s_bad s_queue s_hold s_many s_change s_clash s_branch s_twice s_a s_b s_c s_d s_e s_f s_g s_h s_i s_j s_k s_m s_o s_q
  simp -implicitDefEqProofs only [exT1, exT2, exT3, exT4, exT5, exT6, exT7, exT8, exOv, exF] at s_sf s_bad s_queue s_hold s_many s_change s_clash s_branch s_twice s_a s_b s_c s_d s_e s_f s_g s_h s_i s_j s_k s_m s_o s_q
  obtain ⟨G, hG⟩ : ∃ A, A = exT := ⟨_, rfl⟩
  rw [← hG] at vK vQ vH vC vE s_0 s_sa s_sf s_bad s_queue s_hold s_many s_change s_clash s_branch s_twice s_a s_b s_c s_d s_e s_f s_g s_h s_i s_j s_k s_m s_o s_q
  obtain ⟨C31, hC31⟩ : ∃ A, A = List.replicate 31 [D.str ⟨#[]⟩, .str ⟨#[]⟩] := ⟨_, rfl⟩
  have r31 : (List.replicate 31 (⟨⟨#[]⟩, ⟨#[]⟩⟩ : Cl)).map clD = C31 := by rw [hC31]; simp -implicitDefEqProofs only [List.map_replicate, clD]
  have h31 : List.replicate (Int.toNat 31) [D.str ByteArray.empty, .str ByteArray.empty] = C31 := hC31.symm
  rw [r31] at s_many
  obtain ⟨A40, hA40⟩ : ∃ A, A = altE 40 := ⟨_, rfl⟩
  clear hC31
  have lK : xK.length = 2 := rfl
  have gK : xK[0]? = some [.str ⟨#[102, 105, 120]⟩, .int .i64 1] := rfl
  have lQ : xQ.length = 2 := rfl
  have gQ : xQ[0]? = some [.str ⟨#[114, 49]⟩, .str ⟨#[102, 105, 120]⟩, .int .u8 2, .bool false, .int .i64 0] := rfl
  have gQ1 : xQ[1]? = some [.str ⟨#[114, 49]⟩, .str ⟨#[111, 116, 104, 101, 114]⟩, .int .u8 2, .bool false, .int .i64 0] := rfl
  have lH : xH.length = 1 := rfl
  have gH : xH[0]? = some [.str ⟨#[114, 49]⟩, .int .i64 5, .int .i64 9, .str ⟨#[114, 101, 108, 101, 97, 115, 101]⟩] := rfl
  have lC : xC.length = 1 := rfl
  have gC : xC[0]? = some [.str ⟨#[114, 49]⟩, .str ⟨#[111, 116, 104, 101, 114]⟩] := rfl
  have e02 : (0 ≤ (0 : Int) ∧ (0 : Int) < ((2 : Nat) : Int)) = True := eq_true (by omega)
  have e12 : (0 ≤ (1 : Int) ∧ (1 : Int) < ((2 : Nat) : Int)) = True := eq_true (by omega)
  have e01 : (0 ≤ (0 : Int) ∧ (0 : Int) < ((1 : Nat) : Int)) = True := eq_true (by omega)
  refine spec_of_ev (fn := Try.f3) DX_ok 3000 Try.func3 rfl rfl (Nat.le_of_ble_eq_true rfl) ?_
  simp (maxSteps := 4000000) -implicitDefEqProofs only [Try.f3, go_sem]
  refine ecallN _ _ vK (by simp -implicitDefEqProofs only [go_sem]) ?_
  simp (maxSteps := 4000000) -implicitDefEqProofs only [go_sem, Nat.reduceAdd, Nat.reduceSub, Nat.reduceLT, Nat.reduceLeDiff, Nat.reduceEqDiff, ↓reduceIte]
  refine ecallN _ _ vQ (by simp -implicitDefEqProofs only [go_sem]) ?_
  simp (maxSteps := 4000000) -implicitDefEqProofs only [go_sem, Nat.reduceAdd, Nat.reduceSub, Nat.reduceLT, Nat.reduceLeDiff, Nat.reduceEqDiff, ↓reduceIte]
  refine ecallN _ _ vH (by simp -implicitDefEqProofs only [go_sem]) ?_
  simp (maxSteps := 4000000) -implicitDefEqProofs only [go_sem, Nat.reduceAdd, Nat.reduceSub, Nat.reduceLT, Nat.reduceLeDiff, Nat.reduceEqDiff, ↓reduceIte]
  refine ecall0 _ s_0 (by simp -implicitDefEqProofs only [go_sem]) (by simp -implicitDefEqProofs only [go_sem]) ?_
  simp (maxSteps := 4000000) -implicitDefEqProofs only [go_sem, Nat.reduceAdd, Nat.reduceSub, Nat.reduceLT, Nat.reduceLeDiff, Nat.reduceEqDiff, ↓reduceIte]
  refine ecallN _ _ vQ (by simp -implicitDefEqProofs only [go_sem]) ?_
  simp (maxSteps := 4000000) -implicitDefEqProofs only [go_sem, Nat.reduceAdd, Nat.reduceSub, Nat.reduceLT, Nat.reduceLeDiff, Nat.reduceEqDiff, ↓reduceIte]
  refine ecallN _ _ vC (by simp -implicitDefEqProofs only [go_sem]) ?_
  simp (maxSteps := 4000000) -implicitDefEqProofs only [go_sem, Nat.reduceAdd, Nat.reduceSub, Nat.reduceLT, Nat.reduceLeDiff, Nat.reduceEqDiff, ↓reduceIte]
  refine ecallN _ _ vC (by simp -implicitDefEqProofs only [go_sem]) ?_
  simp (maxSteps := 4000000) -implicitDefEqProofs only [go_sem, Nat.reduceAdd, Nat.reduceSub, Nat.reduceLT, Nat.reduceLeDiff, Nat.reduceEqDiff, ↓reduceIte]
  refine ecallN _ _ vC (by simp -implicitDefEqProofs only [go_sem]) ?_
  simp (maxSteps := 4000000) -implicitDefEqProofs only [go_sem, h31, lK, gK, lQ, gQ, gQ1, lH, gH, lC, gC, e02, e12, e01, List.getElem?_cons_zero, List.getElem?_cons_succ, List.set_cons_zero, List.set_cons_succ, Option.some.injEq, forall_eq', and_true, true_and, Bool.not_true, Bool.not_false, decide_true, Nat.reduceAdd, Nat.reduceSub, Nat.reduceLT, Nat.reduceLeDiff, Nat.reduceEqDiff, ↓reduceIte]
  repeat' (first | (refine And.intro (by omega) ?_))
  refine DX.plain (.take 0 true (.take 1 true (.take 2 false (.take 3 false (.take 4 false (.take 5 false (.run [6] (fun _ => [true, true]) fun _ => (.run [7] (fun _ => [false, false]) fun _ => (.take 8 false (.run [9] (fun _ => []) fun _ => .done)))))))))) (by kernel_rfl) (by kernel_rfl) Ty.mixed ?_
  simp (maxSteps := 4000000) -implicitDefEqProofs only [go_sem, h31, lK, gK, lQ, gQ, gQ1, lH, gH, lC, gC, e02, e12, e01, List.getElem?_cons_zero, List.getElem?_cons_succ, List.set_cons_zero, List.set_cons_succ, Option.some.injEq, forall_eq', and_true, true_and, Bool.not_true, Bool.not_false, decide_true, Nat.reduceAdd, Nat.reduceSub, Nat.reduceLT, Nat.reduceLeDiff, Nat.reduceEqDiff, ↓reduceIte]
  refine ⟨by omega, ⟨by decide, by omega⟩, ?_⟩
  have v0 : ((0 : Int) == 0) = true := rfl
  have v1 : ((1 : Int) == 1) = true := rfl
  have v2 : ((2 : Int) == 2) = true := rfl
  have v4 : ((4 : Int) == 4) = true := rfl
  have v5 : ((5 : Int) == 5) = true := rfl
  have v6 : ((6 : Int) == 6) = true := rfl
  have v8 : ((8 : Int) == 8) = true := rfl
  have v14 : ((14 : Int) == 14) = true := rfl
  refine ecall0 _ alive_tspec (by simp -implicitDefEqProofs only [go_sem]) (by simp -implicitDefEqProofs only [go_sem]) ?_
  simp (maxSteps := 4000000) -implicitDefEqProofs only [go_sem, v0, v1, v2, v4, v5, v6, v8, v14, Option.some.injEq, forall_eq', and_true, true_and, Bool.not_true, Bool.not_false, decide_true, Nat.reduceAdd, Nat.reduceSub, Nat.reduceLT, Nat.reduceLeDiff, Nat.reduceEqDiff, ↓reduceIte]
  refine ECall.dat (args' := [.agg [.d (.sl (([⟨sFix, 30⟩, ⟨sOther, 2⟩] : List Kn).map kD)), .d (.sl (G.lg.br.map bD)), .d (.sl (G.lg.ev.map esD)), .d (.sl (G.q.map rD)), .d (.sl (G.hs.map hD)), .d (.sl (G.cl.map clD))]]) (by simp -implicitDefEqProofs only [go_sem]; rfl) rfl ?_
  refine ecall0 _ s_bad (by simp -implicitDefEqProofs only [go_sem]) (by simp -implicitDefEqProofs only [go_sem]) ?_
  simp (maxSteps := 4000000) -implicitDefEqProofs only [go_sem, v0, v1, v2, v4, v5, v6, v8, v14, Option.some.injEq, forall_eq', and_true, true_and, Bool.not_true, Bool.not_false, decide_true, Nat.reduceAdd, Nat.reduceSub, Nat.reduceLT, Nat.reduceLeDiff, Nat.reduceEqDiff, ↓reduceIte]
  refine ECall.dat (args' := [.agg [.d (.sl (G.lg.kn.map kD)), .d (.sl (G.lg.br.map bD)), .d (.sl (G.lg.ev.map esD)), .d (.sl (([⟨sR1, sFix, 8, false, 0⟩, ⟨sR1, sOther, 2, false, 0⟩] : List Rq).map rD)), .d (.sl (G.hs.map hD)), .d (.sl (G.cl.map clD))]]) (by simp -implicitDefEqProofs only [go_sem]; rfl) rfl ?_
  refine ecall0 _ s_queue (by simp -implicitDefEqProofs only [go_sem]) (by simp -implicitDefEqProofs only [go_sem]) ?_
  simp (maxSteps := 4000000) -implicitDefEqProofs only [go_sem, v0, v1, v2, v4, v5, v6, v8, v14, Option.some.injEq, forall_eq', and_true, true_and, Bool.not_true, Bool.not_false, decide_true, Nat.reduceAdd, Nat.reduceSub, Nat.reduceLT, Nat.reduceLeDiff, Nat.reduceEqDiff, ↓reduceIte]
  refine ECall.dat (args' := [.agg [.d (.sl (G.lg.kn.map kD)), .d (.sl (G.lg.br.map bD)), .d (.sl (G.lg.ev.map esD)), .d (.sl (G.q.map rD)), .d (.sl (([⟨sR1, 5, 5, sRel⟩] : List Hd).map hD)), .d (.sl (G.cl.map clD))]]) (by simp -implicitDefEqProofs only [go_sem]; rfl) rfl ?_
  refine ecall0 _ s_hold (by simp -implicitDefEqProofs only [go_sem]) (by simp -implicitDefEqProofs only [go_sem]) ?_
  simp (maxSteps := 4000000) -implicitDefEqProofs only [go_sem, v0, v1, v2, v4, v5, v6, v8, v14, Option.some.injEq, forall_eq', and_true, true_and, Bool.not_true, Bool.not_false, decide_true, Nat.reduceAdd, Nat.reduceSub, Nat.reduceLT, Nat.reduceLeDiff, Nat.reduceEqDiff, ↓reduceIte]
  refine ECall.dat (args' := [.agg [.d (.sl (G.lg.kn.map kD)), .d (.sl (G.lg.br.map bD)), .d (.sl (G.lg.ev.map esD)), .d (.sl (G.q.map rD)), .d (.sl (G.hs.map hD)), .d (.sl C31)]]) (by simp -implicitDefEqProofs only [go_sem]; rfl) rfl ?_
  refine ecall0 _ s_many (by simp -implicitDefEqProofs only [go_sem]) (by simp -implicitDefEqProofs only [go_sem]) ?_
  simp (maxSteps := 4000000) -implicitDefEqProofs only [go_sem, v0, v1, v2, v4, v5, v6, v8, v14, Option.some.injEq, forall_eq', and_true, true_and, Bool.not_true, Bool.not_false, decide_true, Nat.reduceAdd, Nat.reduceSub, Nat.reduceLT, Nat.reduceLeDiff, Nat.reduceEqDiff, ↓reduceIte]
  refine ECall.dat (args' := [.agg [.d (.sl (G.lg.kn.map kD)), .d (.sl (G.lg.br.map bD)), .d (.sl (G.lg.ev.map esD)), .d (.sl (([⟨sR1, sFix, 2, false, 0⟩, ⟨sR1, sNone, 2, false, 0⟩] : List Rq).map rD)), .d (.sl (G.hs.map hD)), .d (.sl (G.cl.map clD))]]) (by simp -implicitDefEqProofs only [go_sem]; rfl) rfl ?_
  refine ecall0 _ s_change (by simp -implicitDefEqProofs only [go_sem]) (by simp -implicitDefEqProofs only [go_sem]) ?_
  simp (maxSteps := 4000000) -implicitDefEqProofs only [go_sem, v0, v1, v2, v4, v5, v6, v8, v14, Option.some.injEq, forall_eq', and_true, true_and, Bool.not_true, Bool.not_false, decide_true, Nat.reduceAdd, Nat.reduceSub, Nat.reduceLT, Nat.reduceLeDiff, Nat.reduceEqDiff, ↓reduceIte]
  refine ECall.dat (args' := [.agg [.d (.sl (G.lg.kn.map kD)), .d (.sl (G.lg.br.map bD)), .d (.sl (G.lg.ev.map esD)), .d (.sl (G.q.map rD)), .d (.sl (G.hs.map hD)), .d (.sl (([⟨sR1, sNone⟩] : List Cl).map clD))]]) (by simp -implicitDefEqProofs only [go_sem]; rfl) rfl ?_
  refine ecall0 _ s_clash (by simp -implicitDefEqProofs only [go_sem]) (by simp -implicitDefEqProofs only [go_sem]) ?_
  simp (maxSteps := 4000000) -implicitDefEqProofs only [go_sem, v0, v1, v2, v4, v5, v6, v8, v14, Option.some.injEq, forall_eq', and_true, true_and, Bool.not_true, Bool.not_false, decide_true, Nat.reduceAdd, Nat.reduceSub, Nat.reduceLT, Nat.reduceLeDiff, Nat.reduceEqDiff, ↓reduceIte]
  refine ECall.dat (args' := [.agg [.d (.sl (G.lg.kn.map kD)), .d (.sl (G.lg.br.map bD)), .d (.sl (G.lg.ev.map esD)), .d (.sl (G.q.map rD)), .d (.sl (G.hs.map hD)), .d (.sl (([⟨sR2, sOther⟩] : List Cl).map clD))]]) (by simp -implicitDefEqProofs only [go_sem]; rfl) rfl ?_
  refine ecall0 _ s_branch (by simp -implicitDefEqProofs only [go_sem]) (by simp -implicitDefEqProofs only [go_sem]) ?_
  simp (maxSteps := 4000000) -implicitDefEqProofs only [go_sem, v0, v1, v2, v4, v5, v6, v8, v14, Option.some.injEq, forall_eq', and_true, true_and, Bool.not_true, Bool.not_false, decide_true, Nat.reduceAdd, Nat.reduceSub, Nat.reduceLT, Nat.reduceLeDiff, Nat.reduceEqDiff, ↓reduceIte]
  refine ECall.dat (args' := [.agg [.d (.sl (G.lg.kn.map kD)), .d (.sl (G.lg.br.map bD)), .d (.sl (G.lg.ev.map esD)), .d (.sl (G.q.map rD)), .d (.sl (G.hs.map hD)), .d (.sl (([⟨sR1, sOther⟩, ⟨sR1, sOther⟩] : List Cl).map clD))]]) (by simp -implicitDefEqProofs only [go_sem]; rfl) rfl ?_
  refine ecall0 _ s_twice (by simp -implicitDefEqProofs only [go_sem]) (by simp -implicitDefEqProofs only [go_sem]) ?_
  simp (maxSteps := 4000000) -implicitDefEqProofs only [go_sem, v0, v1, v2, v4, v5, v6, v8, v14, Option.some.injEq, forall_eq', and_true, true_and, Bool.not_true, Bool.not_false, decide_true, Nat.reduceAdd, Nat.reduceSub, Nat.reduceLT, Nat.reduceLeDiff, Nat.reduceEqDiff, ↓reduceIte]
  refine ecall0 _ s_0 (by simp -implicitDefEqProofs only [go_sem]) (by simp -implicitDefEqProofs only [go_sem]) ?_
  simp (maxSteps := 4000000) -implicitDefEqProofs only [go_sem, Nat.reduceAdd, Nat.reduceSub, Nat.reduceLT, Nat.reduceLeDiff, Nat.reduceEqDiff, ↓reduceIte]
  refine ecall0 _ s_a (by simp -implicitDefEqProofs only [go_sem]) (by simp -implicitDefEqProofs only [go_sem]) ?_
  simp (maxSteps := 4000000) -implicitDefEqProofs only [go_sem, Nat.reduceAdd, Nat.reduceSub, Nat.reduceLT, Nat.reduceLeDiff, Nat.reduceEqDiff, ↓reduceIte]
  refine ecall0 _ s_0 (by simp -implicitDefEqProofs only [go_sem]) (by simp -implicitDefEqProofs only [go_sem]) ?_
  simp (maxSteps := 4000000) -implicitDefEqProofs only [go_sem, Nat.reduceAdd, Nat.reduceSub, Nat.reduceLT, Nat.reduceLeDiff, Nat.reduceEqDiff, ↓reduceIte]
  refine ecall0 _ s_b (by simp -implicitDefEqProofs only [go_sem]) (by simp -implicitDefEqProofs only [go_sem]) ?_
  simp (maxSteps := 4000000) -implicitDefEqProofs only [go_sem, Nat.reduceAdd, Nat.reduceSub, Nat.reduceLT, Nat.reduceLeDiff, Nat.reduceEqDiff, ↓reduceIte]
  refine ecall0 _ s_0 (by simp -implicitDefEqProofs only [go_sem]) (by simp -implicitDefEqProofs only [go_sem]) ?_
  simp (maxSteps := 4000000) -implicitDefEqProofs only [go_sem, Nat.reduceAdd, Nat.reduceSub, Nat.reduceLT, Nat.reduceLeDiff, Nat.reduceEqDiff, ↓reduceIte]
  refine ecall0 _ s_c (by simp -implicitDefEqProofs only [go_sem]) (by simp -implicitDefEqProofs only [go_sem]) ?_
  simp (maxSteps := 4000000) -implicitDefEqProofs only [go_sem, Nat.reduceAdd, Nat.reduceSub, Nat.reduceLT, Nat.reduceLeDiff, Nat.reduceEqDiff, ↓reduceIte]
  refine ecall0 _ s_0 (by simp -implicitDefEqProofs only [go_sem]) (by simp -implicitDefEqProofs only [go_sem]) ?_
  simp (maxSteps := 4000000) -implicitDefEqProofs only [go_sem, Nat.reduceAdd, Nat.reduceSub, Nat.reduceLT, Nat.reduceLeDiff, Nat.reduceEqDiff, ↓reduceIte]
  refine ecall0 _ s_d (by simp -implicitDefEqProofs only [go_sem]) (by simp -implicitDefEqProofs only [go_sem]) ?_
  simp (maxSteps := 4000000) -implicitDefEqProofs only [go_sem, Nat.reduceAdd, Nat.reduceSub, Nat.reduceLT, Nat.reduceLeDiff, Nat.reduceEqDiff, ↓reduceIte]
  refine ecall0 _ s_0 (by simp -implicitDefEqProofs only [go_sem]) (by simp -implicitDefEqProofs only [go_sem]) ?_
  simp (maxSteps := 4000000) -implicitDefEqProofs only [go_sem, Nat.reduceAdd, Nat.reduceSub, Nat.reduceLT, Nat.reduceLeDiff, Nat.reduceEqDiff, ↓reduceIte]
  refine ecall0 _ s_e (by simp -implicitDefEqProofs only [go_sem]) (by simp -implicitDefEqProofs only [go_sem]) ?_
  simp (maxSteps := 4000000) -implicitDefEqProofs only [go_sem, Nat.reduceAdd, Nat.reduceSub, Nat.reduceLT, Nat.reduceLeDiff, Nat.reduceEqDiff, ↓reduceIte]
  refine ecall0 _ s_0 (by simp -implicitDefEqProofs only [go_sem]) (by simp -implicitDefEqProofs only [go_sem]) ?_
  simp (maxSteps := 4000000) -implicitDefEqProofs only [go_sem, Nat.reduceAdd, Nat.reduceSub, Nat.reduceLT, Nat.reduceLeDiff, Nat.reduceEqDiff, ↓reduceIte]
  refine ecall0 _ s_f (by simp -implicitDefEqProofs only [go_sem]) (by simp -implicitDefEqProofs only [go_sem]) ?_
  simp (maxSteps := 4000000) -implicitDefEqProofs only [go_sem, Nat.reduceAdd, Nat.reduceSub, Nat.reduceLT, Nat.reduceLeDiff, Nat.reduceEqDiff, ↓reduceIte]
  refine ecall0 _ s_0 (by simp -implicitDefEqProofs only [go_sem]) (by simp -implicitDefEqProofs only [go_sem]) ?_
  simp (maxSteps := 4000000) -implicitDefEqProofs only [go_sem, Nat.reduceAdd, Nat.reduceSub, Nat.reduceLT, Nat.reduceLeDiff, Nat.reduceEqDiff, ↓reduceIte]
  refine ecall0 _ s_g (by simp -implicitDefEqProofs only [go_sem]) (by simp -implicitDefEqProofs only [go_sem]) ?_
  simp (maxSteps := 4000000) -implicitDefEqProofs only [go_sem, Nat.reduceAdd, Nat.reduceSub, Nat.reduceLT, Nat.reduceLeDiff, Nat.reduceEqDiff, ↓reduceIte]
  refine ecall0 _ s_0 (by simp -implicitDefEqProofs only [go_sem]) (by simp -implicitDefEqProofs only [go_sem]) ?_
  simp (maxSteps := 4000000) -implicitDefEqProofs only [go_sem, Nat.reduceAdd, Nat.reduceSub, Nat.reduceLT, Nat.reduceLeDiff, Nat.reduceEqDiff, ↓reduceIte]
  refine ecall0 _ s_h (by simp -implicitDefEqProofs only [go_sem]) (by simp -implicitDefEqProofs only [go_sem]) ?_
  simp (maxSteps := 4000000) -implicitDefEqProofs only [go_sem, Nat.reduceAdd, Nat.reduceSub, Nat.reduceLT, Nat.reduceLeDiff, Nat.reduceEqDiff, ↓reduceIte]
  refine ecall0 _ s_0 (by simp -implicitDefEqProofs only [go_sem]) (by simp -implicitDefEqProofs only [go_sem]) ?_
  simp (maxSteps := 4000000) -implicitDefEqProofs only [go_sem, Nat.reduceAdd, Nat.reduceSub, Nat.reduceLT, Nat.reduceLeDiff, Nat.reduceEqDiff, ↓reduceIte]
  refine ecall0 _ s_i (by simp -implicitDefEqProofs only [go_sem]) (by simp -implicitDefEqProofs only [go_sem]) ?_
  simp (maxSteps := 4000000) -implicitDefEqProofs only [go_sem, Nat.reduceAdd, Nat.reduceSub, Nat.reduceLT, Nat.reduceLeDiff, Nat.reduceEqDiff, ↓reduceIte]
  refine ecallN _ _ vQ (by simp -implicitDefEqProofs only [go_sem]) ?_
  simp (maxSteps := 4000000) -implicitDefEqProofs only [go_sem, h31, lK, gK, lQ, gQ, gQ1, lH, gH, lC, gC, e02, e12, e01, List.getElem?_cons_zero, List.getElem?_cons_succ, List.set_cons_zero, List.set_cons_succ, Option.some.injEq, forall_eq', and_true, true_and, Bool.not_true, Bool.not_false, decide_true, Nat.reduceAdd, Nat.reduceSub, Nat.reduceLT, Nat.reduceLeDiff, Nat.reduceEqDiff, ↓reduceIte]
  refine ECall.frzC 26 3 25 rfl rfl rfl (by decide) ?_
  simp -implicitDefEqProofs only [go_sem, ↓reduceIte]
  have ovq : ([[.str ⟨#[114, 49]⟩, .str ⟨#[102, 105, 120]⟩, .int .u8 2, .bool true, .int .i64 0], [.str ⟨#[114, 49]⟩, .str ⟨#[111, 116, 104, 101, 114]⟩, .int .u8 2, .bool false, .int .i64 0]] : List (List D)) = (([⟨sR1, sFix, 2, true, 0⟩, ⟨sR1, sOther, 2, false, 0⟩] : List Rq).map rD) := rfl
  refine ecall0 _ s_j (by simp -implicitDefEqProofs only [go_sem]) (by simp -implicitDefEqProofs only [go_sem]) ?_
  simp (maxSteps := 4000000) -implicitDefEqProofs only [go_sem, Nat.reduceAdd, Nat.reduceSub, Nat.reduceLT, Nat.reduceLeDiff, Nat.reduceEqDiff, ↓reduceIte]
  refine ecall0 _ s_k (by simp -implicitDefEqProofs only [go_sem]) (by simp -implicitDefEqProofs only [go_sem]) ?_
  simp (maxSteps := 4000000) -implicitDefEqProofs only [go_sem, Nat.reduceAdd, Nat.reduceSub, Nat.reduceLT, Nat.reduceLeDiff, Nat.reduceEqDiff, ↓reduceIte]
  refine ecall0 _ s_0 (by simp -implicitDefEqProofs only [go_sem]) (by simp -implicitDefEqProofs only [go_sem]) ?_
  simp (maxSteps := 4000000) -implicitDefEqProofs only [go_sem, Nat.reduceAdd, Nat.reduceSub, Nat.reduceLT, Nat.reduceLeDiff, Nat.reduceEqDiff, ↓reduceIte]
  refine ecall0 _ s_m (by simp -implicitDefEqProofs only [go_sem]) (by simp -implicitDefEqProofs only [go_sem]) ?_
  simp (maxSteps := 4000000) -implicitDefEqProofs only [go_sem, Nat.reduceAdd, Nat.reduceSub, Nat.reduceLT, Nat.reduceLeDiff, Nat.reduceEqDiff, ↓reduceIte]
  refine ecallN _ _ vE (by simp -implicitDefEqProofs only [go_sem]) ?_
  simp (maxSteps := 4000000) -implicitDefEqProofs only [go_sem, Nat.reduceAdd, Nat.reduceSub, Nat.reduceLT, Nat.reduceLeDiff, Nat.reduceEqDiff, ↓reduceIte]
  have fl : (altE 40).length = 40 := by simp [altE]
  refine eloop (S := Nat) (fun i => mkE 346 [(9, .d (.bool true)), (11, .d (.int .i64 2)), (13, .d (.int .i64 2)), (16, .d (.int .i64 6)), (19, .d (.int .i64 6)), (22, .d (.int .i64 2)), (25, .d (.int .i64 2)), (28, .d (.int .i64 6)), (31, .d (.int .i64 2)), (34, .d (.int .i64 2)), (36, .ptr 0 0), (37, .d (.sl (([5] : List Int).map uD))), (38, .d (.int .i64 0)), (39, .d (.int .i64 5)), (40, .d (.int .i64 0)), (41, .ptr 1 0), (42, .d (.sl (([] : List Int).map uD))), (43, .d (.int .i64 0)), (44, .ptr 2 0), (45, .d (.int .i64 i))]) (fullH X G) (fun i => i ≤ 40) (fun i => 40 - i) 0 (by omega) (by simp -implicitDefEqProofs only [fullH, tC]; exact (Wk.via [27, 28, 31, 29, 30] (by (simp -implicitDefEqProofs only [go_sem, ↓reduceIte]) <;> trivial) (by first | (simp (maxSteps := 4000000) -implicitDefEqProofs only [go_sem, Nat.reduceAdd, Nat.reduceSub, Nat.reduceLT, Nat.reduceLeDiff, Nat.reduceEqDiff, ↓reduceIte]; done) | ((simp (maxSteps := 4000000) -implicitDefEqProofs only [go_sem, Nat.reduceAdd, Nat.reduceSub, Nat.reduceLT, Nat.reduceLeDiff, Nat.reduceEqDiff, ↓reduceIte]) <;> omega)) (by simp) (by first | (simp; done) | (simp [so]; done)) (by (simp (maxSteps := 4000000) -implicitDefEqProofs only [go_sem, Nat.reduceAdd, Nat.reduceSub, Nat.reduceLT, Nat.reduceLeDiff, Nat.reduceEqDiff, ↓reduceIte]) <;> trivial) (by first | (simp -implicitDefEqProofs only [go_sem]; done) | ((simp (maxSteps := 4000000) -implicitDefEqProofs only [go_sem, Nat.reduceAdd, Nat.reduceSub, Nat.reduceLT, Nat.reduceLeDiff, Nat.reduceEqDiff, ↓reduceIte]) <;> omega)) (Nat.zero_le _) (fun i h => absurd h (Nat.not_lt_zero i)))) ?_
  intro i hi
  refine (Nat.lt_or_ge i 40).symm.elim (fun h2 => ?_) (fun h2 => ?_)
  · have hi40 : i = 40 := by omega
    have hf : fullH X G 40 = [.cells (tC X), .cells (tC G), .cells [.d (.sl (G.lg.kn.map kD)), .d (.sl (G.lg.br.map bD)), .own 3, .d (.sl (G.q.map rD)), .d (.sl (G.hs.map hD)), .d (.sl (G.cl.map clD))], .vec 1 [[.own 4], [.own 5]], .vec 2 [[.d (.int .u8 1), .d (.str ⟨#[102, 105, 120]⟩)]], .row 2 ((altE 40).map eD)] := rfl
    rw [hi40, hf, ← hA40]
    rw [← hA40] at s_o s_q s_sf fl
    have f1 : decide (((40 : Nat) : Int) < 40) = false := rfl
    have f2 : decide ((40 : Int) < 40) = false := rfl
    simp (maxSteps := 4000000) -implicitDefEqProofs only [go_sem, f1, f2, Option.some.injEq, forall_eq', and_true, true_and, Bool.not_true, Bool.not_false, decide_true, Nat.reduceAdd, Nat.reduceSub, Nat.reduceLT, Nat.reduceLeDiff, Nat.reduceEqDiff, ↓reduceIte]
    refine ECall.wk rfl (Wk.vrow 4 rfl rfl rfl) ?_
    simp -implicitDefEqProofs only [go_sem]
    refine ECall.wk rfl (Wk.vrow 3 rfl rfl rfl) ?_
    simp -implicitDefEqProofs only [go_sem]
    refine ECall.frzC 2 2 3 rfl rfl rfl (by decide) ?_
    simp -implicitDefEqProofs only [go_sem, ↓reduceIte]
    refine ecall0 _ s_o (by simp -implicitDefEqProofs only [go_sem]) (by simp -implicitDefEqProofs only [go_sem]) ?_
    simp (maxSteps := 4000000) -implicitDefEqProofs only [go_sem, Nat.reduceAdd, Nat.reduceSub, Nat.reduceLT, Nat.reduceLeDiff, Nat.reduceEqDiff, ↓reduceIte]
    refine ecall0 _ s_q (by simp -implicitDefEqProofs only [go_sem]) (by simp -implicitDefEqProofs only [go_sem]) ?_
    have q0 : (((0 : Nat) : Int) == 0) = true := rfl
    have q2 : (((2 : Nat) : Int) == 2) = true := rfl
    have d1 : decide True = true := rfl
    have y12 : (0 ≤ (1 : Int) ∧ (1 : Int) < ((2 : Nat) : Int)) = True := eq_true (by omega)
    simp (maxSteps := 4000000) -implicitDefEqProofs only [go_sem, v0, v1, v2, v4, v5, v6, v8, v14, q0, q2, xl, x1, y12, List.append_eq, d1, Option.some.injEq, forall_eq', and_true, true_and, Bool.not_true, Bool.not_false, decide_true, Nat.reduceAdd, Nat.reduceSub, Nat.reduceLT, Nat.reduceLeDiff, Nat.reduceEqDiff, ↓reduceIte]
    refine ECall.dat (args' := [.d (.sl (([5] : List Int).map uD)), .d (.sl (([5] : List Int).map uD))]) (by simp -implicitDefEqProofs only [go_sem]; rfl) rfl ?_
    refine ecall0 _ s_si (by simp -implicitDefEqProofs only [go_sem]) (by simp -implicitDefEqProofs only [go_sem]) ?_
    simp (maxSteps := 4000000) -implicitDefEqProofs only [go_sem, v0, v1, v2, v4, v5, v6, v8, v14, q0, q2, xl, x1, y12, List.append_eq, d1, Option.some.injEq, forall_eq', and_true, true_and, Bool.not_true, Bool.not_false, decide_true, Nat.reduceAdd, Nat.reduceSub, Nat.reduceLT, Nat.reduceLeDiff, Nat.reduceEqDiff, ↓reduceIte]
    refine DX.plain (.take 0 false (.take 1 false (.take 2 false (.take 3 false (.take 4 false (.take 5 false (.take 6 false (.take 7 false (.take 8 false (.take 9 false (.take 10 false (.take 11 false (.take 12 false (.take 13 false (.take 14 false (.take 15 false (.take 16 false (.take 17 false (.take 18 false (.take 19 false (.take 20 false (.take 21 false (.take 22 false (.take 23 false (.take 24 false (.take 25 false (.take 26 false (.take 27 false (.take 28 false (.take 29 false (.take 30 false (.take 31 false (.take 32 false (.take 33 false .done)))))))))))))))))))))))))))))))))) (by kernel_rfl) (by kernel_rfl) Ty.mixed ?_
    simp (maxSteps := 4000000) -implicitDefEqProofs only [go_sem, v0, v1, v2, v4, q0, q2, Option.some.injEq, forall_eq', and_true, true_and, Bool.not_true, Bool.not_false, decide_true, Nat.reduceAdd, Nat.reduceSub, Nat.reduceLT, Nat.reduceLeDiff, Nat.reduceEqDiff, ↓reduceIte]
    refine ⟨_, _, s_0.lift0 _ (by simp -implicitDefEqProofs only [go_sem]) (by simp -implicitDefEqProofs only [go_sem]), rfl, ?_⟩
    refine ⟨_, _, s_sa.lift0 _ (by simp -implicitDefEqProofs only [go_sem]) (by simp -implicitDefEqProofs only [go_sem]), rfl, ?_⟩
    simp (maxSteps := 4000000) -implicitDefEqProofs only [go_sem, v0, v1, v2, v4, q0, q2, Option.some.injEq, forall_eq', and_true, true_and, Bool.not_true, Bool.not_false, decide_true, Nat.reduceAdd, Nat.reduceSub, Nat.reduceLT, Nat.reduceLeDiff, Nat.reduceEqDiff, ↓reduceIte]
    refine ⟨_, _, s_sf.lift0 _ (by simp -implicitDefEqProofs only [go_sem]) (by simp -implicitDefEqProofs only [go_sem]), rfl, ?_⟩
    exact wk_bool rfl
  have w1 : IntKind.i64.wrap ((i : Int) + 1) = ((i + 1 : Nat) : Int) := by rw [i64_in _ (by omega)]; simp
  have f1 : decide ((i : Int) < 40) = true := by simp; omega
  have y12 : (0 ≤ (1 : Int) ∧ (1 : Int) < ((2 : Nat) : Int)) = True := eq_true (by omega)
  have ase := altE_succ i
  have al : (altE i).length = i := by simp [altE]
  have b0 : altE 0 = [] := rfl
  have hn : ∀ k : Int, (if i % 2 = 0 then (2 : Int) else 3) = k → fullH X G (i + 1) = [.cells (tC X), .cells (tC G), .cells [.d (.sl (G.lg.kn.map kD)), .d (.sl (G.lg.br.map bD)), .own 3, .d (.sl (G.q.map rD)), .d (.sl (G.hs.map hD)), .d (.sl (G.cl.map clD))], .vec 1 [[.own 4], [.own 5]], .vec 2 [[.d (.int .u8 1), .d (.str ⟨#[102, 105, 120]⟩)]], .row 2 ((altE i).map eD ++ [[.int .u8 k, .str ⟨#[102, 105, 120]⟩]])] := fun k hk => by
    show ([.cells (tC X), .cells (tC G), .cells [.d (.sl (G.lg.kn.map kD)), .d (.sl (G.lg.br.map bD)), .own 3, .d (.sl (G.q.map rD)), .d (.sl (G.hs.map hD)), .d (.sl (G.cl.map clD))], .vec 1 [[.own 4], [.own 5]], .vec 2 [[.d (.int .u8 1), .d (.str ⟨#[102, 105, 120]⟩)]], .row 2 ((altE (i + 1)).map eD)] : List AObj) = _
    rw [ase, hk, List.map_append]
    rfl
  have tme : i % 2 = 0 → ((i : Int).tmod 2 == 0) = true := fun h => by rw [Int.tmod_eq_emod_of_nonneg (by omega)]; simp; omega
  have tmo : i % 2 = 1 → ((i : Int).tmod 2 == 0) = false := fun h => by rw [Int.tmod_eq_emod_of_nonneg (by omega)]; simp; omega
  refine (Nat.eq_zero_or_pos i).symm.elim (fun h0 => ?_) (fun h0 => ?_)
  · refine Exists.elim (show ∃ m, i = m + 1 from ⟨i - 1, by omega⟩) fun m hm => ?_
    have hf : fullH X G i = [.cells (tC X), .cells (tC G), .cells [.d (.sl (G.lg.kn.map kD)), .d (.sl (G.lg.br.map bD)), .own 3, .d (.sl (G.q.map rD)), .d (.sl (G.hs.map hD)), .d (.sl (G.cl.map clD))], .vec 1 [[.own 4], [.own 5]], .vec 2 [[.d (.int .u8 1), .d (.str ⟨#[102, 105, 120]⟩)]], .row 2 ((altE i).map eD)] := by rw [hm]; rfl
    rw [hf]
    refine (Nat.mod_two_eq_zero_or_one i).elim (fun hp => ?_) (fun hp => ?_)
    · have tm := tme hp
      simp (maxSteps := 4000000) -implicitDefEqProofs only [go_sem, f1, tm, Option.some.injEq, forall_eq', and_true, true_and, Bool.not_true, Bool.not_false, decide_true, Nat.reduceAdd, Nat.reduceSub, Nat.reduceLT, Nat.reduceLeDiff, Nat.reduceEqDiff, ↓reduceIte]
      refine ⟨by decide, ?_⟩
      refine DX.plain (.take 0 true (.take 1 true (.take 2 true (.take 3 true (.take 4 true (.take 5 true (.take 6 true (.take 7 true (.take 8 false (.take 9 false (.run [10] (fun _ => [true, true, true, true, true, true, true, true]) fun _ => (.run [11] (fun _ => [false, false, false, false, false, true, true, true]) fun _ => (.take 12 false (.run [13] (fun _ => [false, false, false]) fun _ => .done)))))))))))))) (by kernel_rfl) (by kernel_rfl) Ty.mixed ?_
      simp (maxSteps := 4000000) -implicitDefEqProofs only [go_sem, y12, Option.some.injEq, forall_eq', and_true, true_and, Bool.not_true, Bool.not_false, decide_true, Nat.reduceAdd, Nat.reduceSub, Nat.reduceLT, Nat.reduceLeDiff, Nat.reduceEqDiff, ↓reduceIte]
      refine ⟨by omega, ⟨by decide, by omega, by omega⟩, ?_⟩
      simp (maxSteps := 4000000) -implicitDefEqProofs only [go_sem, w1, Option.some.injEq, forall_eq', and_true, true_and, Bool.not_true, Bool.not_false, decide_true, Nat.reduceAdd, Nat.reduceSub, Nat.reduceLT, Nat.reduceLeDiff, Nat.reduceEqDiff, ↓reduceIte]
      exact .mk (i + 1) (by omega) (by omega) (by rw [hn 2 (by rw [hp]; rfl)]; simp -implicitDefEqProofs only [tC]; exact (Wk.via [0, 1, 2, 3, 4, 7] (by (simp -implicitDefEqProofs only [go_sem, ↓reduceIte]) <;> trivial) (by first | (simp (maxSteps := 4000000) -implicitDefEqProofs only [go_sem, Nat.reduceAdd, Nat.reduceSub, Nat.reduceLT, Nat.reduceLeDiff, Nat.reduceEqDiff, ↓reduceIte]; done) | ((simp (maxSteps := 4000000) -implicitDefEqProofs only [go_sem, Nat.reduceAdd, Nat.reduceSub, Nat.reduceLT, Nat.reduceLeDiff, Nat.reduceEqDiff, ↓reduceIte]) <;> omega)) (by simp) (by first | (simp; done) | (simp [so]; done)) (by (simp (maxSteps := 4000000) -implicitDefEqProofs only [go_sem, Nat.reduceAdd, Nat.reduceSub, Nat.reduceLT, Nat.reduceLeDiff, Nat.reduceEqDiff, ↓reduceIte]) <;> trivial) (by first | (simp -implicitDefEqProofs only [go_sem]; done) | ((simp (maxSteps := 4000000) -implicitDefEqProofs only [go_sem, Nat.reduceAdd, Nat.reduceSub, Nat.reduceLT, Nat.reduceLeDiff, Nat.reduceEqDiff, ↓reduceIte]) <;> omega)) (Nat.zero_le _) (fun i h => absurd h (Nat.not_lt_zero i))))
    · have tm := tmo hp
      simp (maxSteps := 4000000) -implicitDefEqProofs only [go_sem, f1, tm, Option.some.injEq, forall_eq', and_true, true_and, Bool.not_true, Bool.not_false, decide_true, Nat.reduceAdd, Nat.reduceSub, Nat.reduceLT, Nat.reduceLeDiff, Nat.reduceEqDiff, ↓reduceIte]
      refine ⟨by decide, ?_⟩
      refine DX.plain (.take 0 true (.take 1 true (.take 2 true (.take 3 true (.take 4 true (.take 5 true (.take 6 true (.take 7 true (.take 8 false (.take 9 false (.run [10] (fun _ => [true, true, true, true, true, true, true, true]) fun _ => (.run [11] (fun _ => [false, false, false, false, false, true, true, true]) fun _ => (.take 12 false (.run [13] (fun _ => [false, false, false]) fun _ => .done)))))))))))))) (by kernel_rfl) (by kernel_rfl) Ty.mixed ?_
      simp (maxSteps := 4000000) -implicitDefEqProofs only [go_sem, y12, Option.some.injEq, forall_eq', and_true, true_and, Bool.not_true, Bool.not_false, decide_true, Nat.reduceAdd, Nat.reduceSub, Nat.reduceLT, Nat.reduceLeDiff, Nat.reduceEqDiff, ↓reduceIte]
      refine ⟨by omega, ⟨by decide, by omega, by omega⟩, ?_⟩
      simp (maxSteps := 4000000) -implicitDefEqProofs only [go_sem, w1, Option.some.injEq, forall_eq', and_true, true_and, Bool.not_true, Bool.not_false, decide_true, Nat.reduceAdd, Nat.reduceSub, Nat.reduceLT, Nat.reduceLeDiff, Nat.reduceEqDiff, ↓reduceIte]
      exact .mk (i + 1) (by omega) (by omega) (by rw [hn 3 (by rw [hp]; rfl)]; simp -implicitDefEqProofs only [tC]; exact (Wk.via [0, 1, 2, 3, 4, 7] (by (simp -implicitDefEqProofs only [go_sem, ↓reduceIte]) <;> trivial) (by first | (simp (maxSteps := 4000000) -implicitDefEqProofs only [go_sem, Nat.reduceAdd, Nat.reduceSub, Nat.reduceLT, Nat.reduceLeDiff, Nat.reduceEqDiff, ↓reduceIte]; done) | ((simp (maxSteps := 4000000) -implicitDefEqProofs only [go_sem, Nat.reduceAdd, Nat.reduceSub, Nat.reduceLT, Nat.reduceLeDiff, Nat.reduceEqDiff, ↓reduceIte]) <;> omega)) (by simp) (by first | (simp; done) | (simp [so]; done)) (by (simp (maxSteps := 4000000) -implicitDefEqProofs only [go_sem, Nat.reduceAdd, Nat.reduceSub, Nat.reduceLT, Nat.reduceLeDiff, Nat.reduceEqDiff, ↓reduceIte]) <;> trivial) (by first | (simp -implicitDefEqProofs only [go_sem]; done) | ((simp (maxSteps := 4000000) -implicitDefEqProofs only [go_sem, Nat.reduceAdd, Nat.reduceSub, Nat.reduceLT, Nat.reduceLeDiff, Nat.reduceEqDiff, ↓reduceIte]) <;> omega)) (Nat.zero_le _) (fun i h => absurd h (Nat.not_lt_zero i))))
  · have hf : fullH X G i = [.cells (tC X), .cells (tC G), .cells [.d (.sl (G.lg.kn.map kD)), .d (.sl (G.lg.br.map bD)), .own 3, .d (.sl (G.q.map rD)), .d (.sl (G.hs.map hD)), .d (.sl (G.cl.map clD))], .vec 1 [[.own 4], [.nil]], .vec 2 [[.d (.int .u8 1), .d (.str ⟨#[102, 105, 120]⟩)]]] := by rw [h0]; rfl
    have hnn := hn 2 (by rw [h0]; rfl)
    have tm := tme (by rw [h0])
    have ai : (altE i).map eD = [] := by rw [h0]; rfl
    rw [ai] at hnn
    rw [hf]
    simp (maxSteps := 4000000) -implicitDefEqProofs only [go_sem, f1, tm, Option.some.injEq, forall_eq', and_true, true_and, Bool.not_true, Bool.not_false, decide_true, Nat.reduceAdd, Nat.reduceSub, Nat.reduceLT, Nat.reduceLeDiff, Nat.reduceEqDiff, ↓reduceIte]
    refine ⟨by decide, ?_⟩
    refine DX.plain (.take 0 true (.take 1 true (.take 2 true (.take 3 true (.take 4 true (.take 5 true (.take 6 true (.take 7 true (.take 8 false (.take 9 false (.run [10] (fun _ => [true, true, true, true, true, true, true, true]) fun _ => (.run [11] (fun _ => [false, false, false, false, false, true, true, true]) fun _ => (.take 12 false (.run [13] (fun _ => [false, false, false]) fun _ => .done)))))))))))))) (by kernel_rfl) (by kernel_rfl) Ty.mixed ?_
    simp (maxSteps := 4000000) -implicitDefEqProofs only [go_sem, y12, Option.some.injEq, forall_eq', and_true, true_and, Bool.not_true, Bool.not_false, decide_true, Nat.reduceAdd, Nat.reduceSub, Nat.reduceLT, Nat.reduceLeDiff, Nat.reduceEqDiff, ↓reduceIte]
    refine ⟨by omega, ⟨by decide, by omega⟩, ?_⟩
    simp (maxSteps := 4000000) -implicitDefEqProofs only [go_sem, w1, Option.some.injEq, forall_eq', and_true, true_and, Bool.not_true, Bool.not_false, decide_true, Nat.reduceAdd, Nat.reduceSub, Nat.reduceLT, Nat.reduceLeDiff, Nat.reduceEqDiff, ↓reduceIte]
    exact .mk (i + 1) (by omega) (by omega) (by rw [hnn]; simp -implicitDefEqProofs only [tC]; exact (Wk.via [0, 1, 2, 3, 4, 6] (by (simp -implicitDefEqProofs only [go_sem, ↓reduceIte]) <;> trivial) (by first | (simp (maxSteps := 4000000) -implicitDefEqProofs only [go_sem, Nat.reduceAdd, Nat.reduceSub, Nat.reduceLT, Nat.reduceLeDiff, Nat.reduceEqDiff, ↓reduceIte]; done) | ((simp (maxSteps := 4000000) -implicitDefEqProofs only [go_sem, Nat.reduceAdd, Nat.reduceSub, Nat.reduceLT, Nat.reduceLeDiff, Nat.reduceEqDiff, ↓reduceIte]) <;> omega)) (by simp) (by first | (simp; done) | (simp [so]; done)) (by (simp (maxSteps := 4000000) -implicitDefEqProofs only [go_sem, Nat.reduceAdd, Nat.reduceSub, Nat.reduceLT, Nat.reduceLeDiff, Nat.reduceEqDiff, ↓reduceIte]) <;> trivial) (by first | (simp -implicitDefEqProofs only [go_sem]; done) | ((simp (maxSteps := 4000000) -implicitDefEqProofs only [go_sem, Nat.reduceAdd, Nat.reduceSub, Nat.reduceLT, Nat.reduceLeDiff, Nat.reduceEqDiff, ↓reduceIte]) <;> omega)) (Nat.zero_le _) (fun i h => absurd h (Nat.not_lt_zero i))))

end Go.AX.Tr
namespace Go.Proofs.Ytioihldhnhlpnaa
open Go.AX Go.AX.Tr Go.RowKit
set_option maxRecDepth 100000 in
theorem trainNames_lifted (os : Os) (started : os.Started) (H : Type) (enc : TypeId × Value → H) :
    ReturnsInHanded {} Try.checked os 3 .any (Rows.trainNamesSpec.pre6 enc Try.prog Try.f3 Rows.trainNamesRow.domain false) (Rows.trainNamesSpec.post enc Try.prog Try.f3 false true false false) := by
  refine Go.AX.lifted (C := Try.checked) (f := 3) (fn := Try.f3) (s := Rows.trainNamesSpec) (rt := 4) (n := 8) (by kernel_rfl) (by kernel_rfl) Try.func3 rfl ?_ rfl (by kernel_rfl) (by kernel_rfl) (by kernel_rfl) (by kernel_rfl) os started H enc
    (ChangeSpec.witness6 (enc := enc) (C := Try.checked) false ⟨#[], #[], []⟩ 8 (by kernel_rfl) (by kernel_rfl) (by kernel_rfl) (by kernel_rfl)) ?_
  · intro H ds h
    match ds, h with
    | [], _ => rfl
  · intro xs hx
    have hp : Try.f3.params.toList = [] := rfl
    rw [hp] at hx ⊢
    match xs, hx with
    | [], _ => exact names_tspec
theorem trainNames_over : Rows.trainNamesRow.holds Try.pinned (OpenSpec.ofChange Rows.trainNamesSpec) :=
  OpenClaim.holds_of_wide 3 Try.f3 rfl rfl rfl rfl rfl rfl rfl ⟨rfl, rfl, rfl, rfl, rfl⟩ rfl rfl rfl rfl rfl (by kernel_rfl) Try.func3 (by kernel_rfl)
    (of_decide_eq_true (by kernel_rfl)) (by unfold Func.isWrapper; first | (rw [if_pos (by decide +kernel)]; kernel_rfl) | (rw [if_neg (by decide +kernel)]; exact ⟨rfl, rfl⟩))
    (fun os started H enc _ => trainNames_lifted os started H enc)
/-- The row, under a short name, for the claim. -/
theorem trainNames_holds : Rows.TrainNamesSaid := trainNames_over
#print axioms trainNames_holds
end Go.Proofs.Ytioihldhnhlpnaa

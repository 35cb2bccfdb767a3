/- LedgerNames: the law returns true. It has no arguments and no condition. -/
import Derived.Test.YtcpkcjjhokbmkaaK11
import Derived.KernelRfl
set_option maxHeartbeats 8000000
set_option linter.unusedVariables false
set_option linter.unusedSimpArgs false
set_option maxRecDepth 20000
namespace Go.AX.Lg
open Go.Proofs Go.RowKit Go.IntWalk Go.AX.Br
def sR2 : ByteArray := ⟨#[114, 50]⟩
def sNone : ByteArray := ⟨#[110, 111, 110, 101]⟩
def nK31 : List Kn := List.replicate 31 ⟨⟨#[]⟩, 0⟩
def nTw : List Kn := [⟨sFix, 3⟩, ⟨sFix, 3⟩, ⟨sOther, 0⟩]
def nNa : List Kn := [⟨sFix, 3⟩, ⟨sFix2, 3⟩, ⟨⟨#[79, 116, 104, 101, 114]⟩, 0⟩]
def nCl : List Kn := [⟨sFix, 30⟩, ⟨sFix2, 3⟩, ⟨sOther, 0⟩]
def nBr : List Br := [⟨sMain, ⟨#[]⟩, 0⟩, ⟨sR1, sMain, 3⟩]
def ev0 : List Ev := [⟨1, sFix⟩, ⟨1, sOther⟩]
def nE1 : List (List Ev) := [ev0]
def nE41 : List (List Ev) := [ev0, List.replicate 41 ⟨0, ⟨#[]⟩⟩]
def nEk : List (List Ev) := [ev0, [⟨5, sFix⟩]]
def nEn : List (List Ev) := [ev0, [⟨3, sNone⟩]]
def nEd : List (List Ev) := [ev0, [⟨2, sFix⟩]]
def exT : Lg := (lcutR exG sR1 sR2 2).1
theorem nm_many : lcheck ⟨nK31, exG.br, exG.ev⟩ = 4 := by kernel_rfl
theorem nm_twice : lcheck ⟨nTw, exG.br, exG.ev⟩ = 14 := by kernel_rfl
theorem nm_name : lcheck ⟨nNa, exG.br, exG.ev⟩ = 8 := by kernel_rfl
theorem nm_class : lcheck ⟨nCl, exG.br, exG.ev⟩ = 8 := by kernel_rfl
theorem nm_table : lcheck ⟨exG.kn, [], exG.ev⟩ = 8 := by kernel_rfl
theorem nm_lists : lcheck ⟨exG.kn, exG.br, nE1⟩ = 2 := by kernel_rfl
theorem nm_great : lcheck ⟨exG.kn, exG.br, nE41⟩ = 4 := by kernel_rfl
theorem nm_fits : lcheck ⟨exG.kn, nBr, exG.ev⟩ = 16 := by kernel_rfl
theorem nm_kind : lcheck ⟨exG.kn, exG.br, nEk⟩ = 8 := by kernel_rfl
theorem nm_known : lcheck ⟨exG.kn, exG.br, nEn⟩ = 8 := by kernel_rfl
theorem nm_done : lcheck ⟨exG.kn, exG.br, nEd⟩ = 8 := by kernel_rfl
theorem nm_a : effR exG sR2 = ([], 6) := by kernel_rfl
theorem nm_b : aftR exG sR1 3 = ([], 2) := by kernel_rfl
theorem nm_c : aftR exG sR1 (-1) = ([], 2) := by kernel_rfl
theorem nm_d : aftR exG sR1 1 = ([3], 0) := by kernel_rfl
theorem nm_e : lasR exG sR1 0 = (⟨0, 0⟩, 0, 6) := by kernel_rfl
theorem nm_f : lasR exG sR1 3 = (⟨1, 0⟩, 3, 0) := by kernel_rfl
theorem nm_g : lasR exG sR1 (-1) = (⟨0, 0⟩, 0, 6) := by kernel_rfl
theorem nm_h : appR exG sR2 ⟨0, ⟨#[]⟩⟩ = (lg0, 6) := by kernel_rfl
theorem nm_i : appR exG sR1 ⟨1, sNone⟩ = (lg0, 6) := by kernel_rfl
theorem nm_j : appR exG sR1 ⟨0, sFix⟩ = (lg0, 2) := by kernel_rfl
theorem nm_n : appR exG sMain ⟨2, sFix2⟩ = (lg0, 30) := by kernel_rfl
theorem nm_o : appR exG sR1 ⟨3, sFix2⟩ = (lg0, 36) := by kernel_rfl
theorem nm_p : appR exG sR1 ⟨4, sOther⟩ = (lg0, 36) := by kernel_rfl
theorem nm_q : difR exG sMain sR1 = ([0, 3], [], 0) := by kernel_rfl
theorem nm_r : difR exG sMain sR2 = ([], [], 6) := by kernel_rfl
theorem nm_s : lcutR exG sR1 sMain 0 = (lg0, 14) := by kernel_rfl
theorem nm_t : lcutR exG sR1 sR2 2 = (exT, 0) := by kernel_rfl
theorem exT_br : exT.br.length = 3 := by kernel_rfl
theorem exT_ev : exT.ev.length = 3 := by kernel_rfl

theorem names_spec : Spec Try.prog 9 [] [] (.d (.bool true)) [] := by
  have s_0 := example_spec
  have kk := example_kspec
  have bb := example_bspec
  have vv := example_vspec
  have ee := example_espec
  have hb : exBr = exG.br.map bD := rfl
  have hk : exK = exG.kn.map kD := rfl
  have he : [[D.sl exE0], [D.sl exE1]] = exG.ev.map esD := rfl
  rw [hb, he] at kk
  rw [hk, he] at bb
  rw [hk, hb] at vv ee
  have s_many := lcheck_own (⟨nK31, exG.br, exG.ev⟩ : Lg) (by decide) (by decide) (by decide)
  rw [nm_many] at s_many
  have s_twice := lcheck_own (⟨nTw, exG.br, exG.ev⟩ : Lg) (by decide) (by decide) (by decide)
  rw [nm_twice] at s_twice
  have s_name := lcheck_own (⟨nNa, exG.br, exG.ev⟩ : Lg) (by decide) (by decide) (by decide)
  rw [nm_name] at s_name
  have s_class := lcheck_own (⟨nCl, exG.br, exG.ev⟩ : Lg) (by decide) (by decide) (by decide)
  rw [nm_class] at s_class
  have s_table := lcheck_own (⟨exG.kn, [], exG.ev⟩ : Lg) (by decide) (by decide) (by decide)
  rw [nm_table] at s_table
  have s_lists := lcheck_own (⟨exG.kn, exG.br, nE1⟩ : Lg) (by decide) (by decide) (by decide)
  rw [nm_lists] at s_lists
  have s_great := lcheck_own (⟨exG.kn, exG.br, nE41⟩ : Lg) (by decide) (by decide) (by decide)
  rw [nm_great] at s_great
  have s_fits := lcheck_own (⟨exG.kn, nBr, exG.ev⟩ : Lg) (by decide) (by decide) (by decide)
  rw [nm_fits] at s_fits
  have s_kind := lcheck_own (⟨exG.kn, exG.br, nEk⟩ : Lg) (by decide) (by decide) (by decide)
  rw [nm_kind] at s_kind
  have s_known := lcheck_own (⟨exG.kn, exG.br, nEn⟩ : Lg) (by decide) (by decide) (by decide)
  rw [nm_known] at s_known
  have s_done := lcheck_own (⟨exG.kn, exG.br, nEd⟩ : Lg) (by decide) (by decide) (by decide)
  rw [nm_done] at s_done
  have s_a := Effect_own exG sR2 (by decide) (by decide) (by decide)
  rw [nm_a] at s_a
  have s_b := After_own exG sR1 3 (by decide) (by decide) (by decide)
  rw [nm_b] at s_b
  have s_c := After_own exG sR1 (-1) (by decide) (by decide) (by decide)
  rw [nm_c] at s_c
  have s_d := After_own exG sR1 1 (by decide) (by decide) (by decide)
  rw [nm_d] at s_d
  have s_e := Last_own exG sR1 0 (by decide) (by decide) (by decide)
  rw [nm_e] at s_e
  have s_f := Last_own exG sR1 3 (by decide) (by decide) (by decide)
  rw [nm_f] at s_f
  have s_g := Last_own exG sR1 (-1) (by decide) (by decide) (by decide)
  rw [nm_g] at s_g
  have s_h := append_lown exG sR2 ⟨0, ⟨#[]⟩⟩ (by decide) (by decide) (by decide)
  rw [nm_h] at s_h
  have s_i := append_lown exG sR1 ⟨1, sNone⟩ (by decide) (by decide) (by decide)
  rw [nm_i] at s_i
  have s_j := append_lown exG sR1 ⟨0, sFix⟩ (by decide) (by decide) (by decide)
  rw [nm_j] at s_j
  have s_n := append_lown exG sMain ⟨2, sFix2⟩ (by decide) (by decide) (by decide)
  rw [nm_n] at s_n
  have s_o := append_lown exG sR1 ⟨3, sFix2⟩ (by decide) (by decide) (by decide)
  rw [nm_o] at s_o
  have s_p := append_lown exG sR1 ⟨4, sOther⟩ (by decide) (by decide) (by decide)
  rw [nm_p] at s_p
  have s_q := Differ_own exG sMain sR1 (by decide) (by decide) (by decide)
  rw [nm_q] at s_q
  have s_r := Differ_own exG sMain sR2 (by decide) (by decide) (by decide)
  rw [nm_r] at s_r
  have s_s := cut_lown exG sR1 sMain 0 (by decide) (by decide) (by decide)
  rw [nm_s] at s_s
  have s_t := cut_lown exG sR1 sR2 2 (by decide) (by decide) (by decide)
  rw [nm_t] at s_t
  have s_si := sameInts_ref [3] [3] (by unfold Sm; decide)
  have s_sj := sameInts_ref [0, 3] [0, 3] (by unfold Sm; decide)
  obtain ⟨G, hG⟩ : ∃ A, A = exG := ⟨_, rfl⟩
  obtain ⟨T, hT⟩ : ∃ A, A = exT := ⟨_, rfl⟩
  rw [← hG] at kk bb vv ee s_0 s_many s_twice s_name s_class s_table s_lists s_great s_fits s_kind s_known s_done s_a s_b s_c s_d s_e s_f s_g s_h s_i s_j s_n s_o s_p s_q s_r s_s s_t
  rw [← hT] at s_t
  have tb : T.br.length = 3 := by rw [hT]; exact exT_br
  have te : T.ev.length = 3 := by rw [hT]; exact exT_ev
  obtain ⟨K31, hK31⟩ : ∃ A, A = List.replicate 31 [D.str ⟨#[]⟩, .int .i64 0] := ⟨_, rfl⟩
  obtain ⟨K41, hK41⟩ : ∃ A, A = List.replicate 41 [D.int .u8 0, .str ⟨#[]⟩] := ⟨_, rfl⟩
  have r31 : nK31.map kD = K31 := by rw [hK31]; simp -implicitDefEqProofs only [nK31, List.map_replicate, kD]
  have r41 : nE41.map esD = [[D.sl exE0], [D.sl K41]] := by rw [hK41]; simp -implicitDefEqProofs only [nE41, esD, List.map_cons, List.map_nil, List.map_replicate, eD]; rfl
  have h31 : List.replicate (Int.toNat 31) [D.str ByteArray.empty, .int .i64 0] = K31 := hK31.symm
  have h41 : List.replicate (Int.toNat 41) [D.int .u8 0, .str ByteArray.empty] = K41 := hK41.symm
  simp -implicitDefEqProofs only [lA, lg0, sR2, sMain, sR1, sNone, sFix, sFix2, sOther, List.map_nil] at s_0 s_many s_twice s_name s_class s_table s_lists s_great s_fits s_kind s_known s_done s_a s_b s_c s_d s_e s_f s_g s_h s_i s_j s_n s_o s_p s_q s_r s_s s_t
  rw [r31] at s_many
  rw [r41] at s_great
  have kl : exK.length = 3 := rfl
  have g0 : exK[0]? = some [.str ⟨#[102, 105, 120]⟩, .int .i64 3] := rfl
  have g1 : exK[1]? = some [.str ⟨#[102, 105, 120, 45, 50]⟩, .int .i64 3] := rfl
  have g2 : exK[2]? = some [.str ⟨#[111, 116, 104, 101, 114]⟩, .int .i64 0] := rfl
  have t2 : Int.toNat 2 = 2 := rfl
  have k1 : exK.set 1 [.str ⟨#[102, 105, 120]⟩, .int .i64 3] = nTw.map kD := rfl
  have k2 : exK.set 2 [.str ⟨#[79, 116, 104, 101, 114]⟩, .int .i64 0] = nNa.map kD := rfl
  have k3 : exK.set 0 [.str ⟨#[102, 105, 120]⟩, .int .i64 30] = nCl.map kD := rfl
  have bl : exBr.length = 2 := rfl
  have bg : exBr[1]? = some [.str ⟨#[114, 49]⟩, .str ⟨#[109, 97, 105, 110]⟩, .int .i64 1] := rfl
  have bs : exBr.set 1 [.str ⟨#[114, 49]⟩, .str ⟨#[109, 97, 105, 110]⟩, .int .i64 3] = nBr.map bD := rfl
  have gl : G.ev.length = 2 := by rw [hG]; rfl
  have gt : (G.ev.map esD).take 1 = [[.sl exE0]] := by rw [hG]; rfl
  clear hG hT hK31 hK41
  have e13 : (0 ≤ (1 : Int) ∧ (1 : Int) < ((3 : Nat) : Int)) = True := eq_true (by omega)
  have e23 : (0 ≤ (2 : Int) ∧ (2 : Int) < ((3 : Nat) : Int)) = True := eq_true (by omega)
  have e03 : (0 ≤ (0 : Int) ∧ (0 : Int) < ((3 : Nat) : Int)) = True := eq_true (by omega)
  have e12 : (0 ≤ (1 : Int) ∧ (1 : Int) < ((2 : Nat) : Int)) = True := eq_true (by omega)
  have e01 : (0 ≤ (0 : Int) ∧ (0 : Int) < ((1 : Nat) : Int)) = True := eq_true (by omega)
  refine spec_of_ev (fn := Try.f9) DX_ok 3000 Try.func9 rfl rfl (Nat.le_of_ble_eq_true rfl) ?_
  simp (maxSteps := 4000000) -implicitDefEqProofs only [Try.f9, go_sem]
  refine ecall0 _ s_0 (by simp -implicitDefEqProofs only [go_sem]) (by simp -implicitDefEqProofs only [go_sem]) ?_
  simp (maxSteps := 4000000) -implicitDefEqProofs only [go_sem, Nat.reduceAdd, Nat.reduceSub, Nat.reduceLT, Nat.reduceLeDiff, Nat.reduceEqDiff, ↓reduceIte]
  refine ecallN _ _ kk (by simp -implicitDefEqProofs only [go_sem]) ?_
  simp (maxSteps := 4000000) -implicitDefEqProofs only [go_sem, Nat.reduceAdd, Nat.reduceSub, Nat.reduceLT, Nat.reduceLeDiff, Nat.reduceEqDiff, ↓reduceIte]
  refine ecallN _ _ kk (by simp -implicitDefEqProofs only [go_sem]) ?_
  simp (maxSteps := 4000000) -implicitDefEqProofs only [go_sem, Nat.reduceAdd, Nat.reduceSub, Nat.reduceLT, Nat.reduceLeDiff, Nat.reduceEqDiff, ↓reduceIte]
  refine ecallN _ _ kk (by simp -implicitDefEqProofs only [go_sem]) ?_
  simp (maxSteps := 4000000) -implicitDefEqProofs only [go_sem, Nat.reduceAdd, Nat.reduceSub, Nat.reduceLT, Nat.reduceLeDiff, Nat.reduceEqDiff, ↓reduceIte]
  refine ecall0 _ s_0 (by simp -implicitDefEqProofs only [go_sem]) (by simp -implicitDefEqProofs only [go_sem]) ?_
  simp (maxSteps := 4000000) -implicitDefEqProofs only [go_sem, Nat.reduceAdd, Nat.reduceSub, Nat.reduceLT, Nat.reduceLeDiff, Nat.reduceEqDiff, ↓reduceIte]
  refine ecall0 _ s_0 (by simp -implicitDefEqProofs only [go_sem]) (by simp -implicitDefEqProofs only [go_sem]) ?_
  simp (maxSteps := 4000000) -implicitDefEqProofs only [go_sem, Nat.reduceAdd, Nat.reduceSub, Nat.reduceLT, Nat.reduceLeDiff, Nat.reduceEqDiff, ↓reduceIte]
  refine ecallN _ _ vv (by simp -implicitDefEqProofs only [go_sem]) ?_
  simp (maxSteps := 4000000) -implicitDefEqProofs only [go_sem, Nat.reduceAdd, Nat.reduceSub, Nat.reduceLT, Nat.reduceLeDiff, Nat.reduceEqDiff, ↓reduceIte]
  refine ecallN _ _ bb (by simp -implicitDefEqProofs only [go_sem]) ?_
  simp (maxSteps := 4000000) -implicitDefEqProofs only [go_sem, Nat.reduceAdd, Nat.reduceSub, Nat.reduceLT, Nat.reduceLeDiff, Nat.reduceEqDiff, ↓reduceIte]
  refine ecallN _ _ ee (by simp -implicitDefEqProofs only [go_sem]) ?_
  simp (maxSteps := 4000000) -implicitDefEqProofs only [go_sem, Nat.reduceAdd, Nat.reduceSub, Nat.reduceLT, Nat.reduceLeDiff, Nat.reduceEqDiff, ↓reduceIte]
  refine ecallN _ _ ee (by simp -implicitDefEqProofs only [go_sem]) ?_
  simp (maxSteps := 4000000) -implicitDefEqProofs only [go_sem, Nat.reduceAdd, Nat.reduceSub, Nat.reduceLT, Nat.reduceLeDiff, Nat.reduceEqDiff, ↓reduceIte]
  refine ecallN _ _ ee (by simp -implicitDefEqProofs only [go_sem]) ?_
  simp (maxSteps := 4000000) -implicitDefEqProofs only [go_sem, h31, kl, g0, g1, g2, t2, k1, k2, k3, gl, gt, e13, e23, e03, e12, e01, Option.some.injEq, forall_eq', and_true, true_and, Bool.not_true, Bool.not_false, decide_true, Nat.reduceAdd, Nat.reduceSub, Nat.reduceLT, Nat.reduceLeDiff, Nat.reduceEqDiff, ↓reduceIte]
  repeat' (first | (refine And.intro (by omega) ?_))
  refine DX.plain (.take 0 true (.take 1 true (.run [2] (fun _ => [true, true]) fun _ => (.take 3 false (.run [4] (fun _ => [false, false]) fun _ => .done))))) (by kernel_rfl) (by kernel_rfl) Ty.mixed ?_
  simp (maxSteps := 4000000) -implicitDefEqProofs only [go_sem, h41, bl, bg, bs, e12, e01, e13, List.getElem?_cons_zero, List.getElem?_cons_succ, List.set_cons_zero, List.set_cons_succ, Option.some.injEq, forall_eq', and_true, true_and, Bool.not_true, Bool.not_false, decide_true, Nat.reduceAdd, Nat.reduceSub, Nat.reduceLT, Nat.reduceLeDiff, Nat.reduceEqDiff, ↓reduceIte]
  have v0 : ((0 : Int) == 0) = true := rfl
  have v1 : ((1 : Int) == 1) = true := rfl
  have v2 : ((2 : Int) == 2) = true := rfl
  have v3 : ((3 : Int) == 3) = true := rfl
  have v4 : ((4 : Int) == 4) = true := rfl
  have v6 : ((6 : Int) == 6) = true := rfl
  have v8 : ((8 : Int) == 8) = true := rfl
  have v14 : ((14 : Int) == 14) = true := rfl
  have v16 : ((16 : Int) == 16) = true := rfl
  have v30 : ((30 : Int) == 30) = true := rfl
  have v36 : ((36 : Int) == 36) = true := rfl
  refine ⟨by decide, ?_⟩
  refine ecall0 _ alive_spec (by simp -implicitDefEqProofs only [go_sem]) (by simp -implicitDefEqProofs only [go_sem]) ?_
  simp (maxSteps := 4000000) -implicitDefEqProofs only [go_sem, v0, v1, v2, v3, v4, v6, v8, v14, v16, v30, v36, Option.some.injEq, forall_eq', and_true, true_and, Bool.not_true, Bool.not_false, decide_true, Nat.reduceAdd, Nat.reduceSub, Nat.reduceLT, Nat.reduceLeDiff, Nat.reduceEqDiff, ↓reduceIte]
  refine ECall.dat (args' := [.agg [.d (.sl K31), .d (.sl (G.br.map bD)), .d (.sl (G.ev.map esD))]]) (by simp -implicitDefEqProofs only [go_sem]; rfl) rfl ?_
  refine ecall0 _ s_many (by simp -implicitDefEqProofs only [go_sem]) (by simp -implicitDefEqProofs only [go_sem]) ?_
  simp (maxSteps := 4000000) -implicitDefEqProofs only [go_sem, v0, v1, v2, v3, v4, v6, v8, v14, v16, v30, v36, Option.some.injEq, forall_eq', and_true, true_and, Bool.not_true, Bool.not_false, decide_true, Nat.reduceAdd, Nat.reduceSub, Nat.reduceLT, Nat.reduceLeDiff, Nat.reduceEqDiff, ↓reduceIte]
  refine ECall.dat (args' := [.agg [.d (.sl (nTw.map kD)), .d (.sl (G.br.map bD)), .d (.sl (G.ev.map esD))]]) (by simp -implicitDefEqProofs only [go_sem]; rfl) rfl ?_
  refine ecall0 _ s_twice (by simp -implicitDefEqProofs only [go_sem]) (by simp -implicitDefEqProofs only [go_sem]) ?_
  simp (maxSteps := 4000000) -implicitDefEqProofs only [go_sem, v0, v1, v2, v3, v4, v6, v8, v14, v16, v30, v36, Option.some.injEq, forall_eq', and_true, true_and, Bool.not_true, Bool.not_false, decide_true, Nat.reduceAdd, Nat.reduceSub, Nat.reduceLT, Nat.reduceLeDiff, Nat.reduceEqDiff, ↓reduceIte]
  refine ECall.dat (args' := [.agg [.d (.sl (nNa.map kD)), .d (.sl (G.br.map bD)), .d (.sl (G.ev.map esD))]]) (by simp -implicitDefEqProofs only [go_sem]; rfl) rfl ?_
  refine ecall0 _ s_name (by simp -implicitDefEqProofs only [go_sem]) (by simp -implicitDefEqProofs only [go_sem]) ?_
  simp (maxSteps := 4000000) -implicitDefEqProofs only [go_sem, v0, v1, v2, v3, v4, v6, v8, v14, v16, v30, v36, Option.some.injEq, forall_eq', and_true, true_and, Bool.not_true, Bool.not_false, decide_true, Nat.reduceAdd, Nat.reduceSub, Nat.reduceLT, Nat.reduceLeDiff, Nat.reduceEqDiff, ↓reduceIte]
  refine ECall.dat (args' := [.agg [.d (.sl (nCl.map kD)), .d (.sl (G.br.map bD)), .d (.sl (G.ev.map esD))]]) (by simp -implicitDefEqProofs only [go_sem]; rfl) rfl ?_
  refine ecall0 _ s_class (by simp -implicitDefEqProofs only [go_sem]) (by simp -implicitDefEqProofs only [go_sem]) ?_
  simp (maxSteps := 4000000) -implicitDefEqProofs only [go_sem, v0, v1, v2, v3, v4, v6, v8, v14, v16, v30, v36, Option.some.injEq, forall_eq', and_true, true_and, Bool.not_true, Bool.not_false, decide_true, Nat.reduceAdd, Nat.reduceSub, Nat.reduceLT, Nat.reduceLeDiff, Nat.reduceEqDiff, ↓reduceIte]
  refine ECall.dat (args' := [.agg [.d (.sl (G.kn.map kD)), .d (.sl []), .d (.sl (G.ev.map esD))]]) (by simp -implicitDefEqProofs only [go_sem]; rfl) rfl ?_
  refine ecall0 _ s_table (by simp -implicitDefEqProofs only [go_sem]) (by simp -implicitDefEqProofs only [go_sem]) ?_
  simp (maxSteps := 4000000) -implicitDefEqProofs only [go_sem, v0, v1, v2, v3, v4, v6, v8, v14, v16, v30, v36, Option.some.injEq, forall_eq', and_true, true_and, Bool.not_true, Bool.not_false, decide_true, Nat.reduceAdd, Nat.reduceSub, Nat.reduceLT, Nat.reduceLeDiff, Nat.reduceEqDiff, ↓reduceIte]
  refine ECall.dat (args' := [.agg [.d (.sl (G.kn.map kD)), .d (.sl (G.br.map bD)), .d (.sl (nE1.map esD))]]) (by simp -implicitDefEqProofs only [go_sem]; rfl) rfl ?_
  refine ecall0 _ s_lists (by simp -implicitDefEqProofs only [go_sem]) (by simp -implicitDefEqProofs only [go_sem]) ?_
  simp (maxSteps := 4000000) -implicitDefEqProofs only [go_sem, v0, v1, v2, v3, v4, v6, v8, v14, v16, v30, v36, Option.some.injEq, forall_eq', and_true, true_and, Bool.not_true, Bool.not_false, decide_true, Nat.reduceAdd, Nat.reduceSub, Nat.reduceLT, Nat.reduceLeDiff, Nat.reduceEqDiff, ↓reduceIte]
  refine ECall.dat (args' := [.agg [.d (.sl (G.kn.map kD)), .d (.sl (G.br.map bD)), .d (.sl [[D.sl exE0], [D.sl K41]])]]) (by simp -implicitDefEqProofs only [go_sem]; rfl) rfl ?_
  refine ecall0 _ s_great (by simp -implicitDefEqProofs only [go_sem]) (by simp -implicitDefEqProofs only [go_sem]) ?_
  simp (maxSteps := 4000000) -implicitDefEqProofs only [go_sem, v0, v1, v2, v3, v4, v6, v8, v14, v16, v30, v36, Option.some.injEq, forall_eq', and_true, true_and, Bool.not_true, Bool.not_false, decide_true, Nat.reduceAdd, Nat.reduceSub, Nat.reduceLT, Nat.reduceLeDiff, Nat.reduceEqDiff, ↓reduceIte]
  refine ECall.dat (args' := [.agg [.d (.sl (G.kn.map kD)), .d (.sl (nBr.map bD)), .d (.sl (G.ev.map esD))]]) (by simp -implicitDefEqProofs only [go_sem]; rfl) rfl ?_
  refine ecall0 _ s_fits (by simp -implicitDefEqProofs only [go_sem]) (by simp -implicitDefEqProofs only [go_sem]) ?_
  simp (maxSteps := 4000000) -implicitDefEqProofs only [go_sem, v0, v1, v2, v3, v4, v6, v8, v14, v16, v30, v36, Option.some.injEq, forall_eq', and_true, true_and, Bool.not_true, Bool.not_false, decide_true, Nat.reduceAdd, Nat.reduceSub, Nat.reduceLT, Nat.reduceLeDiff, Nat.reduceEqDiff, ↓reduceIte]
  refine ECall.wk rfl (Wk.vrow 6 rfl rfl rfl) ?_
  simp -implicitDefEqProofs only [go_sem]
  refine ECall.dat (args' := [.agg [.d (.sl (G.kn.map kD)), .d (.sl (G.br.map bD)), .d (.sl (nEk.map esD))]]) (by simp -implicitDefEqProofs only [go_sem]; rfl) rfl ?_
  refine ecall0 _ s_kind (by simp -implicitDefEqProofs only [go_sem]) (by simp -implicitDefEqProofs only [go_sem]) ?_
  simp (maxSteps := 4000000) -implicitDefEqProofs only [go_sem, v0, v1, v2, v3, v4, v6, v8, v14, v16, v30, v36, Option.some.injEq, forall_eq', and_true, true_and, Bool.not_true, Bool.not_false, decide_true, Nat.reduceAdd, Nat.reduceSub, Nat.reduceLT, Nat.reduceLeDiff, Nat.reduceEqDiff, ↓reduceIte]
  refine ECall.wk rfl (Wk.vrow 9 rfl rfl rfl) ?_
  simp -implicitDefEqProofs only [go_sem]
  refine ECall.dat (args' := [.agg [.d (.sl (G.kn.map kD)), .d (.sl (G.br.map bD)), .d (.sl (nEn.map esD))]]) (by simp -implicitDefEqProofs only [go_sem]; rfl) rfl ?_
  refine ecall0 _ s_known (by simp -implicitDefEqProofs only [go_sem]) (by simp -implicitDefEqProofs only [go_sem]) ?_
  simp (maxSteps := 4000000) -implicitDefEqProofs only [go_sem, v0, v1, v2, v3, v4, v6, v8, v14, v16, v30, v36, Option.some.injEq, forall_eq', and_true, true_and, Bool.not_true, Bool.not_false, decide_true, Nat.reduceAdd, Nat.reduceSub, Nat.reduceLT, Nat.reduceLeDiff, Nat.reduceEqDiff, ↓reduceIte]
  refine ECall.wk rfl (Wk.vrow 12 rfl rfl rfl) ?_
  simp -implicitDefEqProofs only [go_sem]
  refine ECall.dat (args' := [.agg [.d (.sl (G.kn.map kD)), .d (.sl (G.br.map bD)), .d (.sl (nEd.map esD))]]) (by simp -implicitDefEqProofs only [go_sem]; rfl) rfl ?_
  refine ecall0 _ s_done (by simp -implicitDefEqProofs only [go_sem]) (by simp -implicitDefEqProofs only [go_sem]) ?_
  simp (maxSteps := 4000000) -implicitDefEqProofs only [go_sem, v0, v1, v2, v3, v4, v6, v8, v14, v16, v30, v36, Option.some.injEq, forall_eq', and_true, true_and, Bool.not_true, Bool.not_false, decide_true, Nat.reduceAdd, Nat.reduceSub, Nat.reduceLT, Nat.reduceLeDiff, Nat.reduceEqDiff, ↓reduceIte]
  refine ecall0 _ s_0 (by simp -implicitDefEqProofs only [go_sem]) (by simp -implicitDefEqProofs only [go_sem]) ?_
  simp (maxSteps := 4000000) -implicitDefEqProofs only [go_sem, Nat.reduceAdd, Nat.reduceSub, Nat.reduceLT, Nat.reduceLeDiff, Nat.reduceEqDiff, ↓reduceIte]
  refine ecall0 _ s_a (by simp -implicitDefEqProofs only [go_sem]) (by simp -implicitDefEqProofs only [go_sem]) ?_
  simp (maxSteps := 4000000) -implicitDefEqProofs only [go_sem, Nat.reduceAdd, Nat.reduceSub, Nat.reduceLT, Nat.reduceLeDiff, Nat.reduceEqDiff, ↓reduceIte]
  refine ecall0 _ s_0 (by simp -implicitDefEqProofs only [go_sem]) (by simp -implicitDefEqProofs only [go_sem]) ?_
  simp (maxSteps := 4000000) -implicitDefEqProofs only [go_sem, Nat.reduceAdd, Nat.reduceSub, Nat.reduceLT, Nat.reduceLeDiff, Nat.reduceEqDiff, ↓reduceIte]
  refine ecall0 _ s_b (by simp -implicitDefEqProofs only [go_sem]) (by simp -implicitDefEqProofs only [go_sem]) ?_
  simp (maxSteps := 4000000) -implicitDefEqProofs only [go_sem, Nat.reduceAdd, Nat.reduceSub, Nat.reduceLT, Nat.reduceLeDiff, Nat.reduceEqDiff, ↓reduceIte]
  refine ecall0 _ s_0 (by simp -implicitDefEqProofs only [go_sem]) (by simp -implicitDefEqProofs only [go_sem]) ?_
  simp (maxSteps := 4000000) -implicitDefEqProofs only [go_sem, Nat.reduceAdd, Nat.reduceSub, Nat.reduceLT, Nat.reduceLeDiff, Nat.reduceEqDiff, ↓reduceIte]
  refine ecall0 _ s_c (by simp -implicitDefEqProofs only [go_sem]) (by simp -implicitDefEqProofs only [go_sem]) ?_
  simp (maxSteps := 4000000) -implicitDefEqProofs only [go_sem, Nat.reduceAdd, Nat.reduceSub, Nat.reduceLT, Nat.reduceLeDiff, Nat.reduceEqDiff, ↓reduceIte]
  refine ecall0 _ s_0 (by simp -implicitDefEqProofs only [go_sem]) (by simp -implicitDefEqProofs only [go_sem]) ?_
  simp (maxSteps := 4000000) -implicitDefEqProofs only [go_sem, Nat.reduceAdd, Nat.reduceSub, Nat.reduceLT, Nat.reduceLeDiff, Nat.reduceEqDiff, ↓reduceIte]
  refine ecall0 _ s_d (by simp -implicitDefEqProofs only [go_sem]) (by simp -implicitDefEqProofs only [go_sem]) ?_
  simp (maxSteps := 4000000) -implicitDefEqProofs only [go_sem, Nat.reduceAdd, Nat.reduceSub, Nat.reduceLT, Nat.reduceLeDiff, Nat.reduceEqDiff, ↓reduceIte]
  refine ecall0 _ s_0 (by simp -implicitDefEqProofs only [go_sem]) (by simp -implicitDefEqProofs only [go_sem]) ?_
  simp (maxSteps := 4000000) -implicitDefEqProofs only [go_sem, Nat.reduceAdd, Nat.reduceSub, Nat.reduceLT, Nat.reduceLeDiff, Nat.reduceEqDiff, ↓reduceIte]
  refine ecall0 _ s_e (by simp -implicitDefEqProofs only [go_sem]) (by simp -implicitDefEqProofs only [go_sem]) ?_
  simp (maxSteps := 4000000) -implicitDefEqProofs only [go_sem, Nat.reduceAdd, Nat.reduceSub, Nat.reduceLT, Nat.reduceLeDiff, Nat.reduceEqDiff, ↓reduceIte]
  refine ecall0 _ s_0 (by simp -implicitDefEqProofs only [go_sem]) (by simp -implicitDefEqProofs only [go_sem]) ?_
  simp (maxSteps := 4000000) -implicitDefEqProofs only [go_sem, Nat.reduceAdd, Nat.reduceSub, Nat.reduceLT, Nat.reduceLeDiff, Nat.reduceEqDiff, ↓reduceIte]
  refine ecall0 _ s_f (by simp -implicitDefEqProofs only [go_sem]) (by simp -implicitDefEqProofs only [go_sem]) ?_
  simp (maxSteps := 4000000) -implicitDefEqProofs only [go_sem, Nat.reduceAdd, Nat.reduceSub, Nat.reduceLT, Nat.reduceLeDiff, Nat.reduceEqDiff, ↓reduceIte]
  refine ecall0 _ s_0 (by simp -implicitDefEqProofs only [go_sem]) (by simp -implicitDefEqProofs only [go_sem]) ?_
  simp (maxSteps := 4000000) -implicitDefEqProofs only [go_sem, Nat.reduceAdd, Nat.reduceSub, Nat.reduceLT, Nat.reduceLeDiff, Nat.reduceEqDiff, ↓reduceIte]
  refine ecall0 _ s_g (by simp -implicitDefEqProofs only [go_sem]) (by simp -implicitDefEqProofs only [go_sem]) ?_
  simp (maxSteps := 4000000) -implicitDefEqProofs only [go_sem, Nat.reduceAdd, Nat.reduceSub, Nat.reduceLT, Nat.reduceLeDiff, Nat.reduceEqDiff, ↓reduceIte]
  refine ecall0 _ s_0 (by simp -implicitDefEqProofs only [go_sem]) (by simp -implicitDefEqProofs only [go_sem]) ?_
  simp (maxSteps := 4000000) -implicitDefEqProofs only [go_sem, Nat.reduceAdd, Nat.reduceSub, Nat.reduceLT, Nat.reduceLeDiff, Nat.reduceEqDiff, ↓reduceIte]
  refine ecall0 _ s_h (by simp -implicitDefEqProofs only [go_sem]) (by simp -implicitDefEqProofs only [go_sem]) ?_
  simp (maxSteps := 4000000) -implicitDefEqProofs only [go_sem, Nat.reduceAdd, Nat.reduceSub, Nat.reduceLT, Nat.reduceLeDiff, Nat.reduceEqDiff, ↓reduceIte]
  refine ecall0 _ s_0 (by simp -implicitDefEqProofs only [go_sem]) (by simp -implicitDefEqProofs only [go_sem]) ?_
  simp (maxSteps := 4000000) -implicitDefEqProofs only [go_sem, Nat.reduceAdd, Nat.reduceSub, Nat.reduceLT, Nat.reduceLeDiff, Nat.reduceEqDiff, ↓reduceIte]
  refine ecall0 _ s_i (by simp -implicitDefEqProofs only [go_sem]) (by simp -implicitDefEqProofs only [go_sem]) ?_
  simp (maxSteps := 4000000) -implicitDefEqProofs only [go_sem, Nat.reduceAdd, Nat.reduceSub, Nat.reduceLT, Nat.reduceLeDiff, Nat.reduceEqDiff, ↓reduceIte]
  refine ecall0 _ s_0 (by simp -implicitDefEqProofs only [go_sem]) (by simp -implicitDefEqProofs only [go_sem]) ?_
  simp (maxSteps := 4000000) -implicitDefEqProofs only [go_sem, Nat.reduceAdd, Nat.reduceSub, Nat.reduceLT, Nat.reduceLeDiff, Nat.reduceEqDiff, ↓reduceIte]
  refine ecall0 _ s_j (by simp -implicitDefEqProofs only [go_sem]) (by simp -implicitDefEqProofs only [go_sem]) ?_
  simp (maxSteps := 4000000) -implicitDefEqProofs only [go_sem, Nat.reduceAdd, Nat.reduceSub, Nat.reduceLT, Nat.reduceLeDiff, Nat.reduceEqDiff, ↓reduceIte]
  refine ecall0 _ s_0 (by simp -implicitDefEqProofs only [go_sem]) (by simp -implicitDefEqProofs only [go_sem]) ?_
  simp (maxSteps := 4000000) -implicitDefEqProofs only [go_sem, Nat.reduceAdd, Nat.reduceSub, Nat.reduceLT, Nat.reduceLeDiff, Nat.reduceEqDiff, ↓reduceIte]
  refine ecall0 _ s_n (by simp -implicitDefEqProofs only [go_sem]) (by simp -implicitDefEqProofs only [go_sem]) ?_
  simp (maxSteps := 4000000) -implicitDefEqProofs only [go_sem, Nat.reduceAdd, Nat.reduceSub, Nat.reduceLT, Nat.reduceLeDiff, Nat.reduceEqDiff, ↓reduceIte]
  refine ecall0 _ s_0 (by simp -implicitDefEqProofs only [go_sem]) (by simp -implicitDefEqProofs only [go_sem]) ?_
  simp (maxSteps := 4000000) -implicitDefEqProofs only [go_sem, Nat.reduceAdd, Nat.reduceSub, Nat.reduceLT, Nat.reduceLeDiff, Nat.reduceEqDiff, ↓reduceIte]
  refine ecall0 _ s_o (by simp -implicitDefEqProofs only [go_sem]) (by simp -implicitDefEqProofs only [go_sem]) ?_
  simp (maxSteps := 4000000) -implicitDefEqProofs only [go_sem, Nat.reduceAdd, Nat.reduceSub, Nat.reduceLT, Nat.reduceLeDiff, Nat.reduceEqDiff, ↓reduceIte]
  refine ecall0 _ s_0 (by simp -implicitDefEqProofs only [go_sem]) (by simp -implicitDefEqProofs only [go_sem]) ?_
  simp (maxSteps := 4000000) -implicitDefEqProofs only [go_sem, Nat.reduceAdd, Nat.reduceSub, Nat.reduceLT, Nat.reduceLeDiff, Nat.reduceEqDiff, ↓reduceIte]
  refine ecall0 _ s_p (by simp -implicitDefEqProofs only [go_sem]) (by simp -implicitDefEqProofs only [go_sem]) ?_
  simp (maxSteps := 4000000) -implicitDefEqProofs only [go_sem, Nat.reduceAdd, Nat.reduceSub, Nat.reduceLT, Nat.reduceLeDiff, Nat.reduceEqDiff, ↓reduceIte]
  refine ecall0 _ s_0 (by simp -implicitDefEqProofs only [go_sem]) (by simp -implicitDefEqProofs only [go_sem]) ?_
  simp (maxSteps := 4000000) -implicitDefEqProofs only [go_sem, Nat.reduceAdd, Nat.reduceSub, Nat.reduceLT, Nat.reduceLeDiff, Nat.reduceEqDiff, ↓reduceIte]
  refine ecall0 _ s_q (by simp -implicitDefEqProofs only [go_sem]) (by simp -implicitDefEqProofs only [go_sem]) ?_
  simp (maxSteps := 4000000) -implicitDefEqProofs only [go_sem, Nat.reduceAdd, Nat.reduceSub, Nat.reduceLT, Nat.reduceLeDiff, Nat.reduceEqDiff, ↓reduceIte]
  refine ecall0 _ s_0 (by simp -implicitDefEqProofs only [go_sem]) (by simp -implicitDefEqProofs only [go_sem]) ?_
  simp (maxSteps := 4000000) -implicitDefEqProofs only [go_sem, Nat.reduceAdd, Nat.reduceSub, Nat.reduceLT, Nat.reduceLeDiff, Nat.reduceEqDiff, ↓reduceIte]
  refine ecall0 _ s_r (by simp -implicitDefEqProofs only [go_sem]) (by simp -implicitDefEqProofs only [go_sem]) ?_
  simp (maxSteps := 4000000) -implicitDefEqProofs only [go_sem, Nat.reduceAdd, Nat.reduceSub, Nat.reduceLT, Nat.reduceLeDiff, Nat.reduceEqDiff, ↓reduceIte]
  refine ecall0 _ s_0 (by simp -implicitDefEqProofs only [go_sem]) (by simp -implicitDefEqProofs only [go_sem]) ?_
  simp (maxSteps := 4000000) -implicitDefEqProofs only [go_sem, Nat.reduceAdd, Nat.reduceSub, Nat.reduceLT, Nat.reduceLeDiff, Nat.reduceEqDiff, ↓reduceIte]
  refine ecall0 _ s_s (by simp -implicitDefEqProofs only [go_sem]) (by simp -implicitDefEqProofs only [go_sem]) ?_
  simp (maxSteps := 4000000) -implicitDefEqProofs only [go_sem, Nat.reduceAdd, Nat.reduceSub, Nat.reduceLT, Nat.reduceLeDiff, Nat.reduceEqDiff, ↓reduceIte]
  refine ecall0 _ s_0 (by simp -implicitDefEqProofs only [go_sem]) (by simp -implicitDefEqProofs only [go_sem]) ?_
  simp (maxSteps := 4000000) -implicitDefEqProofs only [go_sem, Nat.reduceAdd, Nat.reduceSub, Nat.reduceLT, Nat.reduceLeDiff, Nat.reduceEqDiff, ↓reduceIte]
  refine ecall0 _ s_t (by simp -implicitDefEqProofs only [go_sem]) (by simp -implicitDefEqProofs only [go_sem]) ?_
  have q0 : (((0 : Nat) : Int) == 0) = true := rfl
  have q3 : (((3 : Nat) : Int) == 3) = true := rfl
  have d1 : decide (([3] : List Int) = [3]) = true := by decide
  have d2 : decide (([0, 3] : List Int) = [0, 3]) = true := by decide
  simp (maxSteps := 4000000) -implicitDefEqProofs only [go_sem, v0, v1, v2, v3, v4, v6, v8, v14, v16, v30, v36, q0, q3, tb, te, d1, d2, List.append_eq, Option.some.injEq, forall_eq', and_true, true_and, Bool.not_true, Bool.not_false, decide_true, Nat.reduceAdd, Nat.reduceSub, Nat.reduceLT, Nat.reduceLeDiff, Nat.reduceEqDiff, ↓reduceIte]
  repeat' (first | (refine And.intro (by omega) ?_))
  refine ECall.dat (args' := [.d (.sl (([3] : List Int).map iD)), .d (.sl (([3] : List Int).map iD))]) (by simp -implicitDefEqProofs only [go_sem]; rfl) rfl ?_
  refine ecall0 _ s_si (by simp -implicitDefEqProofs only [go_sem]) (by simp -implicitDefEqProofs only [go_sem]) ?_
  simp (maxSteps := 4000000) -implicitDefEqProofs only [go_sem, v0, v1, v2, v3, v4, v6, v8, v14, v16, v30, v36, q0, q3, tb, te, d1, d2, List.append_eq, Option.some.injEq, forall_eq', and_true, true_and, Bool.not_true, Bool.not_false, decide_true, Nat.reduceAdd, Nat.reduceSub, Nat.reduceLT, Nat.reduceLeDiff, Nat.reduceEqDiff, ↓reduceIte]
  repeat' (first | (refine And.intro (by omega) ?_))
  refine ECall.dat (args' := [.d (.sl (([0, 3] : List Int).map iD)), .d (.sl (([0, 3] : List Int).map iD))]) (by simp -implicitDefEqProofs only [go_sem]; rfl) rfl ?_
  refine ecall0 _ s_sj (by simp -implicitDefEqProofs only [go_sem]) (by simp -implicitDefEqProofs only [go_sem]) ?_
  simp (maxSteps := 4000000) -implicitDefEqProofs only [go_sem, v0, v1, v2, v3, v4, v6, v8, v14, v16, v30, v36, q0, q3, tb, te, d1, d2, List.append_eq, Option.some.injEq, forall_eq', and_true, true_and, Bool.not_true, Bool.not_false, decide_true, Nat.reduceAdd, Nat.reduceSub, Nat.reduceLT, Nat.reduceLeDiff, Nat.reduceEqDiff, ↓reduceIte]
  exact wk_bool rfl

end Go.AX.Lg
namespace Go.Proofs.Ytcpkcjjhokbmkaa
open Go.AX Go.AX.Lg Go.RowKit
set_option maxRecDepth 100000 in
theorem ledgerNames_lifted (os : Os) (started : os.Started) (H : Type) (enc : TypeId × Value → H) :
    ReturnsInHanded {} Try.checked os 9 .any (Rows.ledgerNamesSpec.pre6 enc Try.prog Try.f9 Rows.ledgerNamesRow.domain false) (Rows.ledgerNamesSpec.post enc Try.prog Try.f9 false true false false) := by
  refine Go.AX.lifted (C := Try.checked) (f := 9) (fn := Try.f9) (s := Rows.ledgerNamesSpec) (rt := 4) (n := 8) (by kernel_rfl) (by kernel_rfl) Try.func9 rfl ?_ rfl (by kernel_rfl) (by kernel_rfl) (by kernel_rfl) (by kernel_rfl) os started H enc
    (ChangeSpec.witness6 (enc := enc) (C := Try.checked) false ⟨#[], #[], []⟩ 8 (by kernel_rfl) (by kernel_rfl) (by kernel_rfl) (by kernel_rfl)) ?_
  · intro H ds h
    match ds, h with
    | [], _ => rfl
  · intro xs hx
    have hp : Try.f9.params.toList = [] := rfl
    rw [hp] at hx ⊢
    match xs, hx with
    | [], _ => exact names_spec
theorem ledgerNames_over : Rows.ledgerNamesRow.holds Try.pinned (OpenSpec.ofChange Rows.ledgerNamesSpec) :=
  OpenClaim.holds_of_wide 9 Try.f9 rfl rfl rfl rfl rfl rfl rfl ⟨rfl, rfl, rfl, rfl, rfl⟩ rfl rfl rfl rfl rfl (by kernel_rfl) Try.func9 (by kernel_rfl)
    (of_decide_eq_true (by kernel_rfl)) (by unfold Func.isWrapper; first | (rw [if_pos (by decide +kernel)]; kernel_rfl) | (rw [if_neg (by decide +kernel)]; exact ⟨rfl, rfl⟩))
    (fun os started H enc _ => ledgerNames_lifted os started H enc)
/-- The row, under a short name, for the claim. -/
theorem ledgerNames_holds : Rows.LedgerNamesSaid := ledgerNames_over
#print axioms ledgerNames_holds
end Go.Proofs.Ytcpkcjjhokbmkaa

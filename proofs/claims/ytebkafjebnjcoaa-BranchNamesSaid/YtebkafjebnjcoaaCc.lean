/- BranchNames: the law returns true. No condition. -/
import Derived.Test.YtebkafjebnjcoaaBx
import Derived.Test.YtebkafjebnjcoaaBq
import Derived.Test.YtebkafjebnjcoaaRows
set_option maxHeartbeats 8000000
set_option linter.unusedVariables false
set_option linter.unusedSimpArgs false
set_option maxRecDepth 20000
namespace Go.AX.Br
open Go.Proofs Go.RowKit Go.IntWalk
def sA : ByteArray := ⟨#[65]⟩
def sDa : ByteArray := ⟨#[45, 97]⟩
def sB : ByteArray := ⟨#[98]⟩
def sC : ByteArray := ⟨#[99]⟩
def sX : ByteArray := ⟨#[120]⟩
def sXX : ByteArray := ⟨#[88]⟩
def sR3 : ByteArray := ⟨#[114, 51]⟩
def s0 : ByteArray := ⟨#[]⟩
def badL : List (List Br) := [[], [⟨s0, s0, 0⟩], [⟨sA, s0, 0⟩], [⟨sDa, s0, 0⟩], [⟨sMain, sX, 0⟩], [⟨sMain, s0, 1⟩], [⟨sMain, s0, 0⟩, ⟨sB, s0, 0⟩], [⟨sMain, s0, 0⟩, ⟨sB, sC, 0⟩], [⟨sMain, s0, 0⟩, ⟨sB, sB, 0⟩], [⟨sMain, s0, 0⟩, ⟨sB, sMain, -1⟩], [⟨sMain, s0, 0⟩, ⟨sB, sMain, 321⟩]]
def tD (l : List Br) : List D := [.sl (l.map bD)]
attribute [go_sem] tD
theorem tD_len {l : List (List Br)} : (∀ e ∈ l.map tD, e.length = 1) = True := eq_true (map_len (g := tD) fun _ => rfl)
attribute [go_sem] tD_len
theorem badL_all : (badL.all fun l => check l == 8 && fits l [] == 8) = true := by kernel_rfl
def zeroB : Br := ⟨s0, s0, 0⟩
theorem bad_a : check (List.replicate 9 zeroB) = 4 := by kernel_rfl
theorem bad_b : check [⟨sMain, s0, 0⟩, ⟨sMain, sMain, 0⟩] = 14 := by kernel_rfl
theorem bad_c : fits exL [4, 1] = 2 := by kernel_rfl
theorem bad_d : fits exL [4, 41, 1] = 2 := by kernel_rfl
theorem bad_e : fits exL [4, -1, 1] = 2 := by kernel_rfl
theorem bad_f : fits exL [1, 1, 1] = 16 := by kernel_rfl
theorem bad_g : fits exL [2, 0, 1] = 16 := by kernel_rfl
theorem bad_h : fits exL [2, 1, 0] = 0 := by kernel_rfl
theorem bad_i : viewR exL exC sR3 = ([], 6) := by kernel_rfl
theorem bad_j : stemR exL exC sMain sR3 = (0, 6) := by kernel_rfl
theorem bad_k : cutR exL exC sR3 sX 0 = ([], 6) := by kernel_rfl
theorem bad_l : cutR exL exC sR2 sX 6 = ([], 2) := by kernel_rfl
theorem bad_m : cutR exL exC sR2 sR1 5 = ([], 14) := by kernel_rfl
theorem bad_n : cutR exL exC sR2 sXX 5 = ([], 8) := by kernel_rfl
theorem good_o : cutR exL exC sR2 sX 5 = (exL ++ [⟨sX, sR2, 5⟩], 0) := by kernel_rfl
theorem bad_p : lineR exL s0 = ([], 6) := by kernel_rfl
theorem good_q : lineR exL sR2 = ([sR2, sR1, sMain], 0) := by kernel_rfl
theorem bad_s : hasR exL exC ⟨3, 0⟩ = ([], 2) := by kernel_rfl
theorem bad_t : hasR exL exC ⟨1, 1⟩ = ([], 2) := by kernel_rfl
theorem good_u : hasR exL exC ⟨0, 1⟩ = ([sMain, sR1, sR2], 0) := by kernel_rfl
theorem names_law : Spec Try.prog 9 [] [] (.d (.bool true)) [] := by
  have sx3 : Sm exL.length := by unfold Sm; decide
  have sc3 : Sm exC.length := by unfold Sm; decide
  have sl : ∀ l : List Br, l.length ≤ 100 → Sm l.length := fun l h => by unfold Sm; omega
  have si : ∀ l : List Int, l.length ≤ 100 → Sm l.length := fun l h => by unfold Sm; omega
  have pa := check_own (List.replicate 9 zeroB) (sl _ (by decide))
  rw [bad_a] at pa
  have pb := check_own [⟨sMain, s0, 0⟩, ⟨sMain, sMain, 0⟩] (sl _ (by decide))
  rw [bad_b] at pb
  have pc := fits_own exL [4, 1] sx3 (si _ (by decide))
  rw [bad_c] at pc
  have pd := fits_own exL [4, 41, 1] sx3 (si _ (by decide))
  rw [bad_d] at pd
  have pe := fits_own exL [4, -1, 1] sx3 (si _ (by decide))
  rw [bad_e] at pe
  have pf := fits_own exL [1, 1, 1] sx3 (si _ (by decide))
  rw [bad_f] at pf
  have pg := fits_own exL [2, 0, 1] sx3 (si _ (by decide))
  rw [bad_g] at pg
  have ph := fits_own exL [2, 1, 0] sx3 (si _ (by decide))
  rw [bad_h] at ph
  have pi := View_own exL exC sR3 sx3 sc3
  rw [bad_i] at pi
  have pj := Stem_own exL exC sMain sR3 sx3 sc3
  rw [bad_j] at pj
  have pk := cut_own exL exC sR3 sX 0 sx3 sc3
  rw [bad_k] at pk
  have pl := cut_own exL exC sR2 sX 6 sx3 sc3
  rw [bad_l] at pl
  have pm := cut_own exL exC sR2 sR1 5 sx3 sc3
  rw [bad_m] at pm
  have pn := cut_own exL exC sR2 sXX 5 sx3 sc3
  rw [bad_n] at pn
  have po := cut_own exL exC sR2 sX 5 sx3 sc3
  rw [good_o] at po
  have pp := line_own exL s0 sx3
  rw [bad_p] at pp
  have pq := line_own exL sR2 sx3
  rw [good_q] at pq
  have ps := has_own' exL exC ⟨3, 0⟩ sx3 sc3
  rw [bad_s] at ps
  have pt := has_own' exL exC ⟨1, 1⟩ sx3 sc3
  rw [bad_t] at pt
  have pu := has_own' exL exC ⟨0, 1⟩ sx3 sc3
  rw [good_u] at pu
  have qa := same_ref (exL ++ [⟨sX, sR2, 5⟩]) (exL ++ [⟨sX, sR2, 5⟩]) (sl _ (by decide))
  rw [show decide (exL ++ [(⟨sX, sR2, 5⟩ : Br)] = exL ++ [⟨sX, sR2, 5⟩]) = true from decide_eq_true rfl] at qa
  have qb := sameTexts_ref [sR2, sR1, sMain] [sR2, sR1, sMain] (by unfold Sm; decide)
  rw [show decide ([sR2, sR1, sMain] = [sR2, sR1, sMain]) = true from decide_eq_true rfl] at qb
  have qc := sameTexts_ref [sMain, sR1, sR2] [sMain, sR1, sR2] (by unfold Sm; decide)
  rw [show decide ([sMain, sR1, sR2] = [sMain, sR1, sR2]) = true from decide_eq_true rfl] at qc
  refine spec_of_ev (fn := Try.f9) DX_ok 3000 Try.func9 rfl rfl (Nat.le_of_ble_eq_true rfl) ?_
  simp (maxSteps := 4000000) -implicitDefEqProofs only [Try.f9, go_sem]
  simp (maxSteps := 4000000) -implicitDefEqProofs only [go_sem, Nat.reduceAdd, Nat.reduceSub, Nat.reduceLT, Nat.reduceLeDiff, Nat.reduceEqDiff, ↓reduceIte]
  refine ⟨by omega, by omega, by omega, by omega, by omega, by omega, by omega, by omega, by omega, by omega, ?_⟩
  refine eloop (S := Nat) (fun i => mkE 281 [(1, .d (.sl (badL.map tD))), (2, .d (.int .i64 i))]) (fun i => []) (fun i => i ≤ badL.length) (fun i => badL.length - i) 0 (Nat.zero_le _) ?_ ?_
  · refine Wk.trans (Wk.frz 10 rfl) ?_
    simp (maxSteps := 4000000) -implicitDefEqProofs only [go_sem, Nat.reduceAdd, Nat.reduceSub, Nat.reduceLT, Nat.reduceLeDiff, Nat.reduceEqDiff, ↓reduceIte]
    exact (Wk.forget (by (simp only [go_sem]) <;> trivial) (by simp only [go_sem]))
  intro i hi
  have hbl : badL.length = 11 := rfl
  rcases Nat.lt_or_ge i badL.length with h2 | h2
  · have d2 : decide ((i : Int) < badL.length) = true := by simp; omega
    obtain ⟨x, hx⟩ : ∃ x, badL[i]? = some x := ⟨badL[i]'(by omega), List.getElem?_eq_getElem _⟩
    have n1 : (0 ≤ (i : Int) ∧ (i : Int) < badL.length) = True := eq_true (by omega)
    have w1 : IntKind.i64.wrap ((i : Int) + 1) = i + 1 := i64_in _ (by omega)
    have hb := List.all_eq_true.1 badL_all x (List.mem_of_getElem? hx)
    simp only [Bool.and_eq_true, beq_iff_eq] at hb
    have hxl : x.length ≤ 100 := by
      have : (badL.all fun l => decide (l.length ≤ 100)) = true := by decide
      have := List.all_eq_true.1 this x (List.mem_of_getElem? hx)
      simpa using this
    have c1 := check_own x (sl x hxl)
    have c2 := fits_own x [] (sl x hxl) (si _ (by decide))
    rw [hb.1] at c1
    rw [hb.2] at c2
    have e1 : ((8 : Int) != 8) = false := rfl
    simp (maxSteps := 4000000) -implicitDefEqProofs only [go_sem, d2, n1, hx, Option.some.injEq, forall_eq', and_true, true_and, Bool.not_true, Bool.not_false, decide_true, Nat.reduceAdd, Nat.reduceSub, Nat.reduceLT, Nat.reduceLeDiff, Nat.reduceEqDiff, ↓reduceIte]
    refine ecall0 _ c1 (by simp only [go_sem]) (by simp only [go_sem]) ?_
    simp (maxSteps := 4000000) -implicitDefEqProofs only [go_sem, e1, n1, hx, Option.some.injEq, forall_eq', and_true, true_and, Bool.not_true, Bool.not_false, decide_true, Nat.reduceAdd, Nat.reduceSub, Nat.reduceLT, Nat.reduceLeDiff, Nat.reduceEqDiff, ↓reduceIte]
    refine ECall.dat (by simp only [go_sem]; rfl) (by rfl) ?_
    refine ecall0 _ c2 (by simp only [go_sem]) (by simp only [go_sem]) ?_
    simp (maxSteps := 4000000) -implicitDefEqProofs only [go_sem, e1, w1, Option.some.injEq, forall_eq', and_true, true_and, Bool.not_true, Bool.not_false, decide_true, Nat.reduceAdd, Nat.reduceSub, Nat.reduceLT, Nat.reduceLeDiff, Nat.reduceEqDiff, ↓reduceIte]
    exact .mk (i + 1) h2 (by omega) (Wk.sub (by (simp only [go_sem]) <;> trivial))
  have d2 : decide ((i : Int) < badL.length) = false := by simp; omega
  simp (maxSteps := 4000000) -implicitDefEqProofs only [go_sem, d2, Option.some.injEq, forall_eq', and_true, true_and, Bool.not_true, Bool.not_false, decide_true, Nat.reduceAdd, Nat.reduceSub, Nat.reduceLT, Nat.reduceLeDiff, Nat.reduceEqDiff, ↓reduceIte]
  refine ⟨by decide, ?_⟩
  refine ECall.dat (by simp only [go_sem]; rfl) (by rfl) ?_
  refine ecall0 _ pa (by simp only [go_sem]) (by simp only [go_sem]) ?_
  simp (maxSteps := 4000000) -implicitDefEqProofs only [go_sem, Nat.reduceAdd, Nat.reduceSub, Nat.reduceLT, Nat.reduceLeDiff, Nat.reduceEqDiff, ↓reduceIte]
  refine ⟨by omega, ?_⟩
  refine ECall.dat (by simp only [go_sem]; rfl) (by rfl) ?_
  refine ecall0 _ pb (by simp only [go_sem]) (by simp only [go_sem]) ?_
  simp (maxSteps := 4000000) -implicitDefEqProofs only [go_sem, Nat.reduceAdd, Nat.reduceSub, Nat.reduceLT, Nat.reduceLeDiff, Nat.reduceEqDiff, ↓reduceIte]
  refine ecallN _ _ example_spec (by simp only [go_sem]) ?_
  simp (maxSteps := 4000000) -implicitDefEqProofs only [go_sem, Nat.reduceAdd, Nat.reduceSub, Nat.reduceLT, Nat.reduceLeDiff, Nat.reduceEqDiff, ↓reduceIte]
  refine ECall.dat (by simp only [go_sem]; rfl) (by rfl) ?_
  refine ecall0 _ pc (by simp only [go_sem]) (by simp only [go_sem]) ?_
  simp (maxSteps := 4000000) -implicitDefEqProofs only [go_sem, Nat.reduceAdd, Nat.reduceSub, Nat.reduceLT, Nat.reduceLeDiff, Nat.reduceEqDiff, ↓reduceIte]
  refine ecallN _ _ example_spec (by simp only [go_sem]) ?_
  simp (maxSteps := 4000000) -implicitDefEqProofs only [go_sem, Nat.reduceAdd, Nat.reduceSub, Nat.reduceLT, Nat.reduceLeDiff, Nat.reduceEqDiff, ↓reduceIte]
  refine ECall.dat (by simp only [go_sem]; rfl) (by rfl) ?_
  refine ecall0 _ pd (by simp only [go_sem]) (by simp only [go_sem]) ?_
  simp (maxSteps := 4000000) -implicitDefEqProofs only [go_sem, Nat.reduceAdd, Nat.reduceSub, Nat.reduceLT, Nat.reduceLeDiff, Nat.reduceEqDiff, ↓reduceIte]
  refine ecallN _ _ example_spec (by simp only [go_sem]) ?_
  simp (maxSteps := 4000000) -implicitDefEqProofs only [go_sem, Nat.reduceAdd, Nat.reduceSub, Nat.reduceLT, Nat.reduceLeDiff, Nat.reduceEqDiff, ↓reduceIte]
  refine ECall.dat (by simp only [go_sem]; rfl) (by rfl) ?_
  refine ecall0 _ pe (by simp only [go_sem]) (by simp only [go_sem]) ?_
  simp (maxSteps := 4000000) -implicitDefEqProofs only [go_sem, Nat.reduceAdd, Nat.reduceSub, Nat.reduceLT, Nat.reduceLeDiff, Nat.reduceEqDiff, ↓reduceIte]
  refine ecallN _ _ example_spec (by simp only [go_sem]) ?_
  simp (maxSteps := 4000000) -implicitDefEqProofs only [go_sem, Nat.reduceAdd, Nat.reduceSub, Nat.reduceLT, Nat.reduceLeDiff, Nat.reduceEqDiff, ↓reduceIte]
  refine ECall.dat (by simp only [go_sem]; rfl) (by rfl) ?_
  refine ecall0 _ pf (by simp only [go_sem]) (by simp only [go_sem]) ?_
  simp (maxSteps := 4000000) -implicitDefEqProofs only [go_sem, Nat.reduceAdd, Nat.reduceSub, Nat.reduceLT, Nat.reduceLeDiff, Nat.reduceEqDiff, ↓reduceIte]
  refine ecallN _ _ example_spec (by simp only [go_sem]) ?_
  simp (maxSteps := 4000000) -implicitDefEqProofs only [go_sem, Nat.reduceAdd, Nat.reduceSub, Nat.reduceLT, Nat.reduceLeDiff, Nat.reduceEqDiff, ↓reduceIte]
  refine ECall.dat (by simp only [go_sem]; rfl) (by rfl) ?_
  refine ecall0 _ pg (by simp only [go_sem]) (by simp only [go_sem]) ?_
  simp (maxSteps := 4000000) -implicitDefEqProofs only [go_sem, Nat.reduceAdd, Nat.reduceSub, Nat.reduceLT, Nat.reduceLeDiff, Nat.reduceEqDiff, ↓reduceIte]
  refine ecallN _ _ example_spec (by simp only [go_sem]) ?_
  simp (maxSteps := 4000000) -implicitDefEqProofs only [go_sem, Nat.reduceAdd, Nat.reduceSub, Nat.reduceLT, Nat.reduceLeDiff, Nat.reduceEqDiff, ↓reduceIte]
  refine ECall.dat (by simp only [go_sem]; rfl) (by rfl) ?_
  refine ecall0 _ ph (by simp only [go_sem]) (by simp only [go_sem]) ?_
  simp (maxSteps := 4000000) -implicitDefEqProofs only [go_sem, Nat.reduceAdd, Nat.reduceSub, Nat.reduceLT, Nat.reduceLeDiff, Nat.reduceEqDiff, ↓reduceIte]
  refine ecallN _ _ example_spec (by simp only [go_sem]) ?_
  simp (maxSteps := 4000000) -implicitDefEqProofs only [go_sem, Nat.reduceAdd, Nat.reduceSub, Nat.reduceLT, Nat.reduceLeDiff, Nat.reduceEqDiff, ↓reduceIte]
  refine ECall.dat (by simp only [go_sem]; rfl) (by rfl) ?_
  refine ecallN _ _ pi (by simp only [go_sem]) ?_
  simp (maxSteps := 4000000) -implicitDefEqProofs only [go_sem, Nat.reduceAdd, Nat.reduceSub, Nat.reduceLT, Nat.reduceLeDiff, Nat.reduceEqDiff, ↓reduceIte]
  refine ecallN _ _ example_spec (by simp only [go_sem]) ?_
  simp (maxSteps := 4000000) -implicitDefEqProofs only [go_sem, Nat.reduceAdd, Nat.reduceSub, Nat.reduceLT, Nat.reduceLeDiff, Nat.reduceEqDiff, ↓reduceIte]
  refine ECall.dat (by simp only [go_sem]; rfl) (by rfl) ?_
  refine ecall0 _ pj (by simp only [go_sem]) (by simp only [go_sem]) ?_
  simp (maxSteps := 4000000) -implicitDefEqProofs only [go_sem, Nat.reduceAdd, Nat.reduceSub, Nat.reduceLT, Nat.reduceLeDiff, Nat.reduceEqDiff, ↓reduceIte]
  refine ecallN _ _ example_spec (by simp only [go_sem]) ?_
  simp (maxSteps := 4000000) -implicitDefEqProofs only [go_sem, Nat.reduceAdd, Nat.reduceSub, Nat.reduceLT, Nat.reduceLeDiff, Nat.reduceEqDiff, ↓reduceIte]
  refine ECall.dat (by simp only [go_sem]; rfl) (by rfl) ?_
  refine ecall0 _ pk (by simp only [go_sem]) (by simp only [go_sem]) ?_
  simp (maxSteps := 4000000) -implicitDefEqProofs only [go_sem, Nat.reduceAdd, Nat.reduceSub, Nat.reduceLT, Nat.reduceLeDiff, Nat.reduceEqDiff, ↓reduceIte]
  refine ecallN _ _ example_spec (by simp only [go_sem]) ?_
  simp (maxSteps := 4000000) -implicitDefEqProofs only [go_sem, Nat.reduceAdd, Nat.reduceSub, Nat.reduceLT, Nat.reduceLeDiff, Nat.reduceEqDiff, ↓reduceIte]
  refine ECall.dat (by simp only [go_sem]; rfl) (by rfl) ?_
  refine ecall0 _ pl (by simp only [go_sem]) (by simp only [go_sem]) ?_
  simp (maxSteps := 4000000) -implicitDefEqProofs only [go_sem, Nat.reduceAdd, Nat.reduceSub, Nat.reduceLT, Nat.reduceLeDiff, Nat.reduceEqDiff, ↓reduceIte]
  refine ecallN _ _ example_spec (by simp only [go_sem]) ?_
  simp (maxSteps := 4000000) -implicitDefEqProofs only [go_sem, Nat.reduceAdd, Nat.reduceSub, Nat.reduceLT, Nat.reduceLeDiff, Nat.reduceEqDiff, ↓reduceIte]
  refine ECall.dat (by simp only [go_sem]; rfl) (by rfl) ?_
  refine ecall0 _ pm (by simp only [go_sem]) (by simp only [go_sem]) ?_
  simp (maxSteps := 4000000) -implicitDefEqProofs only [go_sem, Nat.reduceAdd, Nat.reduceSub, Nat.reduceLT, Nat.reduceLeDiff, Nat.reduceEqDiff, ↓reduceIte]
  refine ecallN _ _ example_spec (by simp only [go_sem]) ?_
  simp (maxSteps := 4000000) -implicitDefEqProofs only [go_sem, Nat.reduceAdd, Nat.reduceSub, Nat.reduceLT, Nat.reduceLeDiff, Nat.reduceEqDiff, ↓reduceIte]
  refine ECall.dat (by simp only [go_sem]; rfl) (by rfl) ?_
  refine ecall0 _ pn (by simp only [go_sem]) (by simp only [go_sem]) ?_
  simp (maxSteps := 4000000) -implicitDefEqProofs only [go_sem, Nat.reduceAdd, Nat.reduceSub, Nat.reduceLT, Nat.reduceLeDiff, Nat.reduceEqDiff, ↓reduceIte]
  refine ecallN _ _ example_spec (by simp only [go_sem]) ?_
  simp (maxSteps := 4000000) -implicitDefEqProofs only [go_sem, Nat.reduceAdd, Nat.reduceSub, Nat.reduceLT, Nat.reduceLeDiff, Nat.reduceEqDiff, ↓reduceIte]
  refine ECall.dat (by simp only [go_sem]; rfl) (by rfl) ?_
  refine ecall0 _ po (by simp only [go_sem]) (by simp only [go_sem]) ?_
  simp (maxSteps := 4000000) -implicitDefEqProofs only [go_sem, Nat.reduceAdd, Nat.reduceSub, Nat.reduceLT, Nat.reduceLeDiff, Nat.reduceEqDiff, ↓reduceIte]
  refine ecallN _ _ example_spec (by simp only [go_sem]) ?_
  simp (maxSteps := 4000000) -implicitDefEqProofs only [go_sem, Nat.reduceAdd, Nat.reduceSub, Nat.reduceLT, Nat.reduceLeDiff, Nat.reduceEqDiff, ↓reduceIte]
  refine ECall.dat (by simp only [go_sem]; rfl) (by rfl) ?_
  refine ecall0 _ pp (by simp only [go_sem]) (by simp only [go_sem]) ?_
  simp (maxSteps := 4000000) -implicitDefEqProofs only [go_sem, Nat.reduceAdd, Nat.reduceSub, Nat.reduceLT, Nat.reduceLeDiff, Nat.reduceEqDiff, ↓reduceIte]
  refine ecallN _ _ example_spec (by simp only [go_sem]) ?_
  simp (maxSteps := 4000000) -implicitDefEqProofs only [go_sem, Nat.reduceAdd, Nat.reduceSub, Nat.reduceLT, Nat.reduceLeDiff, Nat.reduceEqDiff, ↓reduceIte]
  refine ECall.dat (by simp only [go_sem]; rfl) (by rfl) ?_
  refine ecall0 _ pq (by simp only [go_sem]) (by simp only [go_sem]) ?_
  simp (maxSteps := 4000000) -implicitDefEqProofs only [go_sem, Nat.reduceAdd, Nat.reduceSub, Nat.reduceLT, Nat.reduceLeDiff, Nat.reduceEqDiff, ↓reduceIte]
  refine ecallN _ _ example_spec (by simp only [go_sem]) ?_
  simp (maxSteps := 4000000) -implicitDefEqProofs only [go_sem, Nat.reduceAdd, Nat.reduceSub, Nat.reduceLT, Nat.reduceLeDiff, Nat.reduceEqDiff, ↓reduceIte]
  refine ECall.dat (by simp only [go_sem]; rfl) (by rfl) ?_
  refine ecall0 _ ps (by simp only [go_sem]) (by simp only [go_sem]) ?_
  simp (maxSteps := 4000000) -implicitDefEqProofs only [go_sem, Nat.reduceAdd, Nat.reduceSub, Nat.reduceLT, Nat.reduceLeDiff, Nat.reduceEqDiff, ↓reduceIte]
  refine ecallN _ _ example_spec (by simp only [go_sem]) ?_
  simp (maxSteps := 4000000) -implicitDefEqProofs only [go_sem, Nat.reduceAdd, Nat.reduceSub, Nat.reduceLT, Nat.reduceLeDiff, Nat.reduceEqDiff, ↓reduceIte]
  refine ECall.dat (by simp only [go_sem]; rfl) (by rfl) ?_
  refine ecall0 _ pt (by simp only [go_sem]) (by simp only [go_sem]) ?_
  simp (maxSteps := 4000000) -implicitDefEqProofs only [go_sem, Nat.reduceAdd, Nat.reduceSub, Nat.reduceLT, Nat.reduceLeDiff, Nat.reduceEqDiff, ↓reduceIte]
  refine ecallN _ _ example_spec (by simp only [go_sem]) ?_
  simp (maxSteps := 4000000) -implicitDefEqProofs only [go_sem, Nat.reduceAdd, Nat.reduceSub, Nat.reduceLT, Nat.reduceLeDiff, Nat.reduceEqDiff, ↓reduceIte]
  refine ECall.dat (by simp only [go_sem]; rfl) (by rfl) ?_
  refine ecall0 _ pu (by simp only [go_sem]) (by simp only [go_sem]) ?_
  simp (maxSteps := 4000000) -implicitDefEqProofs only [go_sem, Nat.reduceAdd, Nat.reduceSub, Nat.reduceLT, Nat.reduceLeDiff, Nat.reduceEqDiff, ↓reduceIte]
  refine ecall0 _ alive_spec (by simp only [go_sem]) (by simp only [go_sem]) ?_
  simp (maxSteps := 4000000) -implicitDefEqProofs only [go_sem, Nat.reduceAdd, Nat.reduceSub, Nat.reduceLT, Nat.reduceLeDiff, Nat.reduceEqDiff, ↓reduceIte]
  refine ecallN _ _ example_spec (by simp only [go_sem]) ?_
  simp (maxSteps := 4000000) -implicitDefEqProofs only [go_sem, Nat.reduceAdd, Nat.reduceSub, Nat.reduceLT, Nat.reduceLeDiff, Nat.reduceEqDiff, ↓reduceIte]
  refine ⟨by omega, ⟨by simp, by decide, by decide⟩, ?_⟩
  refine ECall.dat (by simp only [go_sem]; rfl) (by rfl) ?_
  refine ecall0 _ qa (by simp only [go_sem]) (by simp only [go_sem]) ?_
  simp (maxSteps := 4000000) -implicitDefEqProofs only [go_sem, Nat.reduceAdd, Nat.reduceSub, Nat.reduceLT, Nat.reduceLeDiff, Nat.reduceEqDiff, ↓reduceIte]
  try refine ⟨by omega, ?_⟩
  refine ECall.dat (by simp only [go_sem]; rfl) (by rfl) ?_
  refine ecall0 _ qb (by simp only [go_sem]) (by simp only [go_sem]) ?_
  simp (maxSteps := 4000000) -implicitDefEqProofs only [go_sem, Nat.reduceAdd, Nat.reduceSub, Nat.reduceLT, Nat.reduceLeDiff, Nat.reduceEqDiff, ↓reduceIte]
  try refine ⟨by omega, ?_⟩
  refine ECall.dat (by simp only [go_sem]; rfl) (by rfl) ?_
  refine ecall0 _ qc (by simp only [go_sem]) (by simp only [go_sem]) ?_
  simp (maxSteps := 4000000) -implicitDefEqProofs only [go_sem, Nat.reduceAdd, Nat.reduceSub, Nat.reduceLT, Nat.reduceLeDiff, Nat.reduceEqDiff, ↓reduceIte]
  exact wk_bool rfl
end Go.AX.Br
namespace Go.Proofs.Ytebkafjebnjcoaa
open Go.AX Go.AX.Br Go.RowKit
set_option maxRecDepth 100000 in
theorem branchNames_lifted (os : Os) (started : os.Started) (H : Type) (enc : TypeId × Value → H) :
    ReturnsInHanded {} Try.checked os 9 .any (Rows.branchNamesSpec.pre6 enc Try.prog Try.f9 Rows.branchNamesRow.domain false) (Rows.branchNamesSpec.post enc Try.prog Try.f9 false true false false) := by
  refine Go.AX.lifted (C := Try.checked) (f := 9) (fn := Try.f9) (s := Rows.branchNamesSpec) (rt := 4) (n := 8) (by kernel_rfl) (by kernel_rfl) Try.func9 rfl ?_ rfl (by kernel_rfl) (by kernel_rfl) (by kernel_rfl) (by kernel_rfl) os started H enc
    (ChangeSpec.witness6 (enc := enc) (C := Try.checked) false ⟨#[], #[], []⟩ 8 (by kernel_rfl) (by kernel_rfl) (by kernel_rfl) (by kernel_rfl)) ?_
  · intro H ds h
    match ds, h with
    | [], _ => rfl
  · intro xs hx
    have hp : Try.f9.params.toList = [] := rfl
    rw [hp] at hx ⊢
    match xs, hx with
    | [], _ => exact names_law
theorem branchNames_over : Rows.branchNamesRow.holds Try.pinned (OpenSpec.ofChange Rows.branchNamesSpec) :=
  OpenClaim.holds_of_wide 9 Try.f9 rfl rfl rfl rfl rfl rfl rfl ⟨rfl, rfl, rfl, rfl, rfl⟩ rfl rfl rfl rfl rfl (by kernel_rfl) Try.func9 (by kernel_rfl)
    (of_decide_eq_true (by kernel_rfl)) (by unfold Func.isWrapper; first | (rw [if_pos (by decide +kernel)]; kernel_rfl) | (rw [if_neg (by decide +kernel)]; exact ⟨rfl, rfl⟩))
    (fun os started H enc _ => branchNames_lifted os started H enc)
/-- The row, under a short name, for the claim. -/
theorem branchNames_holds : Rows.BranchNamesSaid := branchNames_over
#print axioms branchNames_holds
end Go.Proofs.Ytebkafjebnjcoaa

/- WindowExact: the law returns true. No condition but the law's own guard. -/
import Derived.Test.YtnmgmlmiijljmaaWk
set_option maxHeartbeats 8000000
set_option linter.unusedVariables false
set_option linter.unusedSimpArgs false
set_option maxRecDepth 20000
namespace Go.AX.Wn
open Go.Proofs Go.RowKit Go.IntWalk Go.AX.Br
def f4 (w : Hd) : List Int := [w.fr, w.to, w.to - 1, max 0 (w.fr - 1)]
def gat (P : List Int) (W : List Hd) (i : Nat) : List Int := P ++ (W.take i).flatMap f4
theorem gat_succ {P : List Int} {W : List Hd} {i : Nat} {w : Hd} (hw : W[i]? = some w) : gat P W (i + 1) = gat P W i ++ f4 w := by
  unfold gat
  rw [List.take_add_one, hw]; simp
theorem flat_len4 : ∀ W : List Hd, (W.flatMap f4).length = 4 * W.length
  | [] => rfl
  | w :: W => by rw [List.flatMap_cons, List.length_append, flat_len4 W]; simp [f4]; omega
theorem gat_len (P : List Int) (W : List Hd) (i : Nat) : (gat P W i).length ≤ P.length + 4 * W.length := by
  unfold gat
  rw [List.length_append, flat_len4, List.length_take]; omega
theorem gat_ok {P : List Int} {W : List Hd} (hP : ∀ x ∈ P, 0 ≤ x ∧ x ≤ 1000000) (hW : ∀ w ∈ W, 0 ≤ w.fr ∧ w.fr < w.to ∧ w.to ≤ 1000000) (i : Nat) : ∀ x ∈ gat P W i, 0 ≤ x ∧ x ≤ 1000000 := fun x hx => by
  unfold gat at hx
  rcases List.mem_append.1 hx with hx | hx
  · exact hP x hx
  · obtain ⟨w, h1, h2⟩ := List.mem_flatMap.1 hx
    have := hW w (List.mem_of_mem_take h1)
    simp only [f4, List.mem_cons, List.not_mem_nil, or_false] at h2
    omega
def inn (W : List Hd) (x : Int) : Bool := W.any fun w => decide (w.fr ≤ x) && decide (x < w.to)
theorem inn_cov (W : List Hd) (x : Int) : inn W x = true ↔ cov W x := by
  simp [inn, cov]
theorem inn_succ {W : List Hd} {i : Nat} {w : Hd} (hw : W[i]? = some w) (x : Int) : inn (W.take (i + 1)) x = (inn (W.take i) x || (decide (w.fr ≤ x) && decide (x < w.to))) := by
  unfold inn
  rw [List.take_add_one, hw]; simp
theorem exact_law (l : List Hd) (b : ByteArray) (t : Int) (hl : Sm l.length) : Spec Try.prog 8 [.d (.sl (l.map hD)), .d (.str b), .d (.int .i64 t)] [] (.d (.bool true)) [] := by
  have a0 := asked_ref l t t hl
  rw [asked2] at a0
  refine spec_of_ev (fn := Try.f8) DX_ok 3000 Try.func8 rfl rfl (Nat.le_of_ble_eq_true rfl) ?_
  simp (maxSteps := 4000000) -implicitDefEqProofs only [Try.f8, go_sem]
  refine ecall0 _ alive_spec (by simp only [go_sem]) (by simp only [go_sem]) ?_
  simp (maxSteps := 4000000) -implicitDefEqProofs only [go_sem, Nat.reduceAdd, Nat.reduceSub, Nat.reduceLT, Nat.reduceLeDiff, Nat.reduceEqDiff, ↓reduceIte]
  refine ecall0 _ (great_ref l hl) (by simp only [go_sem]) (by simp only [go_sem]) ?_
  simp (maxSteps := 4000000) -implicitDefEqProofs only [go_sem, Nat.reduceAdd, Nat.reduceSub, Nat.reduceLT, Nat.reduceLeDiff, Nat.reduceEqDiff, ↓reduceIte]
  cases h1 : wgreat l
  case true =>
    simp (maxSteps := 4000000) -implicitDefEqProofs only [go_sem, h1, Option.some.injEq, forall_eq', and_true, true_and, Bool.not_true, Bool.not_false, decide_true, Nat.reduceAdd, Nat.reduceSub, Nat.reduceLT, Nat.reduceLeDiff, Nat.reduceEqDiff, ↓reduceIte]
    exact wk_bool rfl
  cases h2 : decide (100 < (b.size : Int))
  case true =>
    simp (maxSteps := 4000000) -implicitDefEqProofs only [go_sem, h1, h2, Option.some.injEq, forall_eq', and_true, true_and, Bool.not_true, Bool.not_false, decide_true, Nat.reduceAdd, Nat.reduceSub, Nat.reduceLT, Nat.reduceLeDiff, Nat.reduceEqDiff, ↓reduceIte]
    exact wk_bool rfl
  simp (maxSteps := 4000000) -implicitDefEqProofs only [go_sem, h1, h2, Option.some.injEq, forall_eq', and_true, true_and, Bool.not_true, Bool.not_false, decide_true, Nat.reduceAdd, Nat.reduceSub, Nat.reduceLT, Nat.reduceLeDiff, Nat.reduceEqDiff, ↓reduceIte]
  refine ecall0 _ a0 (by simp only [go_sem]) (by simp only [go_sem]) ?_
  by_cases h3 : asked l [t] = 0
  case neg =>
    have d1 : (asked l [t] != 0) = true := by simp [h3]
    simp (maxSteps := 4000000) -implicitDefEqProofs only [go_sem, d1, Option.some.injEq, forall_eq', and_true, true_and, Bool.not_true, Bool.not_false, decide_true, Nat.reduceAdd, Nat.reduceSub, Nat.reduceLT, Nat.reduceLeDiff, Nat.reduceEqDiff, ↓reduceIte]
    exact wk_bool rfl
  have d1 : (asked l [t] != 0) = false := by simp [h3]
  obtain ⟨g1, g2⟩ := asked_ok h3
  have ht := g2 t (by simp)
  have O := okw b g1
  have ol := O.len
  have wl := winL_len l b
  have C := O.can
  have hWb : ∀ w ∈ winL l b, 0 ≤ w.fr ∧ w.fr < w.to ∧ w.to ≤ 1000000 := fun w hw => O.bounds hw
  have hin : ∀ x, inn (winL l b) x = held l b x := fun x => by rw [Bool.eq_iff_iff, inn_cov, O.heldC]
  have a2 := windowsR_own l b hl
  have e2 : windowsR l b = (winL l b, 0) := by rw [windowsR, if_neg (by omega)]
  rw [e2] at a2
  obtain ⟨W, hW⟩ : ∃ W, W = winL l b := ⟨_, rfl⟩
  rw [← hW] at a2 wl hWb hin C
  have c0 : ((0 : Int) != 0) = false := rfl
  simp (maxSteps := 4000000) -implicitDefEqProofs only [go_sem, d1, Option.some.injEq, forall_eq', and_true, true_and, Bool.not_true, Bool.not_false, decide_true, Nat.reduceAdd, Nat.reduceSub, Nat.reduceLT, Nat.reduceLeDiff, Nat.reduceEqDiff, ↓reduceIte]
  refine ecall0 _ a2 (by simp only [go_sem]) (by simp only [go_sem]) ?_
  simp (maxSteps := 4000000) -implicitDefEqProofs only [go_sem, c0, Option.some.injEq, forall_eq', and_true, true_and, Bool.not_true, Bool.not_false, decide_true, Nat.reduceAdd, Nat.reduceSub, Nat.reduceLT, Nat.reduceLeDiff, Nat.reduceEqDiff, ↓reduceIte]
  refine eloop (S := Nat) (fun i => mkE 223 [(0, .d (.sl (l.map hD))), (1, .d (.str b)), (7, .d (.bool true)), (8, .d (.sl (W.map hD))), (10, .own 0), (11, .d (.int .i64 i))]) (fun i => [.row 1 ((gat [t] W i).map iD)]) (fun i => i ≤ W.length) (fun i => W.length - i) 0 (by omega) (by
    have e0 : (gat [t] W 0).map iD = [[.int .i64 t]] := by simp [gat, iD]
    rw [e0]
    exact (Wk.via1 0 (by (simp only [go_sem, ↓reduceIte]) <;> trivial) (by simp (maxSteps := 4000000) -implicitDefEqProofs only [go_sem, Nat.reduceAdd, Nat.reduceSub, Nat.reduceLT, Nat.reduceLeDiff, Nat.reduceEqDiff, ↓reduceIte]) (by simp) (by (simp only [go_sem]) <;> trivial) (by trivial))) ?_
  intro i hi
  have gl := gat_len [t] W i
  rcases Nat.lt_or_ge i W.length with h4 | h4
  · have f1 : decide ((i : Int) < W.length) = true := by simp; omega
    obtain ⟨w, hw⟩ : ∃ x, W[i]? = some x := ⟨W[i]'h4, List.getElem?_eq_getElem _⟩
    have wb := hWb w (List.mem_of_getElem? hw)
    have n1 : (0 ≤ (i : Int) ∧ (i : Int) < W.length) = True := eq_true (by omega)
    have n2 : (i < W.length) = True := eq_true (by omega)
    have w1 : IntKind.i64.wrap ((i : Int) + 1) = ((i + 1 : Nat) : Int) := by rw [i64_in _ (by omega)]; simp
    have w2 : IntKind.i64.wrap (w.to - 1) = w.to - 1 := i64_in _ (by omega)
    have w3 : IntKind.i64.wrap (w.fr - 1) = w.fr - 1 := i64_in _ (by omega)
    have mx : (if (0 : Int) < w.fr - 1 then w.fr - 1 else 0) = max 0 (w.fr - 1) := by split <;> omega
    have k1 : decide (w.fr < 0) = false := decide_eq_false (by omega)
    have k2 : decide (w.to ≤ w.fr) = false := decide_eq_false (by omega)
    have k3 : decide (1000000 < w.to) = false := decide_eq_false (by omega)
    have e3 := gat_succ (P := [t]) hw
    have e4 : (gat [t] W i).map iD ++ [[D.int .i64 w.fr], [D.int .i64 w.to], [D.int .i64 (w.to - 1)], [D.int .i64 (max 0 (w.fr - 1))]] = (gat [t] W i ++ f4 w).map iD := by simp [iD, f4]
    simp only [List.length_cons, List.length_nil] at gl
    cases i with
    | zero =>
      have k4 : decide ((0 : Int) < ((0 : Nat) : Int)) = false := rfl
      simp (maxSteps := 4000000) -implicitDefEqProofs only [go_sem, f1, Option.some.injEq, forall_eq', and_true, true_and, Bool.not_true, Bool.not_false, decide_true, Nat.reduceAdd, Nat.reduceSub, Nat.reduceLT, Nat.reduceLeDiff, Nat.reduceEqDiff, ↓reduceIte]
      refine DX.plain (.take 0 false (.take 1 false (.take 2 false (.take 3 false (.take 4 false (.take 5 false (.take 6 false (.take 7 false (.take 8 false (.take 9 false (.take 10 false (.take 11 false (.take 12 false (.take 13 false (.take 14 false (.take 15 false (.take 16 false (.take 17 false (.take 18 false (.take 19 false (.take 20 false (.take 21 false (.take 22 false (.take 23 false (.take 24 false (.take 25 false (.take 26 false (.take 27 false (.take 28 false (.take 29 false (.take 30 false (.take 31 false (.take 32 false (.take 33 false (.take 34 false (.take 35 false (.take 36 false (.take 37 false (.take 38 false (.take 39 false (.take 40 false (.take 41 false (.take 42 false (.take 43 false (.take 44 false .done))))))))))))))))))))))))))))))))))))))))))))) (by kernel_rfl) (by kernel_rfl) Ty.mixed ?_
      simp (maxSteps := 4000000) -implicitDefEqProofs only [go_sem, n1, n2, hw, k1, k2, k3, k4, Option.some.injEq, forall_eq', and_true, true_and, Bool.not_true, Bool.not_false, decide_true, Nat.reduceAdd, Nat.reduceSub, Nat.reduceLT, Nat.reduceLeDiff, Nat.reduceEqDiff, ↓reduceIte]
      refine DX.plain (.take 0 true (.take 1 false (.take 2 false (.take 3 false (.take 4 false (.take 5 false (.take 6 false (.take 7 false (.take 8 false (.take 9 false (.take 10 false (.take 11 false (.take 12 false (.take 13 false (.take 14 false (.take 15 false (.take 16 false (.take 17 false (.take 18 false (.take 19 false (.take 20 false (.take 21 false (.take 22 false (.take 23 false (.run [24] (fun _ => [true]) fun _ => (.run [25] (fun _ => [false]) fun _ => (.take 26 false .done))))))))))))))))))))))))))) (by kernel_rfl) (by kernel_rfl) Ty.mixed ?_
      simp (maxSteps := 4000000) -implicitDefEqProofs only [go_sem, n1, n2, hw, w2, w3, mx, Option.some.injEq, forall_eq', and_true, true_and, Bool.not_true, Bool.not_false, decide_true, Nat.reduceAdd, Nat.reduceSub, Nat.reduceLT, Nat.reduceLeDiff, Nat.reduceEqDiff, ↓reduceIte]
      refine ⟨⟨fun e he => by simp at he; rcases he with rfl | rfl | rfl | rfl <;> rfl, by omega, by omega⟩, ?_⟩
      simp (maxSteps := 4000000) -implicitDefEqProofs only [go_sem, w1, Option.some.injEq, forall_eq', and_true, true_and, Bool.not_true, Bool.not_false, decide_true, Nat.reduceAdd, Nat.reduceSub, Nat.reduceLT, Nat.reduceLeDiff, Nat.reduceEqDiff, ↓reduceIte]
      rw [e4]
      exact .mk (0 + 1) (by omega) (by omega) (by rw [e3]; exact (Wk.via1 2 (by (simp only [go_sem, ↓reduceIte]) <;> trivial) (by simp (maxSteps := 4000000) -implicitDefEqProofs only [go_sem, Nat.reduceAdd, Nat.reduceSub, Nat.reduceLT, Nat.reduceLeDiff, Nat.reduceEqDiff, ↓reduceIte]) (by simp) (by (simp only [go_sem]) <;> trivial) (by trivial)))
    | succ k =>
      obtain ⟨v, hv⟩ : ∃ x, W[k]? = some x := ⟨W[k]'(by omega), List.getElem?_eq_getElem _⟩
      have n3 : (0 ≤ (k : Int) ∧ (k : Int) < W.length) = True := eq_true (by omega)
      have n4 : (k < W.length) = True := eq_true (by omega)
      have w4 : IntKind.i64.wrap (((k + 1 : Nat) : Int) - 1) = (k : Int) := by rw [i64_in _ (by omega)]; omega
      have k4 : decide ((0 : Int) < ((k + 1 : Nat) : Int)) = true := decide_eq_true (by omega)
      have k5 : decide (w.fr ≤ v.to) = false := decide_eq_false (by
        obtain ⟨q1, q2⟩ := List.getElem?_eq_some_iff.1 hv
        obtain ⟨q3, q4⟩ := List.getElem?_eq_some_iff.1 hw
        have := (List.pairwise_iff_getElem.1 C.1) k (k + 1) q1 q3 (by omega)
        rw [q2, q4] at this; omega)
      simp (maxSteps := 4000000) -implicitDefEqProofs only [go_sem, f1, Option.some.injEq, forall_eq', and_true, true_and, Bool.not_true, Bool.not_false, decide_true, Nat.reduceAdd, Nat.reduceSub, Nat.reduceLT, Nat.reduceLeDiff, Nat.reduceEqDiff, ↓reduceIte]
      refine DX.plain (.take 0 false (.take 1 false (.take 2 false (.take 3 false (.take 4 false (.take 5 false (.take 6 false (.take 7 false (.take 8 false (.take 9 false (.take 10 false (.take 11 false (.take 12 false (.take 13 false (.take 14 false (.take 15 false (.take 16 false (.take 17 false (.take 18 false (.take 19 false (.take 20 false (.take 21 false (.take 22 false (.take 23 false (.take 24 false (.take 25 false (.take 26 false (.take 27 false (.take 28 false (.take 29 false (.take 30 false (.take 31 false (.take 32 false (.take 33 false (.take 34 false (.take 35 false (.take 36 false (.take 37 false (.take 38 false (.take 39 false (.take 40 false (.take 41 false (.take 42 false (.take 43 false (.take 44 false .done))))))))))))))))))))))))))))))))))))))))))))) (by kernel_rfl) (by kernel_rfl) Ty.mixed ?_
      simp (maxSteps := 4000000) -implicitDefEqProofs only [go_sem, n1, n2, hw, k1, k2, k3, k4, w4, n3, n4, hv, k5, Option.some.injEq, forall_eq', and_true, true_and, Bool.not_true, Bool.not_false, decide_true, Nat.reduceAdd, Nat.reduceSub, Nat.reduceLT, Nat.reduceLeDiff, Nat.reduceEqDiff, ↓reduceIte]
      refine DX.plain (.take 0 true (.take 1 false (.take 2 false (.take 3 false (.take 4 false (.take 5 false (.take 6 false (.take 7 false (.take 8 false (.take 9 false (.take 10 false (.take 11 false (.take 12 false (.take 13 false (.take 14 false (.take 15 false (.take 16 false (.take 17 false (.take 18 false (.take 19 false (.take 20 false (.take 21 false (.take 22 false (.take 23 false (.run [24] (fun _ => [true]) fun _ => (.run [25] (fun _ => [false]) fun _ => (.take 26 false .done))))))))))))))))))))))))))) (by kernel_rfl) (by kernel_rfl) Ty.mixed ?_
      simp (maxSteps := 4000000) -implicitDefEqProofs only [go_sem, n1, n2, hw, w2, w3, mx, Option.some.injEq, forall_eq', and_true, true_and, Bool.not_true, Bool.not_false, decide_true, Nat.reduceAdd, Nat.reduceSub, Nat.reduceLT, Nat.reduceLeDiff, Nat.reduceEqDiff, ↓reduceIte]
      refine ⟨⟨fun e he => by simp at he; rcases he with rfl | rfl | rfl | rfl <;> rfl, by omega, by omega⟩, ?_⟩
      simp (maxSteps := 4000000) -implicitDefEqProofs only [go_sem, w1, Option.some.injEq, forall_eq', and_true, true_and, Bool.not_true, Bool.not_false, decide_true, Nat.reduceAdd, Nat.reduceSub, Nat.reduceLT, Nat.reduceLeDiff, Nat.reduceEqDiff, ↓reduceIte]
      rw [e4]
      exact .mk (k + 1 + 1) (by omega) (by omega) (by rw [e3]; exact (Wk.via1 2 (by (simp only [go_sem, ↓reduceIte]) <;> trivial) (by simp (maxSteps := 4000000) -implicitDefEqProofs only [go_sem, Nat.reduceAdd, Nat.reduceSub, Nat.reduceLT, Nat.reduceLeDiff, Nat.reduceEqDiff, ↓reduceIte]) (by simp) (by (simp only [go_sem]) <;> trivial) (by trivial)))
  have f1 : decide ((i : Int) < W.length) = false := by simp; omega
  simp (maxSteps := 4000000) -implicitDefEqProofs only [go_sem, f1, Option.some.injEq, forall_eq', and_true, true_and, Bool.not_true, Bool.not_false, decide_true, Nat.reduceAdd, Nat.reduceSub, Nat.reduceLT, Nat.reduceLeDiff, Nat.reduceEqDiff, ↓reduceIte]
  have eW : gat [t] W i = [t] ++ W.flatMap f4 := by unfold gat; rw [List.take_of_length_le h4]
  rw [eW]
  obtain ⟨P, hP⟩ : ∃ P, P = [t] ++ W.flatMap f4 := ⟨_, rfl⟩
  have hPl : P.length = 1 + 4 * W.length := by rw [hP, List.length_append, flat_len4]; rfl
  have hPv : ∀ x ∈ P, 0 ≤ x ∧ x ≤ 1000000 := fun x hx => by
    have h := gat_ok (P := [t]) (W := W) (by simpa using ht) hWb W.length
    refine h x ?_
    unfold gat
    rw [List.take_length, ← hP]; exact hx
  rw [← hP]
  clear hi h4 f1 gl eW
  refine eloop (S := Nat) (fun i => mkE 223 [(0, .d (.sl (l.map hD))), (1, .d (.str b)), (7, .d (.bool true)), (8, .d (.sl (W.map hD))), (10, .own 0), (12, .d (.int .i64 i))]) (fun i => [.row 1 ((gat P l i).map iD)]) (fun i => i ≤ l.length) (fun i => l.length - i) 0 (by omega) (by
    have e0 : gat P l 0 = P := by simp [gat]
    rw [e0]
    exact (Wk.via1 0 (by (simp only [go_sem, ↓reduceIte]) <;> trivial) (by simp (maxSteps := 4000000) -implicitDefEqProofs only [go_sem, Nat.reduceAdd, Nat.reduceSub, Nat.reduceLT, Nat.reduceLeDiff, Nat.reduceEqDiff, ↓reduceIte]) (by simp) (by (simp only [go_sem]) <;> trivial) (by trivial))) ?_
  intro i hi
  have gl := gat_len P l i
  rcases Nat.lt_or_ge i l.length with h4 | h4
  · have f1 : decide ((i : Int) < l.length) = true := by simp; omega
    obtain ⟨w, hw⟩ : ∃ x, l[i]? = some x := ⟨l[i]'h4, List.getElem?_eq_getElem _⟩
    have wb := O.val w (List.mem_of_getElem? hw)
    have n1 : (0 ≤ (i : Int) ∧ (i : Int) < l.length) = True := eq_true (by omega)
    have n2 : (i < l.length) = True := eq_true (by omega)
    have w1 : IntKind.i64.wrap ((i : Int) + 1) = ((i + 1 : Nat) : Int) := by rw [i64_in _ (by omega)]; simp
    have w2 : IntKind.i64.wrap (w.to - 1) = w.to - 1 := i64_in _ (by omega)
    have w3 : IntKind.i64.wrap (w.fr - 1) = w.fr - 1 := i64_in _ (by omega)
    have mx : (if (0 : Int) < w.fr - 1 then w.fr - 1 else 0) = max 0 (w.fr - 1) := by split <;> omega
    have e3 := gat_succ (P := P) hw
    have e4 : (gat P l i).map iD ++ [[D.int .i64 w.fr], [D.int .i64 w.to], [D.int .i64 (w.to - 1)], [D.int .i64 (max 0 (w.fr - 1))]] = (gat P l i ++ f4 w).map iD := by simp [iD, f4]
    simp (maxSteps := 4000000) -implicitDefEqProofs only [go_sem, f1, Option.some.injEq, forall_eq', and_true, true_and, Bool.not_true, Bool.not_false, decide_true, Nat.reduceAdd, Nat.reduceSub, Nat.reduceLT, Nat.reduceLeDiff, Nat.reduceEqDiff, ↓reduceIte]
    refine DX.plain (.take 0 true (.take 1 false (.take 2 false (.take 3 false (.take 4 false (.take 5 false (.take 6 false (.take 7 false (.take 8 false (.take 9 false (.take 10 false (.take 11 false (.take 12 false (.take 13 false (.take 14 false (.take 15 false (.take 16 false (.take 17 false (.take 18 false (.take 19 false (.take 20 false (.take 21 false (.take 22 false (.take 23 false (.run [24] (fun _ => [true]) fun _ => (.run [25] (fun _ => [false]) fun _ => (.take 26 false .done))))))))))))))))))))))))))) (by kernel_rfl) (by kernel_rfl) Ty.mixed ?_
    simp (maxSteps := 4000000) -implicitDefEqProofs only [go_sem, n1, n2, hw, w2, w3, mx, Option.some.injEq, forall_eq', and_true, true_and, Bool.not_true, Bool.not_false, decide_true, Nat.reduceAdd, Nat.reduceSub, Nat.reduceLT, Nat.reduceLeDiff, Nat.reduceEqDiff, ↓reduceIte]
    refine ⟨⟨fun e he => by simp at he; rcases he with rfl | rfl | rfl | rfl <;> rfl, by omega, by omega⟩, ?_⟩
    simp (maxSteps := 4000000) -implicitDefEqProofs only [go_sem, w1, Option.some.injEq, forall_eq', and_true, true_and, Bool.not_true, Bool.not_false, decide_true, Nat.reduceAdd, Nat.reduceSub, Nat.reduceLT, Nat.reduceLeDiff, Nat.reduceEqDiff, ↓reduceIte]
    rw [e4]
    exact .mk (i + 1) (by omega) (by omega) (by rw [e3]; exact (Wk.via1 2 (by (simp only [go_sem, ↓reduceIte]) <;> trivial) (by simp (maxSteps := 4000000) -implicitDefEqProofs only [go_sem, Nat.reduceAdd, Nat.reduceSub, Nat.reduceLT, Nat.reduceLeDiff, Nat.reduceEqDiff, ↓reduceIte]) (by simp) (by (simp only [go_sem]) <;> trivial) (by trivial)))
  have f1 : decide ((i : Int) < l.length) = false := by simp; omega
  have hKv := gat_ok hPv (fun w hw => O.val w hw) i
  obtain ⟨K, hK⟩ : ∃ K, K = gat P l i := ⟨_, rfl⟩
  rw [← hK] at gl hKv ⊢
  clear hK hi h4
  simp (maxSteps := 4000000) -implicitDefEqProofs only [go_sem, f1, Option.some.injEq, forall_eq', and_true, true_and, Bool.not_true, Bool.not_false, decide_true, Nat.reduceAdd, Nat.reduceSub, Nat.reduceLT, Nat.reduceLeDiff, Nat.reduceEqDiff, ↓reduceIte]
  clear f1
  refine eloop (S := Nat) (fun k => mkE 223 [(0, .d (.sl (l.map hD))), (1, .d (.str b)), (7, .d (.bool true)), (8, .d (.sl (W.map hD))), (10, .d (.sl (K.map iD))), (13, .d (.int .i64 k))]) (fun i => []) (fun k => k ≤ K.length) (fun k => K.length - k) 0 (by omega) (Wk.trans (Wk.frz 0 rfl) (by
    simp only [go_sem, ↓reduceIte]
    exact (Wk.forget (by (simp only [go_sem]) <;> trivial) (by simp only [go_sem])))) ?_
  intro k hk
  rcases Nat.lt_or_ge k K.length with h4 | h4
  case inr =>
    have f1 : decide ((k : Int) < K.length) = false := by simp; omega
    simp (maxSteps := 4000000) -implicitDefEqProofs only [go_sem, f1, Option.some.injEq, forall_eq', and_true, true_and, Bool.not_true, Bool.not_false, decide_true, Nat.reduceAdd, Nat.reduceSub, Nat.reduceLT, Nat.reduceLeDiff, Nat.reduceEqDiff, ↓reduceIte]
    exact wk_bool rfl
  have f1 : decide ((k : Int) < K.length) = true := by simp; omega
  obtain ⟨x, hx⟩ : ∃ x, K[k]? = some x := ⟨K[k]'h4, List.getElem?_eq_getElem _⟩
  have xv := hKv x (List.mem_of_getElem? hx)
  have n1 : (0 ≤ (k : Int) ∧ (k : Int) < K.length) = True := eq_true (by omega)
  have n2 : (k < K.length) = True := eq_true (by omega)
  have w1 : IntKind.i64.wrap ((k : Int) + 1) = ((k + 1 : Nat) : Int) := by rw [i64_in _ (by omega)]; simp
  have q1 := frozen_own l b x hl
  have q2 := held_ref l b x hl
  have m1 : frozenR l b x = (held l b x, 0) := by
    have b1 : badT x = false := by simp only [badT, Bool.or_eq_false_iff, decide_eq_false_iff_not]; omega
    rw [frozenR, if_neg (by simp [asked, g1, b1])]
  rw [m1] at q1
  have hix := hin x
  obtain ⟨H, hH⟩ : ∃ H, H = held l b x := ⟨_, rfl⟩
  rw [← hH] at q1 q2 hix
  have cH : (H == H) = true := by simp
  simp (maxSteps := 4000000) -implicitDefEqProofs only [go_sem, f1, Option.some.injEq, forall_eq', and_true, true_and, Bool.not_true, Bool.not_false, decide_true, Nat.reduceAdd, Nat.reduceSub, Nat.reduceLT, Nat.reduceLeDiff, Nat.reduceEqDiff, ↓reduceIte]
  refine eloop (S := Nat) (fun i => mkE 223 [(0, .d (.sl (l.map hD))), (1, .d (.str b)), (7, .d (.bool true)), (8, .d (.sl (W.map hD))), (10, .d (.sl (K.map iD))), (13, .d (.int .i64 k)), (14, .d (.bool (inn (W.take i) x))), (15, .d (.int .i64 i))]) (fun i => []) (fun i => i ≤ W.length) (fun i => W.length - i) 0 (by omega) (by
    have e0 : inn (W.take 0) x = false := by simp [inn]
    rw [e0]; exact (Wk.forget (by (simp only [go_sem]) <;> trivial) (by simp only [go_sem]))) ?_
  intro i hi
  rcases Nat.lt_or_ge i W.length with h5 | h5
  case inr =>
    have f2 : decide ((i : Int) < W.length) = false := by simp; omega
    rw [List.take_of_length_le h5, hix]
    simp (maxSteps := 4000000) -implicitDefEqProofs only [go_sem, f2, n1, n2, hx, Option.some.injEq, forall_eq', and_true, true_and, Bool.not_true, Bool.not_false, decide_true, Nat.reduceAdd, Nat.reduceSub, Nat.reduceLT, Nat.reduceLeDiff, Nat.reduceEqDiff, ↓reduceIte]
    refine ecall0 _ q1 (by simp only [go_sem]) (by simp only [go_sem]) ?_
    simp (maxSteps := 4000000) -implicitDefEqProofs only [go_sem, c0, cH, n1, n2, hx, Option.some.injEq, forall_eq', and_true, true_and, Bool.not_true, Bool.not_false, decide_true, Nat.reduceAdd, Nat.reduceSub, Nat.reduceLT, Nat.reduceLeDiff, Nat.reduceEqDiff, ↓reduceIte]
    refine ecall0 _ q2 (by simp only [go_sem]) (by simp only [go_sem]) ?_
    simp (maxSteps := 4000000) -implicitDefEqProofs only [go_sem, cH, w1, Option.some.injEq, forall_eq', and_true, true_and, Bool.not_true, Bool.not_false, decide_true, Nat.reduceAdd, Nat.reduceSub, Nat.reduceLT, Nat.reduceLeDiff, Nat.reduceEqDiff, ↓reduceIte]
    exact .mk (k + 1) (by omega) (by omega) (Wk.forget (by (simp only [go_sem]) <;> trivial) (by simp only [go_sem]))
  have f2 : decide ((i : Int) < W.length) = true := by simp; omega
  obtain ⟨w, hw⟩ : ∃ x, W[i]? = some x := ⟨W[i]'h5, List.getElem?_eq_getElem _⟩
  have n3 : (0 ≤ (i : Int) ∧ (i : Int) < W.length) = True := eq_true (by omega)
  have n4 : (i < W.length) = True := eq_true (by omega)
  have w2 : IntKind.i64.wrap ((i : Int) + 1) = ((i + 1 : Nat) : Int) := by rw [i64_in _ (by omega)]; simp
  have ins := inn_succ hw x
  obtain ⟨I, hI⟩ : ∃ I, I = inn (W.take i) x := ⟨_, rfl⟩
  rw [← hI] at ins ⊢
  cases I with
  | true =>
    simp (maxSteps := 4000000) -implicitDefEqProofs only [go_sem, f2, Option.some.injEq, forall_eq', and_true, true_and, Bool.not_true, Bool.not_false, decide_true, Nat.reduceAdd, Nat.reduceSub, Nat.reduceLT, Nat.reduceLeDiff, Nat.reduceEqDiff, ↓reduceIte]
    refine DX.plain (.take 0 false (.take 1 false (.take 2 false (.take 3 false (.take 4 false (.take 5 false (.take 6 false (.take 7 false (.take 8 false (.take 9 false (.take 10 false (.take 11 false (.take 12 false (.take 13 false (.take 14 false (.take 15 false (.take 16 false (.take 17 false (.take 18 false (.take 19 false (.take 20 false (.take 21 false (.take 22 false (.take 23 false (.take 24 false (.take 25 false .done)))))))))))))))))))))))))) (by kernel_rfl) (by kernel_rfl) Ty.mixed ?_
    simp (maxSteps := 4000000) -implicitDefEqProofs only [go_sem, n1, n2, n3, n4, hx, hw, Option.some.injEq, forall_eq', and_true, true_and, Bool.not_true, Bool.not_false, decide_true, Nat.reduceAdd, Nat.reduceSub, Nat.reduceLT, Nat.reduceLeDiff, Nat.reduceEqDiff, ↓reduceIte]
    simp (maxSteps := 4000000) -implicitDefEqProofs only [go_sem, w2, Option.some.injEq, forall_eq', and_true, true_and, Bool.not_true, Bool.not_false, decide_true, Nat.reduceAdd, Nat.reduceSub, Nat.reduceLT, Nat.reduceLeDiff, Nat.reduceEqDiff, ↓reduceIte]
    exact .mk (i + 1) (by omega) (by omega) (by rw [ins]; simp only [Bool.true_or]; exact (Wk.forget (by (simp only [go_sem]) <;> trivial) (by simp only [go_sem])))
  | false =>
    simp only [Bool.false_or] at ins
    cases p1 : decide (w.fr ≤ x) with
    | false =>
      rw [p1] at ins
      simp (maxSteps := 4000000) -implicitDefEqProofs only [go_sem, f2, Option.some.injEq, forall_eq', and_true, true_and, Bool.not_true, Bool.not_false, decide_true, Nat.reduceAdd, Nat.reduceSub, Nat.reduceLT, Nat.reduceLeDiff, Nat.reduceEqDiff, ↓reduceIte]
      refine DX.plain (.take 0 false (.take 1 false (.take 2 false (.take 3 false (.take 4 false (.take 5 false (.take 6 false (.take 7 false (.take 8 false (.take 9 false (.take 10 false (.take 11 false (.take 12 false (.take 13 false (.take 14 false (.take 15 false (.take 16 false (.take 17 false (.take 18 false (.take 19 false (.take 20 false (.take 21 false (.take 22 false (.take 23 false (.take 24 false (.take 25 false .done)))))))))))))))))))))))))) (by kernel_rfl) (by kernel_rfl) Ty.mixed ?_
      simp (maxSteps := 4000000) -implicitDefEqProofs only [go_sem, n1, n2, n3, n4, hx, hw, p1, Option.some.injEq, forall_eq', and_true, true_and, Bool.not_true, Bool.not_false, decide_true, Nat.reduceAdd, Nat.reduceSub, Nat.reduceLT, Nat.reduceLeDiff, Nat.reduceEqDiff, ↓reduceIte]
      simp (maxSteps := 4000000) -implicitDefEqProofs only [go_sem, w2, Option.some.injEq, forall_eq', and_true, true_and, Bool.not_true, Bool.not_false, decide_true, Nat.reduceAdd, Nat.reduceSub, Nat.reduceLT, Nat.reduceLeDiff, Nat.reduceEqDiff, ↓reduceIte]
      exact .mk (i + 1) (by omega) (by omega) (by rw [ins]; simp only [Bool.false_and]; exact (Wk.forget (by (simp only [go_sem]) <;> trivial) (by simp only [go_sem])))
    | true =>
      rw [p1] at ins
      simp only [Bool.true_and] at ins
      simp (maxSteps := 4000000) -implicitDefEqProofs only [go_sem, f2, Option.some.injEq, forall_eq', and_true, true_and, Bool.not_true, Bool.not_false, decide_true, Nat.reduceAdd, Nat.reduceSub, Nat.reduceLT, Nat.reduceLeDiff, Nat.reduceEqDiff, ↓reduceIte]
      refine DX.plain (.take 0 false (.take 1 false (.take 2 false (.take 3 false (.take 4 false (.take 5 false (.take 6 false (.take 7 false (.take 8 false (.take 9 false (.take 10 false (.take 11 false (.take 12 false (.take 13 false (.take 14 false (.take 15 false (.take 16 false (.take 17 false (.take 18 false (.take 19 false (.take 20 false (.take 21 false (.take 22 false (.take 23 false (.take 24 false (.take 25 false .done)))))))))))))))))))))))))) (by kernel_rfl) (by kernel_rfl) Ty.mixed ?_
      simp (maxSteps := 4000000) -implicitDefEqProofs only [go_sem, n1, n2, n3, n4, hx, hw, p1, Option.some.injEq, forall_eq', and_true, true_and, Bool.not_true, Bool.not_false, decide_true, Nat.reduceAdd, Nat.reduceSub, Nat.reduceLT, Nat.reduceLeDiff, Nat.reduceEqDiff, ↓reduceIte]
      simp (maxSteps := 4000000) -implicitDefEqProofs only [go_sem, w2, Option.some.injEq, forall_eq', and_true, true_and, Bool.not_true, Bool.not_false, decide_true, Nat.reduceAdd, Nat.reduceSub, Nat.reduceLT, Nat.reduceLeDiff, Nat.reduceEqDiff, ↓reduceIte]
      exact .mk (i + 1) (by omega) (by omega) (by rw [ins]; exact (Wk.forget (by (simp only [go_sem]) <;> trivial) (by simp only [go_sem])))
end Go.AX.Wn
namespace Go.Proofs.Ytnmgmlmiijljmaa
open Go.AX Go.AX.Wn Go.RowKit
set_option maxRecDepth 100000 in
theorem windowExact_lifted (os : Os) (started : os.Started) (H : Type) (enc : TypeId × Value → H) :
    ReturnsInHanded {} Try.checked os 8 .any (Rows.windowExactSpec.pre6 enc Try.prog Try.f8 Rows.windowExactRow.domain false) (Rows.windowExactSpec.post enc Try.prog Try.f8 false true false false) := by
  refine Go.AX.lifted (C := Try.checked) (f := 8) (fn := Try.f8) (s := Rows.windowExactSpec) (rt := 4) (n := 8) (by kernel_rfl) (by kernel_rfl) Try.func8 rfl ?_ rfl (by kernel_rfl) (by kernel_rfl) (by kernel_rfl) (by kernel_rfl) os started H enc
    (ChangeSpec.witness6 (enc := enc) (C := Try.checked) false ⟨#[], #[.slice none 0 0, .string ByteArray.empty, .int .i64 0], []⟩ 8 (by kernel_rfl) (by kernel_rfl) (by kernel_rfl) (by kernel_rfl)) ?_
  · intro H ds h
    match ds, h with
    | [a0, a1, a2], _ => rfl
  · intro xs hx
    have hp : Try.f8.params.toList = [22, 9, 3] := rfl
    rw [hp] at hx ⊢
    have i0 : isA Try.prog 22 = false := by kernel_rfl
    have i1 : isA Try.prog 9 = false := by kernel_rfl
    have i2 : isA Try.prog 3 = false := by kernel_rfl
    rcases xs with _ | ⟨d0, _ | ⟨d1, _ | ⟨d2, _ | ⟨d3, xs⟩⟩⟩⟩ <;> simp only [Tyds, and_false] at hx
    obtain ⟨k0, k1, k2, _⟩ := hx
    obtain ⟨l, rfl, hl, wl⟩ := holds_of k0
    obtain ⟨b, rfl, hb⟩ := str_of k1
    obtain ⟨t, rfl, ht⟩ := int_of k2
    simp only [avs, i0, i1, i2, dv, Bool.false_eq_true, if_false, if_true, List.headD_cons, List.map_cons, List.map_nil]
    exact exact_law l b t hl
theorem windowExact_over : Rows.windowExactRow.holds Try.pinned (OpenSpec.ofChange Rows.windowExactSpec) :=
  OpenClaim.holds_of_wide 8 Try.f8 rfl rfl rfl rfl rfl rfl rfl ⟨rfl, rfl, rfl, rfl, rfl⟩ rfl rfl rfl rfl rfl (by kernel_rfl) Try.func8 (by kernel_rfl)
    (of_decide_eq_true (by kernel_rfl)) (by unfold Func.isWrapper; first | (rw [if_pos (by decide +kernel)]; kernel_rfl) | (rw [if_neg (by decide +kernel)]; exact ⟨rfl, rfl⟩))
    (fun os started H enc _ => windowExact_lifted os started H enc)
/-- The row, under a short name, for the claim. -/
theorem windowExact_holds : Rows.WindowExactSaid := windowExact_over
#print axioms windowExact_holds
end Go.Proofs.Ytnmgmlmiijljmaa

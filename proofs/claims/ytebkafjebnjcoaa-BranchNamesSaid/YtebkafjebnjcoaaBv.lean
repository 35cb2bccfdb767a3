/- Branches: Has, both sides. -/
import Derived.Test.YtebkafjebnjcoaaBu
set_option maxHeartbeats 8000000
set_option linter.unusedVariables false
set_option linter.unusedSimpArgs false
set_option maxRecDepth 20000
namespace Go.AX.Br
open Go.Proofs Go.RowKit Go.IntWalk
def hasL (V : List (List Mk)) (l : List Br) (m : Mk) : Nat → List ByteArray
  | 0 => []
  | n + 1 => hasL V l m n ++ if m ∈ V.getD n [] then [(l[n]?.map Br.name).getD ⟨#[]⟩] else []
def hasR (l : List Br) (cs : List Int) (m : Mk) : List ByteArray × Int :=
  if fits l cs ≠ 0 then ([], fits l cs) else if m.b < 0 ∨ (l.length : Int) ≤ m.b ∨ m.e < 0 ∨ cs.getD m.b.toNat 0 ≤ m.e then ([], 2) else (hasL (vw l cs) l m l.length, 0)
theorem hasL_len (V : List (List Mk)) (l : List Br) (m : Mk) : ∀ n, (hasL V l m n).length ≤ n
  | 0 => Nat.le_refl _
  | n + 1 => by
    have := hasL_len V l m n
    simp only [hasL, List.length_append]
    split <;> simp <;> omega
theorem has_own' (l : List Br) (cs : List Int) (m : Mk) (hl : Sm l.length) (hc : Sm cs.length) : Spec Try.prog 24 [.d (.sl (l.map bD)), .d (.sl (cs.map iD)), mkA m] [] (.tup [.d (.sl ((hasR l cs m).1.map sD)), .d (.int .i64 (hasR l cs m).2)]) [] := by
  obtain ⟨R, hR⟩ : ∃ R, R = hasR l cs m := ⟨_, rfl⟩
  rw [← hR]
  unfold hasR at hR
  refine spec_of_ev (fn := Try.f24) DX_ok 3000 Try.func24 rfl rfl (Nat.le_of_ble_eq_true rfl) ?_
  simp (maxSteps := 4000000) only [Try.f24, go_sem]
  refine ecall0 _ (fits_own l cs hl hc) (by simp only [go_sem]) (by simp only [go_sem]) ?_
  simp (maxSteps := 4000000) only [go_sem, Nat.reduceAdd, Nat.reduceSub, Nat.reduceLT, Nat.reduceLeDiff, Nat.reduceEqDiff, ↓reduceIte]
  by_cases h1 : fits l cs = 0
  case neg =>
    have d1 : (fits l cs != 0) = true := by simp [h1]
    rw [if_pos h1] at hR
    simp (maxSteps := 4000000) only [go_sem, d1, Option.some.injEq, forall_eq', and_true, true_and, Bool.not_true, Bool.not_false, decide_true, Nat.reduceAdd, Nat.reduceSub, Nat.reduceLT, Nat.reduceLeDiff, Nat.reduceEqDiff, ↓reduceIte]
    rw [hR]
    exact wk_dat (r' := .tup [.d (.sl []), .d (.int .i64 (fits l cs))]) (by simp only [go_sem]; rfl) rfl (by simp only [go_sem])
  have d1 : (fits l cs != 0) = false := by simp [h1]
  have g := good_of h1
  have hl8 := g.ok.len
  rw [if_neg (by omega)] at hR
  have bad : (m.b < 0 ∨ (l.length : Int) ≤ m.b ∨ m.e < 0 ∨ cs.getD m.b.toNat 0 ≤ m.e) → R = ([], 2) := fun h => by rw [hR, if_pos h]
  rcases Int.lt_or_le m.b 0 with h2 | h2
  · have d2 := decide_eq_true h2
    simp (maxSteps := 4000000) only [go_sem, d1, Option.some.injEq, forall_eq', and_true, true_and, Bool.not_true, Bool.not_false, decide_true, Nat.reduceAdd, Nat.reduceSub, Nat.reduceLT, Nat.reduceLeDiff, Nat.reduceEqDiff, ↓reduceIte]
    refine DX.plain (.take 0 false (.take 1 false (.take 2 false (.take 3 false (.take 4 false (.take 5 false (.take 6 false (.take 7 false (.take 8 false (.take 9 false (.take 10 false (.take 11 false (.take 12 false (.take 13 false (.take 14 false (.take 15 false (.take 16 false (.take 17 false (.take 18 false (.take 19 false (.take 20 false (.take 21 false (.take 22 false (.take 23 false (.take 24 false .done))))))))))))))))))))))))) (by kernel_rfl) (by kernel_rfl) Ty.mixed ?_
    simp (maxSteps := 4000000) only [go_sem, d2, Option.some.injEq, forall_eq', and_true, true_and, Bool.not_true, Bool.not_false, decide_true, Nat.reduceAdd, Nat.reduceSub, Nat.reduceLT, Nat.reduceLeDiff, Nat.reduceEqDiff, ↓reduceIte]
    rw [bad (.inl h2)]
    exact wk_dat (r' := .tup [.d (.sl []), .d (.int .i64 2)]) (by simp only [go_sem]; rfl) rfl (by simp only [go_sem])
  have d2 := decide_eq_false (Int.not_lt.2 h2)
  rcases Int.lt_or_le m.b l.length with h3 | h3
  case inr =>
    have d3 : decide ((l.length : Int) ≤ m.b) = true := by simpa using h3
    simp (maxSteps := 4000000) only [go_sem, d1, Option.some.injEq, forall_eq', and_true, true_and, Bool.not_true, Bool.not_false, decide_true, Nat.reduceAdd, Nat.reduceSub, Nat.reduceLT, Nat.reduceLeDiff, Nat.reduceEqDiff, ↓reduceIte]
    refine DX.plain (.take 0 false (.take 1 false (.take 2 false (.take 3 false (.take 4 false (.take 5 false (.take 6 false (.take 7 false (.take 8 false (.take 9 false (.take 10 false (.take 11 false (.take 12 false (.take 13 false (.take 14 false (.take 15 false (.take 16 false (.take 17 false (.take 18 false (.take 19 false (.take 20 false (.take 21 false (.take 22 false (.take 23 false (.take 24 false .done))))))))))))))))))))))))) (by kernel_rfl) (by kernel_rfl) Ty.mixed ?_
    simp (maxSteps := 4000000) only [go_sem, d2, d3, Option.some.injEq, forall_eq', and_true, true_and, Bool.not_true, Bool.not_false, decide_true, Nat.reduceAdd, Nat.reduceSub, Nat.reduceLT, Nat.reduceLeDiff, Nat.reduceEqDiff, ↓reduceIte]
    rw [bad (.inr (.inl h3))]
    exact wk_dat (r' := .tup [.d (.sl []), .d (.int .i64 2)]) (by simp only [go_sem]; rfl) rfl (by simp only [go_sem])
  have d3 : decide ((l.length : Int) ≤ m.b) = false := by simpa using h3
  rcases Int.lt_or_le m.e 0 with h4 | h4
  · have d4 := decide_eq_true h4
    simp (maxSteps := 4000000) only [go_sem, d1, Option.some.injEq, forall_eq', and_true, true_and, Bool.not_true, Bool.not_false, decide_true, Nat.reduceAdd, Nat.reduceSub, Nat.reduceLT, Nat.reduceLeDiff, Nat.reduceEqDiff, ↓reduceIte]
    refine DX.plain (.take 0 false (.take 1 false (.take 2 false (.take 3 false (.take 4 false (.take 5 false (.take 6 false (.take 7 false (.take 8 false (.take 9 false (.take 10 false (.take 11 false (.take 12 false (.take 13 false (.take 14 false (.take 15 false (.take 16 false (.take 17 false (.take 18 false (.take 19 false (.take 20 false (.take 21 false (.take 22 false (.take 23 false (.take 24 false .done))))))))))))))))))))))))) (by kernel_rfl) (by kernel_rfl) Ty.mixed ?_
    simp (maxSteps := 4000000) only [go_sem, d2, d3, d4, Option.some.injEq, forall_eq', and_true, true_and, Bool.not_true, Bool.not_false, decide_true, Nat.reduceAdd, Nat.reduceSub, Nat.reduceLT, Nat.reduceLeDiff, Nat.reduceEqDiff, ↓reduceIte]
    rw [bad (.inr (.inr (.inl h4)))]
    exact wk_dat (r' := .tup [.d (.sl []), .d (.int .i64 2)]) (by simp only [go_sem]; rfl) rfl (by simp only [go_sem])
  have d4 := decide_eq_false (Int.not_lt.2 h4)
  obtain ⟨mb, hmb⟩ : ∃ n : Nat, m.b = n := ⟨m.b.toNat, by omega⟩
  obtain ⟨c, hcm⟩ : ∃ c, cs[mb]? = some c := ⟨cs[mb]'(by have := g.len; omega), List.getElem?_eq_getElem _⟩
  have hcd : cs.getD m.b.toNat 0 = c := by rw [hmb, Int.toNat_natCast, List.getD_eq_getElem?_getD, hcm]; rfl
  have n1 : (0 ≤ m.b ∧ m.b < (cs.length : Int)) = True := eq_true (by have := g.len; omega)
  have n2 : (mb < cs.length) = True := eq_true (by have := g.len; omega)
  have n3 : m.b.toNat = mb := by omega
  rcases Int.lt_or_le m.e c with h5 | h5
  case inr =>
    have d5 : decide (c ≤ m.e) = true := by simpa using h5
    simp (maxSteps := 4000000) only [go_sem, d1, Option.some.injEq, forall_eq', and_true, true_and, Bool.not_true, Bool.not_false, decide_true, Nat.reduceAdd, Nat.reduceSub, Nat.reduceLT, Nat.reduceLeDiff, Nat.reduceEqDiff, ↓reduceIte]
    refine DX.plain (.take 0 false (.take 1 false (.take 2 false (.take 3 false (.take 4 false (.take 5 false (.take 6 false (.take 7 false (.take 8 false (.take 9 false (.take 10 false (.take 11 false (.take 12 false (.take 13 false (.take 14 false (.take 15 false (.take 16 false (.take 17 false (.take 18 false (.take 19 false (.take 20 false (.take 21 false (.take 22 false (.take 23 false (.take 24 false .done))))))))))))))))))))))))) (by kernel_rfl) (by kernel_rfl) Ty.mixed ?_
    simp (maxSteps := 4000000) only [go_sem, d2, d3, d4, n1, n2, n3, hcm, d5, Option.some.injEq, forall_eq', and_true, true_and, Bool.not_true, Bool.not_false, decide_true, Nat.reduceAdd, Nat.reduceSub, Nat.reduceLT, Nat.reduceLeDiff, Nat.reduceEqDiff, ↓reduceIte]
    rw [bad (.inr (.inr (.inr (by rw [hcd]; exact h5))))]
    exact wk_dat (r' := .tup [.d (.sl []), .d (.int .i64 2)]) (by simp only [go_sem]; rfl) rfl (by simp only [go_sem])
  have d5 : decide (c ≤ m.e) = false := by simpa using h5
  rw [if_neg (by rw [hcd]; omega)] at hR
  simp (maxSteps := 4000000) only [go_sem, d1, Option.some.injEq, forall_eq', and_true, true_and, Bool.not_true, Bool.not_false, decide_true, Nat.reduceAdd, Nat.reduceSub, Nat.reduceLT, Nat.reduceLeDiff, Nat.reduceEqDiff, ↓reduceIte]
  refine DX.plain (.take 0 false (.take 1 false (.take 2 false (.take 3 false (.take 4 false (.take 5 false (.take 6 false (.take 7 false (.take 8 false (.take 9 false (.take 10 false (.take 11 false (.take 12 false (.take 13 false (.take 14 false (.take 15 false (.take 16 false (.take 17 false (.take 18 false (.take 19 false (.take 20 false (.take 21 false (.take 22 false (.take 23 false (.take 24 false .done))))))))))))))))))))))))) (by kernel_rfl) (by kernel_rfl) Ty.mixed ?_
  simp (maxSteps := 4000000) only [go_sem, d2, d3, d4, n1, n2, n3, hcm, d5, Option.some.injEq, forall_eq', and_true, true_and, Bool.not_true, Bool.not_false, decide_true, Nat.reduceAdd, Nat.reduceSub, Nat.reduceLT, Nat.reduceLeDiff, Nat.reduceEqDiff, ↓reduceIte]
  refine eloop (S := Nat) (fun i => mkE 63 [(0, .d (.sl (l.map bD))), (1, .d (.sl (cs.map iD))), (5, .ptr 0 0), (9, .own 1), (43, .d (.sl (l.map bD))), (44, .d (.int .i64 l.length)), (45, .d (.int .i64 i))]) (fun i => [.cells [.d (.int .i64 m.b), .d (.int .i64 m.e)], .row 1 ((hasL (vw l cs) l m i).map sD)]) (fun i => i ≤ l.length) (fun i => l.length - i) 0 (Nat.zero_le _) ?_ ?_
  · refine Wk.trans (Wk.nil 9 1 (by simp only [go_sem])) ?_
    simp (maxSteps := 4000000) only [go_sem, Nat.reduceAdd, Nat.reduceSub, Nat.reduceLT, Nat.reduceLeDiff, Nat.reduceEqDiff, ↓reduceIte]
    exact (Wk.sub (by (simp only [go_sem]) <;> trivial))
  intro i hi
  have hol := hasL_len (vw l cs) l m i
  rcases Nat.lt_or_ge i l.length with q | q
  · have f1 : decide ((i : Int) < l.length) = true := by simp; omega
    obtain ⟨x, hx⟩ : ∃ x, l[i]? = some x := ⟨l[i]'(by omega), List.getElem?_eq_getElem _⟩
    obtain ⟨ci, hci⟩ : ∃ x, cs[i]? = some x := ⟨cs[i]'(by have := g.len; omega), List.getElem?_eq_getElem _⟩
    obtain ⟨v, hv⟩ := good_view g q
    have hvl := fit_len g.ok g.fit hx hci hv
    have hgx := g.ok.good _ _ hx
    have hgc := g.cnt ci (List.mem_of_getElem? hci)
    have m1 : (0 ≤ (i : Int) ∧ (i : Int) < l.length) = True := eq_true (by omega)
    have w1 : IntKind.i64.wrap ((i : Int) + 1) = i + 1 := i64_in _ (by omega)
    have nx : hasL (vw l cs) l m (i + 1) = hasL (vw l cs) l m i ++ if m ∈ v then [x.name] else [] := by
      simp only [hasL, List.getD_eq_getElem?_getD, hv, hx, Option.getD_some, Option.map_some]
    have e2 : (hasL (vw l cs) l m i).map sD ++ [[D.str x.name]] = (hasL (vw l cs) l m i ++ [x.name]).map sD := by simp [sD]
    simp (maxSteps := 4000000) only [go_sem, f1, m1, hx, Option.some.injEq, forall_eq', and_true, true_and, Bool.not_true, Bool.not_false, decide_true, Nat.reduceAdd, Nat.reduceSub, Nat.reduceLT, Nat.reduceLeDiff, Nat.reduceEqDiff, ↓reduceIte]
    refine DX.plain (.take 0 false (.take 1 false (.take 2 false (.take 4 true (.run [3] (fun _ => [true]) fun _ => (.run [5] (fun _ => [false]) fun _ => .done)))))) (by kernel_rfl) (by kernel_rfl) Ty.mixed ?_
    simp (maxSteps := 4000000) only [go_sem, m1, Option.some.injEq, forall_eq', and_true, true_and, Bool.not_true, Bool.not_false, decide_true, Nat.reduceAdd, Nat.reduceSub, Nat.reduceLT, Nat.reduceLeDiff, Nat.reduceEqDiff, ↓reduceIte]
    refine ⟨_, _, (view_own l cs _ g.ok g.fit g.vlen g.len g.cnt i v hv).liftN _ (by simp only [go_sem]), ?_⟩
    simp (maxSteps := 4000000) only [go_sem, Nat.reduceAdd, Nat.reduceSub, Nat.reduceLT, Nat.reduceLeDiff, Nat.reduceEqDiff, ↓reduceIte]
    refine ⟨_, _, Spec.frz 3 rfl ((containsMark v m (by unfold Sm; omega)).lift0 _ (by simp only [go_sem]) (by simp only [go_sem])), ?_⟩
    by_cases hin : m ∈ v
    · rw [if_pos hin] at nx
      have f2 := decide_eq_true hin
      simp (maxSteps := 4000000) only [go_sem, f2, m1, hx, Option.some.injEq, forall_eq', and_true, true_and, Bool.not_true, Bool.not_false, decide_true, Nat.reduceAdd, Nat.reduceSub, Nat.reduceLT, Nat.reduceLeDiff, Nat.reduceEqDiff, ↓reduceIte]
      refine ⟨⟨by simp, by omega, by omega⟩, ?_⟩
      rw [e2, ← nx, w1]
      exact .mk (i + 1) q (by omega) (Wk.via [0, 5] (by (simp only [go_sem, ↓reduceIte]) <;> trivial) (by simp (maxSteps := 4000000) only [go_sem, Nat.reduceAdd, Nat.reduceSub, Nat.reduceLT, Nat.reduceLeDiff, Nat.reduceEqDiff, ↓reduceIte]) (by simp) (by simp) (by (simp (maxSteps := 4000000) only [go_sem, Nat.reduceAdd, Nat.reduceSub, Nat.reduceLT, Nat.reduceLeDiff, Nat.reduceEqDiff, ↓reduceIte]) <;> trivial) (by simp only [go_sem]) (Nat.zero_le _) (fun i h => absurd h (Nat.not_lt_zero i)))
    · rw [if_neg hin, List.append_nil] at nx
      have f2 := decide_eq_false hin
      simp (maxSteps := 4000000) only [go_sem, f2, w1, Option.some.injEq, forall_eq', and_true, true_and, Bool.not_true, Bool.not_false, decide_true, Nat.reduceAdd, Nat.reduceSub, Nat.reduceLT, Nat.reduceLeDiff, Nat.reduceEqDiff, ↓reduceIte]
      rw [← nx]
      exact .mk (i + 1) q (by omega) (Wk.via [0, 1] (by (simp only [go_sem, ↓reduceIte]) <;> trivial) (by simp (maxSteps := 4000000) only [go_sem, Nat.reduceAdd, Nat.reduceSub, Nat.reduceLT, Nat.reduceLeDiff, Nat.reduceEqDiff, ↓reduceIte]) (by simp) (by simp) (by (simp (maxSteps := 4000000) only [go_sem, Nat.reduceAdd, Nat.reduceSub, Nat.reduceLT, Nat.reduceLeDiff, Nat.reduceEqDiff, ↓reduceIte]) <;> trivial) (by simp only [go_sem]) (Nat.zero_le _) (fun i h => absurd h (Nat.not_lt_zero i)))
  · have f1 : decide ((i : Int) < l.length) = false := by simp; omega
    have : i = l.length := by omega
    subst this
    simp (maxSteps := 4000000) only [go_sem, f1, Option.some.injEq, forall_eq', and_true, true_and, Bool.not_true, Bool.not_false, decide_true, Nat.reduceAdd, Nat.reduceSub, Nat.reduceLT, Nat.reduceLeDiff, Nat.reduceEqDiff, ↓reduceIte]
    rw [hR]
    exact wk_dat (r' := .tup [.d (.sl ((hasL (vw l cs) l m l.length).map sD)), .d (.int .i64 0)]) (by simp only [go_sem]; rfl) rfl (by simp only [go_sem])
theorem has_ref (l : List Br) (cs : List Int) (m : Mk) (hl : Sm l.length) (hc : Sm cs.length) : Spec Try.prog 27 [.d (.sl (l.map bD)), .d (.sl (cs.map iD)), mkA m] [] (.tup [.d (.sl ((hasR l cs m).1.map sD)), .d (.int .i64 (hasR l cs m).2)]) [] := by
  obtain ⟨R, hR⟩ : ∃ R, R = hasR l cs m := ⟨_, rfl⟩
  rw [← hR]
  unfold hasR at hR
  refine spec_of_ev (fn := Try.f27) DX_ok 3000 Try.func27 rfl rfl (Nat.le_of_ble_eq_true rfl) ?_
  simp (maxSteps := 4000000) only [Try.f27, go_sem]
  refine ecall0 _ (fits_ref l cs hl hc) (by simp only [go_sem]) (by simp only [go_sem]) ?_
  simp (maxSteps := 4000000) only [go_sem, Nat.reduceAdd, Nat.reduceSub, Nat.reduceLT, Nat.reduceLeDiff, Nat.reduceEqDiff, ↓reduceIte]
  by_cases h1 : fits l cs = 0
  case neg =>
    have d1 : (fits l cs != 0) = true := by simp [h1]
    rw [if_pos h1] at hR
    simp (maxSteps := 4000000) only [go_sem, d1, Option.some.injEq, forall_eq', and_true, true_and, Bool.not_true, Bool.not_false, decide_true, Nat.reduceAdd, Nat.reduceSub, Nat.reduceLT, Nat.reduceLeDiff, Nat.reduceEqDiff, ↓reduceIte]
    refine ecall0 _ (fits_ref l cs hl hc) (by simp only [go_sem]) (by simp only [go_sem]) ?_
    simp (maxSteps := 4000000) only [go_sem, Nat.reduceAdd, Nat.reduceSub, Nat.reduceLT, Nat.reduceLeDiff, Nat.reduceEqDiff, ↓reduceIte]
    rw [hR]
    exact wk_dat (r' := .tup [.d (.sl []), .d (.int .i64 (fits l cs))]) (by simp only [go_sem]; rfl) rfl (by simp only [go_sem])
  have d1 : (fits l cs != 0) = false := by simp [h1]
  have g := good_of h1
  have hl8 := g.ok.len
  rw [if_neg (by omega)] at hR
  have bad : (m.b < 0 ∨ (l.length : Int) ≤ m.b ∨ m.e < 0 ∨ cs.getD m.b.toNat 0 ≤ m.e) → R = ([], 2) := fun h => by rw [hR, if_pos h]
  rcases Int.lt_or_le m.b 0 with h2 | h2
  · have d2 := decide_eq_true h2
    simp (maxSteps := 4000000) only [go_sem, d1, Option.some.injEq, forall_eq', and_true, true_and, Bool.not_true, Bool.not_false, decide_true, Nat.reduceAdd, Nat.reduceSub, Nat.reduceLT, Nat.reduceLeDiff, Nat.reduceEqDiff, ↓reduceIte]
    refine DX.plain (.take 0 false (.take 1 false (.take 2 false (.take 3 false (.take 4 false (.take 5 false (.take 6 false (.take 7 false (.take 8 false (.take 9 false (.take 10 false (.take 11 false (.take 12 false (.take 13 false (.take 14 false (.take 15 false (.take 16 false (.take 17 false (.take 18 false (.take 19 false (.take 20 false (.take 21 false (.take 22 false (.take 23 false (.take 24 false .done))))))))))))))))))))))))) (by kernel_rfl) (by kernel_rfl) Ty.mixed ?_
    simp (maxSteps := 4000000) only [go_sem, d2, Option.some.injEq, forall_eq', and_true, true_and, Bool.not_true, Bool.not_false, decide_true, Nat.reduceAdd, Nat.reduceSub, Nat.reduceLT, Nat.reduceLeDiff, Nat.reduceEqDiff, ↓reduceIte]
    rw [bad (.inl h2)]
    exact wk_dat (r' := .tup [.d (.sl []), .d (.int .i64 2)]) (by simp only [go_sem]; rfl) rfl (by simp only [go_sem])
  have d2 := decide_eq_false (Int.not_lt.2 h2)
  rcases Int.lt_or_le m.b l.length with h3 | h3
  case inr =>
    have d3 : decide ((l.length : Int) ≤ m.b) = true := by simpa using h3
    simp (maxSteps := 4000000) only [go_sem, d1, Option.some.injEq, forall_eq', and_true, true_and, Bool.not_true, Bool.not_false, decide_true, Nat.reduceAdd, Nat.reduceSub, Nat.reduceLT, Nat.reduceLeDiff, Nat.reduceEqDiff, ↓reduceIte]
    refine DX.plain (.take 0 false (.take 1 false (.take 2 false (.take 3 false (.take 4 false (.take 5 false (.take 6 false (.take 7 false (.take 8 false (.take 9 false (.take 10 false (.take 11 false (.take 12 false (.take 13 false (.take 14 false (.take 15 false (.take 16 false (.take 17 false (.take 18 false (.take 19 false (.take 20 false (.take 21 false (.take 22 false (.take 23 false (.take 24 false .done))))))))))))))))))))))))) (by kernel_rfl) (by kernel_rfl) Ty.mixed ?_
    simp (maxSteps := 4000000) only [go_sem, d2, d3, Option.some.injEq, forall_eq', and_true, true_and, Bool.not_true, Bool.not_false, decide_true, Nat.reduceAdd, Nat.reduceSub, Nat.reduceLT, Nat.reduceLeDiff, Nat.reduceEqDiff, ↓reduceIte]
    rw [bad (.inr (.inl h3))]
    exact wk_dat (r' := .tup [.d (.sl []), .d (.int .i64 2)]) (by simp only [go_sem]; rfl) rfl (by simp only [go_sem])
  have d3 : decide ((l.length : Int) ≤ m.b) = false := by simpa using h3
  rcases Int.lt_or_le m.e 0 with h4 | h4
  · have d4 := decide_eq_true h4
    simp (maxSteps := 4000000) only [go_sem, d1, Option.some.injEq, forall_eq', and_true, true_and, Bool.not_true, Bool.not_false, decide_true, Nat.reduceAdd, Nat.reduceSub, Nat.reduceLT, Nat.reduceLeDiff, Nat.reduceEqDiff, ↓reduceIte]
    refine DX.plain (.take 0 false (.take 1 false (.take 2 false (.take 3 false (.take 4 false (.take 5 false (.take 6 false (.take 7 false (.take 8 false (.take 9 false (.take 10 false (.take 11 false (.take 12 false (.take 13 false (.take 14 false (.take 15 false (.take 16 false (.take 17 false (.take 18 false (.take 19 false (.take 20 false (.take 21 false (.take 22 false (.take 23 false (.take 24 false .done))))))))))))))))))))))))) (by kernel_rfl) (by kernel_rfl) Ty.mixed ?_
    simp (maxSteps := 4000000) only [go_sem, d2, d3, d4, Option.some.injEq, forall_eq', and_true, true_and, Bool.not_true, Bool.not_false, decide_true, Nat.reduceAdd, Nat.reduceSub, Nat.reduceLT, Nat.reduceLeDiff, Nat.reduceEqDiff, ↓reduceIte]
    rw [bad (.inr (.inr (.inl h4)))]
    exact wk_dat (r' := .tup [.d (.sl []), .d (.int .i64 2)]) (by simp only [go_sem]; rfl) rfl (by simp only [go_sem])
  have d4 := decide_eq_false (Int.not_lt.2 h4)
  obtain ⟨mb, hmb⟩ : ∃ n : Nat, m.b = n := ⟨m.b.toNat, by omega⟩
  obtain ⟨c, hcm⟩ : ∃ c, cs[mb]? = some c := ⟨cs[mb]'(by have := g.len; omega), List.getElem?_eq_getElem _⟩
  have hcd : cs.getD m.b.toNat 0 = c := by rw [hmb, Int.toNat_natCast, List.getD_eq_getElem?_getD, hcm]; rfl
  have n1 : (0 ≤ m.b ∧ m.b < (cs.length : Int)) = True := eq_true (by have := g.len; omega)
  have n2 : (mb < cs.length) = True := eq_true (by have := g.len; omega)
  have n3 : m.b.toNat = mb := by omega
  rcases Int.lt_or_le m.e c with h5 | h5
  case inr =>
    have d5 : decide (c ≤ m.e) = true := by simpa using h5
    simp (maxSteps := 4000000) only [go_sem, d1, Option.some.injEq, forall_eq', and_true, true_and, Bool.not_true, Bool.not_false, decide_true, Nat.reduceAdd, Nat.reduceSub, Nat.reduceLT, Nat.reduceLeDiff, Nat.reduceEqDiff, ↓reduceIte]
    refine DX.plain (.take 0 false (.take 1 false (.take 2 false (.take 3 false (.take 4 false (.take 5 false (.take 6 false (.take 7 false (.take 8 false (.take 9 false (.take 10 false (.take 11 false (.take 12 false (.take 13 false (.take 14 false (.take 15 false (.take 16 false (.take 17 false (.take 18 false (.take 19 false (.take 20 false (.take 21 false (.take 22 false (.take 23 false (.take 24 false .done))))))))))))))))))))))))) (by kernel_rfl) (by kernel_rfl) Ty.mixed ?_
    simp (maxSteps := 4000000) only [go_sem, d2, d3, d4, n1, n2, n3, hcm, d5, Option.some.injEq, forall_eq', and_true, true_and, Bool.not_true, Bool.not_false, decide_true, Nat.reduceAdd, Nat.reduceSub, Nat.reduceLT, Nat.reduceLeDiff, Nat.reduceEqDiff, ↓reduceIte]
    rw [bad (.inr (.inr (.inr (by rw [hcd]; exact h5))))]
    exact wk_dat (r' := .tup [.d (.sl []), .d (.int .i64 2)]) (by simp only [go_sem]; rfl) rfl (by simp only [go_sem])
  have d5 : decide (c ≤ m.e) = false := by simpa using h5
  rw [if_neg (by rw [hcd]; omega)] at hR
  simp (maxSteps := 4000000) only [go_sem, d1, Option.some.injEq, forall_eq', and_true, true_and, Bool.not_true, Bool.not_false, decide_true, Nat.reduceAdd, Nat.reduceSub, Nat.reduceLT, Nat.reduceLeDiff, Nat.reduceEqDiff, ↓reduceIte]
  refine DX.plain (.take 0 false (.take 1 false (.take 2 false (.take 3 false (.take 4 false (.take 5 false (.take 6 false (.take 7 false (.take 8 false (.take 9 false (.take 10 false (.take 11 false (.take 12 false (.take 13 false (.take 14 false (.take 15 false (.take 16 false (.take 17 false (.take 18 false (.take 19 false (.take 20 false (.take 21 false (.take 22 false (.take 23 false (.take 24 false .done))))))))))))))))))))))))) (by kernel_rfl) (by kernel_rfl) Ty.mixed ?_
  simp (maxSteps := 4000000) only [go_sem, d2, d3, d4, n1, n2, n3, hcm, d5, Option.some.injEq, forall_eq', and_true, true_and, Bool.not_true, Bool.not_false, decide_true, Nat.reduceAdd, Nat.reduceSub, Nat.reduceLT, Nat.reduceLeDiff, Nat.reduceEqDiff, ↓reduceIte]
  refine ecall0 _ (views_ref l cs g.chk g.len g.cnt) (by simp only [go_sem]) (by simp only [go_sem]) ?_
  simp (maxSteps := 4000000) only [go_sem, Nat.reduceAdd, Nat.reduceSub, Nat.reduceLT, Nat.reduceLeDiff, Nat.reduceEqDiff, ↓reduceIte]
  have hvL := g.vlen
  refine eloop (S := Nat) (fun i => mkE 84 [(0, .d (.sl (l.map bD))), (1, .d (.sl (cs.map iD))), (5, .ptr 0 0), (8, .d (.sl ((vw l cs).map vD))), (10, .own 1), (11, .d (.int .i64 i))]) (fun i => [.cells [.d (.int .i64 m.b), .d (.int .i64 m.e)], .row 1 ((hasL (vw l cs) l m i).map sD)]) (fun i => i ≤ l.length) (fun i => l.length - i) 0 (Nat.zero_le _) ?_ ?_
  · refine Wk.trans (Wk.nil 10 1 (by simp only [go_sem])) ?_
    simp (maxSteps := 4000000) only [go_sem, Nat.reduceAdd, Nat.reduceSub, Nat.reduceLT, Nat.reduceLeDiff, Nat.reduceEqDiff, ↓reduceIte]
    exact (Wk.sub (by (simp only [go_sem]) <;> trivial))
  intro i hi
  have hol := hasL_len (vw l cs) l m i
  rcases Nat.lt_or_ge i l.length with q | q
  · have f1 : decide ((i : Int) < l.length) = true := by simp; omega
    obtain ⟨x, hx⟩ : ∃ x, l[i]? = some x := ⟨l[i]'(by omega), List.getElem?_eq_getElem _⟩
    obtain ⟨ci, hci⟩ : ∃ x, cs[i]? = some x := ⟨cs[i]'(by have := g.len; omega), List.getElem?_eq_getElem _⟩
    obtain ⟨v, hv⟩ := good_view g q
    have hvl := fit_len g.ok g.fit hx hci hv
    have hgx := g.ok.good _ _ hx
    have hgc := g.cnt ci (List.mem_of_getElem? hci)
    have m1 : (0 ≤ (i : Int) ∧ (i : Int) < l.length) = True := eq_true (by omega)
    have m2 : (0 ≤ (i : Int) ∧ (i : Int) < (vw l cs).length) = True := eq_true (by omega)
    have m3 : (i < (vw l cs).length) = True := eq_true (by omega)
    have w1 : IntKind.i64.wrap ((i : Int) + 1) = i + 1 := i64_in _ (by omega)
    have nx : hasL (vw l cs) l m (i + 1) = hasL (vw l cs) l m i ++ if m ∈ v then [x.name] else [] := by
      simp only [hasL, List.getD_eq_getElem?_getD, hv, hx, Option.getD_some, Option.map_some]
    obtain ⟨base, hbase⟩ : ∃ b, b = hasL (vw l cs) l m i := ⟨_, rfl⟩
    rw [← hbase] at nx hol
    simp only [← hbase]
    let inn : Nat → List ByteArray := fun k => base ++ if m ∈ v.take k then [x.name] else []
    have inl : ∀ k, (inn k).length ≤ base.length + 1 := fun k => by simp only [inn, List.length_append]; split <;> simp
    have in0 : inn 0 = base := by simp [inn]
    have inN : ∀ k, v.length ≤ k → inn k = hasL (vw l cs) l m (i + 1) := fun k hk => by rw [nx]; simp only [inn, List.take_of_length_le hk]
    have inY : ∀ k, v[k]? = some m → inn k = base ∧ inn (k + 1) = base ++ [x.name] := fun k hk => by
      have hno : m ∉ v.take k := fun h => by
        obtain ⟨p, hp⟩ := List.mem_iff_getElem?.1 h
        have hpk := some_lt hp
        rw [List.length_take] at hpk
        rw [List.getElem?_take_of_lt (by omega)] at hp
        have := (shared g hv hv hp hk).1
        omega
      have hyes : m ∈ v.take (k + 1) := by rw [List.take_add_one, hk]; simp
      exact ⟨by simp [inn, hno], by simp [inn, hyes]⟩
    have inS : ∀ k z, v[k]? = some z → z ≠ m → inn (k + 1) = inn k := fun k z hk hz => by
      have : (m ∈ v.take (k + 1)) = (m ∈ v.take k) := by
        rw [List.take_add_one, hk]
        simp only [List.mem_append, Option.toList_some, List.mem_singleton]
        exact propext ⟨fun h => h.resolve_right fun e => hz e.symm, .inl⟩
      simp only [inn, this]
    clear_value inn
    simp (maxSteps := 4000000) only [go_sem, f1, Option.some.injEq, forall_eq', and_true, true_and, Bool.not_true, Bool.not_false, decide_true, Nat.reduceAdd, Nat.reduceSub, Nat.reduceLT, Nat.reduceLeDiff, Nat.reduceEqDiff, ↓reduceIte]
    refine eloop (S := Nat) (fun k => mkE 84 [(0, .d (.sl (l.map bD))), (1, .d (.sl (cs.map iD))), (5, .ptr 0 0), (8, .d (.sl ((vw l cs).map vD))), (10, .own 1), (11, .d (.int .i64 i)), (12, .d (.int .i64 k))]) (fun k => [.cells [.d (.int .i64 m.b), .d (.int .i64 m.e)], .row 1 ((inn k).map sD)]) (fun k => k ≤ v.length) (fun k => v.length - k) 0 (Nat.zero_le _) (by rw [in0]; exact (Wk.sub (by (simp only [go_sem]) <;> trivial))) ?_
    intro k hk
    have hil := inl k
    rcases Nat.lt_or_ge k v.length with q2 | q2
    · have f2 : decide ((k : Int) < v.length) = true := by simp; omega
      obtain ⟨z, hz⟩ : ∃ x, v[k]? = some x := ⟨v[k]'(by omega), List.getElem?_eq_getElem _⟩
      have m4 : (0 ≤ (k : Int) ∧ (k : Int) < v.length) = True := eq_true (by omega)
      have m5 : (k < v.length) = True := eq_true (by omega)
      have w2 : IntKind.i64.wrap ((k : Int) + 1) = k + 1 := i64_in _ (by omega)
      have hzm := mkD_eq z m
      simp only [mkD, deqs, deq, Bool.and_true] at hzm
      by_cases hin : z = m
      · rw [decide_eq_true hin] at hzm
        obtain ⟨e1, e2⟩ := inY k (hin ▸ hz)
        have e3 : (inn k).map sD ++ [[D.str x.name]] = (inn (k + 1)).map sD := by rw [e1, e2]; simp [sD]
        simp (maxSteps := 4000000) only [go_sem, m2, hv, f2, Option.some.injEq, forall_eq', and_true, true_and, Bool.not_true, Bool.not_false, decide_true, Nat.reduceAdd, Nat.reduceSub, Nat.reduceLT, Nat.reduceLeDiff, Nat.reduceEqDiff, ↓reduceIte]
        refine DX.plain (.take 0 false (.take 1 false (.take 2 false (.take 3 false (.take 4 false (.take 5 false (.take 6 false (.take 7 false (.take 8 false .done))))))))) (by kernel_rfl) (by kernel_rfl) Ty.mixed ?_
        simp (maxSteps := 4000000) only [go_sem, m2, m3, hv, m4, m5, hz, hzm, Option.some.injEq, forall_eq', and_true, true_and, Bool.not_true, Bool.not_false, decide_true, Nat.reduceAdd, Nat.reduceSub, Nat.reduceLT, Nat.reduceLeDiff, Nat.reduceEqDiff, ↓reduceIte]
        simp (maxSteps := 4000000) only [go_sem, m1, hx, Option.some.injEq, forall_eq', and_true, true_and, Bool.not_true, Bool.not_false, decide_true, Nat.reduceAdd, Nat.reduceSub, Nat.reduceLT, Nat.reduceLeDiff, Nat.reduceEqDiff, ↓reduceIte]
        refine ⟨⟨by simp, by omega, by omega⟩, ?_⟩
        rw [e3, w2]
        exact .mk (k + 1) q2 (by omega) (Wk.via [0, 3] (by (simp only [go_sem, ↓reduceIte]) <;> trivial) (by simp (maxSteps := 4000000) only [go_sem, Nat.reduceAdd, Nat.reduceSub, Nat.reduceLT, Nat.reduceLeDiff, Nat.reduceEqDiff, ↓reduceIte]) (by simp) (by simp) (by (simp (maxSteps := 4000000) only [go_sem, Nat.reduceAdd, Nat.reduceSub, Nat.reduceLT, Nat.reduceLeDiff, Nat.reduceEqDiff, ↓reduceIte]) <;> trivial) (by simp only [go_sem]) (Nat.zero_le _) (fun i h => absurd h (Nat.not_lt_zero i)))
      · rw [decide_eq_false hin] at hzm
        simp (maxSteps := 4000000) only [go_sem, m2, hv, f2, Option.some.injEq, forall_eq', and_true, true_and, Bool.not_true, Bool.not_false, decide_true, Nat.reduceAdd, Nat.reduceSub, Nat.reduceLT, Nat.reduceLeDiff, Nat.reduceEqDiff, ↓reduceIte]
        refine DX.plain (.take 0 false (.take 1 false (.take 2 false (.take 3 false (.take 4 false (.take 5 false (.take 6 false (.take 7 false (.take 8 false .done))))))))) (by kernel_rfl) (by kernel_rfl) Ty.mixed ?_
        simp (maxSteps := 4000000) only [go_sem, m2, m3, hv, m4, m5, hz, hzm, w2, Option.some.injEq, forall_eq', and_true, true_and, Bool.not_true, Bool.not_false, decide_true, Nat.reduceAdd, Nat.reduceSub, Nat.reduceLT, Nat.reduceLeDiff, Nat.reduceEqDiff, ↓reduceIte]
        exact .mk (k + 1) q2 (by omega) (by rw [inS k z hz hin]; exact (Wk.via [0, 1] (by (simp only [go_sem, ↓reduceIte]) <;> trivial) (by simp (maxSteps := 4000000) only [go_sem, Nat.reduceAdd, Nat.reduceSub, Nat.reduceLT, Nat.reduceLeDiff, Nat.reduceEqDiff, ↓reduceIte]) (by simp) (by simp) (by (simp (maxSteps := 4000000) only [go_sem, Nat.reduceAdd, Nat.reduceSub, Nat.reduceLT, Nat.reduceLeDiff, Nat.reduceEqDiff, ↓reduceIte]) <;> trivial) (by simp only [go_sem]) (Nat.zero_le _) (fun i h => absurd h (Nat.not_lt_zero i))))
    · have f2 : decide ((k : Int) < v.length) = false := by simp; omega
      simp (maxSteps := 4000000) only [go_sem, m2, hv, f2, w1, Option.some.injEq, forall_eq', and_true, true_and, Bool.not_true, Bool.not_false, decide_true, Nat.reduceAdd, Nat.reduceSub, Nat.reduceLT, Nat.reduceLeDiff, Nat.reduceEqDiff, ↓reduceIte]
      rw [inN k q2]
      exact .mk (i + 1) q (by omega) (Wk.via [0, 1] (by (simp only [go_sem, ↓reduceIte]) <;> trivial) (by simp (maxSteps := 4000000) only [go_sem, Nat.reduceAdd, Nat.reduceSub, Nat.reduceLT, Nat.reduceLeDiff, Nat.reduceEqDiff, ↓reduceIte]) (by simp) (by simp) (by (simp (maxSteps := 4000000) only [go_sem, Nat.reduceAdd, Nat.reduceSub, Nat.reduceLT, Nat.reduceLeDiff, Nat.reduceEqDiff, ↓reduceIte]) <;> trivial) (by simp only [go_sem]) (Nat.zero_le _) (fun i h => absurd h (Nat.not_lt_zero i)))
  · have f1 : decide ((i : Int) < l.length) = false := by simp; omega
    have : i = l.length := by omega
    subst this
    simp (maxSteps := 4000000) only [go_sem, f1, Option.some.injEq, forall_eq', and_true, true_and, Bool.not_true, Bool.not_false, decide_true, Nat.reduceAdd, Nat.reduceSub, Nat.reduceLT, Nat.reduceLeDiff, Nat.reduceEqDiff, ↓reduceIte]
    rw [hR]
    exact wk_dat (r' := .tup [.d (.sl ((hasL (vw l cs) l m l.length).map sD)), .d (.int .i64 0)]) (by simp only [go_sem]; rfl) rfl (by simp only [go_sem])
end Go.AX.Br

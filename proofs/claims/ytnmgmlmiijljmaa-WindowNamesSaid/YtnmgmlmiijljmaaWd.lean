/- Windows: the program's sorting and joining. -/
import Derived.Test.YtnmgmlmiijljmaaWc
set_option maxHeartbeats 8000000
set_option linter.unusedVariables false
set_option linter.unusedSimpArgs false
set_option maxRecDepth 20000
namespace Go.AX.Wn
open Go.Proofs Go.RowKit Go.IntWalk Go.AX.Br
theorem cmp_own (a b : Hd) (ha : 0 ≤ a.fr ∧ a.fr ≤ 1000000) (hb : 0 ≤ b.fr ∧ b.fr ≤ 1000000) : Spec Try.prog 48 [hA a, hA b] [] (.d (.int .i64 (a.fr - b.fr))) [] := by
  have w1 : IntKind.i64.wrap (a.fr - b.fr) = a.fr - b.fr := i64_in _ (by omega)
  refine spec_of_ev (fn := Try.f48) DX_ok 3000 Try.func48 rfl rfl (Nat.le_of_ble_eq_true rfl) ?_
  simp (maxSteps := 4000000) -implicitDefEqProofs only [Try.f48, go_sem]
  simp (maxSteps := 4000000) -implicitDefEqProofs only [go_sem, w1, Option.some.injEq, forall_eq', and_true, true_and, Bool.not_true, Bool.not_false, decide_true, Nat.reduceAdd, Nat.reduceSub, Nat.reduceLT, Nat.reduceLeDiff, Nat.reduceEqDiff, ↓reduceIte]
  exact wk_int rfl
theorem swap_at {A T : List Hd} {x y : Hd} : ((A ++ y :: x :: T).set (A.length + 1) y).set A.length x = A ++ x :: y :: T := by
  rw [List.set_append_right _ _ (by omega), List.set_append_right _ _ (by omega)]
  simp
def Lat (P R : List Hd) (x : Hd) (j : Nat) : List Hd := P.take j ++ x :: (P.drop j ++ R)
theorem lat_len {P R : List Hd} {x : Hd} {j : Nat} (h : j ≤ P.length) : (Lat P R x j).length = P.length + 1 + R.length := by simp [Lat]; omega
theorem lat_x {P R : List Hd} {x : Hd} {j : Nat} (h : j ≤ P.length) : (Lat P R x j)[j]? = some x := by
  have : (P.take j).length = j := by simp; omega
  unfold Lat
  rw [List.getElem?_append_right (by omega), this, Nat.sub_self]; rfl
theorem lat_eq {P R : List Hd} {x y : Hd} {k : Nat} (h : P[k]? = some y) : Lat P R x (k + 1) = P.take k ++ y :: x :: (P.drop (k + 1) ++ R) ∧ Lat P R x k = P.take k ++ x :: y :: (P.drop (k + 1) ++ R) := by
  have hlt := some_lt h
  have hy := (List.getElem?_eq_some_iff.1 h).2
  unfold Lat
  refine ⟨by rw [List.take_add_one, h]; simp, ?_⟩
  rw [List.drop_eq_getElem_cons hlt, hy]; simp
theorem lat_y {P R : List Hd} {x y : Hd} {k : Nat} (h : P[k]? = some y) : (Lat P R x (k + 1))[k]? = some y := by
  have hlt := some_lt h
  have : (P.take k).length = k := by simp; omega
  rw [(lat_eq h).1, List.getElem?_append_right (by omega), this, Nat.sub_self]; rfl
theorem lat_swap {P R : List Hd} {x y : Hd} {k : Nat} (h : P[k]? = some y) : (((Lat P R x (k + 1)).map hD).set (k + 1) (hD y)).set k (hD x) = (Lat P R x k).map hD := by
  have hlt := some_lt h
  have : (P.take k).length = k := by simp; omega
  rw [← List.map_set, ← List.map_set, (lat_eq h).1, (lat_eq h).2]
  have := swap_at (A := P.take k) (T := P.drop (k + 1) ++ R) (x := x) (y := y)
  rw [‹(P.take k).length = k›] at this
  rw [this]
def Val (l : List Hd) : Prop := ∀ h ∈ l, 0 ≤ h.fr ∧ h.fr ≤ 1000000
/-- the loop within: the element moves to its place -/
theorem insertion_own (l : List Hd) (hl : l.length ≤ 16) (hv : Val l) : Spec Try.prog 55 [.own 0, .d (.int .i64 0), .d (.int .i64 l.length), .fn 48 []] [.row 4 (l.map hD)] (.tup []) [.row 4 ((isort l).map hD)] := by
  have w0 : IntKind.i64.wrap ((0 : Int) + 1) = ((1 : Nat) : Int) := by rw [i64_in _ (by omega)]; rfl
  refine spec_of_ev (fn := Try.f55) DX_ok 3000 Try.func55 rfl rfl (Nat.le_of_ble_eq_true rfl) ?_
  simp (maxSteps := 4000000) -implicitDefEqProofs only [Try.f55, go_sem]
  simp (maxSteps := 4000000) -implicitDefEqProofs only [go_sem, w0, Option.some.injEq, forall_eq', and_true, true_and, Bool.not_true, Bool.not_false, decide_true, Nat.reduceAdd, Nat.reduceSub, Nat.reduceLT, Nat.reduceLeDiff, Nat.reduceEqDiff, ↓reduceIte]
  refine eloop (S := Nat) (fun i => mkE 53 [(0, .own 0), (1, .d (.int .i64 0)), (2, .d (.int .i64 l.length)), (3, .fn 48 []), (8, .d (.int .i64 i))]) (fun i => [.row 4 ((isort (l.take i) ++ l.drop i).map hD)]) (fun i => 1 ≤ i ∧ (i ≤ l.length ∨ i = 1)) (fun i => l.length + 1 - i) 1 ⟨by omega, by omega⟩ ?_ ?_
  · have e : isort (l.take 1) ++ l.drop 1 = l := by
      cases l with
      | nil => rfl
      | cons a l => rfl
    rw [e]; exact (Wk.sub (by (simp only [go_sem]) <;> trivial))
  intro i hi
  rcases Nat.lt_or_ge i l.length with h2 | h2
  case inr =>
    have f1 : decide ((i : Int) < l.length) = false := by simp; omega
    simp (maxSteps := 4000000) -implicitDefEqProofs only [go_sem, f1, Option.some.injEq, forall_eq', and_true, true_and, Bool.not_true, Bool.not_false, decide_true, Nat.reduceAdd, Nat.reduceSub, Nat.reduceLT, Nat.reduceLeDiff, Nat.reduceEqDiff, ↓reduceIte]
    rw [List.take_of_length_le h2, List.drop_of_length_le h2, List.append_nil]
    exact Wk.refl _ _ _
  have f1 : decide ((i : Int) < l.length) = true := by simp; omega
  obtain ⟨x, hx⟩ : ∃ x, l[i]? = some x := ⟨l[i]'h2, List.getElem?_eq_getElem _⟩
  obtain ⟨P, hP⟩ : ∃ P, P = isort (l.take i) := ⟨_, rfl⟩
  obtain ⟨R, hR⟩ : ∃ R, R = l.drop (i + 1) := ⟨_, rfl⟩
  have hPl : P.length = i := by rw [hP, isort_len]; simp; omega
  have hPs : Srt P := by rw [hP]; exact isort_srt _
  have hRl : R.length = l.length - (i + 1) := by rw [hR]; simp
  have e0 : isort (l.take i) ++ l.drop i = Lat P R x i := by
    rw [← hP, List.drop_eq_getElem_cons h2, (List.getElem?_eq_some_iff.1 hx).2, ← hR]
    unfold Lat
    rw [List.take_of_length_le (by omega), List.drop_of_length_le (by omega)]; rfl
  have e1 : isort (l.take (i + 1)) = ins x P := by rw [List.take_add_one, hx, hP]; exact isort_snoc _ _
  have hxv := hv x (List.mem_of_getElem? hx)
  have hPv : ∀ y ∈ P, 0 ≤ y.fr ∧ y.fr ≤ 1000000 := fun y hy => hv y (List.mem_of_mem_take (isort_mem.1 (by rw [← hP]; exact hy)))
  have w1 : IntKind.i64.wrap ((i : Int) + 1) = ((i + 1 : Nat) : Int) := by rw [i64_in _ (by omega)]; simp
  rw [e0]
  simp (maxSteps := 4000000) -implicitDefEqProofs only [go_sem, f1, Option.some.injEq, forall_eq', and_true, true_and, Bool.not_true, Bool.not_false, decide_true, Nat.reduceAdd, Nat.reduceSub, Nat.reduceLT, Nat.reduceLeDiff, Nat.reduceEqDiff, ↓reduceIte]
  refine eloop (S := Nat) (fun j => mkE 53 [(0, .own 0), (1, .d (.int .i64 0)), (2, .d (.int .i64 l.length)), (3, .fn 48 []), (8, .d (.int .i64 i)), (9, .d (.int .i64 j))]) (fun j => [.row 4 ((Lat P R x j).map hD)]) (fun j => j ≤ i ∧ ∀ y ∈ P.drop j, x.fr < y.fr) (fun j => j) i ⟨by omega, by rw [List.drop_of_length_le (by omega)]; simp⟩ (Wk.sub (by (simp only [go_sem]) <;> trivial)) ?_
  intro j hj
  obtain ⟨j1, j2⟩ := hj
  have stop : (∀ y ∈ P.take j, y.fr ≤ x.fr) → Lat P R x j = isort (l.take (i + 1)) ++ l.drop (i + 1) := fun h => by
    rw [e1, ← hR]
    have := ins_split (x := x) (B := P.drop j) (fun y hy => j2 y (List.mem_of_mem_head? hy)) h
    rw [List.take_append_drop] at this
    rw [this]; simp [Lat]
  cases j with
  | zero =>
    have f2 : decide ((0 : Int) < ((0 : Nat) : Int)) = false := rfl
    have st := stop (by simp)
    simp (maxSteps := 4000000) -implicitDefEqProofs only [go_sem, Nat.reduceAdd, Nat.reduceSub, Nat.reduceLT, Nat.reduceLeDiff, Nat.reduceEqDiff, ↓reduceIte]
    refine DX.plain (.take 0 false (.take 1 false (.take 2 false (.take 3 false (.take 4 false (.take 5 false (.take 6 false (.take 7 false (.take 8 false (.take 9 false (.take 10 false (.take 11 false (.take 12 false (.take 13 false (.take 14 false (.take 15 false (.take 16 false .done))))))))))))))))) (by kernel_rfl) (by kernel_rfl) Ty.mixed ?_
    simp (maxSteps := 4000000) -implicitDefEqProofs only [go_sem, f2, Option.some.injEq, forall_eq', and_true, true_and, Bool.not_true, Bool.not_false, decide_true, Nat.reduceAdd, Nat.reduceSub, Nat.reduceLT, Nat.reduceLeDiff, Nat.reduceEqDiff, ↓reduceIte]
    simp (maxSteps := 4000000) -implicitDefEqProofs only [go_sem, w1, Option.some.injEq, forall_eq', and_true, true_and, Bool.not_true, Bool.not_false, decide_true, Nat.reduceAdd, Nat.reduceSub, Nat.reduceLT, Nat.reduceLeDiff, Nat.reduceEqDiff, ↓reduceIte]
    rw [st]
    exact .mk (i + 1) (by omega) (by omega) (Wk.sub (by (simp only [go_sem]) <;> trivial))
  | succ k =>
    have f2 : decide ((0 : Int) < ((k + 1 : Nat) : Int)) = true := decide_eq_true (by omega)
    obtain ⟨y, hy⟩ : ∃ y, P[k]? = some y := ⟨P[k]'(by omega), List.getElem?_eq_getElem _⟩
    have hyv := hPv y (List.mem_of_getElem? hy)
    have ll := lat_len (P := P) (R := R) (x := x) (j := k + 1) (by omega)
    have gx := lat_x (P := P) (R := R) (x := x) (j := k + 1) (by omega)
    have gy := lat_y (R := R) (x := x) hy
    have sw := lat_swap (R := R) (x := x) hy
    have n1 : (0 ≤ ((k + 1 : Nat) : Int) ∧ ((k + 1 : Nat) : Int) < (Lat P R x (k + 1)).length) = True := eq_true (by omega)
    have n2 : (k + 1 < (Lat P R x (k + 1)).length) = True := eq_true (by omega)
    have n3 : (0 ≤ (k : Int) ∧ (k : Int) < (Lat P R x (k + 1)).length) = True := eq_true (by omega)
    have n4 : (k < (Lat P R x (k + 1)).length) = True := eq_true (by omega)
    have w2 : IntKind.i64.wrap (((k + 1 : Nat) : Int) - 1) = (k : Int) := by rw [i64_in _ (by omega)]; omega
    have cm := cmp_own x y hxv hyv
    simp only [hA] at cm
    simp (maxSteps := 4000000) -implicitDefEqProofs only [go_sem, Nat.reduceAdd, Nat.reduceSub, Nat.reduceLT, Nat.reduceLeDiff, Nat.reduceEqDiff, ↓reduceIte]
    refine DX.plain (.take 0 false (.take 1 false (.take 2 false (.take 3 false (.take 4 false (.take 5 false (.take 6 false (.take 7 false (.take 8 false (.take 9 false (.take 10 false (.take 11 false (.take 12 false (.take 13 false (.take 14 false (.take 15 false (.take 16 false .done))))))))))))))))) (by kernel_rfl) (by kernel_rfl) Ty.mixed ?_
    simp (maxSteps := 4000000) -implicitDefEqProofs only [go_sem, f2, n1, n2, n3, n4, gx, gy, w2, Option.some.injEq, forall_eq', and_true, true_and, Bool.not_true, Bool.not_false, decide_true, Nat.reduceAdd, Nat.reduceSub, Nat.reduceLT, Nat.reduceLeDiff, Nat.reduceEqDiff, ↓reduceIte]
    refine ⟨_, _, Spec.lift0 cm _ (by simp only [go_sem]) (by simp only [go_sem]), rfl, ?_⟩
    rcases Int.lt_or_le x.fr y.fr with h5 | h5
    case inr =>
      have f3 : decide (x.fr - y.fr < 0) = false := decide_eq_false (by omega)
      have st := stop fun z hz => by
        rw [List.take_add_one, hy] at hz
        rcases List.mem_append.1 hz with hz | hz
        · obtain ⟨m, hm⟩ := List.mem_iff_getElem?.1 hz
          have hmk : m < k := by have := some_lt hm; simp at this; omega
          rw [List.getElem?_take_of_lt hmk] at hm
          obtain ⟨q1, q2⟩ := List.getElem?_eq_some_iff.1 hm
          obtain ⟨q3, q4⟩ := List.getElem?_eq_some_iff.1 hy
          have := (List.pairwise_iff_getElem.1 hPs) m k q1 q3 hmk
          rw [q2, q4] at this; omega
        · simp at hz; subst hz; exact h5
      simp (maxSteps := 4000000) -implicitDefEqProofs only [go_sem, f3, Option.some.injEq, forall_eq', and_true, true_and, Bool.not_true, Bool.not_false, decide_true, Nat.reduceAdd, Nat.reduceSub, Nat.reduceLT, Nat.reduceLeDiff, Nat.reduceEqDiff, ↓reduceIte]
      simp (maxSteps := 4000000) -implicitDefEqProofs only [go_sem, w1, Option.some.injEq, forall_eq', and_true, true_and, Bool.not_true, Bool.not_false, decide_true, Nat.reduceAdd, Nat.reduceSub, Nat.reduceLT, Nat.reduceLeDiff, Nat.reduceEqDiff, ↓reduceIte]
      rw [st]
      exact .mk (i + 1) (by omega) (by omega) (Wk.sub (by (simp only [go_sem]) <;> trivial))
    have f3 : decide (x.fr - y.fr < 0) = true := decide_eq_true (by omega)
    simp (maxSteps := 4000000) -implicitDefEqProofs only [go_sem, f3, Option.some.injEq, forall_eq', and_true, true_and, Bool.not_true, Bool.not_false, decide_true, Nat.reduceAdd, Nat.reduceSub, Nat.reduceLT, Nat.reduceLeDiff, Nat.reduceEqDiff, ↓reduceIte]
    refine DX.plain (.take 0 false (.take 1 false (.take 2 true (.take 3 true (.take 4 true (.take 5 false (.take 6 false (.take 7 false (.take 8 false (.take 9 false (.take 10 false (.take 11 false (.take 12 false (.take 13 false (.take 14 false (.run [15] (fun _ => [true, true, true]) fun _ => (.take 16 false (.run [17] (fun _ => [false, false, false]) fun _ => .done)))))))))))))))))) (by kernel_rfl) (by kernel_rfl) Ty.mixed ?_
    simp (maxSteps := 4000000) -implicitDefEqProofs only [go_sem, n1, n2, n3, n4, gx, gy, w2, List.length_set, Option.some.injEq, forall_eq', and_true, true_and, Bool.not_true, Bool.not_false, decide_true, Nat.reduceAdd, Nat.reduceSub, Nat.reduceLT, Nat.reduceLeDiff, Nat.reduceEqDiff, ↓reduceIte]
    intro e he
    rw [List.getElem?_set_ne (by omega), List.getElem?_map, gy] at he
    have he2 := Option.some.inj he
    subst he2
    simp only [hD] at sw
    simp only [hD, spl]
    rw [sw]
    refine .mk k ⟨by omega, fun z hz => ?_⟩ (by omega) (Wk.sub (by (simp only [go_sem]) <;> trivial))
    rw [List.drop_eq_getElem_cons (by omega : k < P.length), (List.getElem?_eq_some_iff.1 hy).2] at hz
    rcases List.mem_cons.1 hz with rfl | hz
    · exact h5
    · exact j2 z hz
theorem stable_own (l : List Hd) (hl : l.length ≤ 16) (hv : Val l) : Spec Try.prog 52 [.own 0, .d (.int .i64 l.length), .fn 48 []] [.row 4 (l.map hD)] (.tup []) [.row 4 ((isort l).map hD)] := by
  have f1 : decide ((20 : Int) ≤ l.length) = false := decide_eq_false (by omega)
  have f2 : decide ((20 : Int) < l.length) = false := decide_eq_false (by omega)
  refine spec_of_ev (fn := Try.f52) DX_ok 3000 Try.func52 rfl rfl (Nat.le_of_ble_eq_true rfl) ?_
  simp (maxSteps := 4000000) -implicitDefEqProofs only [Try.f52, go_sem]
  refine eloop (S := Unit) (fun _ => mkE 63 [(0, .own 0), (1, .d (.int .i64 l.length)), (2, .fn 48 []), (6, .d (.int .i64 20)), (7, .d (.int .i64 0)), (8, .d (.int .i64 20))]) (fun _ => [.row 4 (l.map hD)]) (fun _ => True) (fun _ => 0) () trivial (Wk.sub (by (simp only [go_sem]) <;> trivial)) ?_
  intro _ _
  simp (maxSteps := 4000000) -implicitDefEqProofs only [go_sem, f1, Option.some.injEq, forall_eq', and_true, true_and, Bool.not_true, Bool.not_false, decide_true, Nat.reduceAdd, Nat.reduceSub, Nat.reduceLT, Nat.reduceLeDiff, Nat.reduceEqDiff, ↓reduceIte]
  refine .all _ _ (insertion_own l hl hv) ?_
  simp (maxSteps := 4000000) -implicitDefEqProofs only [go_sem, Nat.reduceAdd, Nat.reduceSub, Nat.reduceLT, Nat.reduceLeDiff, Nat.reduceEqDiff, ↓reduceIte]
  refine eloop (S := Unit) (fun _ => mkE 63 [(1, .d (.int .i64 l.length)), (6, .d (.int .i64 20))]) (fun _ => [.row 4 ((isort l).map hD)]) (fun _ => True) (fun _ => 0) () trivial (Wk.sub (by (simp only [go_sem]) <;> trivial)) ?_
  intro _ _
  simp (maxSteps := 4000000) -implicitDefEqProofs only [go_sem, f2, Option.some.injEq, forall_eq', and_true, true_and, Bool.not_true, Bool.not_false, decide_true, Nat.reduceAdd, Nat.reduceSub, Nat.reduceLT, Nat.reduceLeDiff, Nat.reduceEqDiff, ↓reduceIte]
  exact Wk.refl _ _ _
theorem sort_own (l : List Hd) (hl : l.length ≤ 16) (hv : Val l) : Spec Try.prog 47 [.own 0, .fn 48 []] [.row 4 (l.map hD)] (.tup []) [.row 4 ((isort l).map hD)] := by
  refine spec_of_ev (fn := Try.f47) DX_ok 3000 Try.func47 rfl rfl (Nat.le_of_ble_eq_true rfl) ?_
  simp (maxSteps := 4000000) -implicitDefEqProofs only [Try.f47, go_sem]
  refine .all _ _ (stable_own l hl hv) ?_
  simp (maxSteps := 4000000) -implicitDefEqProofs only [go_sem, Nat.reduceAdd, Nat.reduceSub, Nat.reduceLT, Nat.reduceLeDiff, Nat.reduceEqDiff, ↓reduceIte]
  exact Wk.refl _ _ _
end Go.AX.Wn

/- Windows: the program's windows, and looking a tick up in them. -/
import Derived.Test.YtnmgmlmiijljmaaWd
set_option maxHeartbeats 8000000
set_option linter.unusedVariables false
set_option linter.unusedSimpArgs false
set_option maxRecDepth 20000
namespace Go.AX.Wn
open Go.Proofs Go.RowKit Go.IntWalk Go.AX.Br
theorem mstep_nil (h : Hd) : mstep [] h = [h] := rfl
theorem mstep_join {A : List Hd} {w h : Hd} (e : h.fr ≤ w.to) : mstep (A ++ [w]) h = A ++ [joinTo w h] := by
  unfold mstep
  simp only [List.getLast?_append, List.getLast?_singleton, Option.some_or]
  rw [if_pos e]; simp
theorem mstep_new {A : List Hd} {w h : Hd} (e : w.to < h.fr) : mstep (A ++ [w]) h = A ++ [w] ++ [h] := by
  unfold mstep
  simp only [List.getLast?_append, List.getLast?_singleton, Option.some_or]
  rw [if_neg (by omega)]
def mine (b : ByteArray) (l : List Hd) : List Hd := l.filter fun h => decide (h.br = b)
theorem mine_yes {l : List Hd} {b : ByteArray} {i : Nat} {x : Hd} (hx : l[i]? = some x) (h : x.br = b) : mine b (l.take (i + 1)) = mine b (l.take i) ++ [x] := by
  rw [List.take_add_one, hx]; simp [mine, h]
theorem mine_no {l : List Hd} {b : ByteArray} {i : Nat} {x : Hd} (hx : l[i]? = some x) (h : x.br ≠ b) : mine b (l.take (i + 1)) = mine b (l.take i) := by
  rw [List.take_add_one, hx]; simp [mine, h]
theorem mine_len (b : ByteArray) (l : List Hd) : (mine b l).length ≤ l.length := List.length_filter_le ..
theorem fold_snoc {S : List Hd} {i : Nat} {x : Hd} (hx : S[i]? = some x) : (S.take (i + 1)).foldl mstep [] = mstep ((S.take i).foldl mstep []) x := by
  rw [List.take_add_one, hx]; simp
theorem set_last {A : List Hd} {w : Hd} {e : List D} : ((A ++ [w]).map hD).set A.length e = A.map hD ++ [e] := by
  rw [List.map_append, List.set_append_right _ _ (by simp)]; simp
theorem windows_own (l : List Hd) (b : ByteArray) (O : Okw l b) : Spec Try.prog 33 [.d (.sl (l.map hD)), .d (.str b)] [] (.d (.sl ((winL l b).map hD))) [] := by
  have hl := O.len
  refine spec_of_ev (fn := Try.f33) DX_ok 3000 Try.func33 rfl rfl (Nat.le_of_ble_eq_true rfl) ?_
  simp (maxSteps := 4000000) -implicitDefEqProofs only [Try.f33, go_sem]
  refine eloop (S := Nat) (fun i => mkE 70 [(0, .d (.sl (l.map hD))), (1, .d (.str b)), (5, .own 0), (12, .d (.sl (l.map hD))), (13, .d (.int .i64 l.length)), (14, .d (.int .i64 i))]) (fun i => [.row 4 ((mine b (l.take i)).map hD)]) (fun i => i ≤ l.length) (fun i => l.length - i) 0 (by omega) (Wk.trans (Wk.nil 5 4 rfl) (Wk.via1 0 (by (simp only [go_sem, ↓reduceIte]) <;> trivial) (by simp (maxSteps := 4000000) -implicitDefEqProofs only [go_sem, Nat.reduceAdd, Nat.reduceSub, Nat.reduceLT, Nat.reduceLeDiff, Nat.reduceEqDiff, ↓reduceIte]) (by simp) (by (simp only [go_sem]) <;> trivial) (by trivial))) ?_
  intro i hi
  rcases Nat.lt_or_ge i l.length with h2 | h2
  · have f1 : decide ((i : Int) < l.length) = true := by simp; omega
    obtain ⟨x, hx⟩ : ∃ x, l[i]? = some x := ⟨l[i]'h2, List.getElem?_eq_getElem _⟩
    have n1 : (0 ≤ (i : Int) ∧ (i : Int) < l.length) = True := eq_true (by omega)
    have n2 : (i < l.length) = True := eq_true (by omega)
    have w1 : IntKind.i64.wrap ((i : Int) + 1) = ((i + 1 : Nat) : Int) := by rw [i64_in _ (by omega)]; simp
    have ml := mine_len b (l.take i)
    rw [List.length_take] at ml
    by_cases e1 : x.br = b
    case neg =>
      have d1 : decide (x.br = b) = false := decide_eq_false e1
      have e2 := mine_no hx e1
      simp (maxSteps := 4000000) -implicitDefEqProofs only [go_sem, f1, n1, n2, hx, d1, w1, Option.some.injEq, forall_eq', and_true, true_and, Bool.not_true, Bool.not_false, decide_true, Nat.reduceAdd, Nat.reduceSub, Nat.reduceLT, Nat.reduceLeDiff, Nat.reduceEqDiff, ↓reduceIte]
      exact .mk (i + 1) h2 (by omega) (by rw [e2]; exact (Wk.via1 0 (by (simp only [go_sem, ↓reduceIte]) <;> trivial) (by simp (maxSteps := 4000000) -implicitDefEqProofs only [go_sem, Nat.reduceAdd, Nat.reduceSub, Nat.reduceLT, Nat.reduceLeDiff, Nat.reduceEqDiff, ↓reduceIte]) (by simp) (by (simp only [go_sem]) <;> trivial) (by trivial)))
    have d1 : decide (x.br = b) = true := decide_eq_true e1
    have e2 := mine_yes hx e1
    simp (maxSteps := 4000000) -implicitDefEqProofs only [go_sem, f1, n1, n2, hx, d1, w1, Option.some.injEq, forall_eq', and_true, true_and, Bool.not_true, Bool.not_false, decide_true, Nat.reduceAdd, Nat.reduceSub, Nat.reduceLT, Nat.reduceLeDiff, Nat.reduceEqDiff, ↓reduceIte]
    refine ⟨by omega, ⟨fun e he => by simp at he; subst he; rfl, by omega, by omega⟩, ?_⟩
    exact .mk (i + 1) h2 (by omega) (by rw [e2, List.map_append]; exact (Wk.via1 3 (by (simp only [go_sem, ↓reduceIte]) <;> trivial) (by simp (maxSteps := 4000000) -implicitDefEqProofs only [go_sem, Nat.reduceAdd, Nat.reduceSub, Nat.reduceLT, Nat.reduceLeDiff, Nat.reduceEqDiff, ↓reduceIte]) (by simp) (by (simp only [go_sem]) <;> trivial) (by trivial)))
  have f1 : decide ((i : Int) < l.length) = false := by simp; omega
  simp (maxSteps := 4000000) -implicitDefEqProofs only [go_sem, f1, Option.some.injEq, forall_eq', and_true, true_and, Bool.not_true, Bool.not_false, decide_true, Nat.reduceAdd, Nat.reduceSub, Nat.reduceLT, Nat.reduceLeDiff, Nat.reduceEqDiff, ↓reduceIte]
  rw [List.take_of_length_le h2]
  obtain ⟨F, hF⟩ : ∃ F, F = mine b l := ⟨_, rfl⟩
  rw [← hF]
  have hFl : F.length ≤ 16 := by have := mine_len b l; rw [hF]; omega
  have hFv : Val F := fun h hh => by
    rw [hF] at hh
    have := O.val h (List.mem_filter.1 hh).1
    omega
  refine .all _ _ (sort_own F hFl hFv) ?_
  obtain ⟨T, hT⟩ : ∃ T, T = isort F := ⟨_, rfl⟩
  have hTl : T.length ≤ 16 := by rw [hT, isort_len]; exact hFl
  have hW : winL l b = T.foldl mstep [] := by rw [hT, hF]; rfl
  rw [← hT, hW]
  simp (maxSteps := 4000000) -implicitDefEqProofs only [go_sem, Nat.reduceAdd, Nat.reduceSub, Nat.reduceLT, Nat.reduceLeDiff, Nat.reduceEqDiff, ↓reduceIte]
  refine eloop (S := Nat) (fun i => mkE 70 [(8, .own 0), (29, .d (.sl (T.map hD))), (30, .d (.int .i64 T.length)), (31, .d (.int .i64 i))]) (fun i => [.row 4 (((T.take i).foldl mstep []).map hD)]) (fun i => i ≤ T.length) (fun i => T.length - i) 0 (by omega) (Wk.trans (Wk.frz 0 rfl) (Wk.trans (Wk.nil 8 4 rfl) ?_)) ?_
  · simp only [go_sem, ↓reduceIte]
    exact (Wk.via1 1 (by (simp only [go_sem, ↓reduceIte]) <;> trivial) (by simp (maxSteps := 4000000) -implicitDefEqProofs only [go_sem, Nat.reduceAdd, Nat.reduceSub, Nat.reduceLT, Nat.reduceLeDiff, Nat.reduceEqDiff, ↓reduceIte]) (by simp) (by (simp only [go_sem]) <;> trivial) (by trivial))
  clear hi h2 f1 i
  intro i hi
  rcases Nat.lt_or_ge i T.length with h2 | h2
  case inr =>
    have f1 : decide ((i : Int) < T.length) = false := by simp; omega
    simp (maxSteps := 4000000) -implicitDefEqProofs only [go_sem, f1, Option.some.injEq, forall_eq', and_true, true_and, Bool.not_true, Bool.not_false, decide_true, Nat.reduceAdd, Nat.reduceSub, Nat.reduceLT, Nat.reduceLeDiff, Nat.reduceEqDiff, ↓reduceIte]
    rw [List.take_of_length_le h2]
    exact wk_dat (r' := .d (.sl ((T.foldl mstep []).map hD))) (by simp only [go_sem]; rfl) rfl trivial
  have f1 : decide ((i : Int) < T.length) = true := by simp; omega
  obtain ⟨h, hh⟩ : ∃ x, T[i]? = some x := ⟨T[i]'h2, List.getElem?_eq_getElem _⟩
  have n1 : (0 ≤ (i : Int) ∧ (i : Int) < T.length) = True := eq_true (by omega)
  have n2 : (i < T.length) = True := eq_true (by omega)
  have w1 : IntKind.i64.wrap ((i : Int) + 1) = ((i + 1 : Nat) : Int) := by rw [i64_in _ (by omega)]; simp
  have fs := fold_snoc hh
  have fl := fold_len (T.take i) []
  rw [List.length_take] at fl
  simp only [List.length_nil] at fl
  obtain ⟨out, ho⟩ : ∃ out, out = (T.take i).foldl mstep [] := ⟨_, rfl⟩
  rw [← ho] at fs fl ⊢
  have hol : out.length ≤ 16 := by omega
  cases hlast : out.getLast? with
  | none =>
    have e0 : out = [] := by simpa using hlast
    subst e0
    have f2 : decide ((0 : Int) < ((0 : Nat) : Int)) = false := rfl
    rw [mstep_nil] at fs
    simp (maxSteps := 4000000) -implicitDefEqProofs only [go_sem, f1, n1, n2, hh, Option.some.injEq, forall_eq', and_true, true_and, Bool.not_true, Bool.not_false, decide_true, Nat.reduceAdd, Nat.reduceSub, Nat.reduceLT, Nat.reduceLeDiff, Nat.reduceEqDiff, ↓reduceIte]
    refine DX.plain (.take 0 false (.take 1 false (.take 2 false (.take 3 false (.take 4 false (.take 5 false (.take 6 false (.take 7 false (.take 8 false (.take 9 false (.take 10 false (.take 11 false (.take 12 false .done))))))))))))) (by kernel_rfl) (by kernel_rfl) Ty.mixed ?_
    simp (maxSteps := 4000000) -implicitDefEqProofs only [go_sem, f2, Option.some.injEq, forall_eq', and_true, true_and, Bool.not_true, Bool.not_false, decide_true, Nat.reduceAdd, Nat.reduceSub, Nat.reduceLT, Nat.reduceLeDiff, Nat.reduceEqDiff, ↓reduceIte]
    refine ⟨by omega, ⟨fun e he => by simp at he; subst he; rfl, by omega⟩, ?_⟩
    simp (maxSteps := 4000000) -implicitDefEqProofs only [go_sem, w1, Option.some.injEq, forall_eq', and_true, true_and, Bool.not_true, Bool.not_false, decide_true, Nat.reduceAdd, Nat.reduceSub, Nat.reduceLT, Nat.reduceLeDiff, Nat.reduceEqDiff, ↓reduceIte]
    exact .mk (i + 1) (by omega) (by omega) (by rw [fs]; exact (Wk.via1 3 (by (simp only [go_sem, ↓reduceIte]) <;> trivial) (by simp (maxSteps := 4000000) -implicitDefEqProofs only [go_sem, Nat.reduceAdd, Nat.reduceSub, Nat.reduceLT, Nat.reduceLeDiff, Nat.reduceEqDiff, ↓reduceIte]) (by simp) (by (simp only [go_sem]) <;> trivial) (by trivial)))
  | some w =>
    have hs := last_split hlast
    obtain ⟨A, hA'⟩ : ∃ A, A = out.dropLast := ⟨_, rfl⟩
    rw [← hA'] at hs
    subst hs
    clear hA'
    have hAl : A.length + 1 ≤ 16 := by simpa using hol
    have f2 : decide ((0 : Int) < ((A ++ [w]).length : Int)) = true := decide_eq_true (by simp)
    have w2 : IntKind.i64.wrap (((A ++ [w]).length : Int) - 1) = (A.length : Int) := by rw [i64_in _ (by simp; omega)]; simp
    have gw : (A ++ [w])[A.length]? = some w := by simp
    have n3 : (0 ≤ (A.length : Int) ∧ (A.length : Int) < (A ++ [w]).length) = True := eq_true (by simp; omega)
    have n4 : (A.length < (A ++ [w]).length) = True := eq_true (by simp)
    rcases Int.lt_or_le w.to h.fr with q | q
    · have f3 : decide (h.fr ≤ w.to) = false := decide_eq_false (by omega)
      rw [mstep_new q] at fs
      simp (maxSteps := 4000000) -implicitDefEqProofs only [go_sem, f1, n1, n2, hh, Option.some.injEq, forall_eq', and_true, true_and, Bool.not_true, Bool.not_false, decide_true, Nat.reduceAdd, Nat.reduceSub, Nat.reduceLT, Nat.reduceLeDiff, Nat.reduceEqDiff, ↓reduceIte]
      refine DX.plain (.take 0 false (.take 1 false (.take 2 false (.take 3 false (.take 4 false (.take 5 false (.take 6 false (.take 7 false (.take 8 false (.take 9 false (.take 10 false (.take 11 false (.take 12 false .done))))))))))))) (by kernel_rfl) (by kernel_rfl) Ty.mixed ?_
      simp (maxSteps := 4000000) -implicitDefEqProofs only [go_sem, f2, w2, n3, n4, gw, f3, Option.some.injEq, forall_eq', and_true, true_and, Bool.not_true, Bool.not_false, decide_true, Nat.reduceAdd, Nat.reduceSub, Nat.reduceLT, Nat.reduceLeDiff, Nat.reduceEqDiff, ↓reduceIte]
      refine ⟨by omega, ⟨fun e he => by simp at he; subst he; rfl, by omega, by omega⟩, ?_⟩
      simp (maxSteps := 4000000) -implicitDefEqProofs only [go_sem, w1, Option.some.injEq, forall_eq', and_true, true_and, Bool.not_true, Bool.not_false, decide_true, Nat.reduceAdd, Nat.reduceSub, Nat.reduceLT, Nat.reduceLeDiff, Nat.reduceEqDiff, ↓reduceIte]
      have e3 : (A ++ [w]).map hD ++ [[D.str h.br, D.int .i64 h.fr, D.int .i64 h.to, D.str h.rs]] = (A ++ [w] ++ [h]).map hD := by simp [hD]
      rw [e3]
      exact .mk (i + 1) (by omega) (by omega) (by rw [fs]; exact (Wk.via1 3 (by (simp only [go_sem, ↓reduceIte]) <;> trivial) (by simp (maxSteps := 4000000) -implicitDefEqProofs only [go_sem, Nat.reduceAdd, Nat.reduceSub, Nat.reduceLT, Nat.reduceLeDiff, Nat.reduceEqDiff, ↓reduceIte]) (by simp) (by (simp only [go_sem]) <;> trivial) (by trivial)))
    · have f3 : decide (h.fr ≤ w.to) = true := decide_eq_true q
      rw [mstep_join q] at fs
      simp (maxSteps := 4000000) -implicitDefEqProofs only [go_sem, f1, n1, n2, hh, Option.some.injEq, forall_eq', and_true, true_and, Bool.not_true, Bool.not_false, decide_true, Nat.reduceAdd, Nat.reduceSub, Nat.reduceLT, Nat.reduceLeDiff, Nat.reduceEqDiff, ↓reduceIte]
      refine DX.plain (.take 0 false (.take 1 false (.take 2 false (.take 3 false (.take 4 false (.take 5 false (.take 6 false (.take 7 false (.take 8 false (.take 9 false (.take 10 false (.take 11 false (.take 12 false .done))))))))))))) (by kernel_rfl) (by kernel_rfl) Ty.mixed ?_
      simp (maxSteps := 4000000) -implicitDefEqProofs only [go_sem, f2, w2, n3, n4, gw, f3, Option.some.injEq, forall_eq', and_true, true_and, Bool.not_true, Bool.not_false, decide_true, Nat.reduceAdd, Nat.reduceSub, Nat.reduceLT, Nat.reduceLeDiff, Nat.reduceEqDiff, ↓reduceIte]
      have mx : (if w.to < h.to then h.to else w.to) = max w.to h.to := by split <;> omega
      have jt : hD (joinTo w h) = [D.str w.br, D.int .i64 w.fr, D.int .i64 (max w.to h.to), D.str w.rs] := rfl
      refine DX.plain (.take 0 false (.take 1 false (.take 2 false (.take 3 false (.take 4 false (.take 5 false (.take 6 false (.take 7 false (.take 8 false (.take 9 false (.take 10 false (.take 11 false (.take 12 false (.take 13 false (.run [14] (fun _ => []) fun _ => .done))))))))))))))) (by kernel_rfl) (by kernel_rfl) Ty.mixed ?_
      simp (maxSteps := 4000000) -implicitDefEqProofs only [go_sem, w2, n3, n4, gw, w1, Option.some.injEq, forall_eq', and_true, true_and, Bool.not_true, Bool.not_false, decide_true, Nat.reduceAdd, Nat.reduceSub, Nat.reduceLT, Nat.reduceLeDiff, Nat.reduceEqDiff, ↓reduceIte]
      have e3 : A.map hD ++ [[D.str w.br, D.int .i64 w.fr, D.int .i64 (max w.to h.to), D.str w.rs]] = (A ++ [joinTo w h]).map hD := by rw [List.map_append, List.map_singleton, jt]
      rw [set_last, mx, e3]
      exact .mk (i + 1) (by omega) (by omega) (by rw [fs]; exact (Wk.via1 0 (by (simp only [go_sem, ↓reduceIte]) <;> trivial) (by simp (maxSteps := 4000000) -implicitDefEqProofs only [go_sem, Nat.reduceAdd, Nat.reduceSub, Nat.reduceLT, Nat.reduceLeDiff, Nat.reduceEqDiff, ↓reduceIte]) (by simp) (by (simp only [go_sem]) <;> trivial) (by trivial)))
def sgn (h : Hd) (t : Int) : Int := if h.to ≤ t then -1 else 1
theorem inF_own (h : Hd) (t : Int) : Spec Try.prog 46 [hA h, .d (.int .i64 t)] [] (.d (.int .i64 (sgn h t))) [] := by
  refine spec_of_ev (fn := Try.f46) DX_ok 3000 Try.func46 rfl rfl (Nat.le_of_ble_eq_true rfl) ?_
  simp (maxSteps := 4000000) -implicitDefEqProofs only [Try.f46, go_sem]
  rcases Int.lt_or_le t h.to with q | q
  · have d : decide (h.to ≤ t) = false := decide_eq_false (by omega)
    simp (maxSteps := 4000000) -implicitDefEqProofs only [go_sem, d, Option.some.injEq, forall_eq', and_true, true_and, Bool.not_true, Bool.not_false, decide_true, Nat.reduceAdd, Nat.reduceSub, Nat.reduceLT, Nat.reduceLeDiff, Nat.reduceEqDiff, ↓reduceIte]
    exact wk_int (by rw [sgn, if_neg (by omega)])
  · have d : decide (h.to ≤ t) = true := decide_eq_true q
    simp (maxSteps := 4000000) -implicitDefEqProofs only [go_sem, d, Option.some.injEq, forall_eq', and_true, true_and, Bool.not_true, Bool.not_false, decide_true, Nat.reduceAdd, Nat.reduceSub, Nat.reduceLT, Nat.reduceLeDiff, Nat.reduceEqDiff, ↓reduceIte]
    exact wk_int (by rw [sgn, if_pos q])
theorem to_mono {W : List Hd} (C : Can W) {i j : Nat} {x y : Hd} (hx : W[i]? = some x) (hy : W[j]? = some y) (h : i ≤ j) : x.to ≤ y.to := by
  rcases Nat.lt_or_ge i j with q | q
  · obtain ⟨q1, q2⟩ := List.getElem?_eq_some_iff.1 hx
    obtain ⟨q3, q4⟩ := List.getElem?_eq_some_iff.1 hy
    have := (List.pairwise_iff_getElem.1 C.1) i j q1 q3 q
    have hv := C.2 y (List.mem_of_getElem? hy)
    rw [q2, q4] at this; omega
  · have : i = j := by omega
    subst this; rw [hx] at hy; cases hy; exact Int.le_refl _
theorem mid {n : Nat} (h : n ≤ 100) : IntKind.i64.wrap ((IntKind.u64.wrap (n : Int)).fdiv (2 ^ min 1 64)) = ((n / 2 : Nat) : Int) := by
  have e1 : (2 : Int) ^ min 1 64 = 2 := rfl
  have e2 : IntKind.u64.wrap (n : Int) = n := by
    simp only [IntKind.wrap, IntKind.bits, IntKind.signed]
    simp; omega
  rw [e1, e2, Int.fdiv_eq_ediv_of_nonneg _ (by omega), i64_in _ (by omega)]; simp
theorem search_own (W : List Hd) (t : Int) (C : Can W) (hW : W.length ≤ 16) : Spec Try.prog 45 [.d (.sl (W.map hD)), .d (.int .i64 t), .fn 46 []] [] (.tup [.d (.int .i64 (W.findIdx fun w => decide (t < w.to))), .d (.bool false)]) [] := by
  refine spec_of_ev (fn := Try.f45) DX_ok 3000 Try.func45 rfl rfl (Nat.le_of_ble_eq_true rfl) ?_
  simp (maxSteps := 4000000) -implicitDefEqProofs only [Try.f45, go_sem]
  refine eloop (S := Nat × Nat) (fun s => mkE 49 [(0, .d (.sl (W.map hD))), (1, .d (.int .i64 t)), (2, .fn 46 []), (8, .d (.int .i64 W.length)), (9, .d (.int .i64 s.1)), (10, .d (.int .i64 s.2))]) (fun s => []) (fun s => s.1 ≤ s.2 ∧ s.2 ≤ W.length ∧ (∀ j x, W[j]? = some x → j < s.1 → x.to ≤ t) ∧ ∀ j x, W[j]? = some x → s.2 ≤ j → t < x.to) (fun s => s.2 - s.1) (0, W.length) ⟨by omega, by omega, by omega, fun j x hx hj => by have := some_lt hx; simp only at hj; omega⟩ (Wk.sub (by (simp only [go_sem]) <;> trivial)) ?_
  intro s hs
  obtain ⟨i1, i2, i3, i4⟩ := hs
  rcases Nat.lt_or_ge s.1 s.2 with h2 | h2
  · have f1 : decide ((s.1 : Int) < s.2) = true := by simp; omega
    have w1 : IntKind.i64.wrap ((s.1 : Int) + s.2) = ((s.1 + s.2 : Nat) : Int) := by rw [i64_in _ (by omega)]; simp
    obtain ⟨m, hm⟩ : ∃ m, m = (s.1 + s.2) / 2 := ⟨_, rfl⟩
    have w2 := mid (n := s.1 + s.2) (by omega)
    rw [← hm] at w2
    have w3 : IntKind.i64.wrap ((m : Int) + 1) = ((m + 1 : Nat) : Int) := by rw [i64_in _ (by omega)]; simp
    have n0 : (0 ≤ (1 : Int)) = True := eq_true (by omega)
    obtain ⟨x, hx⟩ : ∃ x, W[m]? = some x := ⟨W[m]'(by omega), List.getElem?_eq_getElem _⟩
    have n1 : (0 ≤ (m : Int) ∧ (m : Int) < W.length) = True := eq_true (by omega)
    have n2 : (m < W.length) = True := eq_true (by omega)
    have sp := inF_own x t
    simp only [hA] at sp
    simp (maxSteps := 4000000) -implicitDefEqProofs only [go_sem, f1, w1, w2, n0, n1, n2, hx, Option.some.injEq, forall_eq', and_true, true_and, Bool.not_true, Bool.not_false, decide_true, Nat.reduceAdd, Nat.reduceSub, Nat.reduceLT, Nat.reduceLeDiff, Nat.reduceEqDiff, ↓reduceIte]
    refine ecall0 _ sp (by simp only [go_sem]) (by simp only [go_sem]) ?_
    rcases Int.lt_or_le t x.to with q | q
    · have sg : sgn x t = 1 := by rw [sgn, if_neg (by omega)]
      have d : decide ((1 : Int) < 0) = false := rfl
      simp (maxSteps := 4000000) -implicitDefEqProofs only [go_sem, sg, d, Option.some.injEq, forall_eq', and_true, true_and, Bool.not_true, Bool.not_false, decide_true, Nat.reduceAdd, Nat.reduceSub, Nat.reduceLT, Nat.reduceLeDiff, Nat.reduceEqDiff, ↓reduceIte]
      exact .mk (s.1, m) ⟨by simp only; omega, by simp only; omega, i3, fun j y hy hj => by have := to_mono C hx hy hj; omega⟩ (by simp only; omega) (Wk.sub (by (simp only [go_sem]) <;> trivial))
    · have sg : sgn x t = -1 := by rw [sgn, if_pos q]
      have d : decide ((-1 : Int) < 0) = true := rfl
      simp (maxSteps := 4000000) -implicitDefEqProofs only [go_sem, sg, d, w3, Option.some.injEq, forall_eq', and_true, true_and, Bool.not_true, Bool.not_false, decide_true, Nat.reduceAdd, Nat.reduceSub, Nat.reduceLT, Nat.reduceLeDiff, Nat.reduceEqDiff, ↓reduceIte]
      exact .mk (m + 1, s.2) ⟨by simp only; omega, i2, fun j y hy hj => by have := to_mono C hy hx (by simp only at hj; omega); omega, i4⟩ (by simp only; omega) (Wk.sub (by (simp only [go_sem]) <;> trivial))
  have hidx : W.findIdx (fun w => decide (t < w.to)) = s.1 := by
    rcases Nat.lt_or_ge s.1 W.length with h3 | h3
    · have g := List.getElem?_eq_getElem h3
      refine (List.findIdx_eq h3).2 ⟨by simpa using i4 _ _ g (by omega), fun j hj => ?_⟩
      have := i3 j _ (List.getElem?_eq_getElem (by omega)) hj
      simp; omega
    · have : s.1 = W.length := by omega
      rw [this]
      refine List.findIdx_eq_length.2 fun x hx => ?_
      obtain ⟨j, hj⟩ := List.mem_iff_getElem?.1 hx
      have := i3 j x hj (by have := some_lt hj; omega)
      simp; omega
  have f1 : decide ((s.1 : Int) < s.2) = false := by simp; omega
  rcases Nat.lt_or_ge s.1 W.length with h3 | h3
  · have f2 : decide ((s.1 : Int) < W.length) = true := by simp; omega
    obtain ⟨x, hx⟩ : ∃ x, W[s.1]? = some x := ⟨W[s.1]'h3, List.getElem?_eq_getElem _⟩
    have n1 : (0 ≤ (s.1 : Int) ∧ (s.1 : Int) < W.length) = True := eq_true (by omega)
    have n2 : (s.1 < W.length) = True := eq_true (by omega)
    have sp := inF_own x t
    simp only [hA] at sp
    simp (maxSteps := 4000000) -implicitDefEqProofs only [go_sem, f1, f2, n1, n2, hx, Option.some.injEq, forall_eq', and_true, true_and, Bool.not_true, Bool.not_false, decide_true, Nat.reduceAdd, Nat.reduceSub, Nat.reduceLT, Nat.reduceLeDiff, Nat.reduceEqDiff, ↓reduceIte]
    refine ecall0 _ sp (by simp only [go_sem]) (by simp only [go_sem]) ?_
    have sg : (sgn x t == 0) = false := by unfold sgn; split <;> rfl
    simp (maxSteps := 4000000) -implicitDefEqProofs only [go_sem, sg, Option.some.injEq, forall_eq', and_true, true_and, Bool.not_true, Bool.not_false, decide_true, Nat.reduceAdd, Nat.reduceSub, Nat.reduceLT, Nat.reduceLeDiff, Nat.reduceEqDiff, ↓reduceIte]
    rw [hidx]
    exact wk_dat (r' := .tup [.d (.int .i64 s.1), .d (.bool false)]) (by simp only [go_sem]; rfl) rfl (by simp only [go_sem])
  · have f2 : decide ((s.1 : Int) < W.length) = false := by simp; omega
    simp (maxSteps := 4000000) -implicitDefEqProofs only [go_sem, f1, f2, Option.some.injEq, forall_eq', and_true, true_and, Bool.not_true, Bool.not_false, decide_true, Nat.reduceAdd, Nat.reduceSub, Nat.reduceLT, Nat.reduceLeDiff, Nat.reduceEqDiff, ↓reduceIte]
    rw [hidx]
    exact wk_dat (r' := .tup [.d (.int .i64 s.1), .d (.bool false)]) (by simp only [go_sem]; rfl) rfl (by simp only [go_sem])
end Go.AX.Wn

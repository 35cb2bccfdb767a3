/- Ledgers: copied; one branch's events in the call's own. -/
import Derived.Test.YtknofchgacbamaaK6
import Derived.KernelRfl
import Derived.Test.YtknofchgacbamaaRows
set_option maxHeartbeats 8000000
set_option linter.unusedVariables false
set_option linter.unusedSimpArgs false
set_option maxRecDepth 20000
namespace Go.AX.Lg
open Go.Proofs Go.RowKit Go.IntWalk Go.AX.Br
theorem esDx_len (l : List (List Ev)) : (∀ e ∈ l.map esD, e.length = 1) = True := esD_len
/-- what stands for the events of branch i -/
def inn (i j : Nat) (s : List Ev) : AObj := if i < j then .vec 2 (upD (s.map eD)) else .gone
theorem inn_ren {f : Nat → Nat} {i j : Nat} {s : List Ev} : renO f (inn i j s) = inn i j s := by
  unfold inn
  split
  · simp only [renO, renss_up]
  · rfl
theorem inn_bd {k : Nat} {i j : Nat} {s : List Ev} : bdO k (inn i j s) = True := by
  unfold inn
  split
  · simp only [bdO, bdss_up]
  · rfl
theorem inn_wk {i j : Nat} {s : List Ev} : wkO (inn i j s) (inn i j s) = True := eq_true (wkO_refl _)
attribute [go_sem ↓] inn_ren inn_bd inn_wk
def evX (l : Lg) (j : Nat) : List (List D) := (l.ev.take j).map esD
theorem evX_sz {l : Lg} {j : Nat} : (∀ e ∈ evX l j, e.length = 1) = True := esDx_len _
def zL : AObj := .cells [.nil, .nil, .nil]
attribute [go_sem] evX_sz zL
def cl0 (l : Lg) : List AObj := [lH l, zL, .cells [.own 3, .own 4, .nil], .row 2 (l.kn.map kD), .row 3 (l.br.map bD)]
end Go.AX.Lg
/- Ledgers: Append of the program. -/
set_option maxHeartbeats 8000000
set_option linter.unusedVariables false
set_option linter.unusedSimpArgs false
set_option maxRecDepth 20000
namespace Go.AX
attribute [go_sem] vset_set
end Go.AX
namespace Go.AX.Lg
open Go.Proofs Go.RowKit Go.IntWalk Go.AX.Br
def lg0 : Lg := ⟨[], [], []⟩
def addE (l : Lg) (i : Nat) (x : Ev) : Lg := ⟨l.kn, l.br, l.ev.set i ((l.ev.getD i []) ++ [x])⟩
def appR (l : Lg) (nm : ByteArray) (x : Ev) : Lg × Int :=
  if (lview l nm).2 ≠ 0 then (lg0, (lview l nm).2) else if classN l x.ch = none then (lg0, 6)
  else if (l.ev.getD (idx (has nm) l.br).toNat []).length = 40 then (lg0, 4)
  else if allR l (seenL l (lview l nm).1) x ≠ 0 then (lg0, allR l (seenL l (lview l nm).1) x) else (addE l (idx (has nm) l.br).toNat x, 0)
end Go.AX.Lg
/- Ledgers: Twin, Append and Cut of the reference; Cut of the program. -/
set_option maxHeartbeats 8000000
set_option linter.unusedVariables false
set_option linter.unusedSimpArgs false
set_option maxRecDepth 20000
namespace Go.AX.Lg
open Go.Proofs Go.RowKit Go.IntWalk Go.AX.Br
end Go.AX.Lg
/- Ledgers: Append of the reference; Cut, both sides; Twin, Same and Great. -/
set_option maxHeartbeats 8000000
set_option linter.unusedVariables false
set_option linter.unusedSimpArgs false
set_option maxRecDepth 20000
namespace Go.AX.Lg
open Go.Proofs Go.RowKit Go.IntWalk Go.AX.Br
def lcutR (l : Lg) (frm nm : ByteArray) (at' : Int) : Lg × Int :=
  if lcheck l ≠ 0 then (lg0, lcheck l) else if (cutR l.br (cntL l) frm nm at').2 ≠ 0 then (lg0, (cutR l.br (cntL l) frm nm at').2)
  else (⟨l.kn, (cutR l.br (cntL l) frm nm at').1, l.ev ++ [[]]⟩, 0)
end Go.AX.Lg
/- Ledgers: Same and Great. -/
set_option maxHeartbeats 8000000
set_option linter.unusedVariables false
set_option linter.unusedSimpArgs false
set_option maxRecDepth 20000
namespace Go.AX.Lg
open Go.Proofs Go.RowKit Go.IntWalk Go.AX.Br
def bigK (k : Kn) : Bool := decide (100 < k.ch.size)
def bigE (x : Ev) : Bool := decide (100 < x.ch.size)
def bigN (n : Nat) : Bool := (decide (8 < n) && decide (n ≤ 40)) || decide (50 < n)
def bigS (s : List Ev) : Bool := bigN s.length || s.any bigE
def greatL (l : Lg) : Bool := l.kn.any bigK || l.ev.any bigS || (decide (40 < l.kn.length) || great l.br [] || decide (20 < l.ev.length))
theorem great_lref (l : Lg) (hk : Sm l.kn.length) (hb : Sm l.br.length) (he : Sm l.ev.length) (hs : ∀ s ∈ l.ev, Sm s.length) : Spec Try.prog 15 [lA l] [] (.d (.bool (greatL l))) [] := by
  have c1 := great_ref l.br [] hb
  simp only [List.map_nil] at c1
  unfold Sm at hk hb he hs
  obtain ⟨R, hR⟩ : ∃ R, R = greatL l := ⟨_, rfl⟩
  rw [← hR]
  have yes : greatL l = true → ∀ {σ : List AObj}, Wk 0 [.d (.bool true)] σ [.d (.bool R)] [] := fun h {σ} => wk_bool (by rw [hR, h])
  refine spec_of_ev (fn := Try.f15) DX_ok 3000 Try.func15 rfl rfl (Nat.le_of_ble_eq_true rfl) ?_
  simp (maxSteps := 4000000) -implicitDefEqProofs only [Try.f15, go_sem, lA]
  refine eloop (S := Nat) (fun i => mkE 89 [(1, .ptr 0 0), (3, .d (.int .i64 i))]) (fun i => [lH l]) (fun i => i ≤ l.kn.length ∧ ∀ j y, l.kn[j]? = some y → j < i → bigK y = false) (fun i => l.kn.length - i) 0 ⟨by omega, by omega⟩ (Wk.via [0] (by (simp only [go_sem, ↓reduceIte]) <;> trivial) (by first | (simp (maxSteps := 4000000) -implicitDefEqProofs only [go_sem, Nat.reduceAdd, Nat.reduceSub, Nat.reduceLT, Nat.reduceLeDiff, Nat.reduceEqDiff, ↓reduceIte]; done) | ((simp (maxSteps := 4000000) -implicitDefEqProofs only [go_sem, Nat.reduceAdd, Nat.reduceSub, Nat.reduceLT, Nat.reduceLeDiff, Nat.reduceEqDiff, ↓reduceIte]) <;> omega)) (by simp) (by first | (simp; done) | (simp [so]; done)) (by (simp (maxSteps := 4000000) -implicitDefEqProofs only [go_sem, Nat.reduceAdd, Nat.reduceSub, Nat.reduceLT, Nat.reduceLeDiff, Nat.reduceEqDiff, ↓reduceIte]) <;> trivial) (by first | (simp only [go_sem]; done) | ((simp (maxSteps := 4000000) -implicitDefEqProofs only [go_sem, Nat.reduceAdd, Nat.reduceSub, Nat.reduceLT, Nat.reduceLeDiff, Nat.reduceEqDiff, ↓reduceIte]) <;> omega)) (Nat.zero_le _) (fun i h => absurd h (Nat.not_lt_zero i))) ?_
  rintro i ⟨hi, hj⟩
  rcases Nat.lt_or_ge i l.kn.length with h2 | h2
  case inl =>
    have f1 : decide ((i : Int) < l.kn.length) = true := by simp; omega
    obtain ⟨x, hx⟩ : ∃ x, l.kn[i]? = some x := ⟨l.kn[i]'h2, List.getElem?_eq_getElem _⟩
    have n1 : (0 ≤ (i : Int) ∧ (i : Int) < l.kn.length) = True := eq_true (by omega)
    have n2 : (i < l.kn.length) = True := eq_true (by omega)
    have w1 : IntKind.i64.wrap ((i : Int) + 1) = ((i + 1 : Nat) : Int) := by rw [i64_in _ (by omega)]; simp
    cases g : bigK x
    case true =>
      have d1 : decide ((100 : Int) < x.ch.size) = true := by simp only [bigK, decide_eq_true_eq] at g ⊢; omega
      simp (maxSteps := 4000000) -implicitDefEqProofs only [go_sem, f1, n1, n2, hx, d1, Option.some.injEq, forall_eq', and_true, true_and, Bool.not_true, Bool.not_false, decide_true, Nat.reduceAdd, Nat.reduceSub, Nat.reduceLT, Nat.reduceLeDiff, Nat.reduceEqDiff, ↓reduceIte]
      exact yes (by rw [greatL, any_t hx g]; rfl)
    have d1 : decide ((100 : Int) < x.ch.size) = false := by simp only [bigK, decide_eq_false_iff_not] at g ⊢; omega
    simp (maxSteps := 4000000) -implicitDefEqProofs only [go_sem, f1, n1, n2, hx, d1, w1, Option.some.injEq, forall_eq', and_true, true_and, Bool.not_true, Bool.not_false, decide_true, Nat.reduceAdd, Nat.reduceSub, Nat.reduceLT, Nat.reduceLeDiff, Nat.reduceEqDiff, ↓reduceIte]
    exact .mk (i + 1) ⟨by omega, upto_succ hx g hj⟩ (by omega) (Wk.via [0] (by (simp only [go_sem, ↓reduceIte]) <;> trivial) (by first | (simp (maxSteps := 4000000) -implicitDefEqProofs only [go_sem, Nat.reduceAdd, Nat.reduceSub, Nat.reduceLT, Nat.reduceLeDiff, Nat.reduceEqDiff, ↓reduceIte]; done) | ((simp (maxSteps := 4000000) -implicitDefEqProofs only [go_sem, Nat.reduceAdd, Nat.reduceSub, Nat.reduceLT, Nat.reduceLeDiff, Nat.reduceEqDiff, ↓reduceIte]) <;> omega)) (by simp) (by first | (simp; done) | (simp [so]; done)) (by (simp (maxSteps := 4000000) -implicitDefEqProofs only [go_sem, Nat.reduceAdd, Nat.reduceSub, Nat.reduceLT, Nat.reduceLeDiff, Nat.reduceEqDiff, ↓reduceIte]) <;> trivial) (by first | (simp only [go_sem]; done) | ((simp (maxSteps := 4000000) -implicitDefEqProofs only [go_sem, Nat.reduceAdd, Nat.reduceSub, Nat.reduceLT, Nat.reduceLeDiff, Nat.reduceEqDiff, ↓reduceIte]) <;> omega)) (Nat.zero_le _) (fun i h => absurd h (Nat.not_lt_zero i)))
  have f1 : decide ((i : Int) < l.kn.length) = false := by simp; omega
  have nk : l.kn.any bigK = false := any_f fun j y hy => hj j y hy (by have := some_lt hy; omega)
  simp (maxSteps := 4000000) -implicitDefEqProofs only [go_sem, f1, Option.some.injEq, forall_eq', and_true, true_and, Bool.not_true, Bool.not_false, decide_true, Nat.reduceAdd, Nat.reduceSub, Nat.reduceLT, Nat.reduceLeDiff, Nat.reduceEqDiff, ↓reduceIte]
  clear hj hi h2 f1
  refine eloop (S := Nat) (fun i => mkE 89 [(1, .ptr 0 0), (4, .d (.int .i64 i))]) (fun i => [lH l]) (fun i => i ≤ l.ev.length ∧ ∀ j y, l.ev[j]? = some y → j < i → bigS y = false) (fun i => l.ev.length - i) 0 ⟨by omega, by omega⟩ (Wk.via [0] (by (simp only [go_sem, ↓reduceIte]) <;> trivial) (by first | (simp (maxSteps := 4000000) -implicitDefEqProofs only [go_sem, Nat.reduceAdd, Nat.reduceSub, Nat.reduceLT, Nat.reduceLeDiff, Nat.reduceEqDiff, ↓reduceIte]; done) | ((simp (maxSteps := 4000000) -implicitDefEqProofs only [go_sem, Nat.reduceAdd, Nat.reduceSub, Nat.reduceLT, Nat.reduceLeDiff, Nat.reduceEqDiff, ↓reduceIte]) <;> omega)) (by simp) (by first | (simp; done) | (simp [so]; done)) (by (simp (maxSteps := 4000000) -implicitDefEqProofs only [go_sem, Nat.reduceAdd, Nat.reduceSub, Nat.reduceLT, Nat.reduceLeDiff, Nat.reduceEqDiff, ↓reduceIte]) <;> trivial) (by first | (simp only [go_sem]; done) | ((simp (maxSteps := 4000000) -implicitDefEqProofs only [go_sem, Nat.reduceAdd, Nat.reduceSub, Nat.reduceLT, Nat.reduceLeDiff, Nat.reduceEqDiff, ↓reduceIte]) <;> omega)) (Nat.zero_le _) (fun i h => absurd h (Nat.not_lt_zero i))) ?_
  rintro i ⟨hi, hj⟩
  rcases Nat.lt_or_ge i l.ev.length with h2 | h2
  case inr =>
    have f1 : decide ((i : Int) < l.ev.length) = false := by simp; omega
    have ne : l.ev.any bigS = false := any_f fun j y hy => hj j y hy (by have := some_lt hy; omega)
    have hg : greatL l = (decide (40 < l.kn.length) || great l.br [] || decide (20 < l.ev.length)) := by rw [greatL, nk, ne]; rfl
    cases g1 : decide (40 < l.kn.length)
    case true =>
      have d1 : decide ((40 : Int) < l.kn.length) = true := by simp only [decide_eq_true_eq] at g1 ⊢; omega
      simp (maxSteps := 4000000) -implicitDefEqProofs only [go_sem, f1, d1, Option.some.injEq, forall_eq', and_true, true_and, Bool.not_true, Bool.not_false, decide_true, Nat.reduceAdd, Nat.reduceSub, Nat.reduceLT, Nat.reduceLeDiff, Nat.reduceEqDiff, ↓reduceIte]
      exact yes (by rw [hg, g1]; rfl)
    have d1 : decide ((40 : Int) < l.kn.length) = false := by simp only [decide_eq_false_iff_not] at g1 ⊢; omega
    rw [g1, Bool.false_or] at hg
    simp (maxSteps := 4000000) -implicitDefEqProofs only [go_sem, f1, d1, Option.some.injEq, forall_eq', and_true, true_and, Bool.not_true, Bool.not_false, decide_true, Nat.reduceAdd, Nat.reduceSub, Nat.reduceLT, Nat.reduceLeDiff, Nat.reduceEqDiff, ↓reduceIte]
    refine ECall.dat (args' := [.d (.sl (l.br.map bD)), .d (.sl [])]) (by simp only [go_sem]; rfl) rfl ?_
    refine ecall0 _ c1 (by simp only [go_sem]) (by simp only [go_sem]) ?_
    cases g2 : great l.br []
    case true =>
      simp (maxSteps := 4000000) -implicitDefEqProofs only [go_sem, g2, Option.some.injEq, forall_eq', and_true, true_and, Bool.not_true, Bool.not_false, decide_true, Nat.reduceAdd, Nat.reduceSub, Nat.reduceLT, Nat.reduceLeDiff, Nat.reduceEqDiff, ↓reduceIte]
      exact yes (by rw [hg, g2]; rfl)
    rw [g2, Bool.false_or] at hg
    simp (maxSteps := 4000000) -implicitDefEqProofs only [go_sem, g2, Option.some.injEq, forall_eq', and_true, true_and, Bool.not_true, Bool.not_false, decide_true, Nat.reduceAdd, Nat.reduceSub, Nat.reduceLT, Nat.reduceLeDiff, Nat.reduceEqDiff, ↓reduceIte]
    exact wk_bool (by rw [hR, hg]; exact decide_eq_decide.2 (by omega))
  have f1 : decide ((i : Int) < l.ev.length) = true := by simp; omega
  obtain ⟨s, hx⟩ : ∃ x, l.ev[i]? = some x := ⟨l.ev[i]'h2, List.getElem?_eq_getElem _⟩
  have hsl := hs s (List.mem_of_getElem? hx)
  have n1 : (0 ≤ (i : Int) ∧ (i : Int) < l.ev.length) = True := eq_true (by omega)
  have n2 : (i < l.ev.length) = True := eq_true (by omega)
  have w1 : IntKind.i64.wrap ((i : Int) + 1) = ((i + 1 : Nat) : Int) := by rw [i64_in _ (by omega)]; simp
  have bigT : bigN s.length = true → greatL l = true := fun h => by
    rw [greatL, any_t hx (by rw [bigS, h]; rfl)]; simp
  have d1 : decide ((8 : Int) < s.length) = decide (8 < s.length) := decide_eq_decide.2 (by omega)
  have d2 : decide ((s.length : Int) ≤ 40) = decide (s.length ≤ 40) := decide_eq_decide.2 (by omega)
  have d3 : decide ((50 : Int) < s.length) = decide (50 < s.length) := decide_eq_decide.2 (by omega)
  cases g : bigN s.length
  case true =>
    cases a1 : decide (8 < s.length) <;> cases a2 : decide (s.length ≤ 40) <;> cases a3 : decide (50 < s.length) <;> (try (simp only [bigN, a1, a2, a3] at g; cases g; done)) <;> rw [a1] at d1 <;> rw [a2] at d2 <;> rw [a3] at d3
    all_goals (simp (maxSteps := 4000000) -implicitDefEqProofs only [go_sem, f1, n1, n2, hx, d1, d2, d3, Option.some.injEq, forall_eq', and_true, true_and, Bool.not_true, Bool.not_false, decide_true, Nat.reduceAdd, Nat.reduceSub, Nat.reduceLT, Nat.reduceLeDiff, Nat.reduceEqDiff, ↓reduceIte])
    all_goals exact yes (bigT g)
  have go : (decide (8 < s.length) = false ∧ decide (50 < s.length) = false) ∨ (decide (8 < s.length) = true ∧ decide (s.length ≤ 40) = false ∧ decide (50 < s.length) = false) := by
    simp only [bigN, Bool.or_eq_false_iff, Bool.and_eq_false_iff] at g
    cases a1 : decide (8 < s.length)
    · exact .inl ⟨rfl, g.2⟩
    · refine .inr ⟨rfl, ?_, g.2⟩
      rcases g.1 with q | q
      · rw [a1] at q; cases q
      · exact q
  rcases go with ⟨a1, a3⟩ | ⟨a1, a2, a3⟩
  all_goals rw [a1] at d1
  all_goals rw [a3] at d3
  case' inr => rw [a2] at d2
  all_goals (simp (maxSteps := 4000000) -implicitDefEqProofs only [go_sem, f1, n1, n2, hx, d1, d2, d3, Option.some.injEq, forall_eq', and_true, true_and, Bool.not_true, Bool.not_false, decide_true, Nat.reduceAdd, Nat.reduceSub, Nat.reduceLT, Nat.reduceLeDiff, Nat.reduceEqDiff, ↓reduceIte])
  all_goals refine eloop (S := Nat) (fun k => mkE 89 [(1, .ptr 0 0), (4, .d (.int .i64 i)), (5, .d (.int .i64 k))]) (fun k => [lH l]) (fun k => k ≤ s.length ∧ ∀ j y, s[j]? = some y → j < k → bigE y = false) (fun k => s.length - k) 0 ⟨by omega, by omega⟩ (Wk.via [0] (by (simp only [go_sem, ↓reduceIte]) <;> trivial) (by first | (simp (maxSteps := 4000000) -implicitDefEqProofs only [go_sem, Nat.reduceAdd, Nat.reduceSub, Nat.reduceLT, Nat.reduceLeDiff, Nat.reduceEqDiff, ↓reduceIte]; done) | ((simp (maxSteps := 4000000) -implicitDefEqProofs only [go_sem, Nat.reduceAdd, Nat.reduceSub, Nat.reduceLT, Nat.reduceLeDiff, Nat.reduceEqDiff, ↓reduceIte]) <;> omega)) (by simp) (by first | (simp; done) | (simp [so]; done)) (by (simp (maxSteps := 4000000) -implicitDefEqProofs only [go_sem, Nat.reduceAdd, Nat.reduceSub, Nat.reduceLT, Nat.reduceLeDiff, Nat.reduceEqDiff, ↓reduceIte]) <;> trivial) (by first | (simp only [go_sem]; done) | ((simp (maxSteps := 4000000) -implicitDefEqProofs only [go_sem, Nat.reduceAdd, Nat.reduceSub, Nat.reduceLT, Nat.reduceLeDiff, Nat.reduceEqDiff, ↓reduceIte]) <;> omega)) (Nat.zero_le _) (fun i h => absurd h (Nat.not_lt_zero i))) ?_
  all_goals rintro k ⟨hk2, hjk⟩
  all_goals rcases Nat.lt_or_ge k s.length with h3 | h3
  case' inl.inl | inr.inl =>
    have f2 : decide ((k : Int) < s.length) = true := by simp; omega
    obtain ⟨y, hy⟩ : ∃ x, s[k]? = some x := ⟨s[k]'h3, List.getElem?_eq_getElem _⟩
    have n3 : (0 ≤ (k : Int) ∧ (k : Int) < s.length) = True := eq_true (by omega)
    have n4 : (k < s.length) = True := eq_true (by omega)
    have w2 : IntKind.i64.wrap ((k : Int) + 1) = ((k + 1 : Nat) : Int) := by rw [i64_in _ (by omega)]; simp
    cases gy : bigE y
  case' inl.inl.true | inr.inl.true =>
    have d4 : decide ((100 : Int) < y.ch.size) = true := by simp only [bigE, decide_eq_true_eq] at gy ⊢; omega
    simp (maxSteps := 4000000) -implicitDefEqProofs only [go_sem, n1, n2, hx, f2, n3, n4, hy, d4, Option.some.injEq, forall_eq', and_true, true_and, Bool.not_true, Bool.not_false, decide_true, Nat.reduceAdd, Nat.reduceSub, Nat.reduceLT, Nat.reduceLeDiff, Nat.reduceEqDiff, ↓reduceIte]
  case inl.inl.true | inr.inl.true =>
    exact yes (by rw [greatL, any_t hx (by rw [bigS, any_t hy gy]; simp)]; simp)
  case' inl.inl.false | inr.inl.false =>
    have d4 : decide ((100 : Int) < y.ch.size) = false := by simp only [bigE, decide_eq_false_iff_not] at gy ⊢; omega
    simp (maxSteps := 4000000) -implicitDefEqProofs only [go_sem, n1, n2, hx, f2, n3, n4, hy, d4, w2, Option.some.injEq, forall_eq', and_true, true_and, Bool.not_true, Bool.not_false, decide_true, Nat.reduceAdd, Nat.reduceSub, Nat.reduceLT, Nat.reduceLeDiff, Nat.reduceEqDiff, ↓reduceIte]
  case inl.inl.false | inr.inl.false =>
    exact .mk (k + 1) ⟨by omega, upto_succ hy gy hjk⟩ (by omega) (Wk.via [0] (by (simp only [go_sem, ↓reduceIte]) <;> trivial) (by first | (simp (maxSteps := 4000000) -implicitDefEqProofs only [go_sem, Nat.reduceAdd, Nat.reduceSub, Nat.reduceLT, Nat.reduceLeDiff, Nat.reduceEqDiff, ↓reduceIte]; done) | ((simp (maxSteps := 4000000) -implicitDefEqProofs only [go_sem, Nat.reduceAdd, Nat.reduceSub, Nat.reduceLT, Nat.reduceLeDiff, Nat.reduceEqDiff, ↓reduceIte]) <;> omega)) (by simp) (by first | (simp; done) | (simp [so]; done)) (by (simp (maxSteps := 4000000) -implicitDefEqProofs only [go_sem, Nat.reduceAdd, Nat.reduceSub, Nat.reduceLT, Nat.reduceLeDiff, Nat.reduceEqDiff, ↓reduceIte]) <;> trivial) (by first | (simp only [go_sem]; done) | ((simp (maxSteps := 4000000) -implicitDefEqProofs only [go_sem, Nat.reduceAdd, Nat.reduceSub, Nat.reduceLT, Nat.reduceLeDiff, Nat.reduceEqDiff, ↓reduceIte]) <;> omega)) (Nat.zero_le _) (fun i h => absurd h (Nat.not_lt_zero i)))
  all_goals
    have f2 : decide ((k : Int) < s.length) = false := by simp; omega
    have ns : s.any bigE = false := any_f fun j y hy => hjk j y hy (by have := some_lt hy; omega)
    simp (maxSteps := 4000000) -implicitDefEqProofs only [go_sem, n1, n2, hx, f2, w1, Option.some.injEq, forall_eq', and_true, true_and, Bool.not_true, Bool.not_false, decide_true, Nat.reduceAdd, Nat.reduceSub, Nat.reduceLT, Nat.reduceLeDiff, Nat.reduceEqDiff, ↓reduceIte]
    exact .mk (i + 1) ⟨by omega, upto_succ hx (by rw [bigS, g, ns]; rfl) hj⟩ (by omega) (Wk.via [0] (by (simp only [go_sem, ↓reduceIte]) <;> trivial) (by first | (simp (maxSteps := 4000000) -implicitDefEqProofs only [go_sem, Nat.reduceAdd, Nat.reduceSub, Nat.reduceLT, Nat.reduceLeDiff, Nat.reduceEqDiff, ↓reduceIte]; done) | ((simp (maxSteps := 4000000) -implicitDefEqProofs only [go_sem, Nat.reduceAdd, Nat.reduceSub, Nat.reduceLT, Nat.reduceLeDiff, Nat.reduceEqDiff, ↓reduceIte]) <;> omega)) (by simp) (by first | (simp; done) | (simp [so]; done)) (by (simp (maxSteps := 4000000) -implicitDefEqProofs only [go_sem, Nat.reduceAdd, Nat.reduceSub, Nat.reduceLT, Nat.reduceLeDiff, Nat.reduceEqDiff, ↓reduceIte]) <;> trivial) (by first | (simp only [go_sem]; done) | ((simp (maxSteps := 4000000) -implicitDefEqProofs only [go_sem, Nat.reduceAdd, Nat.reduceSub, Nat.reduceLT, Nat.reduceLeDiff, Nat.reduceEqDiff, ↓reduceIte]) <;> omega)) (Nat.zero_le _) (fun i h => absurd h (Nat.not_lt_zero i)))
end Go.AX.Lg
/- Ledgers: the chapter's example. -/
set_option maxHeartbeats 8000000
set_option linter.unusedVariables false
set_option linter.unusedSimpArgs false
set_option maxRecDepth 20000
namespace Go.AX.Lg
open Go.Proofs Go.RowKit Go.IntWalk Go.AX.Br
def sMain : ByteArray := ⟨#[109, 97, 105, 110]⟩
def sR1 : ByteArray := ⟨#[114, 49]⟩
def sFix : ByteArray := ⟨#[102, 105, 120]⟩
def sFix2 : ByteArray := ⟨#[102, 105, 120, 45, 50]⟩
def sOther : ByteArray := ⟨#[111, 116, 104, 101, 114]⟩
def exG : Lg := ⟨[⟨sFix, 3⟩, ⟨sFix2, 3⟩, ⟨sOther, 0⟩], [⟨sMain, ⟨#[]⟩, 0⟩, ⟨sR1, sMain, 1⟩], [[⟨1, sFix⟩, ⟨1, sOther⟩], [⟨3, sFix⟩]]⟩
end Go.AX.Lg
/- Ledgers: a law's arguments. LedgerGrows: whatever the input, the law returns true, and its arguments read as they did. No condition. -/
set_option maxHeartbeats 8000000
set_option linter.unusedVariables false
set_option linter.unusedSimpArgs false
set_option maxRecDepth 20000
namespace Go.AX.Lg
open Go.Proofs Go.RowKit Go.IntWalk Go.AX.Br
theorem int_of {n : Nat} {d : List D} (h : Tyd Try.prog (n + 1) 3 d) : ∃ i : Int, d = [.int .i64 i] ∧ (-9223372036854775808 ≤ i ∧ i ≤ 9223372036854775807) := by
  obtain ⟨i, rfl, hw⟩ := h.int Ty.under_3
  exact ⟨i, rfl, wf_i64 hw⟩
theorem u8_of {n : Nat} {d : List D} (h : Tyd Try.prog (n + 1) 5 d) : ∃ i : Int, d = [.int .u8 i] ∧ (0 ≤ i ∧ i ≤ 255) := by
  obtain ⟨i, rfl, hw⟩ := h.int Ty.under_5
  exact ⟨i, rfl, wf_u8 hw⟩
theorem str_of {n : Nat} {d : List D} (h : Tyd Try.prog (n + 1) 9 d) : ∃ s : ByteArray, d = [.str s] ∧ Sm s.size := by
  obtain ⟨i, rfl, hw⟩ := h.str Ty.under_9
  exact ⟨i, rfl, hw⟩
theorem branch_of {n : Nat} {x : List D} (h : Tyd Try.prog (n + 2) 65 x) : ∃ p : Br, x = bD p ∧ (-9223372036854775808 ≤ p.at' ∧ p.at' ≤ 9223372036854775807) := by
  obtain ⟨f0, f1, f2, hu, e0, e1, e2⟩ : ∃ f0 f1 f2 : Field, Try.prog.underlying 65 = some (.struct #[f0, f1, f2]) ∧ f0.type = 9 ∧ f1.type = 9 ∧ f2.type = 3 := ⟨_, _, _, by rfl, rfl, rfl, rfl⟩
  have this := h.struct hu
  simp only [List.map_cons, List.map_nil, Sq] at this
  obtain ⟨a0, b0, rfl, k0, a1, b1, rfl, k1, a2, b2, rfl, k2, rfl⟩ := this
  rw [e0] at k0; rw [e1] at k1; rw [e2] at k2
  obtain ⟨i, rfl, hi⟩ := str_of k0
  obtain ⟨j, rfl, hj⟩ := str_of k1
  obtain ⟨k, rfl, hk⟩ := int_of k2
  exact ⟨⟨i, j, k⟩, rfl, hk⟩
theorem known_of {n : Nat} {x : List D} (h : Tyd Try.prog (n + 2) 62 x) : ∃ p : Kn, x = kD p ∧ (-9223372036854775808 ≤ p.cl ∧ p.cl ≤ 9223372036854775807) := by
  obtain ⟨f0, f1, hu, e0, e1⟩ : ∃ f0 f1 : Field, Try.prog.underlying 62 = some (.struct #[f0, f1]) ∧ f0.type = 9 ∧ f1.type = 3 := ⟨_, _, by rfl, rfl, rfl⟩
  have this := h.struct hu
  simp only [List.map_cons, List.map_nil, Sq] at this
  obtain ⟨a0, b0, rfl, k0, a1, b1, rfl, k1, rfl⟩ := this
  rw [e0] at k0; rw [e1] at k1
  obtain ⟨i, rfl, hi⟩ := str_of k0
  obtain ⟨k, rfl, hk⟩ := int_of k1
  exact ⟨⟨i, k⟩, rfl, hk⟩
theorem event_of {n : Nat} {x : List D} (h : Tyd Try.prog (n + 2) 70 x) : ∃ p : Ev, x = eD p ∧ (0 ≤ p.kd ∧ p.kd ≤ 255) := by
  obtain ⟨f0, f1, hu, e0, e1⟩ : ∃ f0 f1 : Field, Try.prog.underlying 70 = some (.struct #[f0, f1]) ∧ f0.type = 5 ∧ f1.type = 9 := ⟨_, _, by rfl, rfl, rfl⟩
  have this := h.struct hu
  simp only [List.map_cons, List.map_nil, Sq] at this
  obtain ⟨a0, b0, rfl, k0, a1, b1, rfl, k1, rfl⟩ := this
  rw [e0] at k0; rw [e1] at k1
  obtain ⟨i, rfl, hi⟩ := u8_of k0
  obtain ⟨k, rfl, hk⟩ := str_of k1
  exact ⟨⟨i, k⟩, rfl, hi⟩
theorem branches_of {n : Nat} {d : List D} (h : Tyd Try.prog (n + 3) 23 d) : ∃ l : List Br, d = [.sl (l.map bD)] ∧ Sm l.length ∧ ∀ b ∈ l, (-9223372036854775808 ≤ b.at' ∧ b.at' ≤ 9223372036854775807) := by
  obtain ⟨es, rfl, h1, h2⟩ := h.slice Ty.under_23
  obtain ⟨l, rfl, hl⟩ := rows_ofP (g := bD) fun x hx => branch_of (h2 x hx)
  refine ⟨l, rfl, ?_, hl⟩
  have hb : Try.prog.bytesOf 65 = 40 := by kernel_rfl
  rw [hb, List.length_map] at h1
  unfold Sm; omega
theorem knowns_of {n : Nat} {d : List D} (h : Tyd Try.prog (n + 3) 22 d) : ∃ l : List Kn, d = [.sl (l.map kD)] ∧ Sm l.length ∧ ∀ b ∈ l, (-9223372036854775808 ≤ b.cl ∧ b.cl ≤ 9223372036854775807) := by
  obtain ⟨es, rfl, h1, h2⟩ := h.slice Ty.under_22
  obtain ⟨l, rfl, hl⟩ := rows_ofP (g := kD) fun x hx => known_of (h2 x hx)
  refine ⟨l, rfl, ?_, hl⟩
  have hb : Try.prog.bytesOf 62 = 24 := by kernel_rfl
  rw [hb, List.length_map] at h1
  unfold Sm; omega
theorem events_of {n : Nat} {d : List D} (h : Tyd Try.prog (n + 3) 67 d) : ∃ l : List Ev, d = esD l ∧ Sm l.length ∧ ∀ b ∈ l, (0 ≤ b.kd ∧ b.kd ≤ 255) := by
  obtain ⟨es, rfl, h1, h2⟩ := h.slice Ty.under_67
  obtain ⟨l, rfl, hl⟩ := rows_ofP (g := eD) fun x hx => event_of (h2 x hx)
  refine ⟨l, rfl, ?_, hl⟩
  have hb : Try.prog.bytesOf 70 = 24 := by kernel_rfl
  rw [hb, List.length_map] at h1
  unfold Sm; omega
theorem eventss_of {n : Nat} {d : List D} (h : Tyd Try.prog (n + 4) 24 d) : ∃ l : List (List Ev), d = [.sl (l.map esD)] ∧ Sm l.length ∧ ∀ b ∈ l, Sm b.length ∧ ∀ x ∈ b, (0 ≤ x.kd ∧ x.kd ≤ 255) := by
  obtain ⟨es, rfl, h1, h2⟩ := h.slice Ty.under_24
  obtain ⟨l, rfl, hl⟩ := rows_ofP (g := esD) fun x hx => events_of (h2 x hx)
  refine ⟨l, rfl, ?_, hl⟩
  have hb : Try.prog.bytesOf 67 = 24 := by kernel_rfl
  rw [hb, List.length_map] at h1
  unfold Sm; omega
/-- the sizes and numbers of a ledger are those of Go -/
structure LSm (l : Lg) : Prop where
  k : Sm l.kn.length
  b : Sm l.br.length
  e : Sm l.ev.length
  s : ∀ s ∈ l.ev, Sm s.length
  kv : ∀ x ∈ l.kn, (-9223372036854775808 ≤ x.cl ∧ x.cl ≤ 9223372036854775807)
  bv : ∀ x ∈ l.br, (-9223372036854775808 ≤ x.at' ∧ x.at' ≤ 9223372036854775807)
  ev : ∀ s ∈ l.ev, ∀ x ∈ s, (0 ≤ x.kd ∧ x.kd ≤ 255)
theorem ledger_of {n : Nat} {x : List D} (h : Tyd Try.prog (n + 5) 26 x) : ∃ l : Lg, x = [.sl (l.kn.map kD), .sl (l.br.map bD), .sl (l.ev.map esD)] ∧ LSm l := by
  obtain ⟨f0, f1, f2, hu, e0, e1, e2⟩ : ∃ f0 f1 f2 : Field, Try.prog.underlying 26 = some (.struct #[f0, f1, f2]) ∧ f0.type = 22 ∧ f1.type = 23 ∧ f2.type = 24 := ⟨_, _, _, by rfl, rfl, rfl, rfl⟩
  have this := h.struct hu
  simp only [List.map_cons, List.map_nil, Sq] at this
  obtain ⟨a0, b0, rfl, k0, a1, b1, rfl, k1, a2, b2, rfl, k2, rfl⟩ := this
  rw [e0] at k0; rw [e1] at k1; rw [e2] at k2
  obtain ⟨i, rfl, h1, h1'⟩ := knowns_of k0
  obtain ⟨j, rfl, h2, h2'⟩ := branches_of k1
  obtain ⟨k, rfl, h3, h3'⟩ := eventss_of k2
  exact ⟨⟨i, j, k⟩, rfl, h1, h2, h3, fun s hs => (h3' s hs).1, h1', h2', fun s hs => (h3' s hs).2⟩
/-- a ledger that is not great -/
structure Fit (l : Lg) : Prop where
  k : l.kn.length ≤ 40
  b : l.br.length ≤ 20
  e : l.ev.length ≤ 20
  s : ∀ s ∈ l.ev, s.length ≤ 50 ∧ (s.length ≤ 8 ∨ 40 < s.length)
  kn : ∀ k ∈ l.kn, k.ch.size ≤ 100
  en : ∀ s ∈ l.ev, ∀ x ∈ s, x.ch.size ≤ 100
  bn : ∀ b ∈ l.br, b.name.size ≤ 100 ∧ b.frm.size ≤ 100
theorem fit_of {l : Lg} (h : greatL l = false) : Fit l := by
  simp only [greatL, great, Bool.or_eq_false_iff, decide_eq_false_iff_not, List.any_eq_false] at h
  obtain ⟨⟨h1, h2⟩, ⟨h3, h4, h5, h5'⟩, h6⟩ := h
  refine ⟨by omega, by omega, by omega, fun s hs => ?_, fun k hk => ?_, fun s hs x hx => ?_, fun b hb => ?_⟩
  · have := h2 s hs
    simp only [bigS, bigN, Bool.or_eq_true, Bool.and_eq_true, decide_eq_true_eq, not_or, not_and] at this
    omega
  · have := h1 k hk
    simp only [bigK, decide_eq_true_eq] at this
    omega
  · have := h2 s hs
    simp only [bigS, Bool.or_eq_true, not_or, List.any_eq_true, not_exists, not_and] at this
    have := this.2 x hx
    simp only [bigE, decide_eq_true_eq] at this
    omega
  · have := h4 b hb
    simp only [Bool.or_eq_true, decide_eq_true_eq, not_or] at this
    omega
end Go.AX.Lg
/- LedgerDiffers: whatever the input, the law returns true, and its arguments read as they did. No condition. -/
set_option maxHeartbeats 8000000
set_option linter.unusedVariables false
set_option linter.unusedSimpArgs false
set_option maxRecDepth 20000
namespace Go.AX.Lg
open Go.Proofs Go.RowKit Go.IntWalk Go.AX.Br
def hasI (l : List Int) (n : Int) : Bool := l.any fun x => x == n
/-! ### lists of classes -/
theorem LOk.view {l : Lg} (lo : LOk l) {i : Nat} {x : Br} {s : List Ev} {v : List Mk} (a : At l i x s v) : lview l x.name = (v, 0) := by
  unfold lview
  rw [if_neg (by have := lo.chk; omega)]
  exact vname lo.tab a
end Go.AX.Lg
/- Ledgers: one with an event more, one with a branch more. -/
set_option maxHeartbeats 8000000
set_option linter.unusedVariables false
set_option linter.unusedSimpArgs false
set_option maxRecDepth 20000
namespace Go.AX.Br
open Go.Proofs Go.RowKit Go.IntWalk
def sNew : ByteArray := ⟨#[122, 122, 45, 110, 101, 119]⟩
end Go.AX.Br
namespace Go.AX.Lg
open Go.Proofs Go.RowKit Go.IntWalk Go.AX.Br
theorem LOk.parts {l : Lg} (lo : LOk l) : (clsM l.kn).length = l.kn.length ∧ l.kn.any badK = false ∧ check l.br = 0 ∧ l.ev.any many = false := by
  have h := lo.chk
  unfold lcheck at h
  split at h
  · cases h
  next k1 =>
  split at h
  · cases h
  next k2 =>
  split at h
  · cases h
  next k3 =>
  split at h
  · next q => exact absurd h q
  next k4 =>
  split at h
  · cases h
  next k5 =>
  split at h
  · cases h
  next k6 =>
  exact ⟨by have := (cls_len (l := l)).1; omega, by simpa using k3, by omega, by simpa using k6⟩
end Go.AX.Lg
/- LedgerCuts: whatever the input, the law returns true, and its arguments read as they did. No condition. -/
set_option maxHeartbeats 8000000
set_option linter.unusedVariables false
set_option linter.unusedSimpArgs false
set_option maxRecDepth 20000
namespace Go.AX.Lg
open Go.Proofs Go.RowKit Go.IntWalk Go.AX.Br
end Go.AX.Lg
/- LedgerApart: whatever the input, the law returns true, and its arguments read as they did. No condition. -/
set_option maxHeartbeats 8000000
set_option linter.unusedVariables false
set_option linter.unusedSimpArgs false
set_option maxRecDepth 20000
namespace Go.AX.Lg
open Go.Proofs Go.RowKit Go.IntWalk Go.AX.Br
def ne (c : Int) (x : Int) : Bool := !(x == c)
end Go.AX.Lg
/- Windows: freezes, checks, who is held. -/
set_option maxHeartbeats 8000000
set_option linter.unusedVariables false
set_option linter.unusedSimpArgs false
set_option maxRecDepth 20000
namespace Go.AX.Wn
open Go.Proofs Go.RowKit Go.IntWalk Go.AX.Br
structure Hd where
  br : ByteArray
  fr : Int
  to : Int
  rs : ByteArray
instance : DecidableEq Hd := fun a b => decidable_of_iff (a.br = b.br ∧ a.fr = b.fr ∧ a.to = b.to ∧ a.rs = b.rs) (by cases a; cases b; simp)
def hD (r : Hd) : List D := [.str r.br, .int .i64 r.fr, .int .i64 r.to, .str r.rs]
def hA (r : Hd) : AV := .agg [.d (.str r.br), .d (.int .i64 r.fr), .d (.int .i64 r.to), .d (.str r.rs)]
theorem hD_len {l : List Hd} : (∀ e ∈ l.map hD, e.length = 4) = True := eq_true (map_len (g := hD) fun _ => rfl)
theorem iD_len {l : List Int} : (∀ e ∈ l.map iD, e.length = 1) = True := eq_true (map_len (g := iD) fun _ => rfl)
theorem sD_len {l : List ByteArray} : (∀ e ∈ l.map sD, e.length = 1) = True := eq_true (map_len (g := sD) fun _ => rfl)
attribute [go_sem] hD hA hD_len iD_len sD_len
def wrong (h : Hd) : Bool := decide (h.fr < 0) || decide (h.to ≤ h.fr) || decide (1000000 < h.to) || !isNm h.br || !isNm h.rs
def wcheck (l : List Hd) : Int := if 16 < l.length then 4 else if l.any wrong then 8 else 0
def tick (t : Int) : Bool := decide (0 ≤ t) && decide (t ≤ 1000000)
def badT (t : Int) : Bool := decide (t < 0) || decide (1000000 < t)
def asked (l : List Hd) (ts : List Int) : Int := if wcheck l ≠ 0 then wcheck l else if ts.any badT then 2 else 0
def holds (b : ByteArray) (t : Int) (h : Hd) : Bool := decide (h.br = b) && decide (h.fr ≤ t) && decide (t < h.to)
def held (l : List Hd) (b : ByteArray) (t : Int) : Bool := l.any (holds b t)
def wgreat (l : List Hd) : Bool := l.any (fun r => decide (100 < r.br.size) || decide (100 < r.rs.size)) || decide (30 < l.length)
theorem check_one (s : ByteArray) : (check [⟨s, ⟨#[]⟩, 0⟩] == 0) = isNm s := by
  have ht : twice [⟨s, ⟨#[]⟩, 0⟩] = false := by
    refine anyI_f fun i b hb => decide_eq_false ?_
    have hi := some_lt hb
    simp at hi
    subst hi
    simp at hb
    subst hb
    have := idx_le (l := [(⟨s, ⟨#[]⟩, 0⟩ : Br)]) (i := 0) (x := ⟨s, ⟨#[]⟩, 0⟩) rfl (p := has s) (by simp [has])
    simp only; omega
  have hb : anyI (badAt [⟨s, ⟨#[]⟩, 0⟩]) [⟨s, ⟨#[]⟩, 0⟩] = !isNm s := by
    cases h : isNm s
    · exact anyI_t (i := 0) (x := ⟨s, ⟨#[]⟩, 0⟩) rfl (by simp [badAt, badN, h])
    · refine anyI_f fun i b hb => ?_
      have hi := some_lt hb
      simp at hi
      subst hi
      simp at hb
      subst hb
      simp [badAt, badN, root, h]
  simp only [check, ht, hb]
  cases isNm s <;> simp
theorem isName_own (s : ByteArray) : Spec Try.prog 85 [.d (.str s)] [] (.d (.bool (isNm s))) [] := by
  have hc := check_own [⟨s, ⟨#[]⟩, 0⟩] (by unfold Sm; simp)
  refine spec_of_ev (fn := Try.f85) DX_ok 3000 Try.func85 rfl rfl (Nat.le_of_ble_eq_true rfl) ?_
  simp (maxSteps := 4000000) -implicitDefEqProofs only [Try.f85, go_sem]
  simp (maxSteps := 4000000) -implicitDefEqProofs only [go_sem, Nat.reduceAdd, Nat.reduceSub, Nat.reduceLT, Nat.reduceLeDiff, Nat.reduceEqDiff, ↓reduceIte]
  refine ⟨by omega, ?_⟩
  refine ECall.frz 0 rfl ?_
  simp (maxSteps := 4000000) -implicitDefEqProofs only [go_sem, Nat.reduceAdd, Nat.reduceSub, Nat.reduceLT, Nat.reduceLeDiff, Nat.reduceEqDiff, ↓reduceIte]
  refine ecall0 _ hc (by simp only [go_sem]) (by simp only [go_sem]) ?_
  simp (maxSteps := 4000000) -implicitDefEqProofs only [go_sem, Nat.reduceAdd, Nat.reduceSub, Nat.reduceLT, Nat.reduceLeDiff, Nat.reduceEqDiff, ↓reduceIte]
  exact wk_bool (check_one s)
theorem wrong_own (h : Hd) : Spec Try.prog 84 [hA h] [] (.d (.bool (wrong h))) [] := by
  have a1 := isName_own h.br
  have a2 := isName_own h.rs
  refine spec_of_ev (fn := Try.f84) DX_ok 3000 Try.func84 rfl rfl (Nat.le_of_ble_eq_true rfl) ?_
  simp (maxSteps := 4000000) -implicitDefEqProofs only [Try.f84, go_sem]
  cases h1 : decide (h.fr < 0)
  case true =>
    simp (maxSteps := 4000000) -implicitDefEqProofs only [go_sem, h1, Option.some.injEq, forall_eq', and_true, true_and, Bool.not_true, Bool.not_false, decide_true, Nat.reduceAdd, Nat.reduceSub, Nat.reduceLT, Nat.reduceLeDiff, Nat.reduceEqDiff, ↓reduceIte]
    exact wk_bool (by simp [wrong, h1])
  cases h2 : decide (h.to ≤ h.fr)
  case true =>
    simp (maxSteps := 4000000) -implicitDefEqProofs only [go_sem, h1, h2, Option.some.injEq, forall_eq', and_true, true_and, Bool.not_true, Bool.not_false, decide_true, Nat.reduceAdd, Nat.reduceSub, Nat.reduceLT, Nat.reduceLeDiff, Nat.reduceEqDiff, ↓reduceIte]
    exact wk_bool (by simp [wrong, h2])
  cases h3 : decide (1000000 < h.to)
  case true =>
    simp (maxSteps := 4000000) -implicitDefEqProofs only [go_sem, h1, h2, h3, Option.some.injEq, forall_eq', and_true, true_and, Bool.not_true, Bool.not_false, decide_true, Nat.reduceAdd, Nat.reduceSub, Nat.reduceLT, Nat.reduceLeDiff, Nat.reduceEqDiff, ↓reduceIte]
    exact wk_bool (by simp [wrong, h3])
  simp (maxSteps := 4000000) -implicitDefEqProofs only [go_sem, h1, h2, h3, Option.some.injEq, forall_eq', and_true, true_and, Bool.not_true, Bool.not_false, decide_true, Nat.reduceAdd, Nat.reduceSub, Nat.reduceLT, Nat.reduceLeDiff, Nat.reduceEqDiff, ↓reduceIte]
  refine ecall0 _ a1 (by simp only [go_sem]) (by simp only [go_sem]) ?_
  cases h4 : isNm h.br
  case false =>
    simp (maxSteps := 4000000) -implicitDefEqProofs only [go_sem, h4, Option.some.injEq, forall_eq', and_true, true_and, Bool.not_true, Bool.not_false, decide_true, Nat.reduceAdd, Nat.reduceSub, Nat.reduceLT, Nat.reduceLeDiff, Nat.reduceEqDiff, ↓reduceIte]
    exact wk_bool (by simp [wrong, h4])
  simp (maxSteps := 4000000) -implicitDefEqProofs only [go_sem, h4, Option.some.injEq, forall_eq', and_true, true_and, Bool.not_true, Bool.not_false, decide_true, Nat.reduceAdd, Nat.reduceSub, Nat.reduceLT, Nat.reduceLeDiff, Nat.reduceEqDiff, ↓reduceIte]
  refine ecall0 _ a2 (by simp only [go_sem]) (by simp only [go_sem]) ?_
  simp (maxSteps := 4000000) -implicitDefEqProofs only [go_sem, Nat.reduceAdd, Nat.reduceSub, Nat.reduceLT, Nat.reduceLeDiff, Nat.reduceEqDiff, ↓reduceIte]
  exact wk_bool (by simp [wrong, h1, h2, h3, h4])
theorem hd_indexFunc (l : List Hd) (p : Hd → Bool) (f : FuncId) (caps : List AV) (τ : List AObj) (hl : Sm l.length) (h : ∀ x ∈ l, Spec Try.prog f (hA x :: caps) τ (.d (.bool (p x))) τ) :
    Spec Try.prog 115 [.d (.sl (l.map hD)), .fn f caps] τ (.d (.int .i64 (idx p l))) τ := by
  unfold Sm at hl
  refine spec_of_ev (fn := Try.f115) DX_ok 3000 Try.func115 rfl rfl (Nat.le_of_ble_eq_true rfl) ?_
  simp (maxSteps := 4000000) -implicitDefEqProofs only [Try.f115, go_sem]
  refine eloop (S := Nat) (fun i => mkE 19 [(0, .d (.sl (l.map hD))), (1, .fn f caps), (6, .d (.sl (l.map hD))), (7, .d (.int .i64 l.length)), (8, .d (.int .i64 i))]) (fun i => τ) (fun i => i ≤ l.length ∧ ∀ j x, l[j]? = some x → j < i → p x = false) (fun i => l.length - i) 0 ⟨by omega, by omega⟩ (Wk.sub (by (simp only [go_sem]) <;> trivial)) ?_
  rintro i ⟨hi, hj⟩
  simp (maxSteps := 4000000) -implicitDefEqProofs only [go_sem, Nat.reduceAdd, Nat.reduceSub, Nat.reduceLT, Nat.reduceLeDiff, Nat.reduceEqDiff, ↓reduceIte]
  refine cbs (fun h1 => ?_) (fun h1 => ?_)
  · simp only [go_sem, decide_eq_true_eq] at h1 ⊢
    refine ⟨by omega, fun x hx => .all _ _ (h x (List.mem_of_getElem? hx)) ?_⟩
    simp (maxSteps := 4000000) -implicitDefEqProofs only [go_sem, Nat.reduceAdd, Nat.reduceSub, Nat.reduceLT, Nat.reduceLeDiff, Nat.reduceEqDiff, ↓reduceIte]
    refine cbs (fun h2 => ?_) (fun h2 => ?_)
    · simp (maxSteps := 4000000) -implicitDefEqProofs only [go_sem, Nat.reduceAdd, Nat.reduceSub, Nat.reduceLT, Nat.reduceLeDiff, Nat.reduceEqDiff, ↓reduceIte]
      rw [idx_found hx h2 hj]
      exact Wk.refl _ _ _
    · simp (maxSteps := 4000000) -implicitDefEqProofs only [go_sem, Nat.reduceAdd, Nat.reduceSub, Nat.reduceLT, Nat.reduceLeDiff, Nat.reduceEqDiff, ↓reduceIte]
      rw [i64_in _ (by omega)]
      refine .mk (i + 1) ⟨by omega, fun j y hy hlt => ?_⟩ (by omega) (Wk.sub (by (simp only [go_sem]) <;> trivial))
      rcases Nat.lt_or_ge j i with q | q
      · exact hj j y hy q
      · have : j = i := by omega
        subst this; rw [hx] at hy; cases hy; exact h2
  · simp only [go_sem, decide_eq_false_iff_not] at h1 ⊢
    rw [idx_none fun j y hy => hj j y hy (by have := some_lt hy; omega)]
    exact Wk.refl _ _ _

theorem hd_containsFunc (l : List Hd) (p : Hd → Bool) (f : FuncId) (caps : List AV) (τ : List AObj) (hl : Sm l.length) (h : ∀ x ∈ l, Spec Try.prog f (hA x :: caps) τ (.d (.bool (p x))) τ) :
    Spec Try.prog 86 [.d (.sl (l.map hD)), .fn f caps] τ (.d (.bool (l.any p))) τ := by
  refine spec_of_ev (fn := Try.f86) DX_ok 3000 Try.func86 rfl rfl (Nat.le_of_ble_eq_true rfl) ?_
  simp (maxSteps := 4000000) -implicitDefEqProofs only [Try.f86, go_sem]
  refine .all _ _ (hd_indexFunc l p f caps τ hl h) ?_
  simp (maxSteps := 4000000) -implicitDefEqProofs only [go_sem, Nat.reduceAdd, Nat.reduceSub, Nat.reduceLT, Nat.reduceLeDiff, Nat.reduceEqDiff, ↓reduceIte]
  rw [idx_any]
  exact Wk.refl _ _ _

theorem wcheck_own (l : List Hd) (hl : Sm l.length) : Spec Try.prog 43 [.d (.sl (l.map hD))] [] (.d (.int .i64 (wcheck l))) [] := by
  refine spec_of_ev (fn := Try.f43) DX_ok 3000 Try.func43 rfl rfl (Nat.le_of_ble_eq_true rfl) ?_
  simp (maxSteps := 4000000) -implicitDefEqProofs only [Try.f43, go_sem]
  rcases Nat.lt_or_ge 16 l.length with h0 | h0
  · have d0 : decide (16 < (l.length : Int)) = true := by simp; omega
    simp (maxSteps := 4000000) -implicitDefEqProofs only [go_sem, d0, Option.some.injEq, forall_eq', and_true, true_and, Bool.not_true, Bool.not_false, decide_true, Nat.reduceAdd, Nat.reduceSub, Nat.reduceLT, Nat.reduceLeDiff, Nat.reduceEqDiff, ↓reduceIte]
    exact wk_int (by simp only [wcheck]; rw [if_pos h0])
  have h0' : ¬ 16 < l.length := by omega
  have d0 : decide (16 < (l.length : Int)) = false := by simp; omega
  simp (maxSteps := 4000000) -implicitDefEqProofs only [go_sem, d0, Option.some.injEq, forall_eq', and_true, true_and, Bool.not_true, Bool.not_false, decide_true, Nat.reduceAdd, Nat.reduceSub, Nat.reduceLT, Nat.reduceLeDiff, Nat.reduceEqDiff, ↓reduceIte]
  refine .all _ _ (hd_containsFunc l wrong _ [] [] hl fun x _ => wrong_own x) ?_
  cases h1 : l.any wrong
  · simp (maxSteps := 4000000) -implicitDefEqProofs only [go_sem, h1, Option.some.injEq, forall_eq', and_true, true_and, Bool.not_true, Bool.not_false, decide_true, Nat.reduceAdd, Nat.reduceSub, Nat.reduceLT, Nat.reduceLeDiff, Nat.reduceEqDiff, ↓reduceIte]
    exact wk_int (by simp only [wcheck, h1]; rw [if_neg h0']; rfl)
  · simp (maxSteps := 4000000) -implicitDefEqProofs only [go_sem, h1, Option.some.injEq, forall_eq', and_true, true_and, Bool.not_true, Bool.not_false, decide_true, Nat.reduceAdd, Nat.reduceSub, Nat.reduceLT, Nat.reduceLeDiff, Nat.reduceEqDiff, ↓reduceIte]
    exact wk_int (by simp only [wcheck, h1]; rw [if_neg h0']; rfl)
theorem wcheck_bad {q : List Hd} {x : Hd} (hl : ¬ 16 < q.length) (hx : x ∈ q) (hv : wrong x = true) : wcheck q = 8 := by
  have : q.any wrong = true := List.any_eq_true.2 ⟨x, hx, hv⟩
  simp only [wcheck, this]
  rw [if_neg hl]; rfl
theorem wcheck_ref (q : List Hd) (hq : Sm q.length) : Spec Try.prog 47 [.d (.sl (q.map hD))] [] (.d (.int .i64 (wcheck q))) [] := by
  unfold Sm at hq
  refine spec_of_ev (fn := Try.f47) DX_ok 3000 Try.func47 rfl rfl (Nat.le_of_ble_eq_true rfl) ?_
  simp (maxSteps := 4000000) -implicitDefEqProofs only [Try.f47, go_sem]
  rcases Nat.lt_or_ge 16 q.length with h0 | h0
  · have d0 : decide (16 < (q.length : Int)) = true := by simp; omega
    simp (maxSteps := 4000000) -implicitDefEqProofs only [go_sem, d0, Option.some.injEq, forall_eq', and_true, true_and, Bool.not_true, Bool.not_false, decide_true, Nat.reduceAdd, Nat.reduceSub, Nat.reduceLT, Nat.reduceLeDiff, Nat.reduceEqDiff, ↓reduceIte]
    exact wk_int (by simp only [wcheck]; rw [if_pos h0])
  have h0' : ¬ 16 < q.length := by omega
  have d0 : decide (16 < (q.length : Int)) = false := by simp; omega
  simp (maxSteps := 4000000) -implicitDefEqProofs only [go_sem, d0, Option.some.injEq, forall_eq', and_true, true_and, Bool.not_true, Bool.not_false, decide_true, Nat.reduceAdd, Nat.reduceSub, Nat.reduceLT, Nat.reduceLeDiff, Nat.reduceEqDiff, ↓reduceIte]
  refine eloop (S := Nat) (fun i => mkE 58 [(0, .d (.sl (q.map hD))), (3, .d (.int .i64 i))]) (fun i => []) (fun i => i ≤ q.length ∧ ∀ j x, q[j]? = some x → j < i → wrong x = false) (fun i => q.length - i) 0 ⟨by omega, by omega⟩ (Wk.sub (by (simp only [go_sem]) <;> trivial)) ?_
  rintro i ⟨hi, hj⟩
  rcases Nat.lt_or_ge i q.length with h2 | h2
  · have d2 : decide ((i : Int) < q.length) = true := by simp; omega
    obtain ⟨x, hx⟩ : ∃ x, q[i]? = some x := ⟨q[i]'(by omega), List.getElem?_eq_getElem _⟩
    have n1 : (0 ≤ (i : Int) ∧ (i : Int) < q.length) = True := eq_true (by omega)
    have n2 : (i < q.length) = True := eq_true (by omega)
    have w1 : IntKind.i64.wrap ((i : Int) + 1) = ((i + 1 : Nat) : Int) := by rw [i64_in _ (by omega)]; simp
    have a1 := name_ref x.br
    have a2 := name_ref x.rs
    have bad : wrong x = true → wcheck q = 8 := fun h => wcheck_bad h0' (List.mem_of_getElem? hx) h
    simp (maxSteps := 4000000) -implicitDefEqProofs only [go_sem, d2, Option.some.injEq, forall_eq', and_true, true_and, Bool.not_true, Bool.not_false, decide_true, Nat.reduceAdd, Nat.reduceSub, Nat.reduceLT, Nat.reduceLeDiff, Nat.reduceEqDiff, ↓reduceIte]
    refine DX.plain (.take 0 false (.take 1 false (.take 2 false (.take 3 false (.take 4 false (.take 5 false (.take 6 false (.take 7 false (.take 8 false (.take 9 false (.take 10 false (.take 11 false (.take 12 false (.take 13 false (.take 14 false (.take 15 false (.take 16 false (.take 17 false (.take 18 false (.take 19 false (.take 20 false (.take 21 false (.take 22 false (.take 23 false (.take 24 false (.take 25 false (.take 26 false (.take 27 false (.take 28 false (.take 29 false (.take 30 false (.take 31 false (.take 32 false (.take 33 false (.take 34 false (.take 35 false (.take 36 false (.take 37 false (.take 38 false (.take 39 false (.take 40 false (.take 41 false (.take 42 false (.take 43 false (.take 44 false .done))))))))))))))))))))))))))))))))))))))))))))) (by kernel_rfl) (by kernel_rfl) Ty.mixed ?_
    simp (maxSteps := 4000000) -implicitDefEqProofs only [go_sem, n1, n2, hx, Option.some.injEq, forall_eq', and_true, true_and, Bool.not_true, Bool.not_false, decide_true, Nat.reduceAdd, Nat.reduceSub, Nat.reduceLT, Nat.reduceLeDiff, Nat.reduceEqDiff, ↓reduceIte]
    refine ⟨_, _, a1, rfl, ?_⟩
    cases h1 : isNm x.br
    case false =>
      simp (maxSteps := 4000000) -implicitDefEqProofs only [go_sem, h1, Option.some.injEq, forall_eq', and_true, true_and, Bool.not_true, Bool.not_false, decide_true, Nat.reduceAdd, Nat.reduceSub, Nat.reduceLT, Nat.reduceLeDiff, Nat.reduceEqDiff, ↓reduceIte]
      exact wk_int (bad (by simp [wrong, h1])).symm
    simp (maxSteps := 4000000) -implicitDefEqProofs only [go_sem, h1, n1, n2, hx, Option.some.injEq, forall_eq', and_true, true_and, Bool.not_true, Bool.not_false, decide_true, Nat.reduceAdd, Nat.reduceSub, Nat.reduceLT, Nat.reduceLeDiff, Nat.reduceEqDiff, ↓reduceIte]
    refine ⟨_, _, a2, rfl, ?_⟩
    cases h3 : isNm x.rs
    case false =>
      simp (maxSteps := 4000000) -implicitDefEqProofs only [go_sem, h3, Option.some.injEq, forall_eq', and_true, true_and, Bool.not_true, Bool.not_false, decide_true, Nat.reduceAdd, Nat.reduceSub, Nat.reduceLT, Nat.reduceLeDiff, Nat.reduceEqDiff, ↓reduceIte]
      exact wk_int (bad (by simp [wrong, h3])).symm
    cases h4 : decide (x.fr < 0)
    case true =>
      simp (maxSteps := 4000000) -implicitDefEqProofs only [go_sem, h3, n1, n2, hx, h4, Option.some.injEq, forall_eq', and_true, true_and, Bool.not_true, Bool.not_false, decide_true, Nat.reduceAdd, Nat.reduceSub, Nat.reduceLT, Nat.reduceLeDiff, Nat.reduceEqDiff, ↓reduceIte]
      exact wk_int (bad (by simp [wrong, h4])).symm
    cases h5 : decide (x.to ≤ x.fr)
    case true =>
      simp (maxSteps := 4000000) -implicitDefEqProofs only [go_sem, h3, n1, n2, hx, h4, h5, Option.some.injEq, forall_eq', and_true, true_and, Bool.not_true, Bool.not_false, decide_true, Nat.reduceAdd, Nat.reduceSub, Nat.reduceLT, Nat.reduceLeDiff, Nat.reduceEqDiff, ↓reduceIte]
      exact wk_int (bad (by simp [wrong, h5])).symm
    cases h6 : decide (1000000 < x.to)
    case true =>
      simp (maxSteps := 4000000) -implicitDefEqProofs only [go_sem, h3, n1, n2, hx, h4, h5, h6, Option.some.injEq, forall_eq', and_true, true_and, Bool.not_true, Bool.not_false, decide_true, Nat.reduceAdd, Nat.reduceSub, Nat.reduceLT, Nat.reduceLeDiff, Nat.reduceEqDiff, ↓reduceIte]
      exact wk_int (bad (by simp [wrong, h6])).symm
    simp (maxSteps := 4000000) -implicitDefEqProofs only [go_sem, h3, n1, n2, hx, h4, h5, h6, w1, Option.some.injEq, forall_eq', and_true, true_and, Bool.not_true, Bool.not_false, decide_true, Nat.reduceAdd, Nat.reduceSub, Nat.reduceLT, Nat.reduceLeDiff, Nat.reduceEqDiff, ↓reduceIte]
    exact .mk (i + 1) ⟨by omega, upto_succ hx (by simp only [wrong, h1, h3, h4, h5, h6]; rfl) hj⟩ (by omega) (Wk.sub (by (simp only [go_sem]) <;> trivial))
  have d2 : decide ((i : Int) < q.length) = false := by simp; omega
  simp (maxSteps := 4000000) -implicitDefEqProofs only [go_sem, d2, Option.some.injEq, forall_eq', and_true, true_and, Bool.not_true, Bool.not_false, decide_true, Nat.reduceAdd, Nat.reduceSub, Nat.reduceLT, Nat.reduceLeDiff, Nat.reduceEqDiff, ↓reduceIte]
  refine wk_int ?_
  have : q.any wrong = false := by
    rw [List.any_eq_false]
    intro x hx
    obtain ⟨j, hj'⟩ := List.mem_iff_getElem?.1 hx
    simp [hj j x hj' (by have := some_lt hj'; omega)]
  simp only [wcheck, this]
  rw [if_neg h0']; rfl
def iA (i : Int) : AV := .d (.int .i64 i)
attribute [go_sem] iA
theorem great_ref (q : List Hd) (hq : Sm q.length) : Spec Try.prog 16 [.d (.sl (q.map hD))] [] (.d (.bool (wgreat q))) [] := by
  unfold Sm at hq
  refine spec_of_ev (fn := Try.f16) DX_ok 3000 Try.func16 rfl rfl (Nat.le_of_ble_eq_true rfl) ?_
  simp (maxSteps := 4000000) -implicitDefEqProofs only [Try.f16, go_sem]
  refine eloop (S := Nat) (fun i => mkE 29 [(0, .d (.sl (q.map hD))), (3, .d (.int .i64 i))]) (fun i => []) (fun i => i ≤ q.length ∧ ∀ j x, q[j]? = some x → j < i → (decide (100 < x.br.size) || decide (100 < x.rs.size)) = false) (fun i => q.length - i) 0 ⟨by omega, by omega⟩ (Wk.sub (by (simp only [go_sem]) <;> trivial)) ?_
  rintro i ⟨hi, hj⟩
  rcases Nat.lt_or_ge i q.length with h2 | h2
  · have d2 : decide ((i : Int) < q.length) = true := by simp; omega
    obtain ⟨x, hx⟩ : ∃ x, q[i]? = some x := ⟨q[i]'(by omega), List.getElem?_eq_getElem _⟩
    have n1 : (0 ≤ (i : Int) ∧ (i : Int) < q.length) = True := eq_true (by omega)
    have w1 : IntKind.i64.wrap ((i : Int) + 1) = ((i + 1 : Nat) : Int) := by rw [i64_in _ (by omega)]; simp
    have yes : (decide (100 < x.br.size) || decide (100 < x.rs.size)) = true → wgreat q = true := fun h => by
      simp only [wgreat, Bool.or_eq_true]
      exact .inl (List.any_eq_true.2 ⟨x, List.mem_of_getElem? hx, h⟩)
    rcases Nat.lt_or_ge 100 x.br.size with hA | hA
    · have d1 : decide (100 < (x.br.size : Int)) = true := by simp; omega
      simp (maxSteps := 4000000) -implicitDefEqProofs only [go_sem, d2, n1, hx, d1, Option.some.injEq, forall_eq', and_true, true_and, Bool.not_true, Bool.not_false, decide_true, Nat.reduceAdd, Nat.reduceSub, Nat.reduceLT, Nat.reduceLeDiff, Nat.reduceEqDiff, ↓reduceIte]
      exact wk_bool (yes (by simp; omega)).symm
    have d1 : decide (100 < (x.br.size : Int)) = false := by simp; omega
    rcases Nat.lt_or_ge 100 x.rs.size with hB | hB
    · have d3 : decide (100 < (x.rs.size : Int)) = true := by simp; omega
      simp (maxSteps := 4000000) -implicitDefEqProofs only [go_sem, d2, n1, hx, d1, d3, Option.some.injEq, forall_eq', and_true, true_and, Bool.not_true, Bool.not_false, decide_true, Nat.reduceAdd, Nat.reduceSub, Nat.reduceLT, Nat.reduceLeDiff, Nat.reduceEqDiff, ↓reduceIte]
      exact wk_bool (yes (by simp; omega)).symm
    have d3 : decide (100 < (x.rs.size : Int)) = false := by simp; omega
    simp (maxSteps := 4000000) -implicitDefEqProofs only [go_sem, d2, n1, hx, d1, d3, w1, Option.some.injEq, forall_eq', and_true, true_and, Bool.not_true, Bool.not_false, decide_true, Nat.reduceAdd, Nat.reduceSub, Nat.reduceLT, Nat.reduceLeDiff, Nat.reduceEqDiff, ↓reduceIte]
    exact .mk (i + 1) ⟨by omega, upto_succ hx (by simp; omega) hj⟩ (by omega) (Wk.sub (by (simp only [go_sem]) <;> trivial))
  · have d2 : decide ((i : Int) < q.length) = false := by simp; omega
    simp (maxSteps := 4000000) -implicitDefEqProofs only [go_sem, d2, Option.some.injEq, forall_eq', and_true, true_and, Bool.not_true, Bool.not_false, decide_true, Nat.reduceAdd, Nat.reduceSub, Nat.reduceLT, Nat.reduceLeDiff, Nat.reduceEqDiff, ↓reduceIte]
    have no : q.any (fun r => decide (100 < r.br.size) || decide (100 < r.rs.size)) = false := by
      rw [List.any_eq_false]
      intro x hx
      obtain ⟨j, hj'⟩ := List.mem_iff_getElem?.1 hx
      have := hj j x hj' (by have := some_lt hj'; omega)
      simp [this]
    refine wk_bool ?_
    simp only [wgreat, no, Bool.false_or]
    rw [decide_eq_decide]; omega
theorem hdEq (x y : Hd) : (decide (x.br = y.br) && ((x.fr == y.fr) && ((x.to == y.to) && decide (x.rs = y.rs)))) = decide (x = y) := by
  cases x; cases y
  rw [Bool.eq_iff_iff]
  simp
theorem same_ref (a b : List Hd) (ha : Sm a.length) : Spec Try.prog 39 [.d (.sl (a.map hD)), .d (.sl (b.map hD))] [] (.d (.bool (decide (a = b)))) [] := by
  unfold Sm at ha
  refine spec_of_ev (fn := Try.f39) DX_ok 3000 Try.func39 rfl rfl (Nat.le_of_ble_eq_true rfl) ?_
  simp (maxSteps := 4000000) -implicitDefEqProofs only [Try.f39, go_sem]
  by_cases h1 : a.length = b.length
  · have d1 : ((a.length : Int) != b.length) = false := by simp [h1]
    simp (maxSteps := 4000000) -implicitDefEqProofs only [go_sem, d1, Option.some.injEq, forall_eq', and_true, true_and, Bool.not_true, Bool.not_false, decide_true, Nat.reduceAdd, Nat.reduceSub, Nat.reduceLT, Nat.reduceLeDiff, Nat.reduceEqDiff, ↓reduceIte]
    refine eloop (S := Nat) (fun i => mkE 26 [(0, .d (.sl (a.map hD))), (1, .d (.sl (b.map hD))), (5, .d (.int .i64 i))]) (fun i => []) (fun i => i ≤ a.length ∧ ∀ j x, a[j]? = some x → j < i → b[j]? = some x) (fun i => a.length - i) 0 ⟨by omega, by omega⟩ (Wk.sub (by (simp only [go_sem]) <;> trivial)) ?_
    rintro i ⟨hi, hj⟩
    rcases Nat.lt_or_ge i a.length with h2 | h2
    · have d2 : decide ((i : Int) < a.length) = true := by simp; omega
      obtain ⟨x, hx⟩ : ∃ x, a[i]? = some x := ⟨a[i]'(by omega), List.getElem?_eq_getElem _⟩
      obtain ⟨y, hy⟩ : ∃ x, b[i]? = some x := ⟨b[i]'(by omega), List.getElem?_eq_getElem _⟩
      have n1 : (0 ≤ (i : Int) ∧ (i : Int) < a.length) = True := eq_true (by omega)
      have n2 : (0 ≤ (i : Int) ∧ (i : Int) < b.length) = True := eq_true (by omega)
      have n3 : (i < a.length) = True := eq_true (by omega)
      have n4 : (i < b.length) = True := eq_true (by omega)
      have w1 : IntKind.i64.wrap ((i : Int) + 1) = i + 1 := i64_in _ (by omega)
      by_cases h3 : x = y
      · have hxy := (hdEq x y).trans (decide_eq_true h3)
        simp (maxSteps := 4000000) -implicitDefEqProofs only [go_sem, d2, Option.some.injEq, forall_eq', and_true, true_and, Bool.not_true, Bool.not_false, decide_true, Nat.reduceAdd, Nat.reduceSub, Nat.reduceLT, Nat.reduceLeDiff, Nat.reduceEqDiff, ↓reduceIte]
        refine DX.plain (.take 0 false (.take 1 false (.take 2 false (.take 3 false (.take 4 false (.take 5 false (.take 6 false (.take 7 false (.take 8 false .done))))))))) (by kernel_rfl) (by kernel_rfl) Ty.mixed ?_
        simp (maxSteps := 4000000) -implicitDefEqProofs only [go_sem, n1, n2, n3, n4, hx, hy, hxy, w1, Option.some.injEq, forall_eq', and_true, true_and, Bool.not_true, Bool.not_false, decide_true, Nat.reduceAdd, Nat.reduceSub, Nat.reduceLT, Nat.reduceLeDiff, Nat.reduceEqDiff, ↓reduceIte]
        exact .mk (i + 1) ⟨by omega, upto_succ hx (by rw [h3]; exact hy) hj⟩ (by omega) (Wk.sub (by (simp only [go_sem]) <;> trivial))
      · have hxy := (hdEq x y).trans (decide_eq_false h3)
        simp (maxSteps := 4000000) -implicitDefEqProofs only [go_sem, d2, Option.some.injEq, forall_eq', and_true, true_and, Bool.not_true, Bool.not_false, decide_true, Nat.reduceAdd, Nat.reduceSub, Nat.reduceLT, Nat.reduceLeDiff, Nat.reduceEqDiff, ↓reduceIte]
        refine DX.plain (.take 0 false (.take 1 false (.take 2 false (.take 3 false (.take 4 false (.take 5 false (.take 6 false (.take 7 false (.take 8 false .done))))))))) (by kernel_rfl) (by kernel_rfl) Ty.mixed ?_
        simp (maxSteps := 4000000) -implicitDefEqProofs only [go_sem, n1, n2, n3, n4, hx, hy, hxy, Option.some.injEq, forall_eq', and_true, true_and, Bool.not_true, Bool.not_false, decide_true, Nat.reduceAdd, Nat.reduceSub, Nat.reduceLT, Nat.reduceLeDiff, Nat.reduceEqDiff, ↓reduceIte]
        refine wk_bool (decide_eq_false fun e => h3 ?_).symm
        subst e; rw [hx] at hy; exact Option.some.inj hy
    · have d2 : decide ((i : Int) < a.length) = false := by simp; omega
      simp (maxSteps := 4000000) -implicitDefEqProofs only [go_sem, d2, Option.some.injEq, forall_eq', and_true, true_and, Bool.not_true, Bool.not_false, decide_true, Nat.reduceAdd, Nat.reduceSub, Nat.reduceLT, Nat.reduceLeDiff, Nat.reduceEqDiff, ↓reduceIte]
      refine wk_bool (decide_eq_true ?_).symm
      refine List.ext_getElem? fun j => ?_
      rcases Nat.lt_or_ge j a.length with q | q
      · have hx := List.getElem?_eq_getElem q
        rw [hx]; exact (hj j _ hx (by omega)).symm
      · rw [List.getElem?_eq_none q, List.getElem?_eq_none (by omega)]
  · have d1 : ((a.length : Int) != b.length) = true := by simp; omega
    simp (maxSteps := 4000000) -implicitDefEqProofs only [go_sem, d1, Option.some.injEq, forall_eq', and_true, true_and, Bool.not_true, Bool.not_false, decide_true, Nat.reduceAdd, Nat.reduceSub, Nat.reduceLT, Nat.reduceLeDiff, Nat.reduceEqDiff, ↓reduceIte]
    exact wk_bool (decide_eq_false fun e => h1 (by rw [e])).symm

end Go.AX.Wn
/- Windows: the plain law. Sorting, joining, what a list of windows says. -/
set_option maxHeartbeats 8000000
set_option linter.unusedVariables false
set_option linter.unusedSimpArgs false
set_option maxRecDepth 20000
namespace Go.AX.Wn
open Go.Proofs Go.RowKit Go.IntWalk Go.AX.Br
/-! ### sorted by their beginnings, those of one beginning in their order -/
def ins (x : Hd) : List Hd → List Hd
  | [] => [x]
  | y :: ys => if x.fr < y.fr then x :: y :: ys else y :: ins x ys
def isort (l : List Hd) : List Hd := l.foldl (fun P x => ins x P) []
def Srt (P : List Hd) : Prop := P.Pairwise fun a b => a.fr ≤ b.fr
theorem ins_perm (x : Hd) : ∀ P : List Hd, (ins x P).Perm (x :: P)
  | [] => .refl _
  | y :: ys => by
    simp only [ins]
    split
    · exact .refl _
    · exact ((ins_perm x ys).cons y).trans (.swap x y ys)
theorem ins_srt (x : Hd) : ∀ {P : List Hd}, Srt P → Srt (ins x P)
  | [], _ => by simp [ins, Srt]
  | y :: ys, h => by
    obtain ⟨h1, h2⟩ := List.pairwise_cons.1 h
    simp only [ins]
    split
    · next e => exact List.pairwise_cons.2 ⟨fun z hz => by
        rcases List.mem_cons.1 hz with rfl | hz
        · omega
        · have := h1 z hz; omega, h⟩
    · next e => exact List.pairwise_cons.2 ⟨fun z hz => by
        rcases List.mem_cons.1 ((ins_perm x ys).mem_iff.1 hz) with rfl | hz
        · omega
        · exact h1 z hz, ins_srt x h2⟩
theorem ins_find {x : Hd} {v : Int} : ∀ {P : List Hd}, Srt P → (ins x P).find? (fun h => decide (h.fr = v)) = (P ++ [x]).find? (fun h => decide (h.fr = v))
  | [], _ => rfl
  | y :: ys, h => by
    obtain ⟨h1, h2⟩ := List.pairwise_cons.1 h
    simp only [ins]
    split
    · next e =>
      by_cases hx : x.fr = v
      · have no : (y :: ys).find? (fun h => decide (h.fr = v)) = none := by
          rw [List.find?_eq_none]
          intro z hz
          rcases List.mem_cons.1 hz with rfl | hz
          · simp; omega
          · have := h1 z hz; simp; omega
        rw [List.find?_append, no]
        simp [hx]
      · rw [List.find?_append]
        simp only [List.find?_cons, List.find?_nil, decide_eq_false hx]
        cases (if decide (y.fr = v) = true then some y else ys.find? fun h => decide (h.fr = v)) <;> simp_all
    · simp only [List.cons_append, List.find?_cons]
      rw [ins_find h2]
theorem fold_srt : ∀ (l P : List Hd), Srt P → Srt (l.foldl (fun P x => ins x P) P) ∧ (l.foldl (fun P x => ins x P) P).Perm (P ++ l) ∧ ∀ v, (l.foldl (fun P x => ins x P) P).find? (fun h => decide (h.fr = v)) = (P ++ l).find? (fun h => decide (h.fr = v))
  | [], P, h => by simp [h]
  | x :: l, P, h => by
    obtain ⟨g1, g2, g3⟩ := fold_srt l (ins x P) (ins_srt x h)
    refine ⟨g1, g2.trans ?_, fun v => ?_⟩
    · exact ((ins_perm x P).append_right l).trans (List.perm_middle.symm)
    · rw [List.foldl_cons, g3 v, List.find?_append, ins_find h, ← List.find?_append]; simp
theorem isort_srt (l : List Hd) : Srt (isort l) := (fold_srt l [] .nil).1
theorem isort_mem {l : List Hd} {x : Hd} : x ∈ isort l ↔ x ∈ l := by unfold isort; simpa using (fold_srt l [] .nil).2.1.mem_iff
theorem isort_find (l : List Hd) (v : Int) : (isort l).find? (fun h => decide (h.fr = v)) = l.find? (fun h => decide (h.fr = v)) := by unfold isort; simpa using (fold_srt l [] .nil).2.2 v
/-! ### joined -/
def joinTo (w h : Hd) : Hd := ⟨w.br, w.fr, max w.to h.to, w.rs⟩
def mstep (out : List Hd) (h : Hd) : List Hd := match out.getLast? with
  | some w => if h.fr ≤ w.to then out.dropLast ++ [joinTo w h] else out ++ [h]
  | none => [h]
def winL (l : List Hd) (b : ByteArray) : List Hd := (isort (l.filter fun h => decide (h.br = b))).foldl mstep []
def cov (P : List Hd) (t : Int) : Prop := ∃ h ∈ P, h.fr ≤ t ∧ t < h.to
/-- in order, neither touching nor overlapping -/
def Can (W : List Hd) : Prop := W.Pairwise (fun a b => a.to < b.fr) ∧ ∀ w ∈ W, w.fr < w.to
structure Jn (P out : List Hd) : Prop where
  can : Can out
  same : ∀ t, cov P t ↔ cov out t
  first : ∀ w ∈ out, ∃ h ∈ P, P.find? (fun h => decide (h.fr = w.fr)) = some h ∧ w.br = h.br ∧ w.rs = h.rs
  last : ∀ w ∈ out, ∃ h ∈ P, h.to = w.to
theorem find_app {P Q : List Hd} {p : Hd → Bool} {h : Hd} (e : P.find? p = some h) : (P ++ Q).find? p = some h := by rw [List.find?_append, e]; rfl
theorem last_split {out : List Hd} {w : Hd} (h : out.getLast? = some w) : out = out.dropLast ++ [w] := by
  have hne : out ≠ [] := fun e => by simp [e] at h
  have := List.dropLast_concat_getLast hne
  rw [List.getLast?_eq_some_getLast hne] at h
  cases h
  exact this.symm
theorem jn_step {P out : List Hd} {h : Hd} (J : Jn P out) (hh : h.fr < h.to) (hs : ∀ p ∈ P, p.fr ≤ h.fr) (hp : ∀ p ∈ P, p.fr < p.to) : Jn (P ++ [h]) (mstep out h) := by
  have hcov : ∀ t, cov (P ++ [h]) t ↔ (cov P t ∨ (h.fr ≤ t ∧ t < h.to)) := fun t => by
    simp only [cov, List.mem_append, List.mem_singleton]
    constructor
    · rintro ⟨x, hx | rfl, h1⟩
      · exact .inl ⟨x, hx, h1⟩
      · exact .inr h1
    · rintro (⟨x, hx, h1⟩ | h1)
      · exact ⟨x, .inl hx, h1⟩
      · exact ⟨h, .inr rfl, h1⟩
  unfold mstep
  cases hl : out.getLast? with
  | none =>
    have ho : out = [] := by simpa using hl
    subst ho
    have hP : P = [] := by
      cases P with
      | nil => rfl
      | cons p P =>
        obtain ⟨w, hw, _⟩ := (J.same p.fr).1 ⟨p, by simp, Int.le_refl _, hp p (by simp)⟩
        simp at hw
    subst hP
    refine ⟨⟨by simp, by simp [hh]⟩, fun t => by simp, ?_, ?_⟩
    · intro w hw; simp at hw; subst hw; exact ⟨w, by simp, by simp, rfl, rfl⟩
    · intro w hw; simp at hw; subst hw; exact ⟨w, by simp, rfl⟩
  | some w =>
    have hsp := last_split hl
    obtain ⟨A, hA⟩ : ∃ A, A = out.dropLast := ⟨_, rfl⟩
    rw [← hA] at hsp ⊢
    have hwm : w ∈ out := by rw [hsp]; simp
    have c1 := J.can.1
    have c2 := J.can.2
    rw [hsp] at c1
    obtain ⟨cA, _, cAw⟩ := List.pairwise_append.1 c1
    have hAw : ∀ a ∈ A, a.to < w.fr := fun a ha => cAw a ha w (by simp)
    have hAm : ∀ a ∈ A, a ∈ out := fun a ha => by rw [hsp]; simp [ha]
    have hw := c2 w hwm
    obtain ⟨hf, hfm, hff, hfb, hfr⟩ := J.first w hwm
    have hwf : w.fr ≤ h.fr := by
      have e : hf.fr = w.fr := by simpa using List.find?_some hff
      have := hs hf hfm; omega
    simp only
    split
    · next hle =>
      have hcov2 : ∀ t, cov (A ++ [joinTo w h]) t ↔ (cov out t ∨ (h.fr ≤ t ∧ t < h.to)) := fun t => by
        rw [hsp]
        simp only [cov, List.mem_append, List.mem_singleton]
        constructor
        · rintro ⟨x, hx | rfl, h1, h2⟩
          · exact .inl ⟨x, .inl hx, h1, h2⟩
          · simp only [joinTo] at h1 h2
            rcases Int.lt_or_le t w.to with q | q
            · exact .inl ⟨w, .inr rfl, h1, q⟩
            · exact .inr ⟨by omega, by omega⟩
        · rintro (⟨x, hx | rfl, h1, h2⟩ | ⟨h1, h2⟩)
          · exact ⟨x, .inl hx, h1, h2⟩
          · exact ⟨_, .inr rfl, h1, by simp only [joinTo]; omega⟩
          · exact ⟨_, .inr rfl, by simp only [joinTo]; omega, by simp only [joinTo]; omega⟩
      refine ⟨⟨List.pairwise_append.2 ⟨cA, by simp, fun a ha x hx => ?_⟩, fun x hx => ?_⟩, fun t => ?_, fun x hx => ?_, fun x hx => ?_⟩
      · simp at hx; subst hx; exact hAw a ha
      · rcases List.mem_append.1 hx with hx | hx
        · exact c2 x (hAm x hx)
        · simp at hx; subst hx; simp only [joinTo]; omega
      · rw [hcov, hcov2, J.same]
      · rcases List.mem_append.1 hx with hx | hx
        · obtain ⟨y, y1, y2, y3, y4⟩ := J.first x (hAm x hx)
          exact ⟨y, by simp [y1], find_app y2, y3, y4⟩
        · simp at hx; subst hx
          exact ⟨hf, by simp [hfm], find_app hff, hfb, hfr⟩
      · rcases List.mem_append.1 hx with hx | hx
        · obtain ⟨y, y1, y2⟩ := J.last x (hAm x hx)
          exact ⟨y, by simp [y1], y2⟩
        · simp at hx; subst hx
          rcases Int.le_total w.to h.to with q | q
          · exact ⟨h, by simp, by simp only [joinTo]; omega⟩
          · obtain ⟨y, y1, y2⟩ := J.last w hwm
            exact ⟨y, by simp [y1], by simp only [joinTo]; omega⟩
    · next hlt =>
      have hAll : ∀ a ∈ out, a.to < h.fr := fun a ha => by
        rw [hsp] at ha
        rcases List.mem_append.1 ha with ha | ha
        · have := hAw a ha; omega
        · simp at ha; subst ha; omega
      refine ⟨⟨List.pairwise_append.2 ⟨J.can.1, by simp, fun a ha x hx => ?_⟩, fun x hx => ?_⟩, fun t => ?_, fun x hx => ?_, fun x hx => ?_⟩
      · simp at hx; subst hx; exact hAll a ha
      · rcases List.mem_append.1 hx with hx | hx
        · exact c2 x hx
        · simp at hx; subst hx; exact hh
      · rw [hcov, J.same]
        simp only [cov, List.mem_append, List.mem_singleton]
        constructor
        · rintro (⟨x, hx, h1⟩ | h1)
          · exact ⟨x, .inl hx, h1⟩
          · exact ⟨h, .inr rfl, h1⟩
        · rintro ⟨x, hx | rfl, h1⟩
          · exact .inl ⟨x, hx, h1⟩
          · exact .inr h1
      · rcases List.mem_append.1 hx with hx | hx
        · obtain ⟨y, y1, y2, y3, y4⟩ := J.first x hx
          exact ⟨y, by simp [y1], find_app y2, y3, y4⟩
        · simp at hx; subst hx
          have no : P.find? (fun h => decide (h.fr = x.fr)) = none := by
            rw [List.find?_eq_none]
            intro p hpm
            simp only [decide_eq_true_eq]
            intro e
            obtain ⟨v, v1, v2, v3⟩ := (J.same p.fr).1 ⟨p, hpm, Int.le_refl _, hp p hpm⟩
            have := hAll v v1
            omega
          exact ⟨x, by simp, by rw [List.find?_append, no]; simp, rfl, rfl⟩
      · rcases List.mem_append.1 hx with hx | hx
        · obtain ⟨y, y1, y2⟩ := J.last x hx
          exact ⟨y, by simp [y1], y2⟩
        · simp at hx; subst hx
          exact ⟨x, by simp, rfl⟩
theorem jn_all : ∀ (Q P out : List Hd), Jn P out → Srt (P ++ Q) → (∀ p ∈ P ++ Q, p.fr < p.to) → Jn (P ++ Q) (Q.foldl mstep out)
  | [], P, out, J, _, _ => by simpa using J
  | h :: Q, P, out, J, hs, hp => by
    have e : P ++ h :: Q = (P ++ [h]) ++ Q := by simp
    rw [e] at hs hp ⊢
    refine jn_all Q (P ++ [h]) _ (jn_step J (hp h (by simp)) (fun p hpm => ?_) fun p hpm => hp p (by simp [hpm])) hs hp
    have := (List.pairwise_append.1 (List.pairwise_append.1 hs).1).2.2 p hpm h (by simp)
    exact this
theorem jn_win (l : List Hd) (b : ByteArray) (hv : ∀ h ∈ l, h.fr < h.to) : Jn (isort (l.filter fun h => decide (h.br = b))) (winL l b) := by
  refine jn_all _ [] [] ⟨⟨.nil, by simp⟩, fun t => Iff.rfl, by simp, by simp⟩ (isort_srt _) fun p hp => ?_
  have := isort_mem.1 hp
  exact hv p (List.mem_filter.1 this).1
end Go.AX.Wn
/- Windows: the plain law. Looking ticks up, slack, fit. -/
set_option maxHeartbeats 8000000
set_option linter.unusedVariables false
set_option linter.unusedSimpArgs false
set_option maxRecDepth 20000
namespace Go.AX.Wn
open Go.Proofs Go.RowKit Go.IntWalk Go.AX.Br
def look (W : List Hd) (t : Int) : Option Hd := W.find? fun w => decide (t < w.to)
def endH : Hd := ⟨ByteArray.empty, 1000001, 1000001, ByteArray.empty⟩
def inR (W : List Hd) (t : Int) : Hd × Bool := match look W t with
  | some w => (w, decide (w.fr ≤ t))
  | none => (endH, false)
def nextW (W : List Hd) (t : Int) : Int := match look W t with
  | some w => if w.fr ≤ t then w.to else t
  | none => t
def stopW (W : List Hd) (t : Int) : Int := match look W t with
  | some w => max t w.fr
  | none => 1000001
theorem look_none {W : List Hd} {t : Int} (h : look W t = none) : ∀ a ∈ W, a.to ≤ t := fun a ha => by
  have := List.find?_eq_none.1 h a ha
  simp only [decide_eq_true_eq] at this; omega
theorem find_congr {p q : Hd → Bool} : ∀ {l : List Hd}, (∀ x ∈ l, p x = q x) → l.find? p = l.find? q
  | [], _ => rfl
  | x :: l, h => by rw [List.find?_cons, List.find?_cons, h x (by simp), find_congr fun y hy => h y (by simp [hy])]
/-- a valid list's windows -/
structure Okw (l : List Hd) (b : ByteArray) : Prop where
  len : l.length ≤ 16
  val : ∀ h ∈ l, 0 ≤ h.fr ∧ h.fr < h.to ∧ h.to ≤ 1000000
section
variable {l : List Hd} {b : ByteArray} (O : Okw l b)
include O
theorem Okw.jn : Jn (isort (l.filter fun h => decide (h.br = b))) (winL l b) := jn_win l b fun h hh => (O.val h hh).2.1
theorem Okw.can : Can (winL l b) := O.jn.can
theorem Okw.mem {h : Hd} : h ∈ isort (l.filter fun h => decide (h.br = b)) ↔ h ∈ l ∧ h.br = b := by
  have _ := O.len
  rw [isort_mem, List.mem_filter]; simp
theorem Okw.first {w : Hd} (hw : w ∈ winL l b) : ∃ h ∈ l, h.br = b ∧ h.fr = w.fr ∧ w.br = b ∧ (l.find? fun h => holds b w.fr h) = some h ∧ h.rs = w.rs := by
  obtain ⟨h, h1, h2, h3, h4⟩ := O.jn.first w hw
  obtain ⟨m1, m2⟩ := O.mem.1 h1
  have e : h.fr = w.fr := by simpa using List.find?_some h2
  refine ⟨h, m1, m2, e, by rw [h3, m2], ?_, h4.symm⟩
  rw [isort_find, List.find?_filter] at h2
  rw [← h2]
  refine find_congr fun x hx => ?_
  obtain ⟨v1, v2, v3⟩ := O.val x hx
  rw [Bool.eq_iff_iff]
  simp only [holds, Bool.and_eq_true, decide_eq_true_eq]
  constructor
  · rintro ⟨⟨x1, x2⟩, x3⟩
    refine ⟨x1, ?_⟩
    rcases Int.lt_or_le x.fr w.fr with q | q
    · exfalso
      have hc : cov (winL l b) (w.fr - 1) := (O.jn.same _).1 ⟨x, O.mem.2 ⟨hx, x1⟩, by omega, by omega⟩
      obtain ⟨y, y1, y2, y3⟩ := hc
      have C := O.can
      have hwv := C.2 w hw
      -- y is not w, not before it, not behind it
      obtain ⟨A, B, hs⟩ := List.append_of_mem hw
      have c1 := C.1
      rw [hs] at c1 y1
      obtain ⟨_, p2, p3⟩ := List.pairwise_append.1 c1
      rcases List.mem_append.1 y1 with y1 | y1
      · have := p3 y y1 w (by simp); omega
      rcases List.mem_cons.1 y1 with rfl | y1
      · omega
      · have := (List.pairwise_cons.1 p2).1 y y1; omega
    · omega
  · rintro ⟨x1, x2⟩
    exact ⟨⟨x1, by omega⟩, by omega⟩
theorem Okw.last {w : Hd} (hw : w ∈ winL l b) : ∃ h ∈ l, h.br = b ∧ h.to = w.to := by
  obtain ⟨h, h1, h2⟩ := O.jn.last w hw
  obtain ⟨m1, m2⟩ := O.mem.1 h1
  exact ⟨h, m1, m2, h2⟩
end
/-! ### slack -/
def sumOv : List Hd → Int → Int → Int
  | [], _, _ => 0
  | w :: W, f, t => max 0 (min t w.to - max f w.fr) + sumOv W f t
def slR (W : List Hd) (f t : Int) : Int := t - f - sumOv W f t
/-! ### fit -/
def fitA : List Hd → Int → Int → Int × Int
  | [], t, n => if n ≤ 1000001 - t then (t, 0) else (0, 6)
  | w :: B, t, n => if w.fr ≤ t then fitA B w.to n else if n ≤ w.fr - t then (t, 0) else fitA B w.to n
/-- those that end behind a tick -/
def late (W : List Hd) (t : Int) : List Hd := W.dropWhile fun w => decide (w.to ≤ t)
def fitR (W : List Hd) (t n : Int) : Int × Int := fitA (late W t) t n
end Go.AX.Wn
/- Windows: the program's sorting and joining. -/
set_option maxHeartbeats 8000000
set_option linter.unusedVariables false
set_option linter.unusedSimpArgs false
set_option maxRecDepth 20000
namespace Go.AX.Wn
open Go.Proofs Go.RowKit Go.IntWalk Go.AX.Br
def Lat (P R : List Hd) (x : Hd) (j : Nat) : List Hd := P.take j ++ x :: (P.drop j ++ R)
def Val (l : List Hd) : Prop := ∀ h ∈ l, 0 ≤ h.fr ∧ h.fr ≤ 1000000
end Go.AX.Wn
/- Windows: the program's windows, and looking a tick up in them. -/
set_option maxHeartbeats 8000000
set_option linter.unusedVariables false
set_option linter.unusedSimpArgs false
set_option maxRecDepth 20000
namespace Go.AX.Wn
open Go.Proofs Go.RowKit Go.IntWalk Go.AX.Br
def mine (b : ByteArray) (l : List Hd) : List Hd := l.filter fun h => decide (h.br = b)
def sgn (h : Hd) (t : Int) : Int := if h.to ≤ t then -1 else 1
end Go.AX.Wn
/- Windows: the program's functions. -/
set_option maxHeartbeats 8000000
set_option linter.unusedVariables false
set_option linter.unusedSimpArgs false
set_option maxRecDepth 20000
namespace Go.AX.Wn
open Go.Proofs Go.RowKit Go.IntWalk Go.AX.Br
def frozenR (l : List Hd) (b : ByteArray) (t : Int) : Bool × Int := if asked l [t] ≠ 0 then (false, asked l [t]) else (held l b t, 0)
def whyL (b : ByteArray) (t : Int) (l : List Hd) : List ByteArray := (l.filter (holds b t)).map (·.rs)
def whyR (l : List Hd) (b : ByteArray) (t : Int) : List ByteArray × Int := if asked l [t] ≠ 0 then ([], asked l [t]) else (whyL b t l, 0)
def fitRR (l : List Hd) (b : ByteArray) (t n : Int) : Int × Int := if asked l [t] ≠ 0 then (0, asked l [t]) else if n < 1 then (0, 2) else fitR (winL l b) t n
def slackR (l : List Hd) (b : ByteArray) (f t : Int) : Int × Int := if asked l [f, t] ≠ 0 then (0, asked l [f, t]) else if t < f then (0, 2) else (slR (winL l b) f t, 0)
def windowsR (l : List Hd) (b : ByteArray) : List Hd × Int := if wcheck l ≠ 0 then ([], wcheck l) else (winL l b, 0)
end Go.AX.Wn
/- Windows: why, slack; the reference's functions. -/
set_option maxHeartbeats 8000000
set_option linter.unusedVariables false
set_option linter.unusedSimpArgs false
set_option maxRecDepth 20000
namespace Go.AX.Wn
open Go.Proofs Go.RowKit Go.IntWalk Go.AX.Br
/-! ### plain -/
def atK (W : List Hd) (k : Nat) : Int := match W[k]? with
  | some w => w.fr
  | none => 1000001
section
variable {l : List Hd} {b : ByteArray} (O : Okw l b)
include O
end
/-! ### the program's -/
def rest (W : List Hd) (f t : Int) : Int := if f < t then slR W f t else 0
end Go.AX.Wn
/- Windows: the reference's functions. -/
set_option maxHeartbeats 8000000
set_option linter.unusedVariables false
set_option linter.unusedSimpArgs false
set_option maxRecDepth 20000
namespace Go.AX.Wn
open Go.Proofs Go.RowKit Go.IntWalk Go.AX.Br
end Go.AX.Wn
/- Windows: the reference's windows, slack, fit, next. -/
set_option maxHeartbeats 8000000
set_option linter.unusedVariables false
set_option linter.unusedSimpArgs false
set_option maxRecDepth 20000
namespace Go.AX.Wn
open Go.Proofs Go.RowKit Go.IntWalk Go.AX.Br
def rsn (b : ByteArray) (t : Int) (l : List Hd) : ByteArray := match l.find? (holds b t) with
  | some h => h.rs
  | none => ByteArray.empty
end Go.AX.Wn

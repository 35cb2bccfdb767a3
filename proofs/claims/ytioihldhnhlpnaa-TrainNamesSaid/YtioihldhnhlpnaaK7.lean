/- Ledgers: copied; one branch's events in the call's own. -/
import Derived.Test.YtioihldhnhlpnaaK6
import Derived.KernelRfl
import Derived.Test.YtioihldhnhlpnaaRows
set_option maxHeartbeats 8000000
set_option linter.unusedVariables false
set_option linter.unusedSimpArgs false
set_option maxRecDepth 20000
namespace Go.AX.Lg
open Go.Proofs Go.RowKit Go.IntWalk Go.AX.Br
theorem esDx_len (l : List (List Ev)) : (∀ e ∈ l.map esD, e.length = 1) = True := esD_len
/-- what stands for the events of branch i -/
def inn (i j : Nat) (s : List Ev) : AObj := if i < j then .vec 2 (upD (s.map eD)) else .gone
theorem inn_t {i j : Nat} {s : List Ev} (h : i < j) : inn i j s = .vec 2 (upD (s.map eD)) := if_pos h
theorem inn_f {i j : Nat} {s : List Ev} (h : ¬ i < j) : inn i j s = .gone := if_neg h
theorem inn_ren {f : Nat → Nat} {i j : Nat} {s : List Ev} : renO f (inn i j s) = inn i j s := by
  unfold inn
  split
  · simp only [renO, renss_up]
  · rfl
theorem inn_bd {k : Nat} {i j : Nat} {s : List Ev} : bdO k (inn i j s) = True := by
  unfold inn
  split
  · simp only [bdO, bdss_up]
  · rfl
theorem inn_wk {i j : Nat} {s : List Ev} : wkO (inn i j s) (inn i j s) = True := eq_true (wkO_refl _)
attribute [go_sem ↓] inn_ren inn_bd inn_wk
def evX (l : Lg) (j : Nat) : List (List D) := (l.ev.take j).map esD
theorem evX_len {l : Lg} {j : Nat} (h : j ≤ l.ev.length) : (evX l j).length = j := by simp [evX]; omega
theorem evX_S {l : Lg} {j : Nat} {s : List Ev} (h : l.ev[j]? = some s) : evX l (j + 1) = evX l j ++ [[.sl (s.map eD)]] := by
  unfold evX
  rw [List.take_add_one, h]; simp [esD]
theorem evX_all {l : Lg} : evX l l.ev.length = l.ev.map esD := by simp [evX]
theorem evX_sz {l : Lg} {j : Nat} : (∀ e ∈ evX l j, e.length = 1) = True := esDx_len _
def zL : AObj := .cells [.nil, .nil, .nil]
attribute [go_sem] evX_sz zL
def cl0 (l : Lg) : List AObj := [lH l, zL, .cells [.own 3, .own 4, .nil], .row 2 (l.kn.map kD), .row 3 (l.br.map bD)]
/-- a copy: the events of branch i in the call's own -/
theorem clone_lownI (l : Lg) (q : Nat) (t : List Ev) (hq : l.ev[q]? = some t) (hk : l.kn.length ≤ 1000) (hb : l.br.length ≤ 1000) (he : l.ev.length ≤ 1000) (hs : ∀ s ∈ l.ev, s.length ≤ 1000) :
    Spec Try.prog 63 [lA l] [] (.agg [.d (.sl (l.kn.map kD)), .d (.sl (l.br.map bD)), .own 0]) [.vec 1 (vset (l.ev.map esD) q 1), .vec 2 (upD (t.map eD))] := by
  have c1 := clone_kn l.kn hk
  have c2 := clone_br l.br hb
  have hql := some_lt hq
  refine spec_of_ev (fn := Try.f63) DX_ok 3000 Try.func63 rfl rfl (Nat.le_of_ble_eq_true rfl) ?_
  simp (maxSteps := 4000000) -implicitDefEqProofs only [Try.f63, go_sem, lA]
  refine DX.join (mkE 29 [(1, .ptr 0 0), (2, .ptr 1 0), (3, .ptr 2 0)]) (cl0 l)
    (.take 0 true (.take 1 true (.take 3 true (.take 4 true (.run [2, 7] (fun i => if i = 2 then [true, true, false, false] else [true, true, true, true]) fun i => if i = 2 then
      (.run [5, 7] (fun i => if i = 5 then [false, false] else [true, true]) fun i => if i = 5 then (.take 6 true (.run [7] (fun _ => [true]) fun _ => .run [8] (fun _ => [false]) fun _ => .done)) else (.run [5] (fun _ => [false, false]) fun _ => .take 6 false (.run [8] (fun _ => []) fun _ => .done)))
      else (.run [2] (fun _ => [true, true, false, false]) fun _ => .run [5] (fun _ => [false, false]) fun _ => .take 6 false (.run [8] (fun _ => []) fun _ => .done))))))) (by kernel_rfl) (by kernel_rfl) Ty.mixed ?_ ?_
  · simp (maxSteps := 4000000) -implicitDefEqProofs only [go_sem, cl0, Option.some.injEq, forall_eq', and_true, true_and, Bool.not_true, Bool.not_false, decide_true, Nat.reduceAdd, Nat.reduceSub, Nat.reduceLT, Nat.reduceLeDiff, Nat.reduceEqDiff, ↓reduceIte]
    refine ⟨⟨_, _, c1.liftN _ (by simp only [go_sem]), ?_⟩, ?_⟩
    · simp (maxSteps := 4000000) -implicitDefEqProofs only [go_sem, Nat.reduceAdd, Nat.reduceSub, Nat.reduceLT, Nat.reduceLeDiff, Nat.reduceEqDiff, ↓reduceIte]
      refine ⟨⟨_, _, c2.liftN _ (by simp only [go_sem]), ?_⟩, ?_⟩
      · simp (maxSteps := 4000000) -implicitDefEqProofs only [go_sem, Nat.reduceAdd, Nat.reduceSub, Nat.reduceLT, Nat.reduceLeDiff, Nat.reduceEqDiff, ↓reduceIte]
        exact (Wk.via [0, 1, 4, 2, 3] (by (simp only [go_sem, ↓reduceIte]) <;> trivial) (by first | (simp (maxSteps := 4000000) -implicitDefEqProofs only [go_sem, Nat.reduceAdd, Nat.reduceSub, Nat.reduceLT, Nat.reduceLeDiff, Nat.reduceEqDiff, ↓reduceIte]; done) | ((simp (maxSteps := 4000000) -implicitDefEqProofs only [go_sem, Nat.reduceAdd, Nat.reduceSub, Nat.reduceLT, Nat.reduceLeDiff, Nat.reduceEqDiff, ↓reduceIte]) <;> omega)) (by simp) (by first | (simp; done) | (simp [so]; done)) (by (simp (maxSteps := 4000000) -implicitDefEqProofs only [go_sem, Nat.reduceAdd, Nat.reduceSub, Nat.reduceLT, Nat.reduceLeDiff, Nat.reduceEqDiff, ↓reduceIte]) <;> trivial) (by first | (simp only [go_sem]; done) | ((simp (maxSteps := 4000000) -implicitDefEqProofs only [go_sem, Nat.reduceAdd, Nat.reduceSub, Nat.reduceLT, Nat.reduceLeDiff, Nat.reduceEqDiff, ↓reduceIte]) <;> omega)) (Nat.zero_le _) (fun i h => absurd h (Nat.not_lt_zero i)))
      · refine ⟨_, _, c2.liftN _ (by simp only [go_sem]), ?_⟩
        simp (maxSteps := 4000000) -implicitDefEqProofs only [go_sem, Nat.reduceAdd, Nat.reduceSub, Nat.reduceLT, Nat.reduceLeDiff, Nat.reduceEqDiff, ↓reduceIte]
        exact (Wk.via [0, 1, 3, 2, 4] (by (simp only [go_sem, ↓reduceIte]) <;> trivial) (by first | (simp (maxSteps := 4000000) -implicitDefEqProofs only [go_sem, Nat.reduceAdd, Nat.reduceSub, Nat.reduceLT, Nat.reduceLeDiff, Nat.reduceEqDiff, ↓reduceIte]; done) | ((simp (maxSteps := 4000000) -implicitDefEqProofs only [go_sem, Nat.reduceAdd, Nat.reduceSub, Nat.reduceLT, Nat.reduceLeDiff, Nat.reduceEqDiff, ↓reduceIte]) <;> omega)) (by simp) (by first | (simp; done) | (simp [so]; done)) (by (simp (maxSteps := 4000000) -implicitDefEqProofs only [go_sem, Nat.reduceAdd, Nat.reduceSub, Nat.reduceLT, Nat.reduceLeDiff, Nat.reduceEqDiff, ↓reduceIte]) <;> trivial) (by first | (simp only [go_sem]; done) | ((simp (maxSteps := 4000000) -implicitDefEqProofs only [go_sem, Nat.reduceAdd, Nat.reduceSub, Nat.reduceLT, Nat.reduceLeDiff, Nat.reduceEqDiff, ↓reduceIte]) <;> omega)) (Nat.zero_le _) (fun i h => absurd h (Nat.not_lt_zero i)))
    · refine ⟨_, _, c1.liftN _ (by simp only [go_sem]), ?_⟩
      simp (maxSteps := 4000000) -implicitDefEqProofs only [go_sem, Nat.reduceAdd, Nat.reduceSub, Nat.reduceLT, Nat.reduceLeDiff, Nat.reduceEqDiff, ↓reduceIte]
      refine ⟨_, _, c2.liftN _ (by simp only [go_sem]), ?_⟩
      simp (maxSteps := 4000000) -implicitDefEqProofs only [go_sem, Nat.reduceAdd, Nat.reduceSub, Nat.reduceLT, Nat.reduceLeDiff, Nat.reduceEqDiff, ↓reduceIte]
      exact (Wk.via [0, 1, 2, 3, 4] (by (simp only [go_sem, ↓reduceIte]) <;> trivial) (by first | (simp (maxSteps := 4000000) -implicitDefEqProofs only [go_sem, Nat.reduceAdd, Nat.reduceSub, Nat.reduceLT, Nat.reduceLeDiff, Nat.reduceEqDiff, ↓reduceIte]; done) | ((simp (maxSteps := 4000000) -implicitDefEqProofs only [go_sem, Nat.reduceAdd, Nat.reduceSub, Nat.reduceLT, Nat.reduceLeDiff, Nat.reduceEqDiff, ↓reduceIte]) <;> omega)) (by simp) (by first | (simp; done) | (simp [so]; done)) (by (simp (maxSteps := 4000000) -implicitDefEqProofs only [go_sem, Nat.reduceAdd, Nat.reduceSub, Nat.reduceLT, Nat.reduceLeDiff, Nat.reduceEqDiff, ↓reduceIte]) <;> trivial) (by first | (simp only [go_sem]; done) | ((simp (maxSteps := 4000000) -implicitDefEqProofs only [go_sem, Nat.reduceAdd, Nat.reduceSub, Nat.reduceLT, Nat.reduceLeDiff, Nat.reduceEqDiff, ↓reduceIte]) <;> omega)) (Nat.zero_le _) (fun i h => absurd h (Nat.not_lt_zero i)))
  simp (maxSteps := 4000000) -implicitDefEqProofs only [go_sem, cl0, Option.some.injEq, forall_eq', and_true, true_and, Bool.not_true, Bool.not_false, decide_true, Nat.reduceAdd, Nat.reduceSub, Nat.reduceLT, Nat.reduceLeDiff, Nat.reduceEqDiff, ↓reduceIte]
  refine eloop (S := Nat) (fun i => mkE 29 [(1, .ptr 0 0), (2, .ptr 1 0), (3, .ptr 2 0), (14, .d (.sl (l.ev.map esD))), (15, .d (.int .i64 l.ev.length)), (16, .d (.int .i64 i))]) (fun i => [lH l, zL, .cells [.own 3, .own 4, .own 5], .row 2 (l.kn.map kD), .row 3 (l.br.map bD), .vec 1 (vset (evX l i) q 6), inn q i t]) (fun i => i ≤ l.ev.length) (fun i => l.ev.length - i) 0 (by omega) ?_ ?_
  · refine Wk.trans (Wk.nilC 2 2 1 rfl rfl) (Wk.trans (Wk.rowv 5 rfl) ?_)
    rw [vset_nil (es := evX l 0) (i := q) (k := 6) (by simp [evX]), inn_f (by omega)]
    refine Wk.trans (Wk.more) ?_
    exact (Wk.via [0, 1, 2, 3, 4, 5, 6] (by (simp only [go_sem, ↓reduceIte]) <;> trivial) (by first | (simp (maxSteps := 4000000) -implicitDefEqProofs only [go_sem, Nat.reduceAdd, Nat.reduceSub, Nat.reduceLT, Nat.reduceLeDiff, Nat.reduceEqDiff, ↓reduceIte]; done) | ((simp (maxSteps := 4000000) -implicitDefEqProofs only [go_sem, Nat.reduceAdd, Nat.reduceSub, Nat.reduceLT, Nat.reduceLeDiff, Nat.reduceEqDiff, ↓reduceIte]) <;> omega)) (by simp) (by first | (simp; done) | (simp [so]; done)) (by (simp (maxSteps := 4000000) -implicitDefEqProofs only [go_sem, Nat.reduceAdd, Nat.reduceSub, Nat.reduceLT, Nat.reduceLeDiff, Nat.reduceEqDiff, ↓reduceIte]) <;> trivial) (by first | (simp only [go_sem]; done) | ((simp (maxSteps := 4000000) -implicitDefEqProofs only [go_sem, Nat.reduceAdd, Nat.reduceSub, Nat.reduceLT, Nat.reduceLeDiff, Nat.reduceEqDiff, ↓reduceIte]) <;> omega)) (Nat.zero_le _) (fun i h => absurd h (Nat.not_lt_zero i)))
  intro i hi
  rcases Nat.lt_or_ge i l.ev.length with h2 | h2
  case inr =>
    have hii : i = l.ev.length := by omega
    subst hii
    have f1 : decide ((l.ev.length : Int) < l.ev.length) = false := by simp
    simp (maxSteps := 4000000) -implicitDefEqProofs only [go_sem, f1, Option.some.injEq, forall_eq', and_true, true_and, Bool.not_true, Bool.not_false, decide_true, Nat.reduceAdd, Nat.reduceSub, Nat.reduceLT, Nat.reduceLeDiff, Nat.reduceEqDiff, ↓reduceIte]
    rw [evX_all, inn_t hql]
    refine Wk.trans (Wk.frz 3 rfl) (Wk.trans (Wk.frz 4 rfl) ?_)
    exact (Wk.via [5, 6] (by (simp only [go_sem, ↓reduceIte]) <;> trivial) (by first | (simp (maxSteps := 4000000) -implicitDefEqProofs only [go_sem, Nat.reduceAdd, Nat.reduceSub, Nat.reduceLT, Nat.reduceLeDiff, Nat.reduceEqDiff, ↓reduceIte]; done) | ((simp (maxSteps := 4000000) -implicitDefEqProofs only [go_sem, Nat.reduceAdd, Nat.reduceSub, Nat.reduceLT, Nat.reduceLeDiff, Nat.reduceEqDiff, ↓reduceIte]) <;> omega)) (by simp) (by first | (simp; done) | (simp [so]; done)) (by (simp (maxSteps := 4000000) -implicitDefEqProofs only [go_sem, Nat.reduceAdd, Nat.reduceSub, Nat.reduceLT, Nat.reduceLeDiff, Nat.reduceEqDiff, ↓reduceIte]) <;> trivial) (by first | (simp only [go_sem]; done) | ((simp (maxSteps := 4000000) -implicitDefEqProofs only [go_sem, Nat.reduceAdd, Nat.reduceSub, Nat.reduceLT, Nat.reduceLeDiff, Nat.reduceEqDiff, ↓reduceIte]) <;> omega)) (Nat.zero_le _) (fun i h => absurd h (Nat.not_lt_zero i)))
  have f1 : decide ((i : Int) < l.ev.length) = true := by simp; omega
  obtain ⟨s, hsi⟩ : ∃ x, l.ev[i]? = some x := ⟨l.ev[i]'h2, List.getElem?_eq_getElem _⟩
  have n1 : (0 ≤ (i : Int) ∧ (i : Int) < l.ev.length) = True := eq_true (by omega)
  have n2 : (i < l.ev.length) = True := eq_true (by omega)
  have w1 : IntKind.i64.wrap ((i : Int) + 1) = ((i + 1 : Nat) : Int) := by rw [i64_in _ (by omega)]; simp
  have hsl := hs s (List.mem_of_getElem? hsi)
  have c3 := clone_ev s hsl
  have c4 := clone_evV s hsl
  have xl := evX_len (l := l) (j := i) (by omega)
  have xs := evX_S hsi
  by_cases e : i = q
  · subst e
    rw [hq] at hsi; cases hsi
    have e1 := vset_at (k := 6) (m := 7) [D.sl (t.map eD)] xl.symm
    rw [inn_f (by omega)]
    simp (maxSteps := 4000000) -implicitDefEqProofs only [go_sem, f1, n1, n2, hq, Option.some.injEq, forall_eq', and_true, true_and, Bool.not_true, Bool.not_false, decide_true, Nat.reduceAdd, Nat.reduceSub, Nat.reduceLT, Nat.reduceLeDiff, Nat.reduceEqDiff, ↓reduceIte]
    refine DX.plain (.take 0 true (.take 1 true (.take 2 false (.run [3] (fun _ => [true, true]) fun _ => (.run [4] (fun _ => [true, true]) fun _ => (.run [5] (fun _ => [false, false]) fun _ => (.take 6 false (.run [7] (fun _ => []) fun _ => .done)))))))) (by kernel_rfl) (by kernel_rfl) Ty.mixed ?_
    simp (maxSteps := 4000000) -implicitDefEqProofs only [go_sem, xl, Option.some.injEq, forall_eq', and_true, true_and, Bool.not_true, Bool.not_false, decide_true, Nat.reduceAdd, Nat.reduceSub, Nat.reduceLT, Nat.reduceLeDiff, Nat.reduceEqDiff, ↓reduceIte]
    refine ⟨_, _, c4.liftN _ (by simp only [go_sem]), ?_⟩
    simp (maxSteps := 4000000) -implicitDefEqProofs only [go_sem, xl, Option.some.injEq, forall_eq', and_true, true_and, Bool.not_true, Bool.not_false, decide_true, Nat.reduceAdd, Nat.reduceSub, Nat.reduceLT, Nat.reduceLeDiff, Nat.reduceEqDiff, ↓reduceIte]
    refine ⟨⟨fun e he => by simp at he; subst he; rfl, rfl, by omega, by omega⟩, ?_⟩
    rw [e1]
    simp (maxSteps := 4000000) -implicitDefEqProofs only [go_sem, w1, Option.some.injEq, forall_eq', and_true, true_and, Bool.not_true, Bool.not_false, decide_true, Nat.reduceAdd, Nat.reduceSub, Nat.reduceLT, Nat.reduceLeDiff, Nat.reduceEqDiff, ↓reduceIte]
    exact .mk (i + 1) (by omega) (by omega) (by rw [xs, inn_t (by omega)]; exact (Wk.via [0, 1, 2, 3, 4, 9, 7] (by (simp only [go_sem, ↓reduceIte]) <;> trivial) (by first | (simp (maxSteps := 4000000) -implicitDefEqProofs only [go_sem, Nat.reduceAdd, Nat.reduceSub, Nat.reduceLT, Nat.reduceLeDiff, Nat.reduceEqDiff, ↓reduceIte]; done) | ((simp (maxSteps := 4000000) -implicitDefEqProofs only [go_sem, Nat.reduceAdd, Nat.reduceSub, Nat.reduceLT, Nat.reduceLeDiff, Nat.reduceEqDiff, ↓reduceIte]) <;> omega)) (by simp) (by first | (simp; done) | (simp [so]; done)) (by (simp (maxSteps := 4000000) -implicitDefEqProofs only [go_sem, Nat.reduceAdd, Nat.reduceSub, Nat.reduceLT, Nat.reduceLeDiff, Nat.reduceEqDiff, ↓reduceIte]) <;> trivial) (by first | (simp only [go_sem]; done) | ((simp (maxSteps := 4000000) -implicitDefEqProofs only [go_sem, Nat.reduceAdd, Nat.reduceSub, Nat.reduceLT, Nat.reduceLeDiff, Nat.reduceEqDiff, ↓reduceIte]) <;> omega)) (Nat.zero_le _) (fun i h => absurd h (Nat.not_lt_zero i))))
  · have e1 := vset_snoc (k := 6) (i := q) (es := evX l i) [D.sl (s.map eD)] (by rw [xl]; exact fun h => e h.symm)
    have e2 : inn q (i + 1) t = inn q i t := by unfold inn; rcases Nat.lt_or_ge q i with h | h; rw [if_pos h, if_pos (by omega)]; rw [if_neg (by omega), if_neg (by omega)]
    simp (maxSteps := 4000000) -implicitDefEqProofs only [go_sem, f1, n1, n2, hsi, Option.some.injEq, forall_eq', and_true, true_and, Bool.not_true, Bool.not_false, decide_true, Nat.reduceAdd, Nat.reduceSub, Nat.reduceLT, Nat.reduceLeDiff, Nat.reduceEqDiff, ↓reduceIte]
    refine DX.plain (.take 0 true (.take 1 true (.take 2 false (.run [3] (fun _ => [true, true]) fun _ => (.run [4] (fun _ => [true, true]) fun _ => (.run [5] (fun _ => [false, false]) fun _ => (.take 6 false (.run [7] (fun _ => []) fun _ => .done)))))))) (by kernel_rfl) (by kernel_rfl) Ty.mixed ?_
    simp (maxSteps := 4000000) -implicitDefEqProofs only [go_sem, xl, Option.some.injEq, forall_eq', and_true, true_and, Bool.not_true, Bool.not_false, decide_true, Nat.reduceAdd, Nat.reduceSub, Nat.reduceLT, Nat.reduceLeDiff, Nat.reduceEqDiff, ↓reduceIte]
    refine ⟨_, _, c3.liftN _ (by simp only [go_sem]), ?_⟩
    simp (maxSteps := 4000000) -implicitDefEqProofs only [go_sem, xl, Option.some.injEq, forall_eq', and_true, true_and, Bool.not_true, Bool.not_false, decide_true, Nat.reduceAdd, Nat.reduceSub, Nat.reduceLT, Nat.reduceLeDiff, Nat.reduceEqDiff, ↓reduceIte]
    refine ⟨⟨fun e he => by simp at he; subst he; rfl, rfl, by omega, by omega⟩, ?_⟩
    simp only [List.map_cons, List.map_nil] at e1
    rw [e1]
    simp (maxSteps := 4000000) -implicitDefEqProofs only [go_sem, w1, Option.some.injEq, forall_eq', and_true, true_and, Bool.not_true, Bool.not_false, decide_true, Nat.reduceAdd, Nat.reduceSub, Nat.reduceLT, Nat.reduceLeDiff, Nat.reduceEqDiff, ↓reduceIte]
    exact .mk (i + 1) (by omega) (by omega) (by rw [xs, e2]; exact (Wk.via [0, 1, 2, 3, 4, 9, 6] (by (simp only [go_sem, ↓reduceIte]) <;> trivial) (by first | (simp (maxSteps := 4000000) -implicitDefEqProofs only [go_sem, Nat.reduceAdd, Nat.reduceSub, Nat.reduceLT, Nat.reduceLeDiff, Nat.reduceEqDiff, ↓reduceIte]; done) | ((simp (maxSteps := 4000000) -implicitDefEqProofs only [go_sem, Nat.reduceAdd, Nat.reduceSub, Nat.reduceLT, Nat.reduceLeDiff, Nat.reduceEqDiff, ↓reduceIte]) <;> omega)) (by simp) (by first | (simp; done) | (simp [so]; done)) (by (simp (maxSteps := 4000000) -implicitDefEqProofs only [go_sem, Nat.reduceAdd, Nat.reduceSub, Nat.reduceLT, Nat.reduceLeDiff, Nat.reduceEqDiff, ↓reduceIte]) <;> trivial) (by first | (simp only [go_sem]; done) | ((simp (maxSteps := 4000000) -implicitDefEqProofs only [go_sem, Nat.reduceAdd, Nat.reduceSub, Nat.reduceLT, Nat.reduceLeDiff, Nat.reduceEqDiff, ↓reduceIte]) <;> omega)) (Nat.zero_le _) (fun i h => absurd h (Nat.not_lt_zero i))))
end Go.AX.Lg
/- Ledgers: Append of the program. -/
set_option maxHeartbeats 8000000
set_option linter.unusedVariables false
set_option linter.unusedSimpArgs false
set_option maxRecDepth 20000
namespace Go.AX
/-- a slice of slices, one of them apart, all as data -/
theorem Wk.vsets {xs ys : List AV} {σ : List AObj} {X Y : List (List D)} (a c i : Nat) {sz : Nat} (ha : ob σ a = .vec 1 (vset X i c)) (hc : ob σ c = .vec sz (upD Y)) (hne : a ≠ c) (hi : i < X.length) (hy : sbs a (.sl (X.set i [.sl Y])) xs = ys) (hb : bds 0 ys) : Wk 0 xs σ ys [] := by
  have la := some_lt (ob_some ha (by simp))
  have lc := some_lt (ob_some hc (by simp))
  have oc : ob (so σ c (.row sz Y)) c = .row sz Y := by rw [ob_eq, so_eq, List.getElem?_set_self lc]; rfl
  have oa : ob (so σ c (.row sz Y)) a = .vec 1 (vset X i c) := by rw [ob_eq, so_eq, List.getElem?_set_ne (Ne.symm hne), ← ob_eq]; exact ha
  have oa2 : ob (so (so σ c (.row sz Y)) c .gone) a = .vec 1 (vset X i c) := by rw [ob_eq, so_eq, List.getElem?_set_ne (Ne.symm hne), ← ob_eq]; exact oa
  have w1 := Wk.vrow (n0 := 0) (xs := xs) c hc (asEss_up Y) hc
  have w2 := Wk.vrow (n0 := 0) (xs := xs) a oa (asEss_vset oc hi) oa2
  have w3 := Wk.frz (n0 := 0) (xs := xs) (σ := so (so (so σ c (.row sz Y)) c .gone) a (.row 1 (X.set i [.sl Y]))) a (sz := 1) (es := X.set i [.sl Y]) (by
    rw [so_eq, List.getElem?_set_self (by rw [so_eq, so_eq]; simpa using la)])
  rw [hy] at w3
  exact Wk.trans w1 (Wk.trans w2 (Wk.trans w3 (Wk.out hb (rens_id hb))))
attribute [go_sem] vset_set
theorem Spec.at1 {P : Program} {f : FuncId} {args args0 : List AV} {σ : List AObj} {r : AV} {o o' : AObj} (l : Nat) (h7 : Spec P f args0 [o] r [o']) (h1 : args = rens (at0 [l]) args0) (hb : bds 1 args0) (hl : l < σ.length) (hO : ob σ l = renO (at0 [l]) o) (ho : bdO 1 o) :
    Spec P f args σ (ren (rn [l] σ.length) r) (back σ [l] [o']) := by
  subst h1
  exact h7.frame [l] hb (by simp) (by simpa using hl) (by simp [obs, mapO, hO]) ⟨ho, trivial⟩
end Go.AX
namespace Go.AX.Lg
open Go.Proofs Go.RowKit Go.IntWalk Go.AX.Br
def lg0 : Lg := ⟨[], [], []⟩
def addE (l : Lg) (i : Nat) (x : Ev) : Lg := ⟨l.kn, l.br, l.ev.set i ((l.ev.getD i []) ++ [x])⟩
def appR (l : Lg) (nm : ByteArray) (x : Ev) : Lg × Int :=
  if (lview l nm).2 ≠ 0 then (lg0, (lview l nm).2) else if classN l x.ch = none then (lg0, 6)
  else if (l.ev.getD (idx (has nm) l.br).toNat []).length = 40 then (lg0, 4)
  else if allR l (seenL l (lview l nm).1) x ≠ 0 then (lg0, allR l (seenL l (lview l nm).1) x) else (addE l (idx (has nm) l.br).toNat x, 0)
theorem appHas_own (b : Br) (nm : ByteArray) : Spec Try.prog 61 [bA b, .ptr 0 0] [.cells [.d (.str nm)]] (.d (.bool (has nm b))) [.cells [.d (.str nm)]] := by
  unfold bA
  refine spec_of_ev (fn := Try.f61) DX_ok 3000 Try.func61 rfl rfl (Nat.le_of_ble_eq_true rfl) ?_
  simp (maxSteps := 4000000) -implicitDefEqProofs only [Try.f61, go_sem]
  exact Wk.keep (σ := [_]) (τ := [_]) (by simp only [go_sem]) (by simp only [go_sem])
theorem set_map {α : Type} {g : α → List D} (l : List α) (i : Nat) (x : α) : (l.map g).set i (g x) = (l.set i x).map g := by simp
theorem append_lown (l : Lg) (nm : ByteArray) (x : Ev) (hk : l.kn.length ≤ 1000) (hb : l.br.length ≤ 1000) (he : l.ev.length ≤ 1000) :
    Spec Try.prog 21 [lA l, .d (.str nm), .agg [.d (.int .u8 x.kd), .d (.str x.ch)]] [] (.tup [lA (appR l nm x).1, .d (.int .i64 (appR l nm x).2)]) [] := by
  have c1 := view_lown l nm hk hb he
  have vk := lview_ok (l := l) (nm := nm)
  have c2 := classes_own l (by unfold Sm; omega)
  obtain ⟨M, hM⟩ : ∃ M, M = clsM l.kn := ⟨_, rfl⟩
  rw [← hM] at c2
  have c3 := br_indexFunc l.br (has nm) 61 [.ptr 0 0] [.cells [.d (.str nm)]] (by unfold Sm; omega) fun b _ => appHas_own b nm
  obtain ⟨V, hV⟩ : ∃ V, V = lview l nm := ⟨_, rfl⟩
  obtain ⟨R, hR⟩ : ∃ R, R = appR l nm x := ⟨_, rfl⟩
  rw [← hR]
  unfold appR at hR
  rw [← hV] at c1 vk hR
  simp only [lA] at c1 c2 ⊢
  have bad : ∀ (e : Int) {σ : List AObj}, R = (lg0, e) → Wk 0 [.tup [.agg [.nil, .nil, .nil], .d (.int .i64 e)]] σ [.tup [.agg [.d (.sl (R.1.kn.map kD)), .d (.sl (R.1.br.map bD)), .d (.sl (R.1.ev.map esD))], .d (.int .i64 R.2)]] [] := fun e σ h => by
    rw [h]; exact wk_dat (r' := .tup [.agg [.d (.sl []), .d (.sl []), .d (.sl [])], .d (.int .i64 e)]) (by simp only [go_sem]; rfl) rfl (by simp only [go_sem])
  refine spec_of_ev (fn := Try.f21) DX_ok 3000 Try.func21 rfl rfl (Nat.le_of_ble_eq_true rfl) ?_
  simp (maxSteps := 4000000) -implicitDefEqProofs only [Try.f21, go_sem, lA]
  refine ecall0 _ c1 (by simp only [go_sem]) (by simp only [go_sem]) ?_
  cases k1 : (V.2 != 0)
  case true =>
    have : V.2 ≠ 0 := by simpa using k1
    simp (maxSteps := 4000000) -implicitDefEqProofs only [go_sem, k1, Option.some.injEq, forall_eq', and_true, true_and, Bool.not_true, Bool.not_false, decide_true, Nat.reduceAdd, Nat.reduceSub, Nat.reduceLT, Nat.reduceLeDiff, Nat.reduceEqDiff, ↓reduceIte]
    exact bad _ (by rw [hR, if_pos this])
  have k1x : V.2 = 0 := by simpa using k1
  rw [if_neg (by omega)] at hR
  obtain ⟨lo, i, y, s, v, a, hn, hv, hi⟩ := vk k1x
  have nd : (∃ ks, KeyT Try.prog 9 false ks ∧ kindOk false ks [D.str x.ch] ∧ ∀ y ∈ mD sD iD M, kindOk false ks y.1) = True := mneed (kD := sD) (vD := iD) Ty.keyT_9 sD_kind x.ch M
  have gd : lkM [D.str x.ch] (mD sD iD M) = (classN l x.ch).map iD := by
    have := lkM_mD (kD := sD) (vD := iD) sD_eq x.ch M
    rw [show [D.str x.ch] = sD x.ch from rfl, this, hM, class_look lo.nd]
  cases k2 : classN l x.ch with
  | none =>
    rw [if_pos k2] at hR
    rw [k2] at gd
    simp (maxSteps := 4000000) -implicitDefEqProofs only [go_sem, k1, Option.some.injEq, forall_eq', and_true, true_and, Bool.not_true, Bool.not_false, decide_true, Nat.reduceAdd, Nat.reduceSub, Nat.reduceLT, Nat.reduceLeDiff, Nat.reduceEqDiff, ↓reduceIte]
    refine DX.plain (.take 0 false (.take 2 true (.take 3 true (.run [1] (fun _ => [true, true]) fun _ => (.take 4 false (.take 5 false (.take 6 false (.take 7 false (.take 8 false (.take 9 false .done)))))))))) (by kernel_rfl) (by kernel_rfl) Ty.mixed ?_
    simp (maxSteps := 4000000) -implicitDefEqProofs only [go_sem, nd, gd, Option.some.injEq, forall_eq', and_true, true_and, Bool.not_true, Bool.not_false, decide_true, Nat.reduceAdd, Nat.reduceSub, Nat.reduceLT, Nat.reduceLeDiff, Nat.reduceEqDiff, ↓reduceIte]
    refine ⟨_, _, c2.liftN _ (by simp only [go_sem]), ?_⟩
    simp (maxSteps := 4000000) -implicitDefEqProofs only [go_sem, nd, gd, Option.some.injEq, forall_eq', and_true, true_and, Bool.not_true, Bool.not_false, decide_true, Nat.reduceAdd, Nat.reduceSub, Nat.reduceLT, Nat.reduceLeDiff, Nat.reduceEqDiff, ↓reduceIte]
    exact bad _ hR
  | some c =>
  rw [if_neg (by rw [k2]; simp), hi, Int.toNat_natCast] at hR
  rw [k2] at gd
  have hc := classN_range lo.kv k2
  obtain ⟨c, rfl⟩ : ∃ n : Nat, c = n := ⟨c.toNat, by omega⟩
  have gd' : (Option.map iD (some (c : Int))) = some [D.int .i64 (c : Int)] := rfl
  rw [gd'] at gd
  have hs := a.hs
  have hgs : l.ev.getD i [] = s := by rw [List.getD_eq_getElem?_getD, hs]; rfl
  have hil := some_lt hs
  rw [hi] at c3
  rw [hgs] at hR
  have n1 : (0 ≤ (i : Int) ∧ (i : Int) < l.ev.length) = True := eq_true (by omega)
  have n2 : (i < l.ev.length) = True := eq_true (by omega)
  have h40 := lo.own i s hs
  simp (maxSteps := 4000000) -implicitDefEqProofs only [go_sem, k1, Option.some.injEq, forall_eq', and_true, true_and, Bool.not_true, Bool.not_false, decide_true, Nat.reduceAdd, Nat.reduceSub, Nat.reduceLT, Nat.reduceLeDiff, Nat.reduceEqDiff, ↓reduceIte]
  refine DX.plain (.take 0 false (.take 2 true (.take 3 true (.run [1] (fun _ => [true, true]) fun _ => (.take 4 false (.take 5 false (.take 6 false (.take 7 false (.take 8 false (.take 9 false .done)))))))))) (by kernel_rfl) (by kernel_rfl) Ty.mixed ?_
  simp (maxSteps := 4000000) -implicitDefEqProofs only [go_sem, nd, gd, Option.some.injEq, forall_eq', and_true, true_and, Bool.not_true, Bool.not_false, decide_true, Nat.reduceAdd, Nat.reduceSub, Nat.reduceLT, Nat.reduceLeDiff, Nat.reduceEqDiff, ↓reduceIte]
  refine ⟨_, _, c2.liftN _ (by simp only [go_sem]), ?_⟩
  simp (maxSteps := 4000000) -implicitDefEqProofs only [go_sem, nd, gd, Option.some.injEq, forall_eq', and_true, true_and, Bool.not_true, Bool.not_false, decide_true, Nat.reduceAdd, Nat.reduceSub, Nat.reduceLT, Nat.reduceLeDiff, Nat.reduceEqDiff, ↓reduceIte]
  refine .mk [1] [.d (.sl (l.br.map bD)), .fn 61 [.ptr 0 0]] [.cells [.d (.str nm)]] _ _ (by simp only [go_sem]) (by simp only [go_sem]; omega) (by simp) (by simp) (by simp only [go_sem]) (by simp only [go_sem]) c3 ?_
  by_cases k3 : s.length = 40
  · have k3' : ((s.length : Int) == 40) = true := by simp [k3]
    rw [if_pos k3] at hR
    simp (maxSteps := 4000000) -implicitDefEqProofs only [go_sem, n1, n2, hs, k3', Option.some.injEq, forall_eq', and_true, true_and, Bool.not_true, Bool.not_false, decide_true, Nat.reduceAdd, Nat.reduceSub, Nat.reduceLT, Nat.reduceLeDiff, Nat.reduceEqDiff, ↓reduceIte]
    exact bad _ hR
  have k3' : ((s.length : Int) == 40) = false := by simp; omega
  rw [if_neg k3] at hR
  rw [hv] at hR
  simp only at hR
  have alen := a.len
  have h320 := (lo.tab.g.ok.good i y a.hx).2.2
  have fo := folded_own l v lo.kv lo.kl a.inr (by omega) he
  have hkn : Known l (seenL l v) := by rw [a.seen]; exact a.known lo
  rw [foldS_foldE a.inr] at fo
  have ar := allow_ref lo.nd lo.kv hkn (x := x) k2
  have hok := foldE_ok l (seenL l v)
  obtain ⟨S, hS⟩ : ∃ S, S = foldE l (seenL l v) := ⟨_, rfl⟩
  rw [← hS] at fo hok ar
  have ao := allow_own S hok x.kd c (by omega)
  rw [Int.toNat_natCast] at ar
  rw [ar] at ao
  simp only [lA] at fo
  rw [hv] at k1 ⊢
  simp (maxSteps := 4000000) -implicitDefEqProofs only [go_sem, n1, n2, hs, k3', Option.some.injEq, forall_eq', and_true, true_and, Bool.not_true, Bool.not_false, decide_true, Nat.reduceAdd, Nat.reduceSub, Nat.reduceLT, Nat.reduceLeDiff, Nat.reduceEqDiff, ↓reduceIte]
  refine DX.plain (.take 3 true (.take 4 true (.take 5 true (.take 0 false (.take 1 false (.run [2] (fun _ => [true, true, true]) fun _ => (.run [6] (fun _ => [false, false, false]) fun _ => (.take 7 false .done)))))))) (by kernel_rfl) (by kernel_rfl) Ty.mixed ?_
  simp (maxSteps := 4000000) -implicitDefEqProofs only [go_sem, k3', Option.some.injEq, forall_eq', and_true, true_and, Bool.not_true, Bool.not_false, decide_true, Nat.reduceAdd, Nat.reduceSub, Nat.reduceLT, Nat.reduceLeDiff, Nat.reduceEqDiff, ↓reduceIte]
  refine ⟨_, _, fo.liftN _ (by simp only [go_sem]), ?_⟩
  simp (maxSteps := 4000000) -implicitDefEqProofs only [go_sem, Nat.reduceAdd, Nat.reduceSub, Nat.reduceLT, Nat.reduceLeDiff, Nat.reduceEqDiff, ↓reduceIte]
  refine ⟨_, _, ao.at1 5 (by simp only [go_sem]) (by simp only [go_sem]; omega) (by simp) (by simp only [go_sem]) (by simp only [go_sem]), ?_⟩
  simp (maxSteps := 4000000) -implicitDefEqProofs only [go_sem, Nat.reduceAdd, Nat.reduceSub, Nat.reduceLT, Nat.reduceLeDiff, Nat.reduceEqDiff, ↓reduceIte]
  cases k4 : (allR l (seenL l v) x != 0)
  case true =>
    have : allR l (seenL l v) x ≠ 0 := by simpa using k4
    rw [if_pos this] at hR
    simp (maxSteps := 4000000) -implicitDefEqProofs only [go_sem, k4, Option.some.injEq, forall_eq', and_true, true_and, Bool.not_true, Bool.not_false, decide_true, Nat.reduceAdd, Nat.reduceSub, Nat.reduceLT, Nat.reduceLeDiff, Nat.reduceEqDiff, ↓reduceIte]
    exact bad _ hR
  have k4x : allR l (seenL l v) x = 0 := by simpa using k4
  rw [if_neg (by omega)] at hR
  have cl := clone_lownI l i s hs hk hb he fun t ht => by
    obtain ⟨j, hj⟩ := List.getElem?_of_mem ht
    have := lo.own j t hj
    omega
  simp only [lA] at cl
  have vg : ∀ k, (vset (l.ev.map esD) i k).getD i [] = [.own k] := fun k => vset_get (by simpa using hil)
  have ua : upD (s.map eD) ++ [[.d (.int .u8 x.kd), .d (.str x.ch)]] = upD ((s ++ [x]).map eD) := by
    rw [List.map_append, ← upD_app]; rfl
  have sz1 : ∀ k, (∀ e ∈ vset (l.ev.map esD) i k, e.length = 1) = True := fun k => vset_len1 esD_len
  simp (maxSteps := 4000000) -implicitDefEqProofs only [go_sem, k4, Option.some.injEq, forall_eq', and_true, true_and, Bool.not_true, Bool.not_false, decide_true, Nat.reduceAdd, Nat.reduceSub, Nat.reduceLT, Nat.reduceLeDiff, Nat.reduceEqDiff, ↓reduceIte]
  refine ecallN _ _ cl (by simp only [go_sem]) ?_
  simp (maxSteps := 4000000) -implicitDefEqProofs only [go_sem, Nat.reduceAdd, Nat.reduceSub, Nat.reduceLT, Nat.reduceLeDiff, Nat.reduceEqDiff, ↓reduceIte]
  refine DX.plain (.take 0 true (.take 1 true (.take 2 true (.take 3 true (.take 4 true (.take 5 true (.take 6 true (.take 7 true (.take 8 false (.run [9] (fun _ => [true, true, true, true, true, true, true, true]) fun _ => (.run [10] (fun _ => [false, false, false, false, false, true, true, true]) fun _ => (.take 11 false (.run [12] (fun _ => [false, false, false]) fun _ => .done))))))))))))) (by kernel_rfl) (by kernel_rfl) Ty.mixed ?_
  simp (maxSteps := 4000000) -implicitDefEqProofs only [go_sem, n1, n2, vg, Option.some.injEq, forall_eq', and_true, true_and, Bool.not_true, Bool.not_false, decide_true, Nat.reduceAdd, Nat.reduceSub, Nat.reduceLT, Nat.reduceLeDiff, Nat.reduceEqDiff, ↓reduceIte]
  refine ⟨by omega, ⟨fun e he => by simp at he; subst he; rfl, rfl, by omega, by omega⟩, ?_⟩
  rw [ua, hR]
  have es : (l.ev.map esD).set i [.sl ((s ++ [x]).map eD)] = (addE l i x).ev.map esD := by
    rw [show [D.sl ((s ++ [x]).map eD)] = esD (s ++ [x]) from rfl, set_map]
    simp only [addE, hgs]
  refine Wk.vsets (X := l.ev.map esD) (Y := (s ++ [x]).map eD) 6 10 i rfl rfl (by omega) (by simpa using hil) ?_ (by simp only [go_sem])
  rw [es]
  simp only [go_sem, ↓reduceIte]
  rfl
end Go.AX.Lg
/- Ledgers: Twin, Append and Cut of the reference; Cut of the program. -/
set_option maxHeartbeats 8000000
set_option linter.unusedVariables false
set_option linter.unusedSimpArgs false
set_option maxRecDepth 20000
namespace Go.AX.Lg
open Go.Proofs Go.RowKit Go.IntWalk Go.AX.Br
end Go.AX.Lg
/- Ledgers: Append of the reference; Cut, both sides; Twin, Same and Great. -/
set_option maxHeartbeats 8000000
set_option linter.unusedVariables false
set_option linter.unusedSimpArgs false
set_option maxRecDepth 20000
namespace Go.AX.Lg
open Go.Proofs Go.RowKit Go.IntWalk Go.AX.Br
def lcutR (l : Lg) (frm nm : ByteArray) (at' : Int) : Lg × Int :=
  if lcheck l ≠ 0 then (lg0, lcheck l) else if (cutR l.br (cntL l) frm nm at').2 ≠ 0 then (lg0, (cutR l.br (cntL l) frm nm at').2)
  else (⟨l.kn, (cutR l.br (cntL l) frm nm at').1, l.ev ++ [[]]⟩, 0)
end Go.AX.Lg
/- Ledgers: Same and Great. -/
set_option maxHeartbeats 8000000
set_option linter.unusedVariables false
set_option linter.unusedSimpArgs false
set_option maxRecDepth 20000
namespace Go.AX.Lg
open Go.Proofs Go.RowKit Go.IntWalk Go.AX.Br
def bigK (k : Kn) : Bool := decide (100 < k.ch.size)
def bigE (x : Ev) : Bool := decide (100 < x.ch.size)
def bigN (n : Nat) : Bool := (decide (8 < n) && decide (n ≤ 40)) || decide (50 < n)
def bigS (s : List Ev) : Bool := bigN s.length || s.any bigE
def greatL (l : Lg) : Bool := l.kn.any bigK || l.ev.any bigS || (decide (40 < l.kn.length) || great l.br [] || decide (20 < l.ev.length))
theorem same_lref (l : Lg) (hk : Sm l.kn.length) (hb : Sm l.br.length) (he : Sm l.ev.length) (hs : ∀ s ∈ l.ev, Sm s.length) : Spec Try.prog 25 [lA l, lA l] [] (.d (.bool true)) [] := by
  have c1 := Br.same_ref l.br l.br hb
  unfold Sm at hk hb he hs
  have z1 : ∀ n : Int, (n != n) = false := fun n => by simp
  have z2 : decide (l.br = l.br) = true := by simp
  rw [z2] at c1
  refine spec_of_ev (fn := Try.f25) DX_ok 3000 Try.func25 rfl rfl (Nat.le_of_ble_eq_true rfl) ?_
  simp (maxSteps := 4000000) -implicitDefEqProofs only [Try.f25, go_sem, lA]
  simp (maxSteps := 4000000) -implicitDefEqProofs only [go_sem, z1, Option.some.injEq, forall_eq', and_true, true_and, Bool.not_true, Bool.not_false, decide_true, Nat.reduceAdd, Nat.reduceSub, Nat.reduceLT, Nat.reduceLeDiff, Nat.reduceEqDiff, ↓reduceIte]
  refine ecall0 _ c1 (by simp only [go_sem]) (by simp only [go_sem]) ?_
  simp (maxSteps := 4000000) -implicitDefEqProofs only [go_sem, Nat.reduceAdd, Nat.reduceSub, Nat.reduceLT, Nat.reduceLeDiff, Nat.reduceEqDiff, ↓reduceIte]
  refine eloop (S := Nat) (fun i => mkE 97 [(2, .ptr 0 0), (3, .ptr 1 0), (5, .d (.int .i64 i))]) (fun i => [lH l, lH l]) (fun i => i ≤ l.kn.length) (fun i => l.kn.length - i) 0 (by omega) (Wk.via [0, 1] (by (simp only [go_sem, ↓reduceIte]) <;> trivial) (by first | (simp (maxSteps := 4000000) -implicitDefEqProofs only [go_sem, Nat.reduceAdd, Nat.reduceSub, Nat.reduceLT, Nat.reduceLeDiff, Nat.reduceEqDiff, ↓reduceIte]; done) | ((simp (maxSteps := 4000000) -implicitDefEqProofs only [go_sem, Nat.reduceAdd, Nat.reduceSub, Nat.reduceLT, Nat.reduceLeDiff, Nat.reduceEqDiff, ↓reduceIte]) <;> omega)) (by simp) (by first | (simp; done) | (simp [so]; done)) (by (simp (maxSteps := 4000000) -implicitDefEqProofs only [go_sem, Nat.reduceAdd, Nat.reduceSub, Nat.reduceLT, Nat.reduceLeDiff, Nat.reduceEqDiff, ↓reduceIte]) <;> trivial) (by first | (simp only [go_sem]; done) | ((simp (maxSteps := 4000000) -implicitDefEqProofs only [go_sem, Nat.reduceAdd, Nat.reduceSub, Nat.reduceLT, Nat.reduceLeDiff, Nat.reduceEqDiff, ↓reduceIte]) <;> omega)) (Nat.zero_le _) (fun i h => absurd h (Nat.not_lt_zero i))) ?_
  intro i hi
  rcases Nat.lt_or_ge i l.kn.length with h2 | h2
  case inl =>
    have f1 : decide ((i : Int) < l.kn.length) = true := by simp; omega
    obtain ⟨x, hx⟩ : ∃ x, l.kn[i]? = some x := ⟨l.kn[i]'h2, List.getElem?_eq_getElem _⟩
    have n1 : (0 ≤ (i : Int) ∧ (i : Int) < l.kn.length) = True := eq_true (by omega)
    have n2 : (i < l.kn.length) = True := eq_true (by omega)
    have w1 : IntKind.i64.wrap ((i : Int) + 1) = ((i + 1 : Nat) : Int) := by rw [i64_in _ (by omega)]; simp
    have q1 : (x.ch.toList == x.ch.toList) = true := by simp
    have q2 : (x.cl == x.cl) = true := by simp
    simp (maxSteps := 4000000) -implicitDefEqProofs only [go_sem, f1, Option.some.injEq, forall_eq', and_true, true_and, Bool.not_true, Bool.not_false, decide_true, Nat.reduceAdd, Nat.reduceSub, Nat.reduceLT, Nat.reduceLeDiff, Nat.reduceEqDiff, ↓reduceIte]
    refine DX.plain (.take 0 false (.take 1 false (.take 2 false (.take 3 false (.take 4 false (.take 5 false (.take 6 false (.take 7 false (.take 8 false (.take 9 false (.take 10 false .done))))))))))) (by kernel_rfl) (by kernel_rfl) Ty.mixed ?_
    simp (maxSteps := 4000000) -implicitDefEqProofs only [go_sem, n1, n2, hx, q1, q2, w1, Option.some.injEq, forall_eq', and_true, true_and, Bool.not_true, Bool.not_false, decide_true, Nat.reduceAdd, Nat.reduceSub, Nat.reduceLT, Nat.reduceLeDiff, Nat.reduceEqDiff, ↓reduceIte]
    exact .mk (i + 1) (by omega) (by omega) (Wk.via [0, 1] (by (simp only [go_sem, ↓reduceIte]) <;> trivial) (by first | (simp (maxSteps := 4000000) -implicitDefEqProofs only [go_sem, Nat.reduceAdd, Nat.reduceSub, Nat.reduceLT, Nat.reduceLeDiff, Nat.reduceEqDiff, ↓reduceIte]; done) | ((simp (maxSteps := 4000000) -implicitDefEqProofs only [go_sem, Nat.reduceAdd, Nat.reduceSub, Nat.reduceLT, Nat.reduceLeDiff, Nat.reduceEqDiff, ↓reduceIte]) <;> omega)) (by simp) (by first | (simp; done) | (simp [so]; done)) (by (simp (maxSteps := 4000000) -implicitDefEqProofs only [go_sem, Nat.reduceAdd, Nat.reduceSub, Nat.reduceLT, Nat.reduceLeDiff, Nat.reduceEqDiff, ↓reduceIte]) <;> trivial) (by first | (simp only [go_sem]; done) | ((simp (maxSteps := 4000000) -implicitDefEqProofs only [go_sem, Nat.reduceAdd, Nat.reduceSub, Nat.reduceLT, Nat.reduceLeDiff, Nat.reduceEqDiff, ↓reduceIte]) <;> omega)) (Nat.zero_le _) (fun i h => absurd h (Nat.not_lt_zero i)))
  have f1 : decide ((i : Int) < l.kn.length) = false := by simp; omega
  simp (maxSteps := 4000000) -implicitDefEqProofs only [go_sem, f1, Option.some.injEq, forall_eq', and_true, true_and, Bool.not_true, Bool.not_false, decide_true, Nat.reduceAdd, Nat.reduceSub, Nat.reduceLT, Nat.reduceLeDiff, Nat.reduceEqDiff, ↓reduceIte]
  refine eloop (S := Nat) (fun i => mkE 97 [(2, .ptr 0 0), (3, .ptr 1 0), (6, .d (.int .i64 i))]) (fun i => [lH l, lH l]) (fun i => i ≤ l.ev.length) (fun i => l.ev.length - i) 0 (by omega) (Wk.via [0, 1] (by (simp only [go_sem, ↓reduceIte]) <;> trivial) (by first | (simp (maxSteps := 4000000) -implicitDefEqProofs only [go_sem, Nat.reduceAdd, Nat.reduceSub, Nat.reduceLT, Nat.reduceLeDiff, Nat.reduceEqDiff, ↓reduceIte]; done) | ((simp (maxSteps := 4000000) -implicitDefEqProofs only [go_sem, Nat.reduceAdd, Nat.reduceSub, Nat.reduceLT, Nat.reduceLeDiff, Nat.reduceEqDiff, ↓reduceIte]) <;> omega)) (by simp) (by first | (simp; done) | (simp [so]; done)) (by (simp (maxSteps := 4000000) -implicitDefEqProofs only [go_sem, Nat.reduceAdd, Nat.reduceSub, Nat.reduceLT, Nat.reduceLeDiff, Nat.reduceEqDiff, ↓reduceIte]) <;> trivial) (by first | (simp only [go_sem]; done) | ((simp (maxSteps := 4000000) -implicitDefEqProofs only [go_sem, Nat.reduceAdd, Nat.reduceSub, Nat.reduceLT, Nat.reduceLeDiff, Nat.reduceEqDiff, ↓reduceIte]) <;> omega)) (Nat.zero_le _) (fun i h => absurd h (Nat.not_lt_zero i))) ?_
  clear hi h2 f1
  intro i hi
  rcases Nat.lt_or_ge i l.ev.length with h2 | h2
  case inr =>
    have f1 : decide ((i : Int) < l.ev.length) = false := by simp; omega
    simp (maxSteps := 4000000) -implicitDefEqProofs only [go_sem, f1, Option.some.injEq, forall_eq', and_true, true_and, Bool.not_true, Bool.not_false, decide_true, Nat.reduceAdd, Nat.reduceSub, Nat.reduceLT, Nat.reduceLeDiff, Nat.reduceEqDiff, ↓reduceIte]
    exact wk_bool rfl
  have f1 : decide ((i : Int) < l.ev.length) = true := by simp; omega
  obtain ⟨s, hx⟩ : ∃ x, l.ev[i]? = some x := ⟨l.ev[i]'h2, List.getElem?_eq_getElem _⟩
  have hsl := hs s (List.mem_of_getElem? hx)
  have n1 : (0 ≤ (i : Int) ∧ (i : Int) < l.ev.length) = True := eq_true (by omega)
  have n2 : (i < l.ev.length) = True := eq_true (by omega)
  have w1 : IntKind.i64.wrap ((i : Int) + 1) = ((i + 1 : Nat) : Int) := by rw [i64_in _ (by omega)]; simp
  simp (maxSteps := 4000000) -implicitDefEqProofs only [go_sem, f1, Option.some.injEq, forall_eq', and_true, true_and, Bool.not_true, Bool.not_false, decide_true, Nat.reduceAdd, Nat.reduceSub, Nat.reduceLT, Nat.reduceLeDiff, Nat.reduceEqDiff, ↓reduceIte]
  refine DX.plain (.take 0 false (.take 1 false (.take 2 false (.take 3 false (.take 4 false (.take 5 false (.take 6 false (.take 7 false (.take 8 false (.take 9 false (.take 10 false (.take 11 false (.take 12 false .done))))))))))))) (by kernel_rfl) (by kernel_rfl) Ty.mixed ?_
  simp (maxSteps := 4000000) -implicitDefEqProofs only [go_sem, n1, n2, hx, z1, Option.some.injEq, forall_eq', and_true, true_and, Bool.not_true, Bool.not_false, decide_true, Nat.reduceAdd, Nat.reduceSub, Nat.reduceLT, Nat.reduceLeDiff, Nat.reduceEqDiff, ↓reduceIte]
  refine eloop (S := Nat) (fun k => mkE 97 [(2, .ptr 0 0), (3, .ptr 1 0), (6, .d (.int .i64 i)), (7, .d (.int .i64 k))]) (fun k => [lH l, lH l]) (fun k => k ≤ s.length) (fun k => s.length - k) 0 (by omega) (Wk.via [0, 1] (by (simp only [go_sem, ↓reduceIte]) <;> trivial) (by first | (simp (maxSteps := 4000000) -implicitDefEqProofs only [go_sem, Nat.reduceAdd, Nat.reduceSub, Nat.reduceLT, Nat.reduceLeDiff, Nat.reduceEqDiff, ↓reduceIte]; done) | ((simp (maxSteps := 4000000) -implicitDefEqProofs only [go_sem, Nat.reduceAdd, Nat.reduceSub, Nat.reduceLT, Nat.reduceLeDiff, Nat.reduceEqDiff, ↓reduceIte]) <;> omega)) (by simp) (by first | (simp; done) | (simp [so]; done)) (by (simp (maxSteps := 4000000) -implicitDefEqProofs only [go_sem, Nat.reduceAdd, Nat.reduceSub, Nat.reduceLT, Nat.reduceLeDiff, Nat.reduceEqDiff, ↓reduceIte]) <;> trivial) (by first | (simp only [go_sem]; done) | ((simp (maxSteps := 4000000) -implicitDefEqProofs only [go_sem, Nat.reduceAdd, Nat.reduceSub, Nat.reduceLT, Nat.reduceLeDiff, Nat.reduceEqDiff, ↓reduceIte]) <;> omega)) (Nat.zero_le _) (fun i h => absurd h (Nat.not_lt_zero i))) ?_
  intro k hk2
  rcases Nat.lt_or_ge k s.length with h3 | h3
  case inr =>
    have f2 : decide ((k : Int) < s.length) = false := by simp; omega
    simp (maxSteps := 4000000) -implicitDefEqProofs only [go_sem, n1, n2, hx, f2, w1, Option.some.injEq, forall_eq', and_true, true_and, Bool.not_true, Bool.not_false, decide_true, Nat.reduceAdd, Nat.reduceSub, Nat.reduceLT, Nat.reduceLeDiff, Nat.reduceEqDiff, ↓reduceIte]
    exact .mk (i + 1) (by omega) (by omega) (Wk.via [0, 1] (by (simp only [go_sem, ↓reduceIte]) <;> trivial) (by first | (simp (maxSteps := 4000000) -implicitDefEqProofs only [go_sem, Nat.reduceAdd, Nat.reduceSub, Nat.reduceLT, Nat.reduceLeDiff, Nat.reduceEqDiff, ↓reduceIte]; done) | ((simp (maxSteps := 4000000) -implicitDefEqProofs only [go_sem, Nat.reduceAdd, Nat.reduceSub, Nat.reduceLT, Nat.reduceLeDiff, Nat.reduceEqDiff, ↓reduceIte]) <;> omega)) (by simp) (by first | (simp; done) | (simp [so]; done)) (by (simp (maxSteps := 4000000) -implicitDefEqProofs only [go_sem, Nat.reduceAdd, Nat.reduceSub, Nat.reduceLT, Nat.reduceLeDiff, Nat.reduceEqDiff, ↓reduceIte]) <;> trivial) (by first | (simp only [go_sem]; done) | ((simp (maxSteps := 4000000) -implicitDefEqProofs only [go_sem, Nat.reduceAdd, Nat.reduceSub, Nat.reduceLT, Nat.reduceLeDiff, Nat.reduceEqDiff, ↓reduceIte]) <;> omega)) (Nat.zero_le _) (fun i h => absurd h (Nat.not_lt_zero i)))
  have f2 : decide ((k : Int) < s.length) = true := by simp; omega
  obtain ⟨y, hy⟩ : ∃ x, s[k]? = some x := ⟨s[k]'h3, List.getElem?_eq_getElem _⟩
  have n3 : (0 ≤ (k : Int) ∧ (k : Int) < s.length) = True := eq_true (by omega)
  have n4 : (k < s.length) = True := eq_true (by omega)
  have w2 : IntKind.i64.wrap ((k : Int) + 1) = ((k + 1 : Nat) : Int) := by rw [i64_in _ (by omega)]; simp
  have q1 : (y.ch.toList == y.ch.toList) = true := by simp
  have q2 : (y.kd == y.kd) = true := by simp
  simp (maxSteps := 4000000) -implicitDefEqProofs only [go_sem, n1, n2, hx, f2, Option.some.injEq, forall_eq', and_true, true_and, Bool.not_true, Bool.not_false, decide_true, Nat.reduceAdd, Nat.reduceSub, Nat.reduceLT, Nat.reduceLeDiff, Nat.reduceEqDiff, ↓reduceIte]
  refine DX.plain (.take 0 false (.take 1 false (.take 2 false (.take 3 false (.take 4 false (.take 5 false (.take 6 false (.take 7 false (.take 8 false (.take 9 false (.take 10 false (.take 11 false (.take 12 false (.take 13 false (.take 14 false (.take 15 false (.take 16 false .done))))))))))))))))) (by kernel_rfl) (by kernel_rfl) Ty.mixed ?_
  simp (maxSteps := 4000000) -implicitDefEqProofs only [go_sem, n1, n2, hx, n3, n4, hy, q1, q2, w2, Option.some.injEq, forall_eq', and_true, true_and, Bool.not_true, Bool.not_false, decide_true, Nat.reduceAdd, Nat.reduceSub, Nat.reduceLT, Nat.reduceLeDiff, Nat.reduceEqDiff, ↓reduceIte]
  exact .mk (k + 1) (by omega) (by omega) (Wk.via [0, 1] (by (simp only [go_sem, ↓reduceIte]) <;> trivial) (by first | (simp (maxSteps := 4000000) -implicitDefEqProofs only [go_sem, Nat.reduceAdd, Nat.reduceSub, Nat.reduceLT, Nat.reduceLeDiff, Nat.reduceEqDiff, ↓reduceIte]; done) | ((simp (maxSteps := 4000000) -implicitDefEqProofs only [go_sem, Nat.reduceAdd, Nat.reduceSub, Nat.reduceLT, Nat.reduceLeDiff, Nat.reduceEqDiff, ↓reduceIte]) <;> omega)) (by simp) (by first | (simp; done) | (simp [so]; done)) (by (simp (maxSteps := 4000000) -implicitDefEqProofs only [go_sem, Nat.reduceAdd, Nat.reduceSub, Nat.reduceLT, Nat.reduceLeDiff, Nat.reduceEqDiff, ↓reduceIte]) <;> trivial) (by first | (simp only [go_sem]; done) | ((simp (maxSteps := 4000000) -implicitDefEqProofs only [go_sem, Nat.reduceAdd, Nat.reduceSub, Nat.reduceLT, Nat.reduceLeDiff, Nat.reduceEqDiff, ↓reduceIte]) <;> omega)) (Nat.zero_le _) (fun i h => absurd h (Nat.not_lt_zero i)))
end Go.AX.Lg
/- Ledgers: the chapter's example. -/
set_option maxHeartbeats 8000000
set_option linter.unusedVariables false
set_option linter.unusedSimpArgs false
set_option maxRecDepth 20000
namespace Go.AX.Lg
open Go.Proofs Go.RowKit Go.IntWalk Go.AX.Br
def sMain : ByteArray := ⟨#[109, 97, 105, 110]⟩
def sR1 : ByteArray := ⟨#[114, 49]⟩
def sFix : ByteArray := ⟨#[102, 105, 120]⟩
def sFix2 : ByteArray := ⟨#[102, 105, 120, 45, 50]⟩
def sOther : ByteArray := ⟨#[111, 116, 104, 101, 114]⟩
def exG : Lg := ⟨[⟨sFix, 3⟩, ⟨sFix2, 3⟩, ⟨sOther, 0⟩], [⟨sMain, ⟨#[]⟩, 0⟩, ⟨sR1, sMain, 1⟩], [[⟨1, sFix⟩, ⟨1, sOther⟩], [⟨3, sFix⟩]]⟩
end Go.AX.Lg
/- Ledgers: a law's arguments. LedgerGrows: whatever the input, the law returns true, and its arguments read as they did. No condition. -/
set_option maxHeartbeats 8000000
set_option linter.unusedVariables false
set_option linter.unusedSimpArgs false
set_option maxRecDepth 20000
namespace Go.AX.Lg
open Go.Proofs Go.RowKit Go.IntWalk Go.AX.Br
/-- the sizes and numbers of a ledger are those of Go -/
structure LSm (l : Lg) : Prop where
  k : Sm l.kn.length
  b : Sm l.br.length
  e : Sm l.ev.length
  s : ∀ s ∈ l.ev, Sm s.length
  kv : ∀ x ∈ l.kn, (-9223372036854775808 ≤ x.cl ∧ x.cl ≤ 9223372036854775807)
  bv : ∀ x ∈ l.br, (-9223372036854775808 ≤ x.at' ∧ x.at' ≤ 9223372036854775807)
  ev : ∀ s ∈ l.ev, ∀ x ∈ s, (0 ≤ x.kd ∧ x.kd ≤ 255)
/-- a ledger that is not great -/
structure Fit (l : Lg) : Prop where
  k : l.kn.length ≤ 40
  b : l.br.length ≤ 20
  e : l.ev.length ≤ 20
  s : ∀ s ∈ l.ev, s.length ≤ 50 ∧ (s.length ≤ 8 ∨ 40 < s.length)
  kn : ∀ k ∈ l.kn, k.ch.size ≤ 100
  en : ∀ s ∈ l.ev, ∀ x ∈ s, x.ch.size ≤ 100
  bn : ∀ b ∈ l.br, b.name.size ≤ 100 ∧ b.frm.size ≤ 100
theorem fit_of {l : Lg} (h : greatL l = false) : Fit l := by
  simp only [greatL, great, Bool.or_eq_false_iff, decide_eq_false_iff_not, List.any_eq_false] at h
  obtain ⟨⟨h1, h2⟩, ⟨h3, h4, h5, h5'⟩, h6⟩ := h
  refine ⟨by omega, by omega, by omega, fun s hs => ?_, fun k hk => ?_, fun s hs x hx => ?_, fun b hb => ?_⟩
  · have := h2 s hs
    simp only [bigS, bigN, Bool.or_eq_true, Bool.and_eq_true, decide_eq_true_eq, not_or, not_and] at this
    omega
  · have := h1 k hk
    simp only [bigK, decide_eq_true_eq] at this
    omega
  · have := h2 s hs
    simp only [bigS, Bool.or_eq_true, not_or, List.any_eq_true, not_exists, not_and] at this
    have := this.2 x hx
    simp only [bigE, decide_eq_true_eq] at this
    omega
  · have := h4 b hb
    simp only [Bool.or_eq_true, decide_eq_true_eq, not_or] at this
    omega
end Go.AX.Lg
/- LedgerDiffers: whatever the input, the law returns true, and its arguments read as they did. No condition. -/
set_option maxHeartbeats 8000000
set_option linter.unusedVariables false
set_option linter.unusedSimpArgs false
set_option maxRecDepth 20000
namespace Go.AX.Lg
open Go.Proofs Go.RowKit Go.IntWalk Go.AX.Br
def hasI (l : List Int) (n : Int) : Bool := l.any fun x => x == n
/-! ### lists of classes -/
theorem LOk.view {l : Lg} (lo : LOk l) {i : Nat} {x : Br} {s : List Ev} {v : List Mk} (a : At l i x s v) : lview l x.name = (v, 0) := by
  unfold lview
  rw [if_neg (by have := lo.chk; omega)]
  exact vname lo.tab a
end Go.AX.Lg
/- Ledgers: one with an event more, one with a branch more. -/
set_option maxHeartbeats 8000000
set_option linter.unusedVariables false
set_option linter.unusedSimpArgs false
set_option maxRecDepth 20000
namespace Go.AX.Br
open Go.Proofs Go.RowKit Go.IntWalk
def sNew : ByteArray := ⟨#[122, 122, 45, 110, 101, 119]⟩
end Go.AX.Br
namespace Go.AX.Lg
open Go.Proofs Go.RowKit Go.IntWalk Go.AX.Br
theorem LOk.parts {l : Lg} (lo : LOk l) : (clsM l.kn).length = l.kn.length ∧ l.kn.any badK = false ∧ check l.br = 0 ∧ l.ev.any many = false := by
  have h := lo.chk
  unfold lcheck at h
  split at h
  · cases h
  next k1 =>
  split at h
  · cases h
  next k2 =>
  split at h
  · cases h
  next k3 =>
  split at h
  · next q => exact absurd h q
  next k4 =>
  split at h
  · cases h
  next k5 =>
  split at h
  · cases h
  next k6 =>
  exact ⟨by have := (cls_len (l := l)).1; omega, by simpa using k3, by omega, by simpa using k6⟩
end Go.AX.Lg
/- LedgerCuts: whatever the input, the law returns true, and its arguments read as they did. No condition. -/
set_option maxHeartbeats 8000000
set_option linter.unusedVariables false
set_option linter.unusedSimpArgs false
set_option maxRecDepth 20000
namespace Go.AX.Lg
open Go.Proofs Go.RowKit Go.IntWalk Go.AX.Br
end Go.AX.Lg
/- LedgerApart: whatever the input, the law returns true, and its arguments read as they did. No condition. -/
set_option maxHeartbeats 8000000
set_option linter.unusedVariables false
set_option linter.unusedSimpArgs false
set_option maxRecDepth 20000
namespace Go.AX.Lg
open Go.Proofs Go.RowKit Go.IntWalk Go.AX.Br
def ne (c : Int) (x : Int) : Bool := !(x == c)
end Go.AX.Lg
/- Windows: freezes, checks, who is held. -/
set_option maxHeartbeats 8000000
set_option linter.unusedVariables false
set_option linter.unusedSimpArgs false
set_option maxRecDepth 20000
namespace Go.AX.Wn
open Go.Proofs Go.RowKit Go.IntWalk Go.AX.Br
structure Hd where
  br : ByteArray
  fr : Int
  to : Int
  rs : ByteArray
instance : DecidableEq Hd := fun a b => decidable_of_iff (a.br = b.br ∧ a.fr = b.fr ∧ a.to = b.to ∧ a.rs = b.rs) (by cases a; cases b; simp)
def hD (r : Hd) : List D := [.str r.br, .int .i64 r.fr, .int .i64 r.to, .str r.rs]
def hA (r : Hd) : AV := .agg [.d (.str r.br), .d (.int .i64 r.fr), .d (.int .i64 r.to), .d (.str r.rs)]
theorem hD_len {l : List Hd} : (∀ e ∈ l.map hD, e.length = 4) = True := eq_true (map_len (g := hD) fun _ => rfl)
theorem iD_len {l : List Int} : (∀ e ∈ l.map iD, e.length = 1) = True := eq_true (map_len (g := iD) fun _ => rfl)
theorem sD_len {l : List ByteArray} : (∀ e ∈ l.map sD, e.length = 1) = True := eq_true (map_len (g := sD) fun _ => rfl)
attribute [go_sem] hD hA hD_len iD_len sD_len
def wrong (h : Hd) : Bool := decide (h.fr < 0) || decide (h.to ≤ h.fr) || decide (1000000 < h.to) || !isNm h.br || !isNm h.rs
def wcheck (l : List Hd) : Int := if 16 < l.length then 4 else if l.any wrong then 8 else 0
def tick (t : Int) : Bool := decide (0 ≤ t) && decide (t ≤ 1000000)
def badT (t : Int) : Bool := decide (t < 0) || decide (1000000 < t)
def asked (l : List Hd) (ts : List Int) : Int := if wcheck l ≠ 0 then wcheck l else if ts.any badT then 2 else 0
def holds (b : ByteArray) (t : Int) (h : Hd) : Bool := decide (h.br = b) && decide (h.fr ≤ t) && decide (t < h.to)
def held (l : List Hd) (b : ByteArray) (t : Int) : Bool := l.any (holds b t)
def wgreat (l : List Hd) : Bool := l.any (fun r => decide (100 < r.br.size) || decide (100 < r.rs.size)) || decide (30 < l.length)
theorem check_one (s : ByteArray) : (check [⟨s, ⟨#[]⟩, 0⟩] == 0) = isNm s := by
  have ht : twice [⟨s, ⟨#[]⟩, 0⟩] = false := by
    refine anyI_f fun i b hb => decide_eq_false ?_
    have hi := some_lt hb
    simp at hi
    subst hi
    simp at hb
    subst hb
    have := idx_le (l := [(⟨s, ⟨#[]⟩, 0⟩ : Br)]) (i := 0) (x := ⟨s, ⟨#[]⟩, 0⟩) rfl (p := has s) (by simp [has])
    simp only; omega
  have hb : anyI (badAt [⟨s, ⟨#[]⟩, 0⟩]) [⟨s, ⟨#[]⟩, 0⟩] = !isNm s := by
    cases h : isNm s
    · exact anyI_t (i := 0) (x := ⟨s, ⟨#[]⟩, 0⟩) rfl (by simp [badAt, badN, h])
    · refine anyI_f fun i b hb => ?_
      have hi := some_lt hb
      simp at hi
      subst hi
      simp at hb
      subst hb
      simp [badAt, badN, root, h]
  simp only [check, ht, hb]
  cases isNm s <;> simp
theorem isName_own (s : ByteArray) : Spec Try.prog 41 [.d (.str s)] [] (.d (.bool (isNm s))) [] := by
  have hc := check_own [⟨s, ⟨#[]⟩, 0⟩] (by unfold Sm; simp)
  refine spec_of_ev (fn := Try.f41) DX_ok 3000 Try.func41 rfl rfl (Nat.le_of_ble_eq_true rfl) ?_
  simp (maxSteps := 4000000) -implicitDefEqProofs only [Try.f41, go_sem]
  simp (maxSteps := 4000000) -implicitDefEqProofs only [go_sem, Nat.reduceAdd, Nat.reduceSub, Nat.reduceLT, Nat.reduceLeDiff, Nat.reduceEqDiff, ↓reduceIte]
  refine ⟨by omega, ?_⟩
  refine ECall.frz 0 rfl ?_
  simp (maxSteps := 4000000) -implicitDefEqProofs only [go_sem, Nat.reduceAdd, Nat.reduceSub, Nat.reduceLT, Nat.reduceLeDiff, Nat.reduceEqDiff, ↓reduceIte]
  refine ecall0 _ hc (by simp only [go_sem]) (by simp only [go_sem]) ?_
  simp (maxSteps := 4000000) -implicitDefEqProofs only [go_sem, Nat.reduceAdd, Nat.reduceSub, Nat.reduceLT, Nat.reduceLeDiff, Nat.reduceEqDiff, ↓reduceIte]
  exact wk_bool (check_one s)
theorem wrong_own (h : Hd) : Spec Try.prog 40 [hA h] [] (.d (.bool (wrong h))) [] := by
  have a1 := isName_own h.br
  have a2 := isName_own h.rs
  refine spec_of_ev (fn := Try.f40) DX_ok 3000 Try.func40 rfl rfl (Nat.le_of_ble_eq_true rfl) ?_
  simp (maxSteps := 4000000) -implicitDefEqProofs only [Try.f40, go_sem]
  cases h1 : decide (h.fr < 0)
  case true =>
    simp (maxSteps := 4000000) -implicitDefEqProofs only [go_sem, h1, Option.some.injEq, forall_eq', and_true, true_and, Bool.not_true, Bool.not_false, decide_true, Nat.reduceAdd, Nat.reduceSub, Nat.reduceLT, Nat.reduceLeDiff, Nat.reduceEqDiff, ↓reduceIte]
    exact wk_bool (by simp [wrong, h1])
  cases h2 : decide (h.to ≤ h.fr)
  case true =>
    simp (maxSteps := 4000000) -implicitDefEqProofs only [go_sem, h1, h2, Option.some.injEq, forall_eq', and_true, true_and, Bool.not_true, Bool.not_false, decide_true, Nat.reduceAdd, Nat.reduceSub, Nat.reduceLT, Nat.reduceLeDiff, Nat.reduceEqDiff, ↓reduceIte]
    exact wk_bool (by simp [wrong, h2])
  cases h3 : decide (1000000 < h.to)
  case true =>
    simp (maxSteps := 4000000) -implicitDefEqProofs only [go_sem, h1, h2, h3, Option.some.injEq, forall_eq', and_true, true_and, Bool.not_true, Bool.not_false, decide_true, Nat.reduceAdd, Nat.reduceSub, Nat.reduceLT, Nat.reduceLeDiff, Nat.reduceEqDiff, ↓reduceIte]
    exact wk_bool (by simp [wrong, h3])
  simp (maxSteps := 4000000) -implicitDefEqProofs only [go_sem, h1, h2, h3, Option.some.injEq, forall_eq', and_true, true_and, Bool.not_true, Bool.not_false, decide_true, Nat.reduceAdd, Nat.reduceSub, Nat.reduceLT, Nat.reduceLeDiff, Nat.reduceEqDiff, ↓reduceIte]
  refine ecall0 _ a1 (by simp only [go_sem]) (by simp only [go_sem]) ?_
  cases h4 : isNm h.br
  case false =>
    simp (maxSteps := 4000000) -implicitDefEqProofs only [go_sem, h4, Option.some.injEq, forall_eq', and_true, true_and, Bool.not_true, Bool.not_false, decide_true, Nat.reduceAdd, Nat.reduceSub, Nat.reduceLT, Nat.reduceLeDiff, Nat.reduceEqDiff, ↓reduceIte]
    exact wk_bool (by simp [wrong, h4])
  simp (maxSteps := 4000000) -implicitDefEqProofs only [go_sem, h4, Option.some.injEq, forall_eq', and_true, true_and, Bool.not_true, Bool.not_false, decide_true, Nat.reduceAdd, Nat.reduceSub, Nat.reduceLT, Nat.reduceLeDiff, Nat.reduceEqDiff, ↓reduceIte]
  refine ecall0 _ a2 (by simp only [go_sem]) (by simp only [go_sem]) ?_
  simp (maxSteps := 4000000) -implicitDefEqProofs only [go_sem, Nat.reduceAdd, Nat.reduceSub, Nat.reduceLT, Nat.reduceLeDiff, Nat.reduceEqDiff, ↓reduceIte]
  exact wk_bool (by simp [wrong, h1, h2, h3, h4])
theorem hd_indexFunc (l : List Hd) (p : Hd → Bool) (f : FuncId) (caps : List AV) (τ : List AObj) (hl : Sm l.length) (h : ∀ x ∈ l, Spec Try.prog f (hA x :: caps) τ (.d (.bool (p x))) τ) :
    Spec Try.prog 76 [.d (.sl (l.map hD)), .fn f caps] τ (.d (.int .i64 (idx p l))) τ := by
  unfold Sm at hl
  refine spec_of_ev (fn := Try.f76) DX_ok 3000 Try.func76 rfl rfl (Nat.le_of_ble_eq_true rfl) ?_
  simp (maxSteps := 4000000) -implicitDefEqProofs only [Try.f76, go_sem]
  refine eloop (S := Nat) (fun i => mkE 19 [(0, .d (.sl (l.map hD))), (1, .fn f caps), (6, .d (.sl (l.map hD))), (7, .d (.int .i64 l.length)), (8, .d (.int .i64 i))]) (fun i => τ) (fun i => i ≤ l.length ∧ ∀ j x, l[j]? = some x → j < i → p x = false) (fun i => l.length - i) 0 ⟨by omega, by omega⟩ (Wk.sub (by (simp only [go_sem]) <;> trivial)) ?_
  rintro i ⟨hi, hj⟩
  simp (maxSteps := 4000000) -implicitDefEqProofs only [go_sem, Nat.reduceAdd, Nat.reduceSub, Nat.reduceLT, Nat.reduceLeDiff, Nat.reduceEqDiff, ↓reduceIte]
  refine cbs (fun h1 => ?_) (fun h1 => ?_)
  · simp only [go_sem, decide_eq_true_eq] at h1 ⊢
    refine ⟨by omega, fun x hx => .all _ _ (h x (List.mem_of_getElem? hx)) ?_⟩
    simp (maxSteps := 4000000) -implicitDefEqProofs only [go_sem, Nat.reduceAdd, Nat.reduceSub, Nat.reduceLT, Nat.reduceLeDiff, Nat.reduceEqDiff, ↓reduceIte]
    refine cbs (fun h2 => ?_) (fun h2 => ?_)
    · simp (maxSteps := 4000000) -implicitDefEqProofs only [go_sem, Nat.reduceAdd, Nat.reduceSub, Nat.reduceLT, Nat.reduceLeDiff, Nat.reduceEqDiff, ↓reduceIte]
      rw [idx_found hx h2 hj]
      exact Wk.refl _ _ _
    · simp (maxSteps := 4000000) -implicitDefEqProofs only [go_sem, Nat.reduceAdd, Nat.reduceSub, Nat.reduceLT, Nat.reduceLeDiff, Nat.reduceEqDiff, ↓reduceIte]
      rw [i64_in _ (by omega)]
      refine .mk (i + 1) ⟨by omega, fun j y hy hlt => ?_⟩ (by omega) (Wk.sub (by (simp only [go_sem]) <;> trivial))
      rcases Nat.lt_or_ge j i with q | q
      · exact hj j y hy q
      · have : j = i := by omega
        subst this; rw [hx] at hy; cases hy; exact h2
  · simp only [go_sem, decide_eq_false_iff_not] at h1 ⊢
    rw [idx_none fun j y hy => hj j y hy (by have := some_lt hy; omega)]
    exact Wk.refl _ _ _

theorem hd_containsFunc (l : List Hd) (p : Hd → Bool) (f : FuncId) (caps : List AV) (τ : List AObj) (hl : Sm l.length) (h : ∀ x ∈ l, Spec Try.prog f (hA x :: caps) τ (.d (.bool (p x))) τ) :
    Spec Try.prog 42 [.d (.sl (l.map hD)), .fn f caps] τ (.d (.bool (l.any p))) τ := by
  refine spec_of_ev (fn := Try.f42) DX_ok 3000 Try.func42 rfl rfl (Nat.le_of_ble_eq_true rfl) ?_
  simp (maxSteps := 4000000) -implicitDefEqProofs only [Try.f42, go_sem]
  refine .all _ _ (hd_indexFunc l p f caps τ hl h) ?_
  simp (maxSteps := 4000000) -implicitDefEqProofs only [go_sem, Nat.reduceAdd, Nat.reduceSub, Nat.reduceLT, Nat.reduceLeDiff, Nat.reduceEqDiff, ↓reduceIte]
  rw [idx_any]
  exact Wk.refl _ _ _

theorem wcheck_own (l : List Hd) (hl : Sm l.length) : Spec Try.prog 16 [.d (.sl (l.map hD))] [] (.d (.int .i64 (wcheck l))) [] := by
  refine spec_of_ev (fn := Try.f16) DX_ok 3000 Try.func16 rfl rfl (Nat.le_of_ble_eq_true rfl) ?_
  simp (maxSteps := 4000000) -implicitDefEqProofs only [Try.f16, go_sem]
  rcases Nat.lt_or_ge 16 l.length with h0 | h0
  · have d0 : decide (16 < (l.length : Int)) = true := by simp; omega
    simp (maxSteps := 4000000) -implicitDefEqProofs only [go_sem, d0, Option.some.injEq, forall_eq', and_true, true_and, Bool.not_true, Bool.not_false, decide_true, Nat.reduceAdd, Nat.reduceSub, Nat.reduceLT, Nat.reduceLeDiff, Nat.reduceEqDiff, ↓reduceIte]
    exact wk_int (by simp only [wcheck]; rw [if_pos h0])
  have h0' : ¬ 16 < l.length := by omega
  have d0 : decide (16 < (l.length : Int)) = false := by simp; omega
  simp (maxSteps := 4000000) -implicitDefEqProofs only [go_sem, d0, Option.some.injEq, forall_eq', and_true, true_and, Bool.not_true, Bool.not_false, decide_true, Nat.reduceAdd, Nat.reduceSub, Nat.reduceLT, Nat.reduceLeDiff, Nat.reduceEqDiff, ↓reduceIte]
  refine .all _ _ (hd_containsFunc l wrong _ [] [] hl fun x _ => wrong_own x) ?_
  cases h1 : l.any wrong
  · simp (maxSteps := 4000000) -implicitDefEqProofs only [go_sem, h1, Option.some.injEq, forall_eq', and_true, true_and, Bool.not_true, Bool.not_false, decide_true, Nat.reduceAdd, Nat.reduceSub, Nat.reduceLT, Nat.reduceLeDiff, Nat.reduceEqDiff, ↓reduceIte]
    exact wk_int (by simp only [wcheck, h1]; rw [if_neg h0']; rfl)
  · simp (maxSteps := 4000000) -implicitDefEqProofs only [go_sem, h1, Option.some.injEq, forall_eq', and_true, true_and, Bool.not_true, Bool.not_false, decide_true, Nat.reduceAdd, Nat.reduceSub, Nat.reduceLT, Nat.reduceLeDiff, Nat.reduceEqDiff, ↓reduceIte]
    exact wk_int (by simp only [wcheck, h1]; rw [if_neg h0']; rfl)
theorem badT_own (t : Int) : Spec Try.prog 80 [.d (.int .i64 t)] [] (.d (.bool (badT t))) [] := by
  refine spec_of_ev (fn := Try.f80) DX_ok 3000 Try.func80 rfl rfl (Nat.le_of_ble_eq_true rfl) ?_
  simp (maxSteps := 4000000) -implicitDefEqProofs only [Try.f80, go_sem]
  cases h1 : decide (t < 0)
  · simp (maxSteps := 4000000) -implicitDefEqProofs only [go_sem, h1, Option.some.injEq, forall_eq', and_true, true_and, Bool.not_true, Bool.not_false, decide_true, Nat.reduceAdd, Nat.reduceSub, Nat.reduceLT, Nat.reduceLeDiff, Nat.reduceEqDiff, ↓reduceIte]
    exact wk_bool (by simp [badT, h1])
  · simp (maxSteps := 4000000) -implicitDefEqProofs only [go_sem, h1, Option.some.injEq, forall_eq', and_true, true_and, Bool.not_true, Bool.not_false, decide_true, Nat.reduceAdd, Nat.reduceSub, Nat.reduceLT, Nat.reduceLeDiff, Nat.reduceEqDiff, ↓reduceIte]
    exact wk_bool (by simp [badT, h1])
def iA (i : Int) : AV := .d (.int .i64 i)
attribute [go_sem] iA
theorem it_indexFunc (l : List Int) (p : Int → Bool) (f : FuncId) (caps : List AV) (τ : List AObj) (hl : Sm l.length) (h : ∀ x ∈ l, Spec Try.prog f (iA x :: caps) τ (.d (.bool (p x))) τ) :
    Spec Try.prog 88 [.d (.sl (l.map iD)), .fn f caps] τ (.d (.int .i64 (idx p l))) τ := by
  unfold Sm at hl
  refine spec_of_ev (fn := Try.f88) DX_ok 3000 Try.func88 rfl rfl (Nat.le_of_ble_eq_true rfl) ?_
  simp (maxSteps := 4000000) -implicitDefEqProofs only [Try.f88, go_sem]
  refine eloop (S := Nat) (fun i => mkE 19 [(0, .d (.sl (l.map iD))), (1, .fn f caps), (6, .d (.sl (l.map iD))), (7, .d (.int .i64 l.length)), (8, .d (.int .i64 i))]) (fun i => τ) (fun i => i ≤ l.length ∧ ∀ j x, l[j]? = some x → j < i → p x = false) (fun i => l.length - i) 0 ⟨by omega, by omega⟩ (Wk.sub (by (simp only [go_sem]) <;> trivial)) ?_
  rintro i ⟨hi, hj⟩
  simp (maxSteps := 4000000) -implicitDefEqProofs only [go_sem, Nat.reduceAdd, Nat.reduceSub, Nat.reduceLT, Nat.reduceLeDiff, Nat.reduceEqDiff, ↓reduceIte]
  refine cbs (fun h1 => ?_) (fun h1 => ?_)
  · simp only [go_sem, decide_eq_true_eq] at h1 ⊢
    refine ⟨by omega, fun x hx => .all _ _ (h x (List.mem_of_getElem? hx)) ?_⟩
    simp (maxSteps := 4000000) -implicitDefEqProofs only [go_sem, Nat.reduceAdd, Nat.reduceSub, Nat.reduceLT, Nat.reduceLeDiff, Nat.reduceEqDiff, ↓reduceIte]
    refine cbs (fun h2 => ?_) (fun h2 => ?_)
    · simp (maxSteps := 4000000) -implicitDefEqProofs only [go_sem, Nat.reduceAdd, Nat.reduceSub, Nat.reduceLT, Nat.reduceLeDiff, Nat.reduceEqDiff, ↓reduceIte]
      rw [idx_found hx h2 hj]
      exact Wk.refl _ _ _
    · simp (maxSteps := 4000000) -implicitDefEqProofs only [go_sem, Nat.reduceAdd, Nat.reduceSub, Nat.reduceLT, Nat.reduceLeDiff, Nat.reduceEqDiff, ↓reduceIte]
      rw [i64_in _ (by omega)]
      refine .mk (i + 1) ⟨by omega, fun j y hy hlt => ?_⟩ (by omega) (Wk.sub (by (simp only [go_sem]) <;> trivial))
      rcases Nat.lt_or_ge j i with q | q
      · exact hj j y hy q
      · have : j = i := by omega
        subst this; rw [hx] at hy; cases hy; exact h2
  · simp only [go_sem, decide_eq_false_iff_not] at h1 ⊢
    rw [idx_none fun j y hy => hj j y hy (by have := some_lt hy; omega)]
    exact Wk.refl _ _ _

theorem it_containsFunc (l : List Int) (p : Int → Bool) (f : FuncId) (caps : List AV) (τ : List AObj) (hl : Sm l.length) (h : ∀ x ∈ l, Spec Try.prog f (iA x :: caps) τ (.d (.bool (p x))) τ) :
    Spec Try.prog 72 [.d (.sl (l.map iD)), .fn f caps] τ (.d (.bool (l.any p))) τ := by
  refine spec_of_ev (fn := Try.f72) DX_ok 3000 Try.func72 rfl rfl (Nat.le_of_ble_eq_true rfl) ?_
  simp (maxSteps := 4000000) -implicitDefEqProofs only [Try.f72, go_sem]
  refine .all _ _ (it_indexFunc l p f caps τ hl h) ?_
  simp (maxSteps := 4000000) -implicitDefEqProofs only [go_sem, Nat.reduceAdd, Nat.reduceSub, Nat.reduceLT, Nat.reduceLeDiff, Nat.reduceEqDiff, ↓reduceIte]
  rw [idx_any]
  exact Wk.refl _ _ _

theorem asked_own (l : List Hd) (ts : List Int) (hl : Sm l.length) (ht : Sm ts.length) : Spec Try.prog 49 [.d (.sl (l.map hD)), .d (.sl (ts.map iD))] [] (.d (.int .i64 (asked l ts))) [] := by
  have a1 := wcheck_own l hl
  refine spec_of_ev (fn := Try.f49) DX_ok 3000 Try.func49 rfl rfl (Nat.le_of_ble_eq_true rfl) ?_
  simp (maxSteps := 4000000) -implicitDefEqProofs only [Try.f49, go_sem]
  refine ecall0 _ a1 (by simp only [go_sem]) (by simp only [go_sem]) ?_
  by_cases h1 : wcheck l = 0
  case neg =>
    have d1 : (wcheck l != 0) = true := by simp [h1]
    simp (maxSteps := 4000000) -implicitDefEqProofs only [go_sem, d1, Option.some.injEq, forall_eq', and_true, true_and, Bool.not_true, Bool.not_false, decide_true, Nat.reduceAdd, Nat.reduceSub, Nat.reduceLT, Nat.reduceLeDiff, Nat.reduceEqDiff, ↓reduceIte]
    exact wk_int (by simp [asked, h1])
  have d1 : (wcheck l != 0) = false := by simp [h1]
  simp (maxSteps := 4000000) -implicitDefEqProofs only [go_sem, d1, Option.some.injEq, forall_eq', and_true, true_and, Bool.not_true, Bool.not_false, decide_true, Nat.reduceAdd, Nat.reduceSub, Nat.reduceLT, Nat.reduceLeDiff, Nat.reduceEqDiff, ↓reduceIte]
  refine .all _ _ (it_containsFunc ts badT _ [] [] ht fun x _ => badT_own x) ?_
  cases h2 : ts.any badT
  · simp (maxSteps := 4000000) -implicitDefEqProofs only [go_sem, h2, Option.some.injEq, forall_eq', and_true, true_and, Bool.not_true, Bool.not_false, decide_true, Nat.reduceAdd, Nat.reduceSub, Nat.reduceLT, Nat.reduceLeDiff, Nat.reduceEqDiff, ↓reduceIte]
    exact wk_int (by simp only [asked, h2]; rw [if_neg (by simp [h1])]; rfl)
  · simp (maxSteps := 4000000) -implicitDefEqProofs only [go_sem, h2, Option.some.injEq, forall_eq', and_true, true_and, Bool.not_true, Bool.not_false, decide_true, Nat.reduceAdd, Nat.reduceSub, Nat.reduceLT, Nat.reduceLeDiff, Nat.reduceEqDiff, ↓reduceIte]
    exact wk_int (by simp only [asked, h2]; rw [if_neg (by simp [h1])]; rfl)
theorem hdEq (x y : Hd) : (decide (x.br = y.br) && ((x.fr == y.fr) && ((x.to == y.to) && decide (x.rs = y.rs)))) = decide (x = y) := by
  cases x; cases y
  rw [Bool.eq_iff_iff]
  simp
theorem same_ref (a b : List Hd) (ha : Sm a.length) : Spec Try.prog 27 [.d (.sl (a.map hD)), .d (.sl (b.map hD))] [] (.d (.bool (decide (a = b)))) [] := by
  unfold Sm at ha
  refine spec_of_ev (fn := Try.f27) DX_ok 3000 Try.func27 rfl rfl (Nat.le_of_ble_eq_true rfl) ?_
  simp (maxSteps := 4000000) -implicitDefEqProofs only [Try.f27, go_sem]
  by_cases h1 : a.length = b.length
  · have d1 : ((a.length : Int) != b.length) = false := by simp [h1]
    simp (maxSteps := 4000000) -implicitDefEqProofs only [go_sem, d1, Option.some.injEq, forall_eq', and_true, true_and, Bool.not_true, Bool.not_false, decide_true, Nat.reduceAdd, Nat.reduceSub, Nat.reduceLT, Nat.reduceLeDiff, Nat.reduceEqDiff, ↓reduceIte]
    refine eloop (S := Nat) (fun i => mkE 26 [(0, .d (.sl (a.map hD))), (1, .d (.sl (b.map hD))), (5, .d (.int .i64 i))]) (fun i => []) (fun i => i ≤ a.length ∧ ∀ j x, a[j]? = some x → j < i → b[j]? = some x) (fun i => a.length - i) 0 ⟨by omega, by omega⟩ (Wk.sub (by (simp only [go_sem]) <;> trivial)) ?_
    rintro i ⟨hi, hj⟩
    rcases Nat.lt_or_ge i a.length with h2 | h2
    · have d2 : decide ((i : Int) < a.length) = true := by simp; omega
      obtain ⟨x, hx⟩ : ∃ x, a[i]? = some x := ⟨a[i]'(by omega), List.getElem?_eq_getElem _⟩
      obtain ⟨y, hy⟩ : ∃ x, b[i]? = some x := ⟨b[i]'(by omega), List.getElem?_eq_getElem _⟩
      have n1 : (0 ≤ (i : Int) ∧ (i : Int) < a.length) = True := eq_true (by omega)
      have n2 : (0 ≤ (i : Int) ∧ (i : Int) < b.length) = True := eq_true (by omega)
      have n3 : (i < a.length) = True := eq_true (by omega)
      have n4 : (i < b.length) = True := eq_true (by omega)
      have w1 : IntKind.i64.wrap ((i : Int) + 1) = i + 1 := i64_in _ (by omega)
      by_cases h3 : x = y
      · have hxy := (hdEq x y).trans (decide_eq_true h3)
        simp (maxSteps := 4000000) -implicitDefEqProofs only [go_sem, d2, Option.some.injEq, forall_eq', and_true, true_and, Bool.not_true, Bool.not_false, decide_true, Nat.reduceAdd, Nat.reduceSub, Nat.reduceLT, Nat.reduceLeDiff, Nat.reduceEqDiff, ↓reduceIte]
        refine DX.plain (.take 0 false (.take 1 false (.take 2 false (.take 3 false (.take 4 false (.take 5 false (.take 6 false (.take 7 false (.take 8 false .done))))))))) (by kernel_rfl) (by kernel_rfl) Ty.mixed ?_
        simp (maxSteps := 4000000) -implicitDefEqProofs only [go_sem, n1, n2, n3, n4, hx, hy, hxy, w1, Option.some.injEq, forall_eq', and_true, true_and, Bool.not_true, Bool.not_false, decide_true, Nat.reduceAdd, Nat.reduceSub, Nat.reduceLT, Nat.reduceLeDiff, Nat.reduceEqDiff, ↓reduceIte]
        exact .mk (i + 1) ⟨by omega, upto_succ hx (by rw [h3]; exact hy) hj⟩ (by omega) (Wk.sub (by (simp only [go_sem]) <;> trivial))
      · have hxy := (hdEq x y).trans (decide_eq_false h3)
        simp (maxSteps := 4000000) -implicitDefEqProofs only [go_sem, d2, Option.some.injEq, forall_eq', and_true, true_and, Bool.not_true, Bool.not_false, decide_true, Nat.reduceAdd, Nat.reduceSub, Nat.reduceLT, Nat.reduceLeDiff, Nat.reduceEqDiff, ↓reduceIte]
        refine DX.plain (.take 0 false (.take 1 false (.take 2 false (.take 3 false (.take 4 false (.take 5 false (.take 6 false (.take 7 false (.take 8 false .done))))))))) (by kernel_rfl) (by kernel_rfl) Ty.mixed ?_
        simp (maxSteps := 4000000) -implicitDefEqProofs only [go_sem, n1, n2, n3, n4, hx, hy, hxy, Option.some.injEq, forall_eq', and_true, true_and, Bool.not_true, Bool.not_false, decide_true, Nat.reduceAdd, Nat.reduceSub, Nat.reduceLT, Nat.reduceLeDiff, Nat.reduceEqDiff, ↓reduceIte]
        refine wk_bool (decide_eq_false fun e => h3 ?_).symm
        subst e; rw [hx] at hy; exact Option.some.inj hy
    · have d2 : decide ((i : Int) < a.length) = false := by simp; omega
      simp (maxSteps := 4000000) -implicitDefEqProofs only [go_sem, d2, Option.some.injEq, forall_eq', and_true, true_and, Bool.not_true, Bool.not_false, decide_true, Nat.reduceAdd, Nat.reduceSub, Nat.reduceLT, Nat.reduceLeDiff, Nat.reduceEqDiff, ↓reduceIte]
      refine wk_bool (decide_eq_true ?_).symm
      refine List.ext_getElem? fun j => ?_
      rcases Nat.lt_or_ge j a.length with q | q
      · have hx := List.getElem?_eq_getElem q
        rw [hx]; exact (hj j _ hx (by omega)).symm
      · rw [List.getElem?_eq_none q, List.getElem?_eq_none (by omega)]
  · have d1 : ((a.length : Int) != b.length) = true := by simp; omega
    simp (maxSteps := 4000000) -implicitDefEqProofs only [go_sem, d1, Option.some.injEq, forall_eq', and_true, true_and, Bool.not_true, Bool.not_false, decide_true, Nat.reduceAdd, Nat.reduceSub, Nat.reduceLT, Nat.reduceLeDiff, Nat.reduceEqDiff, ↓reduceIte]
    exact wk_bool (decide_eq_false fun e => h1 (by rw [e])).symm

end Go.AX.Wn
/- Windows: the plain law. Sorting, joining, what a list of windows says. -/
set_option maxHeartbeats 8000000
set_option linter.unusedVariables false
set_option linter.unusedSimpArgs false
set_option maxRecDepth 20000
namespace Go.AX.Wn
open Go.Proofs Go.RowKit Go.IntWalk Go.AX.Br
/-! ### sorted by their beginnings, those of one beginning in their order -/
def ins (x : Hd) : List Hd → List Hd
  | [] => [x]
  | y :: ys => if x.fr < y.fr then x :: y :: ys else y :: ins x ys
def isort (l : List Hd) : List Hd := l.foldl (fun P x => ins x P) []
def Srt (P : List Hd) : Prop := P.Pairwise fun a b => a.fr ≤ b.fr
theorem ins_perm (x : Hd) : ∀ P : List Hd, (ins x P).Perm (x :: P)
  | [] => .refl _
  | y :: ys => by
    simp only [ins]
    split
    · exact .refl _
    · exact ((ins_perm x ys).cons y).trans (.swap x y ys)
theorem ins_srt (x : Hd) : ∀ {P : List Hd}, Srt P → Srt (ins x P)
  | [], _ => by simp [ins, Srt]
  | y :: ys, h => by
    obtain ⟨h1, h2⟩ := List.pairwise_cons.1 h
    simp only [ins]
    split
    · next e => exact List.pairwise_cons.2 ⟨fun z hz => by
        rcases List.mem_cons.1 hz with rfl | hz
        · omega
        · have := h1 z hz; omega, h⟩
    · next e => exact List.pairwise_cons.2 ⟨fun z hz => by
        rcases List.mem_cons.1 ((ins_perm x ys).mem_iff.1 hz) with rfl | hz
        · omega
        · exact h1 z hz, ins_srt x h2⟩
theorem ins_split {x : Hd} {B : List Hd} (hb : ∀ y, B.head? = some y → x.fr < y.fr) : ∀ {A : List Hd}, (∀ y ∈ A, y.fr ≤ x.fr) → ins x (A ++ B) = A ++ x :: B
  | [], _ => by
    cases B with
    | nil => rfl
    | cons y ys => simp only [List.nil_append, ins]; rw [if_pos (hb y rfl)]
  | y :: ys, h => by
    simp only [List.cons_append, ins]
    rw [if_neg (by have := h y (by simp); omega), ins_split hb fun z hz => h z (by simp [hz])]
theorem ins_find {x : Hd} {v : Int} : ∀ {P : List Hd}, Srt P → (ins x P).find? (fun h => decide (h.fr = v)) = (P ++ [x]).find? (fun h => decide (h.fr = v))
  | [], _ => rfl
  | y :: ys, h => by
    obtain ⟨h1, h2⟩ := List.pairwise_cons.1 h
    simp only [ins]
    split
    · next e =>
      by_cases hx : x.fr = v
      · have no : (y :: ys).find? (fun h => decide (h.fr = v)) = none := by
          rw [List.find?_eq_none]
          intro z hz
          rcases List.mem_cons.1 hz with rfl | hz
          · simp; omega
          · have := h1 z hz; simp; omega
        rw [List.find?_append, no]
        simp [hx]
      · rw [List.find?_append]
        simp only [List.find?_cons, List.find?_nil, decide_eq_false hx]
        cases (if decide (y.fr = v) = true then some y else ys.find? fun h => decide (h.fr = v)) <;> simp_all
    · simp only [List.cons_append, List.find?_cons]
      rw [ins_find h2]
theorem fold_srt : ∀ (l P : List Hd), Srt P → Srt (l.foldl (fun P x => ins x P) P) ∧ (l.foldl (fun P x => ins x P) P).Perm (P ++ l) ∧ ∀ v, (l.foldl (fun P x => ins x P) P).find? (fun h => decide (h.fr = v)) = (P ++ l).find? (fun h => decide (h.fr = v))
  | [], P, h => by simp [h]
  | x :: l, P, h => by
    obtain ⟨g1, g2, g3⟩ := fold_srt l (ins x P) (ins_srt x h)
    refine ⟨g1, g2.trans ?_, fun v => ?_⟩
    · exact ((ins_perm x P).append_right l).trans (List.perm_middle.symm)
    · rw [List.foldl_cons, g3 v, List.find?_append, ins_find h, ← List.find?_append]; simp
theorem isort_srt (l : List Hd) : Srt (isort l) := (fold_srt l [] .nil).1
theorem isort_mem {l : List Hd} {x : Hd} : x ∈ isort l ↔ x ∈ l := by unfold isort; simpa using (fold_srt l [] .nil).2.1.mem_iff
theorem isort_len (l : List Hd) : (isort l).length = l.length := by unfold isort; simpa using (fold_srt l [] .nil).2.1.length_eq
theorem isort_find (l : List Hd) (v : Int) : (isort l).find? (fun h => decide (h.fr = v)) = l.find? (fun h => decide (h.fr = v)) := by unfold isort; simpa using (fold_srt l [] .nil).2.2 v
theorem isort_snoc (l : List Hd) (x : Hd) : isort (l ++ [x]) = ins x (isort l) := by simp [isort]
/-! ### joined -/
def joinTo (w h : Hd) : Hd := ⟨w.br, w.fr, max w.to h.to, w.rs⟩
def mstep (out : List Hd) (h : Hd) : List Hd := match out.getLast? with
  | some w => if h.fr ≤ w.to then out.dropLast ++ [joinTo w h] else out ++ [h]
  | none => [h]
def winL (l : List Hd) (b : ByteArray) : List Hd := (isort (l.filter fun h => decide (h.br = b))).foldl mstep []
def cov (P : List Hd) (t : Int) : Prop := ∃ h ∈ P, h.fr ≤ t ∧ t < h.to
/-- in order, neither touching nor overlapping -/
def Can (W : List Hd) : Prop := W.Pairwise (fun a b => a.to < b.fr) ∧ ∀ w ∈ W, w.fr < w.to
structure Jn (P out : List Hd) : Prop where
  can : Can out
  same : ∀ t, cov P t ↔ cov out t
  first : ∀ w ∈ out, ∃ h ∈ P, P.find? (fun h => decide (h.fr = w.fr)) = some h ∧ w.br = h.br ∧ w.rs = h.rs
  last : ∀ w ∈ out, ∃ h ∈ P, h.to = w.to
theorem find_app {P Q : List Hd} {p : Hd → Bool} {h : Hd} (e : P.find? p = some h) : (P ++ Q).find? p = some h := by rw [List.find?_append, e]; rfl
theorem last_split {out : List Hd} {w : Hd} (h : out.getLast? = some w) : out = out.dropLast ++ [w] := by
  have hne : out ≠ [] := fun e => by simp [e] at h
  have := List.dropLast_concat_getLast hne
  rw [List.getLast?_eq_some_getLast hne] at h
  cases h
  exact this.symm
theorem jn_step {P out : List Hd} {h : Hd} (J : Jn P out) (hh : h.fr < h.to) (hs : ∀ p ∈ P, p.fr ≤ h.fr) (hp : ∀ p ∈ P, p.fr < p.to) : Jn (P ++ [h]) (mstep out h) := by
  have hcov : ∀ t, cov (P ++ [h]) t ↔ (cov P t ∨ (h.fr ≤ t ∧ t < h.to)) := fun t => by
    simp only [cov, List.mem_append, List.mem_singleton]
    constructor
    · rintro ⟨x, hx | rfl, h1⟩
      · exact .inl ⟨x, hx, h1⟩
      · exact .inr h1
    · rintro (⟨x, hx, h1⟩ | h1)
      · exact ⟨x, .inl hx, h1⟩
      · exact ⟨h, .inr rfl, h1⟩
  unfold mstep
  cases hl : out.getLast? with
  | none =>
    have ho : out = [] := by simpa using hl
    subst ho
    have hP : P = [] := by
      cases P with
      | nil => rfl
      | cons p P =>
        obtain ⟨w, hw, _⟩ := (J.same p.fr).1 ⟨p, by simp, Int.le_refl _, hp p (by simp)⟩
        simp at hw
    subst hP
    refine ⟨⟨by simp, by simp [hh]⟩, fun t => by simp, ?_, ?_⟩
    · intro w hw; simp at hw; subst hw; exact ⟨w, by simp, by simp, rfl, rfl⟩
    · intro w hw; simp at hw; subst hw; exact ⟨w, by simp, rfl⟩
  | some w =>
    have hsp := last_split hl
    obtain ⟨A, hA⟩ : ∃ A, A = out.dropLast := ⟨_, rfl⟩
    rw [← hA] at hsp ⊢
    have hwm : w ∈ out := by rw [hsp]; simp
    have c1 := J.can.1
    have c2 := J.can.2
    rw [hsp] at c1
    obtain ⟨cA, _, cAw⟩ := List.pairwise_append.1 c1
    have hAw : ∀ a ∈ A, a.to < w.fr := fun a ha => cAw a ha w (by simp)
    have hAm : ∀ a ∈ A, a ∈ out := fun a ha => by rw [hsp]; simp [ha]
    have hw := c2 w hwm
    obtain ⟨hf, hfm, hff, hfb, hfr⟩ := J.first w hwm
    have hwf : w.fr ≤ h.fr := by
      have e : hf.fr = w.fr := by simpa using List.find?_some hff
      have := hs hf hfm; omega
    simp only
    split
    · next hle =>
      have hcov2 : ∀ t, cov (A ++ [joinTo w h]) t ↔ (cov out t ∨ (h.fr ≤ t ∧ t < h.to)) := fun t => by
        rw [hsp]
        simp only [cov, List.mem_append, List.mem_singleton]
        constructor
        · rintro ⟨x, hx | rfl, h1, h2⟩
          · exact .inl ⟨x, .inl hx, h1, h2⟩
          · simp only [joinTo] at h1 h2
            rcases Int.lt_or_le t w.to with q | q
            · exact .inl ⟨w, .inr rfl, h1, q⟩
            · exact .inr ⟨by omega, by omega⟩
        · rintro (⟨x, hx | rfl, h1, h2⟩ | ⟨h1, h2⟩)
          · exact ⟨x, .inl hx, h1, h2⟩
          · exact ⟨_, .inr rfl, h1, by simp only [joinTo]; omega⟩
          · exact ⟨_, .inr rfl, by simp only [joinTo]; omega, by simp only [joinTo]; omega⟩
      refine ⟨⟨List.pairwise_append.2 ⟨cA, by simp, fun a ha x hx => ?_⟩, fun x hx => ?_⟩, fun t => ?_, fun x hx => ?_, fun x hx => ?_⟩
      · simp at hx; subst hx; exact hAw a ha
      · rcases List.mem_append.1 hx with hx | hx
        · exact c2 x (hAm x hx)
        · simp at hx; subst hx; simp only [joinTo]; omega
      · rw [hcov, hcov2, J.same]
      · rcases List.mem_append.1 hx with hx | hx
        · obtain ⟨y, y1, y2, y3, y4⟩ := J.first x (hAm x hx)
          exact ⟨y, by simp [y1], find_app y2, y3, y4⟩
        · simp at hx; subst hx
          exact ⟨hf, by simp [hfm], find_app hff, hfb, hfr⟩
      · rcases List.mem_append.1 hx with hx | hx
        · obtain ⟨y, y1, y2⟩ := J.last x (hAm x hx)
          exact ⟨y, by simp [y1], y2⟩
        · simp at hx; subst hx
          rcases Int.le_total w.to h.to with q | q
          · exact ⟨h, by simp, by simp only [joinTo]; omega⟩
          · obtain ⟨y, y1, y2⟩ := J.last w hwm
            exact ⟨y, by simp [y1], by simp only [joinTo]; omega⟩
    · next hlt =>
      have hAll : ∀ a ∈ out, a.to < h.fr := fun a ha => by
        rw [hsp] at ha
        rcases List.mem_append.1 ha with ha | ha
        · have := hAw a ha; omega
        · simp at ha; subst ha; omega
      refine ⟨⟨List.pairwise_append.2 ⟨J.can.1, by simp, fun a ha x hx => ?_⟩, fun x hx => ?_⟩, fun t => ?_, fun x hx => ?_, fun x hx => ?_⟩
      · simp at hx; subst hx; exact hAll a ha
      · rcases List.mem_append.1 hx with hx | hx
        · exact c2 x hx
        · simp at hx; subst hx; exact hh
      · rw [hcov, J.same]
        simp only [cov, List.mem_append, List.mem_singleton]
        constructor
        · rintro (⟨x, hx, h1⟩ | h1)
          · exact ⟨x, .inl hx, h1⟩
          · exact ⟨h, .inr rfl, h1⟩
        · rintro ⟨x, hx | rfl, h1⟩
          · exact .inl ⟨x, hx, h1⟩
          · exact .inr h1
      · rcases List.mem_append.1 hx with hx | hx
        · obtain ⟨y, y1, y2, y3, y4⟩ := J.first x hx
          exact ⟨y, by simp [y1], find_app y2, y3, y4⟩
        · simp at hx; subst hx
          have no : P.find? (fun h => decide (h.fr = x.fr)) = none := by
            rw [List.find?_eq_none]
            intro p hpm
            simp only [decide_eq_true_eq]
            intro e
            obtain ⟨v, v1, v2, v3⟩ := (J.same p.fr).1 ⟨p, hpm, Int.le_refl _, hp p hpm⟩
            have := hAll v v1
            omega
          exact ⟨x, by simp, by rw [List.find?_append, no]; simp, rfl, rfl⟩
      · rcases List.mem_append.1 hx with hx | hx
        · obtain ⟨y, y1, y2⟩ := J.last x hx
          exact ⟨y, by simp [y1], y2⟩
        · simp at hx; subst hx
          exact ⟨x, by simp, rfl⟩
theorem jn_all : ∀ (Q P out : List Hd), Jn P out → Srt (P ++ Q) → (∀ p ∈ P ++ Q, p.fr < p.to) → Jn (P ++ Q) (Q.foldl mstep out)
  | [], P, out, J, _, _ => by simpa using J
  | h :: Q, P, out, J, hs, hp => by
    have e : P ++ h :: Q = (P ++ [h]) ++ Q := by simp
    rw [e] at hs hp ⊢
    refine jn_all Q (P ++ [h]) _ (jn_step J (hp h (by simp)) (fun p hpm => ?_) fun p hpm => hp p (by simp [hpm])) hs hp
    have := (List.pairwise_append.1 (List.pairwise_append.1 hs).1).2.2 p hpm h (by simp)
    exact this
theorem jn_win (l : List Hd) (b : ByteArray) (hv : ∀ h ∈ l, h.fr < h.to) : Jn (isort (l.filter fun h => decide (h.br = b))) (winL l b) := by
  refine jn_all _ [] [] ⟨⟨.nil, by simp⟩, fun t => Iff.rfl, by simp, by simp⟩ (isort_srt _) fun p hp => ?_
  have := isort_mem.1 hp
  exact hv p (List.mem_filter.1 this).1
end Go.AX.Wn
/- Windows: the plain law. Looking ticks up, slack, fit. -/
set_option maxHeartbeats 8000000
set_option linter.unusedVariables false
set_option linter.unusedSimpArgs false
set_option maxRecDepth 20000
namespace Go.AX.Wn
open Go.Proofs Go.RowKit Go.IntWalk Go.AX.Br
def look (W : List Hd) (t : Int) : Option Hd := W.find? fun w => decide (t < w.to)
def endH : Hd := ⟨ByteArray.empty, 1000001, 1000001, ByteArray.empty⟩
def inR (W : List Hd) (t : Int) : Hd × Bool := match look W t with
  | some w => (w, decide (w.fr ≤ t))
  | none => (endH, false)
def nextW (W : List Hd) (t : Int) : Int := match look W t with
  | some w => if w.fr ≤ t then w.to else t
  | none => t
def stopW (W : List Hd) (t : Int) : Int := match look W t with
  | some w => max t w.fr
  | none => 1000001
theorem look_none {W : List Hd} {t : Int} (h : look W t = none) : ∀ a ∈ W, a.to ≤ t := fun a ha => by
  have := List.find?_eq_none.1 h a ha
  simp only [decide_eq_true_eq] at this; omega
theorem look_some {W : List Hd} {t : Int} {w : Hd} (C : Can W) (h : look W t = some w) :
    ∃ A B, W = A ++ w :: B ∧ (∀ a ∈ A, a.to ≤ t) ∧ t < w.to ∧ w.fr < w.to ∧ (∀ a ∈ A, a.to < w.fr) ∧ (∀ b ∈ B, w.to < b.fr ∧ b.fr < b.to) ∧ w ∈ W := by
  obtain ⟨h1, A, B, h2, h3⟩ := List.find?_eq_some_iff_append.1 h
  obtain ⟨c1, c2⟩ := C
  have hm : w ∈ W := by rw [h2]; simp
  have c1' := c1
  rw [h2] at c1'
  obtain ⟨_, p2, p3⟩ := List.pairwise_append.1 c1'
  refine ⟨A, B, h2, fun a ha => ?_, by simpa using h1, c2 w hm, fun a ha => p3 a ha w (by simp), fun b hb => ⟨(List.pairwise_cons.1 p2).1 b hb, c2 b (by rw [h2]; simp [hb])⟩, hm⟩
  have := h3 a ha
  simp only [Bool.not_eq_true', decide_eq_false_iff_not] at this; omega
theorem look_cov {W : List Hd} {t : Int} {w : Hd} (C : Can W) (h : look W t = some w) : cov W t ↔ w.fr ≤ t := by
  obtain ⟨A, B, e, a1, a2, a3, a4, a5, a6⟩ := look_some C h
  constructor
  · rintro ⟨x, hx, h1, h2⟩
    rw [e] at hx
    rcases List.mem_append.1 hx with hx | hx
    · have := a1 x hx; omega
    rcases List.mem_cons.1 hx with rfl | hx
    · exact h1
    · have := a5 x hx; omega
  · intro hw; exact ⟨w, a6, hw, a2⟩
theorem none_cov {W : List Hd} {t : Int} (h : look W t = none) : ¬ cov W t := by
  rintro ⟨x, hx, h1, h2⟩
  have := look_none h x hx; omega
theorem in_cov {W : List Hd} {t : Int} (C : Can W) : (inR W t).2 = true ↔ cov W t := by
  unfold inR
  cases h : look W t with
  | none => simp [none_cov h]
  | some w => simp [look_cov C h]
theorem find_congr {p q : Hd → Bool} : ∀ {l : List Hd}, (∀ x ∈ l, p x = q x) → l.find? p = l.find? q
  | [], _ => rfl
  | x :: l, h => by rw [List.find?_cons, List.find?_cons, h x (by simp), find_congr fun y hy => h y (by simp [hy])]
/-- a valid list's windows -/
structure Okw (l : List Hd) (b : ByteArray) : Prop where
  len : l.length ≤ 16
  val : ∀ h ∈ l, 0 ≤ h.fr ∧ h.fr < h.to ∧ h.to ≤ 1000000
theorem okw {l : List Hd} (b : ByteArray) (h : wcheck l = 0) : Okw l b := by
  simp only [wcheck] at h
  split at h
  · omega
  split at h
  · omega
  · next h1 h2 =>
    refine ⟨by omega, fun x hx => ?_⟩
    have h2 : l.any wrong = false := by simpa using h2
    have := List.any_eq_false.1 h2 x hx
    simp only [wrong, Bool.or_eq_true, decide_eq_true_eq, not_or] at this
    omega
section
variable {l : List Hd} {b : ByteArray} (O : Okw l b)
include O
theorem Okw.jn : Jn (isort (l.filter fun h => decide (h.br = b))) (winL l b) := jn_win l b fun h hh => (O.val h hh).2.1
theorem Okw.can : Can (winL l b) := O.jn.can
theorem Okw.mem {h : Hd} : h ∈ isort (l.filter fun h => decide (h.br = b)) ↔ h ∈ l ∧ h.br = b := by
  have _ := O.len
  rw [isort_mem, List.mem_filter]; simp
theorem Okw.heldC (t : Int) : Wn.held l b t = true ↔ cov (winL l b) t := by
  rw [← O.jn.same t]
  simp only [Wn.held, List.any_eq_true, cov]
  constructor
  · rintro ⟨h, hh, e⟩
    simp only [holds, Bool.and_eq_true, decide_eq_true_eq] at e
    exact ⟨h, O.mem.2 ⟨hh, e.1.1⟩, e.1.2, e.2⟩
  · rintro ⟨h, hh, e⟩
    obtain ⟨h1, h2⟩ := O.mem.1 hh
    exact ⟨h, h1, by simp [holds, h2, e.1, e.2]⟩
theorem Okw.nheld (t : Int) : Wn.held l b t = false ↔ ¬ cov (winL l b) t := by
  rw [← O.heldC t]; simp
theorem Okw.first {w : Hd} (hw : w ∈ winL l b) : ∃ h ∈ l, h.br = b ∧ h.fr = w.fr ∧ w.br = b ∧ (l.find? fun h => holds b w.fr h) = some h ∧ h.rs = w.rs := by
  obtain ⟨h, h1, h2, h3, h4⟩ := O.jn.first w hw
  obtain ⟨m1, m2⟩ := O.mem.1 h1
  have e : h.fr = w.fr := by simpa using List.find?_some h2
  refine ⟨h, m1, m2, e, by rw [h3, m2], ?_, h4.symm⟩
  rw [isort_find, List.find?_filter] at h2
  rw [← h2]
  refine find_congr fun x hx => ?_
  obtain ⟨v1, v2, v3⟩ := O.val x hx
  rw [Bool.eq_iff_iff]
  simp only [holds, Bool.and_eq_true, decide_eq_true_eq]
  constructor
  · rintro ⟨⟨x1, x2⟩, x3⟩
    refine ⟨x1, ?_⟩
    rcases Int.lt_or_le x.fr w.fr with q | q
    · exfalso
      have hc : cov (winL l b) (w.fr - 1) := (O.jn.same _).1 ⟨x, O.mem.2 ⟨hx, x1⟩, by omega, by omega⟩
      obtain ⟨y, y1, y2, y3⟩ := hc
      have C := O.can
      have hwv := C.2 w hw
      -- y is not w, not before it, not behind it
      obtain ⟨A, B, hs⟩ := List.append_of_mem hw
      have c1 := C.1
      rw [hs] at c1 y1
      obtain ⟨_, p2, p3⟩ := List.pairwise_append.1 c1
      rcases List.mem_append.1 y1 with y1 | y1
      · have := p3 y y1 w (by simp); omega
      rcases List.mem_cons.1 y1 with rfl | y1
      · omega
      · have := (List.pairwise_cons.1 p2).1 y y1; omega
    · omega
  · rintro ⟨x1, x2⟩
    exact ⟨⟨x1, by omega⟩, by omega⟩
theorem Okw.last {w : Hd} (hw : w ∈ winL l b) : ∃ h ∈ l, h.br = b ∧ h.to = w.to := by
  obtain ⟨h, h1, h2⟩ := O.jn.last w hw
  obtain ⟨m1, m2⟩ := O.mem.1 h1
  exact ⟨h, m1, m2, h2⟩
theorem Okw.bounds {w : Hd} (hw : w ∈ winL l b) : 0 ≤ w.fr ∧ w.fr < w.to ∧ w.to ≤ 1000000 := by
  obtain ⟨h, h1, _, h3, _⟩ := O.first hw
  obtain ⟨k, k1, _, k3⟩ := O.last hw
  have := O.val h h1; have := O.val k k1; have := O.can.2 w hw
  omega
end
theorem mstep_len (out : List Hd) (h : Hd) : (mstep out h).length ≤ out.length + 1 := by
  unfold mstep
  split
  · split
    · simp
    · simp
  · simp
theorem fold_len : ∀ (Q out : List Hd), (Q.foldl mstep out).length ≤ out.length + Q.length
  | [], out => by simp
  | h :: Q, out => by
    have := fold_len Q (mstep out h)
    have := mstep_len out h
    simp only [List.foldl_cons, List.length_cons]; omega
theorem winL_len (l : List Hd) (b : ByteArray) : (winL l b).length ≤ l.length := by
  have h1 := fold_len (isort (l.filter fun h => decide (h.br = b))) []
  rw [isort_len] at h1
  have := List.length_filter_le (fun h : Hd => decide (h.br = b)) l
  unfold winL
  simp only [List.length_nil] at h1; omega
/-! ### slack -/
def sumOv : List Hd → Int → Int → Int
  | [], _, _ => 0
  | w :: W, f, t => max 0 (min t w.to - max f w.fr) + sumOv W f t
def slR (W : List Hd) (f t : Int) : Int := t - f - sumOv W f t
/-! ### fit -/
def fitA : List Hd → Int → Int → Int × Int
  | [], t, n => if n ≤ 1000001 - t then (t, 0) else (0, 6)
  | w :: B, t, n => if w.fr ≤ t then fitA B w.to n else if n ≤ w.fr - t then (t, 0) else fitA B w.to n
/-- those that end behind a tick -/
def late (W : List Hd) (t : Int) : List Hd := W.dropWhile fun w => decide (w.to ≤ t)
theorem late_some {W : List Hd} {t : Int} {w : Hd} (C : Can W) (h : look W t = some w) : ∃ B, late W t = w :: B ∧ late W w.to = B ∧ ∀ t', t' < w.to → t ≤ t' → late W t' = w :: B := by
  obtain ⟨A, B, e, a1, a2, a3, a4, a5, _⟩ := look_some C h
  have drop : ∀ t', (∀ a ∈ A, a.to ≤ t') → late W t' = late (w :: B) t' := fun t' ha => by
    unfold late
    rw [e, List.dropWhile_append_of_pos]
    intro a h; simpa using ha a h
  have stay : ∀ t', t' < w.to → late (w :: B) t' = w :: B := fun t' h => by
    unfold late
    rw [List.dropWhile_cons, if_neg (by simp; omega)]
  refine ⟨B, (drop t a1).trans (stay t a2), ?_, fun t' h1 h2 => (drop t' fun a ha => by have := a1 a ha; omega).trans (stay t' h1)⟩
  rw [drop w.to fun a ha => by have := a4 a ha; omega]
  unfold late
  rw [List.dropWhile_cons, if_pos (by simp)]
  cases B with
  | nil => rfl
  | cons x B =>
    rw [List.dropWhile_cons, if_neg]
    have := a5 x (by simp)
    simp; omega
theorem late_none {W : List Hd} {t : Int} (h : look W t = none) : late W t = [] := by
  have := look_none h
  unfold late
  clear h
  induction W with
  | nil => rfl
  | cons x W ih =>
    rw [List.dropWhile_cons, if_pos (by simpa using this x (by simp))]
    exact ih fun a ha => this a (by simp [ha])
def fitR (W : List Hd) (t n : Int) : Int × Int := fitA (late W t) t n
theorem fit_held {W : List Hd} {t n : Int} {w : Hd} (C : Can W) (h : look W t = some w) (h1 : w.fr ≤ t) : fitR W t n = fitR W w.to n := by
  obtain ⟨B, b1, b2, _⟩ := late_some C h
  unfold fitR
  rw [b1, b2, fitA, if_pos h1]
theorem fit_yes {W : List Hd} {t n : Int} {w : Hd} (C : Can W) (h : look W t = some w) (h1 : t < w.fr) (h2 : n ≤ w.fr - t) : fitR W t n = (t, 0) := by
  obtain ⟨B, b1, b2, _⟩ := late_some C h
  unfold fitR
  rw [b1, fitA, if_neg (by omega), if_pos h2]
theorem fit_no {W : List Hd} {t n : Int} {w : Hd} (C : Can W) (h : look W t = some w) (h1 : t < w.fr) (h2 : w.fr - t < n) : fitR W t n = fitR W w.to n := by
  obtain ⟨B, b1, b2, _⟩ := late_some C h
  unfold fitR
  rw [b1, b2, fitA, if_neg (by omega), if_neg (by omega)]
theorem fit_end {W : List Hd} {t n : Int} (h : look W t = none) : fitR W t n = if n ≤ 1000001 - t then (t, 0) else (0, 6) := by
  unfold fitR
  rw [late_none h, fitA]
theorem late_lt {W : List Hd} {t : Int} {w : Hd} (C : Can W) (h : look W t = some w) : (late W w.to).length < (late W t).length := by
  obtain ⟨B, b1, b2, _⟩ := late_some C h
  rw [b1, b2]; simp
end Go.AX.Wn
/- Windows: the program's sorting and joining. -/
set_option maxHeartbeats 8000000
set_option linter.unusedVariables false
set_option linter.unusedSimpArgs false
set_option maxRecDepth 20000
namespace Go.AX.Wn
open Go.Proofs Go.RowKit Go.IntWalk Go.AX.Br
theorem cmp_own (a b : Hd) (ha : 0 ≤ a.fr ∧ a.fr ≤ 1000000) (hb : 0 ≤ b.fr ∧ b.fr ≤ 1000000) : Spec Try.prog 84 [hA a, hA b] [] (.d (.int .i64 (a.fr - b.fr))) [] := by
  have w1 : IntKind.i64.wrap (a.fr - b.fr) = a.fr - b.fr := i64_in _ (by omega)
  refine spec_of_ev (fn := Try.f84) DX_ok 3000 Try.func84 rfl rfl (Nat.le_of_ble_eq_true rfl) ?_
  simp (maxSteps := 4000000) -implicitDefEqProofs only [Try.f84, go_sem]
  simp (maxSteps := 4000000) -implicitDefEqProofs only [go_sem, w1, Option.some.injEq, forall_eq', and_true, true_and, Bool.not_true, Bool.not_false, decide_true, Nat.reduceAdd, Nat.reduceSub, Nat.reduceLT, Nat.reduceLeDiff, Nat.reduceEqDiff, ↓reduceIte]
  exact wk_int rfl
theorem swap_at {A T : List Hd} {x y : Hd} : ((A ++ y :: x :: T).set (A.length + 1) y).set A.length x = A ++ x :: y :: T := by
  rw [List.set_append_right _ _ (by omega), List.set_append_right _ _ (by omega)]
  simp
def Lat (P R : List Hd) (x : Hd) (j : Nat) : List Hd := P.take j ++ x :: (P.drop j ++ R)
theorem lat_len {P R : List Hd} {x : Hd} {j : Nat} (h : j ≤ P.length) : (Lat P R x j).length = P.length + 1 + R.length := by simp [Lat]; omega
theorem lat_x {P R : List Hd} {x : Hd} {j : Nat} (h : j ≤ P.length) : (Lat P R x j)[j]? = some x := by
  have : (P.take j).length = j := by simp; omega
  unfold Lat
  rw [List.getElem?_append_right (by omega), this, Nat.sub_self]; rfl
theorem lat_eq {P R : List Hd} {x y : Hd} {k : Nat} (h : P[k]? = some y) : Lat P R x (k + 1) = P.take k ++ y :: x :: (P.drop (k + 1) ++ R) ∧ Lat P R x k = P.take k ++ x :: y :: (P.drop (k + 1) ++ R) := by
  have hlt := some_lt h
  have hy := (List.getElem?_eq_some_iff.1 h).2
  unfold Lat
  refine ⟨by rw [List.take_add_one, h]; simp, ?_⟩
  rw [List.drop_eq_getElem_cons hlt, hy]; simp
theorem lat_y {P R : List Hd} {x y : Hd} {k : Nat} (h : P[k]? = some y) : (Lat P R x (k + 1))[k]? = some y := by
  have hlt := some_lt h
  have : (P.take k).length = k := by simp; omega
  rw [(lat_eq h).1, List.getElem?_append_right (by omega), this, Nat.sub_self]; rfl
theorem lat_swap {P R : List Hd} {x y : Hd} {k : Nat} (h : P[k]? = some y) : (((Lat P R x (k + 1)).map hD).set (k + 1) (hD y)).set k (hD x) = (Lat P R x k).map hD := by
  have hlt := some_lt h
  have : (P.take k).length = k := by simp; omega
  rw [← List.map_set, ← List.map_set, (lat_eq h).1, (lat_eq h).2]
  have := swap_at (A := P.take k) (T := P.drop (k + 1) ++ R) (x := x) (y := y)
  rw [‹(P.take k).length = k›] at this
  rw [this]
def Val (l : List Hd) : Prop := ∀ h ∈ l, 0 ≤ h.fr ∧ h.fr ≤ 1000000
/-- the loop within: the element moves to its place -/
theorem insertion_own (l : List Hd) (hl : l.length ≤ 16) (hv : Val l) : Spec Try.prog 92 [.own 0, .d (.int .i64 0), .d (.int .i64 l.length), .fn 84 []] [.row 4 (l.map hD)] (.tup []) [.row 4 ((isort l).map hD)] := by
  have w0 : IntKind.i64.wrap ((0 : Int) + 1) = ((1 : Nat) : Int) := by rw [i64_in _ (by omega)]; rfl
  refine spec_of_ev (fn := Try.f92) DX_ok 3000 Try.func92 rfl rfl (Nat.le_of_ble_eq_true rfl) ?_
  simp (maxSteps := 4000000) -implicitDefEqProofs only [Try.f92, go_sem]
  simp (maxSteps := 4000000) -implicitDefEqProofs only [go_sem, w0, Option.some.injEq, forall_eq', and_true, true_and, Bool.not_true, Bool.not_false, decide_true, Nat.reduceAdd, Nat.reduceSub, Nat.reduceLT, Nat.reduceLeDiff, Nat.reduceEqDiff, ↓reduceIte]
  refine eloop (S := Nat) (fun i => mkE 53 [(0, .own 0), (1, .d (.int .i64 0)), (2, .d (.int .i64 l.length)), (3, .fn 84 []), (8, .d (.int .i64 i))]) (fun i => [.row 4 ((isort (l.take i) ++ l.drop i).map hD)]) (fun i => 1 ≤ i ∧ (i ≤ l.length ∨ i = 1)) (fun i => l.length + 1 - i) 1 ⟨by omega, by omega⟩ ?_ ?_
  · have e : isort (l.take 1) ++ l.drop 1 = l := by
      cases l with
      | nil => rfl
      | cons a l => rfl
    rw [e]; exact (Wk.sub (by (simp only [go_sem]) <;> trivial))
  intro i hi
  rcases Nat.lt_or_ge i l.length with h2 | h2
  case inr =>
    have f1 : decide ((i : Int) < l.length) = false := by simp; omega
    simp (maxSteps := 4000000) -implicitDefEqProofs only [go_sem, f1, Option.some.injEq, forall_eq', and_true, true_and, Bool.not_true, Bool.not_false, decide_true, Nat.reduceAdd, Nat.reduceSub, Nat.reduceLT, Nat.reduceLeDiff, Nat.reduceEqDiff, ↓reduceIte]
    rw [List.take_of_length_le h2, List.drop_of_length_le h2, List.append_nil]
    exact Wk.refl _ _ _
  have f1 : decide ((i : Int) < l.length) = true := by simp; omega
  obtain ⟨x, hx⟩ : ∃ x, l[i]? = some x := ⟨l[i]'h2, List.getElem?_eq_getElem _⟩
  obtain ⟨P, hP⟩ : ∃ P, P = isort (l.take i) := ⟨_, rfl⟩
  obtain ⟨R, hR⟩ : ∃ R, R = l.drop (i + 1) := ⟨_, rfl⟩
  have hPl : P.length = i := by rw [hP, isort_len]; simp; omega
  have hPs : Srt P := by rw [hP]; exact isort_srt _
  have hRl : R.length = l.length - (i + 1) := by rw [hR]; simp
  have e0 : isort (l.take i) ++ l.drop i = Lat P R x i := by
    rw [← hP, List.drop_eq_getElem_cons h2, (List.getElem?_eq_some_iff.1 hx).2, ← hR]
    unfold Lat
    rw [List.take_of_length_le (by omega), List.drop_of_length_le (by omega)]; rfl
  have e1 : isort (l.take (i + 1)) = ins x P := by rw [List.take_add_one, hx, hP]; exact isort_snoc _ _
  have hxv := hv x (List.mem_of_getElem? hx)
  have hPv : ∀ y ∈ P, 0 ≤ y.fr ∧ y.fr ≤ 1000000 := fun y hy => hv y (List.mem_of_mem_take (isort_mem.1 (by rw [← hP]; exact hy)))
  have w1 : IntKind.i64.wrap ((i : Int) + 1) = ((i + 1 : Nat) : Int) := by rw [i64_in _ (by omega)]; simp
  rw [e0]
  simp (maxSteps := 4000000) -implicitDefEqProofs only [go_sem, f1, Option.some.injEq, forall_eq', and_true, true_and, Bool.not_true, Bool.not_false, decide_true, Nat.reduceAdd, Nat.reduceSub, Nat.reduceLT, Nat.reduceLeDiff, Nat.reduceEqDiff, ↓reduceIte]
  refine eloop (S := Nat) (fun j => mkE 53 [(0, .own 0), (1, .d (.int .i64 0)), (2, .d (.int .i64 l.length)), (3, .fn 84 []), (8, .d (.int .i64 i)), (9, .d (.int .i64 j))]) (fun j => [.row 4 ((Lat P R x j).map hD)]) (fun j => j ≤ i ∧ ∀ y ∈ P.drop j, x.fr < y.fr) (fun j => j) i ⟨by omega, by rw [List.drop_of_length_le (by omega)]; simp⟩ (Wk.sub (by (simp only [go_sem]) <;> trivial)) ?_
  intro j hj
  obtain ⟨j1, j2⟩ := hj
  have stop : (∀ y ∈ P.take j, y.fr ≤ x.fr) → Lat P R x j = isort (l.take (i + 1)) ++ l.drop (i + 1) := fun h => by
    rw [e1, ← hR]
    have := ins_split (x := x) (B := P.drop j) (fun y hy => j2 y (List.mem_of_mem_head? hy)) h
    rw [List.take_append_drop] at this
    rw [this]; simp [Lat]
  cases j with
  | zero =>
    have f2 : decide ((0 : Int) < ((0 : Nat) : Int)) = false := rfl
    have st := stop (by simp)
    simp (maxSteps := 4000000) -implicitDefEqProofs only [go_sem, Nat.reduceAdd, Nat.reduceSub, Nat.reduceLT, Nat.reduceLeDiff, Nat.reduceEqDiff, ↓reduceIte]
    refine DX.plain (.take 0 false (.take 1 false (.take 2 false (.take 3 false (.take 4 false (.take 5 false (.take 6 false (.take 7 false (.take 8 false (.take 9 false (.take 10 false (.take 11 false (.take 12 false (.take 13 false (.take 14 false (.take 15 false (.take 16 false .done))))))))))))))))) (by kernel_rfl) (by kernel_rfl) Ty.mixed ?_
    simp (maxSteps := 4000000) -implicitDefEqProofs only [go_sem, f2, Option.some.injEq, forall_eq', and_true, true_and, Bool.not_true, Bool.not_false, decide_true, Nat.reduceAdd, Nat.reduceSub, Nat.reduceLT, Nat.reduceLeDiff, Nat.reduceEqDiff, ↓reduceIte]
    simp (maxSteps := 4000000) -implicitDefEqProofs only [go_sem, w1, Option.some.injEq, forall_eq', and_true, true_and, Bool.not_true, Bool.not_false, decide_true, Nat.reduceAdd, Nat.reduceSub, Nat.reduceLT, Nat.reduceLeDiff, Nat.reduceEqDiff, ↓reduceIte]
    rw [st]
    exact .mk (i + 1) (by omega) (by omega) (Wk.sub (by (simp only [go_sem]) <;> trivial))
  | succ k =>
    have f2 : decide ((0 : Int) < ((k + 1 : Nat) : Int)) = true := decide_eq_true (by omega)
    obtain ⟨y, hy⟩ : ∃ y, P[k]? = some y := ⟨P[k]'(by omega), List.getElem?_eq_getElem _⟩
    have hyv := hPv y (List.mem_of_getElem? hy)
    have ll := lat_len (P := P) (R := R) (x := x) (j := k + 1) (by omega)
    have gx := lat_x (P := P) (R := R) (x := x) (j := k + 1) (by omega)
    have gy := lat_y (R := R) (x := x) hy
    have sw := lat_swap (R := R) (x := x) hy
    have n1 : (0 ≤ ((k + 1 : Nat) : Int) ∧ ((k + 1 : Nat) : Int) < (Lat P R x (k + 1)).length) = True := eq_true (by omega)
    have n2 : (k + 1 < (Lat P R x (k + 1)).length) = True := eq_true (by omega)
    have n3 : (0 ≤ (k : Int) ∧ (k : Int) < (Lat P R x (k + 1)).length) = True := eq_true (by omega)
    have n4 : (k < (Lat P R x (k + 1)).length) = True := eq_true (by omega)
    have w2 : IntKind.i64.wrap (((k + 1 : Nat) : Int) - 1) = (k : Int) := by rw [i64_in _ (by omega)]; omega
    have cm := cmp_own x y hxv hyv
    simp only [hA] at cm
    simp (maxSteps := 4000000) -implicitDefEqProofs only [go_sem, Nat.reduceAdd, Nat.reduceSub, Nat.reduceLT, Nat.reduceLeDiff, Nat.reduceEqDiff, ↓reduceIte]
    refine DX.plain (.take 0 false (.take 1 false (.take 2 false (.take 3 false (.take 4 false (.take 5 false (.take 6 false (.take 7 false (.take 8 false (.take 9 false (.take 10 false (.take 11 false (.take 12 false (.take 13 false (.take 14 false (.take 15 false (.take 16 false .done))))))))))))))))) (by kernel_rfl) (by kernel_rfl) Ty.mixed ?_
    simp (maxSteps := 4000000) -implicitDefEqProofs only [go_sem, f2, n1, n2, n3, n4, gx, gy, w2, Option.some.injEq, forall_eq', and_true, true_and, Bool.not_true, Bool.not_false, decide_true, Nat.reduceAdd, Nat.reduceSub, Nat.reduceLT, Nat.reduceLeDiff, Nat.reduceEqDiff, ↓reduceIte]
    refine ⟨_, _, Spec.lift0 cm _ (by simp only [go_sem]) (by simp only [go_sem]), rfl, ?_⟩
    rcases Int.lt_or_le x.fr y.fr with h5 | h5
    case inr =>
      have f3 : decide (x.fr - y.fr < 0) = false := decide_eq_false (by omega)
      have st := stop fun z hz => by
        rw [List.take_add_one, hy] at hz
        rcases List.mem_append.1 hz with hz | hz
        · obtain ⟨m, hm⟩ := List.mem_iff_getElem?.1 hz
          have hmk : m < k := by have := some_lt hm; simp at this; omega
          rw [List.getElem?_take_of_lt hmk] at hm
          obtain ⟨q1, q2⟩ := List.getElem?_eq_some_iff.1 hm
          obtain ⟨q3, q4⟩ := List.getElem?_eq_some_iff.1 hy
          have := (List.pairwise_iff_getElem.1 hPs) m k q1 q3 hmk
          rw [q2, q4] at this; omega
        · simp at hz; subst hz; exact h5
      simp (maxSteps := 4000000) -implicitDefEqProofs only [go_sem, f3, Option.some.injEq, forall_eq', and_true, true_and, Bool.not_true, Bool.not_false, decide_true, Nat.reduceAdd, Nat.reduceSub, Nat.reduceLT, Nat.reduceLeDiff, Nat.reduceEqDiff, ↓reduceIte]
      simp (maxSteps := 4000000) -implicitDefEqProofs only [go_sem, w1, Option.some.injEq, forall_eq', and_true, true_and, Bool.not_true, Bool.not_false, decide_true, Nat.reduceAdd, Nat.reduceSub, Nat.reduceLT, Nat.reduceLeDiff, Nat.reduceEqDiff, ↓reduceIte]
      rw [st]
      exact .mk (i + 1) (by omega) (by omega) (Wk.sub (by (simp only [go_sem]) <;> trivial))
    have f3 : decide (x.fr - y.fr < 0) = true := decide_eq_true (by omega)
    simp (maxSteps := 4000000) -implicitDefEqProofs only [go_sem, f3, Option.some.injEq, forall_eq', and_true, true_and, Bool.not_true, Bool.not_false, decide_true, Nat.reduceAdd, Nat.reduceSub, Nat.reduceLT, Nat.reduceLeDiff, Nat.reduceEqDiff, ↓reduceIte]
    refine DX.plain (.take 0 false (.take 1 false (.take 2 true (.take 3 true (.take 4 true (.take 5 false (.take 6 false (.take 7 false (.take 8 false (.take 9 false (.take 10 false (.take 11 false (.take 12 false (.take 13 false (.take 14 false (.run [15] (fun _ => [true, true, true]) fun _ => (.take 16 false (.run [17] (fun _ => [false, false, false]) fun _ => .done)))))))))))))))))) (by kernel_rfl) (by kernel_rfl) Ty.mixed ?_
    simp (maxSteps := 4000000) -implicitDefEqProofs only [go_sem, n1, n2, n3, n4, gx, gy, w2, List.length_set, Option.some.injEq, forall_eq', and_true, true_and, Bool.not_true, Bool.not_false, decide_true, Nat.reduceAdd, Nat.reduceSub, Nat.reduceLT, Nat.reduceLeDiff, Nat.reduceEqDiff, ↓reduceIte]
    intro e he
    rw [List.getElem?_set_ne (by omega), List.getElem?_map, gy] at he
    have he2 := Option.some.inj he
    subst he2
    simp only [hD] at sw
    simp only [hD, spl]
    rw [sw]
    refine .mk k ⟨by omega, fun z hz => ?_⟩ (by omega) (Wk.sub (by (simp only [go_sem]) <;> trivial))
    rw [List.drop_eq_getElem_cons (by omega : k < P.length), (List.getElem?_eq_some_iff.1 hy).2] at hz
    rcases List.mem_cons.1 hz with rfl | hz
    · exact h5
    · exact j2 z hz
theorem stable_own (l : List Hd) (hl : l.length ≤ 16) (hv : Val l) : Spec Try.prog 90 [.own 0, .d (.int .i64 l.length), .fn 84 []] [.row 4 (l.map hD)] (.tup []) [.row 4 ((isort l).map hD)] := by
  have f1 : decide ((20 : Int) ≤ l.length) = false := decide_eq_false (by omega)
  have f2 : decide ((20 : Int) < l.length) = false := decide_eq_false (by omega)
  refine spec_of_ev (fn := Try.f90) DX_ok 3000 Try.func90 rfl rfl (Nat.le_of_ble_eq_true rfl) ?_
  simp (maxSteps := 4000000) -implicitDefEqProofs only [Try.f90, go_sem]
  refine eloop (S := Unit) (fun _ => mkE 63 [(0, .own 0), (1, .d (.int .i64 l.length)), (2, .fn 84 []), (6, .d (.int .i64 20)), (7, .d (.int .i64 0)), (8, .d (.int .i64 20))]) (fun _ => [.row 4 (l.map hD)]) (fun _ => True) (fun _ => 0) () trivial (Wk.sub (by (simp only [go_sem]) <;> trivial)) ?_
  intro _ _
  simp (maxSteps := 4000000) -implicitDefEqProofs only [go_sem, f1, Option.some.injEq, forall_eq', and_true, true_and, Bool.not_true, Bool.not_false, decide_true, Nat.reduceAdd, Nat.reduceSub, Nat.reduceLT, Nat.reduceLeDiff, Nat.reduceEqDiff, ↓reduceIte]
  refine .all _ _ (insertion_own l hl hv) ?_
  simp (maxSteps := 4000000) -implicitDefEqProofs only [go_sem, Nat.reduceAdd, Nat.reduceSub, Nat.reduceLT, Nat.reduceLeDiff, Nat.reduceEqDiff, ↓reduceIte]
  refine eloop (S := Unit) (fun _ => mkE 63 [(1, .d (.int .i64 l.length)), (6, .d (.int .i64 20))]) (fun _ => [.row 4 ((isort l).map hD)]) (fun _ => True) (fun _ => 0) () trivial (Wk.sub (by (simp only [go_sem]) <;> trivial)) ?_
  intro _ _
  simp (maxSteps := 4000000) -implicitDefEqProofs only [go_sem, f2, Option.some.injEq, forall_eq', and_true, true_and, Bool.not_true, Bool.not_false, decide_true, Nat.reduceAdd, Nat.reduceSub, Nat.reduceLT, Nat.reduceLeDiff, Nat.reduceEqDiff, ↓reduceIte]
  exact Wk.refl _ _ _
theorem sort_own (l : List Hd) (hl : l.length ≤ 16) (hv : Val l) : Spec Try.prog 83 [.own 0, .fn 84 []] [.row 4 (l.map hD)] (.tup []) [.row 4 ((isort l).map hD)] := by
  refine spec_of_ev (fn := Try.f83) DX_ok 3000 Try.func83 rfl rfl (Nat.le_of_ble_eq_true rfl) ?_
  simp (maxSteps := 4000000) -implicitDefEqProofs only [Try.f83, go_sem]
  refine .all _ _ (stable_own l hl hv) ?_
  simp (maxSteps := 4000000) -implicitDefEqProofs only [go_sem, Nat.reduceAdd, Nat.reduceSub, Nat.reduceLT, Nat.reduceLeDiff, Nat.reduceEqDiff, ↓reduceIte]
  exact Wk.refl _ _ _
end Go.AX.Wn
/- Windows: the program's windows, and looking a tick up in them. -/
set_option maxHeartbeats 8000000
set_option linter.unusedVariables false
set_option linter.unusedSimpArgs false
set_option maxRecDepth 20000
namespace Go.AX.Wn
open Go.Proofs Go.RowKit Go.IntWalk Go.AX.Br
theorem mstep_nil (h : Hd) : mstep [] h = [h] := rfl
theorem mstep_join {A : List Hd} {w h : Hd} (e : h.fr ≤ w.to) : mstep (A ++ [w]) h = A ++ [joinTo w h] := by
  unfold mstep
  simp only [List.getLast?_append, List.getLast?_singleton, Option.some_or]
  rw [if_pos e]; simp
theorem mstep_new {A : List Hd} {w h : Hd} (e : w.to < h.fr) : mstep (A ++ [w]) h = A ++ [w] ++ [h] := by
  unfold mstep
  simp only [List.getLast?_append, List.getLast?_singleton, Option.some_or]
  rw [if_neg (by omega)]
def mine (b : ByteArray) (l : List Hd) : List Hd := l.filter fun h => decide (h.br = b)
theorem mine_yes {l : List Hd} {b : ByteArray} {i : Nat} {x : Hd} (hx : l[i]? = some x) (h : x.br = b) : mine b (l.take (i + 1)) = mine b (l.take i) ++ [x] := by
  rw [List.take_add_one, hx]; simp [mine, h]
theorem mine_no {l : List Hd} {b : ByteArray} {i : Nat} {x : Hd} (hx : l[i]? = some x) (h : x.br ≠ b) : mine b (l.take (i + 1)) = mine b (l.take i) := by
  rw [List.take_add_one, hx]; simp [mine, h]
theorem mine_len (b : ByteArray) (l : List Hd) : (mine b l).length ≤ l.length := List.length_filter_le ..
theorem fold_snoc {S : List Hd} {i : Nat} {x : Hd} (hx : S[i]? = some x) : (S.take (i + 1)).foldl mstep [] = mstep ((S.take i).foldl mstep []) x := by
  rw [List.take_add_one, hx]; simp
theorem set_last {A : List Hd} {w : Hd} {e : List D} : ((A ++ [w]).map hD).set A.length e = A.map hD ++ [e] := by
  rw [List.map_append, List.set_append_right _ _ (by simp)]; simp
theorem windows_own (l : List Hd) (b : ByteArray) (O : Okw l b) : Spec Try.prog 51 [.d (.sl (l.map hD)), .d (.str b)] [] (.d (.sl ((winL l b).map hD))) [] := by
  have hl := O.len
  refine spec_of_ev (fn := Try.f51) DX_ok 3000 Try.func51 rfl rfl (Nat.le_of_ble_eq_true rfl) ?_
  simp (maxSteps := 4000000) -implicitDefEqProofs only [Try.f51, go_sem]
  refine eloop (S := Nat) (fun i => mkE 70 [(0, .d (.sl (l.map hD))), (1, .d (.str b)), (5, .own 0), (12, .d (.sl (l.map hD))), (13, .d (.int .i64 l.length)), (14, .d (.int .i64 i))]) (fun i => [.row 4 ((mine b (l.take i)).map hD)]) (fun i => i ≤ l.length) (fun i => l.length - i) 0 (by omega) (Wk.trans (Wk.nil 5 4 rfl) (Wk.via1 0 (by (simp only [go_sem, ↓reduceIte]) <;> trivial) (by simp (maxSteps := 4000000) -implicitDefEqProofs only [go_sem, Nat.reduceAdd, Nat.reduceSub, Nat.reduceLT, Nat.reduceLeDiff, Nat.reduceEqDiff, ↓reduceIte]) (by simp) (by (simp only [go_sem]) <;> trivial) (by trivial))) ?_
  intro i hi
  rcases Nat.lt_or_ge i l.length with h2 | h2
  · have f1 : decide ((i : Int) < l.length) = true := by simp; omega
    obtain ⟨x, hx⟩ : ∃ x, l[i]? = some x := ⟨l[i]'h2, List.getElem?_eq_getElem _⟩
    have n1 : (0 ≤ (i : Int) ∧ (i : Int) < l.length) = True := eq_true (by omega)
    have n2 : (i < l.length) = True := eq_true (by omega)
    have w1 : IntKind.i64.wrap ((i : Int) + 1) = ((i + 1 : Nat) : Int) := by rw [i64_in _ (by omega)]; simp
    have ml := mine_len b (l.take i)
    rw [List.length_take] at ml
    by_cases e1 : x.br = b
    case neg =>
      have d1 : decide (x.br = b) = false := decide_eq_false e1
      have e2 := mine_no hx e1
      simp (maxSteps := 4000000) -implicitDefEqProofs only [go_sem, f1, n1, n2, hx, d1, w1, Option.some.injEq, forall_eq', and_true, true_and, Bool.not_true, Bool.not_false, decide_true, Nat.reduceAdd, Nat.reduceSub, Nat.reduceLT, Nat.reduceLeDiff, Nat.reduceEqDiff, ↓reduceIte]
      exact .mk (i + 1) h2 (by omega) (by rw [e2]; exact (Wk.via1 0 (by (simp only [go_sem, ↓reduceIte]) <;> trivial) (by simp (maxSteps := 4000000) -implicitDefEqProofs only [go_sem, Nat.reduceAdd, Nat.reduceSub, Nat.reduceLT, Nat.reduceLeDiff, Nat.reduceEqDiff, ↓reduceIte]) (by simp) (by (simp only [go_sem]) <;> trivial) (by trivial)))
    have d1 : decide (x.br = b) = true := decide_eq_true e1
    have e2 := mine_yes hx e1
    simp (maxSteps := 4000000) -implicitDefEqProofs only [go_sem, f1, n1, n2, hx, d1, w1, Option.some.injEq, forall_eq', and_true, true_and, Bool.not_true, Bool.not_false, decide_true, Nat.reduceAdd, Nat.reduceSub, Nat.reduceLT, Nat.reduceLeDiff, Nat.reduceEqDiff, ↓reduceIte]
    refine ⟨by omega, ⟨fun e he => by simp at he; subst he; rfl, by omega, by omega⟩, ?_⟩
    exact .mk (i + 1) h2 (by omega) (by rw [e2, List.map_append]; exact (Wk.via1 3 (by (simp only [go_sem, ↓reduceIte]) <;> trivial) (by simp (maxSteps := 4000000) -implicitDefEqProofs only [go_sem, Nat.reduceAdd, Nat.reduceSub, Nat.reduceLT, Nat.reduceLeDiff, Nat.reduceEqDiff, ↓reduceIte]) (by simp) (by (simp only [go_sem]) <;> trivial) (by trivial)))
  have f1 : decide ((i : Int) < l.length) = false := by simp; omega
  simp (maxSteps := 4000000) -implicitDefEqProofs only [go_sem, f1, Option.some.injEq, forall_eq', and_true, true_and, Bool.not_true, Bool.not_false, decide_true, Nat.reduceAdd, Nat.reduceSub, Nat.reduceLT, Nat.reduceLeDiff, Nat.reduceEqDiff, ↓reduceIte]
  rw [List.take_of_length_le h2]
  obtain ⟨F, hF⟩ : ∃ F, F = mine b l := ⟨_, rfl⟩
  rw [← hF]
  have hFl : F.length ≤ 16 := by have := mine_len b l; rw [hF]; omega
  have hFv : Val F := fun h hh => by
    rw [hF] at hh
    have := O.val h (List.mem_filter.1 hh).1
    omega
  refine .all _ _ (sort_own F hFl hFv) ?_
  obtain ⟨T, hT⟩ : ∃ T, T = isort F := ⟨_, rfl⟩
  have hTl : T.length ≤ 16 := by rw [hT, isort_len]; exact hFl
  have hW : winL l b = T.foldl mstep [] := by rw [hT, hF]; rfl
  rw [← hT, hW]
  simp (maxSteps := 4000000) -implicitDefEqProofs only [go_sem, Nat.reduceAdd, Nat.reduceSub, Nat.reduceLT, Nat.reduceLeDiff, Nat.reduceEqDiff, ↓reduceIte]
  refine eloop (S := Nat) (fun i => mkE 70 [(8, .own 0), (29, .d (.sl (T.map hD))), (30, .d (.int .i64 T.length)), (31, .d (.int .i64 i))]) (fun i => [.row 4 (((T.take i).foldl mstep []).map hD)]) (fun i => i ≤ T.length) (fun i => T.length - i) 0 (by omega) (Wk.trans (Wk.frz 0 rfl) (Wk.trans (Wk.nil 8 4 rfl) ?_)) ?_
  · simp only [go_sem, ↓reduceIte]
    exact (Wk.via1 1 (by (simp only [go_sem, ↓reduceIte]) <;> trivial) (by simp (maxSteps := 4000000) -implicitDefEqProofs only [go_sem, Nat.reduceAdd, Nat.reduceSub, Nat.reduceLT, Nat.reduceLeDiff, Nat.reduceEqDiff, ↓reduceIte]) (by simp) (by (simp only [go_sem]) <;> trivial) (by trivial))
  clear hi h2 f1 i
  intro i hi
  rcases Nat.lt_or_ge i T.length with h2 | h2
  case inr =>
    have f1 : decide ((i : Int) < T.length) = false := by simp; omega
    simp (maxSteps := 4000000) -implicitDefEqProofs only [go_sem, f1, Option.some.injEq, forall_eq', and_true, true_and, Bool.not_true, Bool.not_false, decide_true, Nat.reduceAdd, Nat.reduceSub, Nat.reduceLT, Nat.reduceLeDiff, Nat.reduceEqDiff, ↓reduceIte]
    rw [List.take_of_length_le h2]
    exact wk_dat (r' := .d (.sl ((T.foldl mstep []).map hD))) (by simp only [go_sem]; rfl) rfl trivial
  have f1 : decide ((i : Int) < T.length) = true := by simp; omega
  obtain ⟨h, hh⟩ : ∃ x, T[i]? = some x := ⟨T[i]'h2, List.getElem?_eq_getElem _⟩
  have n1 : (0 ≤ (i : Int) ∧ (i : Int) < T.length) = True := eq_true (by omega)
  have n2 : (i < T.length) = True := eq_true (by omega)
  have w1 : IntKind.i64.wrap ((i : Int) + 1) = ((i + 1 : Nat) : Int) := by rw [i64_in _ (by omega)]; simp
  have fs := fold_snoc hh
  have fl := fold_len (T.take i) []
  rw [List.length_take] at fl
  simp only [List.length_nil] at fl
  obtain ⟨out, ho⟩ : ∃ out, out = (T.take i).foldl mstep [] := ⟨_, rfl⟩
  rw [← ho] at fs fl ⊢
  have hol : out.length ≤ 16 := by omega
  cases hlast : out.getLast? with
  | none =>
    have e0 : out = [] := by simpa using hlast
    subst e0
    have f2 : decide ((0 : Int) < ((0 : Nat) : Int)) = false := rfl
    rw [mstep_nil] at fs
    simp (maxSteps := 4000000) -implicitDefEqProofs only [go_sem, f1, n1, n2, hh, Option.some.injEq, forall_eq', and_true, true_and, Bool.not_true, Bool.not_false, decide_true, Nat.reduceAdd, Nat.reduceSub, Nat.reduceLT, Nat.reduceLeDiff, Nat.reduceEqDiff, ↓reduceIte]
    refine DX.plain (.take 0 false (.take 1 false (.take 2 false (.take 3 false (.take 4 false (.take 5 false (.take 6 false (.take 7 false (.take 8 false (.take 9 false (.take 10 false (.take 11 false (.take 12 false .done))))))))))))) (by kernel_rfl) (by kernel_rfl) Ty.mixed ?_
    simp (maxSteps := 4000000) -implicitDefEqProofs only [go_sem, f2, Option.some.injEq, forall_eq', and_true, true_and, Bool.not_true, Bool.not_false, decide_true, Nat.reduceAdd, Nat.reduceSub, Nat.reduceLT, Nat.reduceLeDiff, Nat.reduceEqDiff, ↓reduceIte]
    refine ⟨by omega, ⟨fun e he => by simp at he; subst he; rfl, by omega⟩, ?_⟩
    simp (maxSteps := 4000000) -implicitDefEqProofs only [go_sem, w1, Option.some.injEq, forall_eq', and_true, true_and, Bool.not_true, Bool.not_false, decide_true, Nat.reduceAdd, Nat.reduceSub, Nat.reduceLT, Nat.reduceLeDiff, Nat.reduceEqDiff, ↓reduceIte]
    exact .mk (i + 1) (by omega) (by omega) (by rw [fs]; exact (Wk.via1 3 (by (simp only [go_sem, ↓reduceIte]) <;> trivial) (by simp (maxSteps := 4000000) -implicitDefEqProofs only [go_sem, Nat.reduceAdd, Nat.reduceSub, Nat.reduceLT, Nat.reduceLeDiff, Nat.reduceEqDiff, ↓reduceIte]) (by simp) (by (simp only [go_sem]) <;> trivial) (by trivial)))
  | some w =>
    have hs := last_split hlast
    obtain ⟨A, hA'⟩ : ∃ A, A = out.dropLast := ⟨_, rfl⟩
    rw [← hA'] at hs
    subst hs
    clear hA'
    have hAl : A.length + 1 ≤ 16 := by simpa using hol
    have f2 : decide ((0 : Int) < ((A ++ [w]).length : Int)) = true := decide_eq_true (by simp)
    have w2 : IntKind.i64.wrap (((A ++ [w]).length : Int) - 1) = (A.length : Int) := by rw [i64_in _ (by simp; omega)]; simp
    have gw : (A ++ [w])[A.length]? = some w := by simp
    have n3 : (0 ≤ (A.length : Int) ∧ (A.length : Int) < (A ++ [w]).length) = True := eq_true (by simp; omega)
    have n4 : (A.length < (A ++ [w]).length) = True := eq_true (by simp)
    rcases Int.lt_or_le w.to h.fr with q | q
    · have f3 : decide (h.fr ≤ w.to) = false := decide_eq_false (by omega)
      rw [mstep_new q] at fs
      simp (maxSteps := 4000000) -implicitDefEqProofs only [go_sem, f1, n1, n2, hh, Option.some.injEq, forall_eq', and_true, true_and, Bool.not_true, Bool.not_false, decide_true, Nat.reduceAdd, Nat.reduceSub, Nat.reduceLT, Nat.reduceLeDiff, Nat.reduceEqDiff, ↓reduceIte]
      refine DX.plain (.take 0 false (.take 1 false (.take 2 false (.take 3 false (.take 4 false (.take 5 false (.take 6 false (.take 7 false (.take 8 false (.take 9 false (.take 10 false (.take 11 false (.take 12 false .done))))))))))))) (by kernel_rfl) (by kernel_rfl) Ty.mixed ?_
      simp (maxSteps := 4000000) -implicitDefEqProofs only [go_sem, f2, w2, n3, n4, gw, f3, Option.some.injEq, forall_eq', and_true, true_and, Bool.not_true, Bool.not_false, decide_true, Nat.reduceAdd, Nat.reduceSub, Nat.reduceLT, Nat.reduceLeDiff, Nat.reduceEqDiff, ↓reduceIte]
      refine ⟨by omega, ⟨fun e he => by simp at he; subst he; rfl, by omega, by omega⟩, ?_⟩
      simp (maxSteps := 4000000) -implicitDefEqProofs only [go_sem, w1, Option.some.injEq, forall_eq', and_true, true_and, Bool.not_true, Bool.not_false, decide_true, Nat.reduceAdd, Nat.reduceSub, Nat.reduceLT, Nat.reduceLeDiff, Nat.reduceEqDiff, ↓reduceIte]
      have e3 : (A ++ [w]).map hD ++ [[D.str h.br, D.int .i64 h.fr, D.int .i64 h.to, D.str h.rs]] = (A ++ [w] ++ [h]).map hD := by simp [hD]
      rw [e3]
      exact .mk (i + 1) (by omega) (by omega) (by rw [fs]; exact (Wk.via1 3 (by (simp only [go_sem, ↓reduceIte]) <;> trivial) (by simp (maxSteps := 4000000) -implicitDefEqProofs only [go_sem, Nat.reduceAdd, Nat.reduceSub, Nat.reduceLT, Nat.reduceLeDiff, Nat.reduceEqDiff, ↓reduceIte]) (by simp) (by (simp only [go_sem]) <;> trivial) (by trivial)))
    · have f3 : decide (h.fr ≤ w.to) = true := decide_eq_true q
      rw [mstep_join q] at fs
      simp (maxSteps := 4000000) -implicitDefEqProofs only [go_sem, f1, n1, n2, hh, Option.some.injEq, forall_eq', and_true, true_and, Bool.not_true, Bool.not_false, decide_true, Nat.reduceAdd, Nat.reduceSub, Nat.reduceLT, Nat.reduceLeDiff, Nat.reduceEqDiff, ↓reduceIte]
      refine DX.plain (.take 0 false (.take 1 false (.take 2 false (.take 3 false (.take 4 false (.take 5 false (.take 6 false (.take 7 false (.take 8 false (.take 9 false (.take 10 false (.take 11 false (.take 12 false .done))))))))))))) (by kernel_rfl) (by kernel_rfl) Ty.mixed ?_
      simp (maxSteps := 4000000) -implicitDefEqProofs only [go_sem, f2, w2, n3, n4, gw, f3, Option.some.injEq, forall_eq', and_true, true_and, Bool.not_true, Bool.not_false, decide_true, Nat.reduceAdd, Nat.reduceSub, Nat.reduceLT, Nat.reduceLeDiff, Nat.reduceEqDiff, ↓reduceIte]
      have mx : (if w.to < h.to then h.to else w.to) = max w.to h.to := by split <;> omega
      have jt : hD (joinTo w h) = [D.str w.br, D.int .i64 w.fr, D.int .i64 (max w.to h.to), D.str w.rs] := rfl
      refine DX.plain (.take 0 false (.take 1 false (.take 2 false (.take 3 false (.take 4 false (.take 5 false (.take 6 false (.take 7 false (.take 8 false (.take 9 false (.take 10 false (.take 11 false (.take 12 false (.take 13 false (.run [14] (fun _ => []) fun _ => .done))))))))))))))) (by kernel_rfl) (by kernel_rfl) Ty.mixed ?_
      simp (maxSteps := 4000000) -implicitDefEqProofs only [go_sem, w2, n3, n4, gw, w1, Option.some.injEq, forall_eq', and_true, true_and, Bool.not_true, Bool.not_false, decide_true, Nat.reduceAdd, Nat.reduceSub, Nat.reduceLT, Nat.reduceLeDiff, Nat.reduceEqDiff, ↓reduceIte]
      have e3 : A.map hD ++ [[D.str w.br, D.int .i64 w.fr, D.int .i64 (max w.to h.to), D.str w.rs]] = (A ++ [joinTo w h]).map hD := by rw [List.map_append, List.map_singleton, jt]
      rw [set_last, mx, e3]
      exact .mk (i + 1) (by omega) (by omega) (by rw [fs]; exact (Wk.via1 0 (by (simp only [go_sem, ↓reduceIte]) <;> trivial) (by simp (maxSteps := 4000000) -implicitDefEqProofs only [go_sem, Nat.reduceAdd, Nat.reduceSub, Nat.reduceLT, Nat.reduceLeDiff, Nat.reduceEqDiff, ↓reduceIte]) (by simp) (by (simp only [go_sem]) <;> trivial) (by trivial)))
def sgn (h : Hd) (t : Int) : Int := if h.to ≤ t then -1 else 1
theorem inF_own (h : Hd) (t : Int) : Spec Try.prog 82 [hA h, .d (.int .i64 t)] [] (.d (.int .i64 (sgn h t))) [] := by
  refine spec_of_ev (fn := Try.f82) DX_ok 3000 Try.func82 rfl rfl (Nat.le_of_ble_eq_true rfl) ?_
  simp (maxSteps := 4000000) -implicitDefEqProofs only [Try.f82, go_sem]
  rcases Int.lt_or_le t h.to with q | q
  · have d : decide (h.to ≤ t) = false := decide_eq_false (by omega)
    simp (maxSteps := 4000000) -implicitDefEqProofs only [go_sem, d, Option.some.injEq, forall_eq', and_true, true_and, Bool.not_true, Bool.not_false, decide_true, Nat.reduceAdd, Nat.reduceSub, Nat.reduceLT, Nat.reduceLeDiff, Nat.reduceEqDiff, ↓reduceIte]
    exact wk_int (by rw [sgn, if_neg (by omega)])
  · have d : decide (h.to ≤ t) = true := decide_eq_true q
    simp (maxSteps := 4000000) -implicitDefEqProofs only [go_sem, d, Option.some.injEq, forall_eq', and_true, true_and, Bool.not_true, Bool.not_false, decide_true, Nat.reduceAdd, Nat.reduceSub, Nat.reduceLT, Nat.reduceLeDiff, Nat.reduceEqDiff, ↓reduceIte]
    exact wk_int (by rw [sgn, if_pos q])
theorem to_mono {W : List Hd} (C : Can W) {i j : Nat} {x y : Hd} (hx : W[i]? = some x) (hy : W[j]? = some y) (h : i ≤ j) : x.to ≤ y.to := by
  rcases Nat.lt_or_ge i j with q | q
  · obtain ⟨q1, q2⟩ := List.getElem?_eq_some_iff.1 hx
    obtain ⟨q3, q4⟩ := List.getElem?_eq_some_iff.1 hy
    have := (List.pairwise_iff_getElem.1 C.1) i j q1 q3 q
    have hv := C.2 y (List.mem_of_getElem? hy)
    rw [q2, q4] at this; omega
  · have : i = j := by omega
    subst this; rw [hx] at hy; cases hy; exact Int.le_refl _
theorem mid {n : Nat} (h : n ≤ 100) : IntKind.i64.wrap ((IntKind.u64.wrap (n : Int)).fdiv (2 ^ min 1 64)) = ((n / 2 : Nat) : Int) := by
  have e1 : (2 : Int) ^ min 1 64 = 2 := rfl
  have e2 : IntKind.u64.wrap (n : Int) = n := by
    simp only [IntKind.wrap, IntKind.bits, IntKind.signed]
    simp; omega
  rw [e1, e2, Int.fdiv_eq_ediv_of_nonneg _ (by omega), i64_in _ (by omega)]; simp
theorem search_own (W : List Hd) (t : Int) (C : Can W) (hW : W.length ≤ 16) : Spec Try.prog 81 [.d (.sl (W.map hD)), .d (.int .i64 t), .fn 82 []] [] (.tup [.d (.int .i64 (W.findIdx fun w => decide (t < w.to))), .d (.bool false)]) [] := by
  refine spec_of_ev (fn := Try.f81) DX_ok 3000 Try.func81 rfl rfl (Nat.le_of_ble_eq_true rfl) ?_
  simp (maxSteps := 4000000) -implicitDefEqProofs only [Try.f81, go_sem]
  refine eloop (S := Nat × Nat) (fun s => mkE 49 [(0, .d (.sl (W.map hD))), (1, .d (.int .i64 t)), (2, .fn 82 []), (8, .d (.int .i64 W.length)), (9, .d (.int .i64 s.1)), (10, .d (.int .i64 s.2))]) (fun s => []) (fun s => s.1 ≤ s.2 ∧ s.2 ≤ W.length ∧ (∀ j x, W[j]? = some x → j < s.1 → x.to ≤ t) ∧ ∀ j x, W[j]? = some x → s.2 ≤ j → t < x.to) (fun s => s.2 - s.1) (0, W.length) ⟨by omega, by omega, by omega, fun j x hx hj => by have := some_lt hx; simp only at hj; omega⟩ (Wk.sub (by (simp only [go_sem]) <;> trivial)) ?_
  intro s hs
  obtain ⟨i1, i2, i3, i4⟩ := hs
  rcases Nat.lt_or_ge s.1 s.2 with h2 | h2
  · have f1 : decide ((s.1 : Int) < s.2) = true := by simp; omega
    have w1 : IntKind.i64.wrap ((s.1 : Int) + s.2) = ((s.1 + s.2 : Nat) : Int) := by rw [i64_in _ (by omega)]; simp
    obtain ⟨m, hm⟩ : ∃ m, m = (s.1 + s.2) / 2 := ⟨_, rfl⟩
    have w2 := mid (n := s.1 + s.2) (by omega)
    rw [← hm] at w2
    have w3 : IntKind.i64.wrap ((m : Int) + 1) = ((m + 1 : Nat) : Int) := by rw [i64_in _ (by omega)]; simp
    have n0 : (0 ≤ (1 : Int)) = True := eq_true (by omega)
    obtain ⟨x, hx⟩ : ∃ x, W[m]? = some x := ⟨W[m]'(by omega), List.getElem?_eq_getElem _⟩
    have n1 : (0 ≤ (m : Int) ∧ (m : Int) < W.length) = True := eq_true (by omega)
    have n2 : (m < W.length) = True := eq_true (by omega)
    have sp := inF_own x t
    simp only [hA] at sp
    simp (maxSteps := 4000000) -implicitDefEqProofs only [go_sem, f1, w1, w2, n0, n1, n2, hx, Option.some.injEq, forall_eq', and_true, true_and, Bool.not_true, Bool.not_false, decide_true, Nat.reduceAdd, Nat.reduceSub, Nat.reduceLT, Nat.reduceLeDiff, Nat.reduceEqDiff, ↓reduceIte]
    refine ecall0 _ sp (by simp only [go_sem]) (by simp only [go_sem]) ?_
    rcases Int.lt_or_le t x.to with q | q
    · have sg : sgn x t = 1 := by rw [sgn, if_neg (by omega)]
      have d : decide ((1 : Int) < 0) = false := rfl
      simp (maxSteps := 4000000) -implicitDefEqProofs only [go_sem, sg, d, Option.some.injEq, forall_eq', and_true, true_and, Bool.not_true, Bool.not_false, decide_true, Nat.reduceAdd, Nat.reduceSub, Nat.reduceLT, Nat.reduceLeDiff, Nat.reduceEqDiff, ↓reduceIte]
      exact .mk (s.1, m) ⟨by simp only; omega, by simp only; omega, i3, fun j y hy hj => by have := to_mono C hx hy hj; omega⟩ (by simp only; omega) (Wk.sub (by (simp only [go_sem]) <;> trivial))
    · have sg : sgn x t = -1 := by rw [sgn, if_pos q]
      have d : decide ((-1 : Int) < 0) = true := rfl
      simp (maxSteps := 4000000) -implicitDefEqProofs only [go_sem, sg, d, w3, Option.some.injEq, forall_eq', and_true, true_and, Bool.not_true, Bool.not_false, decide_true, Nat.reduceAdd, Nat.reduceSub, Nat.reduceLT, Nat.reduceLeDiff, Nat.reduceEqDiff, ↓reduceIte]
      exact .mk (m + 1, s.2) ⟨by simp only; omega, i2, fun j y hy hj => by have := to_mono C hy hx (by simp only at hj; omega); omega, i4⟩ (by simp only; omega) (Wk.sub (by (simp only [go_sem]) <;> trivial))
  have hidx : W.findIdx (fun w => decide (t < w.to)) = s.1 := by
    rcases Nat.lt_or_ge s.1 W.length with h3 | h3
    · have g := List.getElem?_eq_getElem h3
      refine (List.findIdx_eq h3).2 ⟨by simpa using i4 _ _ g (by omega), fun j hj => ?_⟩
      have := i3 j _ (List.getElem?_eq_getElem (by omega)) hj
      simp; omega
    · have : s.1 = W.length := by omega
      rw [this]
      refine List.findIdx_eq_length.2 fun x hx => ?_
      obtain ⟨j, hj⟩ := List.mem_iff_getElem?.1 hx
      have := i3 j x hj (by have := some_lt hj; omega)
      simp; omega
  have f1 : decide ((s.1 : Int) < s.2) = false := by simp; omega
  rcases Nat.lt_or_ge s.1 W.length with h3 | h3
  · have f2 : decide ((s.1 : Int) < W.length) = true := by simp; omega
    obtain ⟨x, hx⟩ : ∃ x, W[s.1]? = some x := ⟨W[s.1]'h3, List.getElem?_eq_getElem _⟩
    have n1 : (0 ≤ (s.1 : Int) ∧ (s.1 : Int) < W.length) = True := eq_true (by omega)
    have n2 : (s.1 < W.length) = True := eq_true (by omega)
    have sp := inF_own x t
    simp only [hA] at sp
    simp (maxSteps := 4000000) -implicitDefEqProofs only [go_sem, f1, f2, n1, n2, hx, Option.some.injEq, forall_eq', and_true, true_and, Bool.not_true, Bool.not_false, decide_true, Nat.reduceAdd, Nat.reduceSub, Nat.reduceLT, Nat.reduceLeDiff, Nat.reduceEqDiff, ↓reduceIte]
    refine ecall0 _ sp (by simp only [go_sem]) (by simp only [go_sem]) ?_
    have sg : (sgn x t == 0) = false := by unfold sgn; split <;> rfl
    simp (maxSteps := 4000000) -implicitDefEqProofs only [go_sem, sg, Option.some.injEq, forall_eq', and_true, true_and, Bool.not_true, Bool.not_false, decide_true, Nat.reduceAdd, Nat.reduceSub, Nat.reduceLT, Nat.reduceLeDiff, Nat.reduceEqDiff, ↓reduceIte]
    rw [hidx]
    exact wk_dat (r' := .tup [.d (.int .i64 s.1), .d (.bool false)]) (by simp only [go_sem]; rfl) rfl (by simp only [go_sem])
  · have f2 : decide ((s.1 : Int) < W.length) = false := by simp; omega
    simp (maxSteps := 4000000) -implicitDefEqProofs only [go_sem, f1, f2, Option.some.injEq, forall_eq', and_true, true_and, Bool.not_true, Bool.not_false, decide_true, Nat.reduceAdd, Nat.reduceSub, Nat.reduceLT, Nat.reduceLeDiff, Nat.reduceEqDiff, ↓reduceIte]
    rw [hidx]
    exact wk_dat (r' := .tup [.d (.int .i64 s.1), .d (.bool false)]) (by simp only [go_sem]; rfl) rfl (by simp only [go_sem])
end Go.AX.Wn
/- Windows: the program's functions. -/
set_option maxHeartbeats 8000000
set_option linter.unusedVariables false
set_option linter.unusedSimpArgs false
set_option maxRecDepth 20000
namespace Go.AX.Wn
open Go.Proofs Go.RowKit Go.IntWalk Go.AX.Br
theorem find_at_idx {p : Hd → Bool} : ∀ W : List Hd, W.find? p = W[W.findIdx p]?
  | [] => rfl
  | w :: W => by
    rw [List.find?_cons, List.findIdx_cons]
    cases h : p w with
    | true => simp
    | false => simp [find_at_idx W]
theorem in_own (W : List Hd) (t : Int) (C : Can W) (hW : W.length ≤ 16) : Spec Try.prog 50 [.d (.sl (W.map hD)), .d (.int .i64 t)] [] (.tup [hA (inR W t).1, .d (.bool (inR W t).2)]) [] := by
  have a1 := search_own W t C hW
  have e1 : look W t = W[W.findIdx fun w => decide (t < w.to)]? := find_at_idx W
  obtain ⟨i, hi⟩ : ∃ i, i = W.findIdx fun w => decide (t < w.to) := ⟨_, rfl⟩
  rw [← hi] at a1 e1
  have hil : i ≤ W.length := by rw [hi]; exact List.findIdx_le_length
  refine spec_of_ev (fn := Try.f50) DX_ok 3000 Try.func50 rfl rfl (Nat.le_of_ble_eq_true rfl) ?_
  simp (maxSteps := 4000000) -implicitDefEqProofs only [Try.f50, go_sem]
  refine ecall0 _ a1 (by simp only [go_sem]) (by simp only [go_sem]) ?_
  rcases Nat.lt_or_ge i W.length with h2 | h2
  · have f1 : ((i : Int) == W.length) = false := by simp; omega
    obtain ⟨w, hw⟩ : ∃ x, W[i]? = some x := ⟨W[i]'h2, List.getElem?_eq_getElem _⟩
    have n1 : (0 ≤ (i : Int) ∧ (i : Int) < W.length) = True := eq_true (by omega)
    have n2 : (i < W.length) = True := eq_true (by omega)
    have e2 : inR W t = (w, decide (w.fr ≤ t)) := by rw [inR, e1, hw]
    simp (maxSteps := 4000000) -implicitDefEqProofs only [go_sem, f1, Option.some.injEq, forall_eq', and_true, true_and, Bool.not_true, Bool.not_false, decide_true, Nat.reduceAdd, Nat.reduceSub, Nat.reduceLT, Nat.reduceLeDiff, Nat.reduceEqDiff, ↓reduceIte]
    refine DX.plain (.take 0 false (.take 1 false (.take 2 false (.take 3 false (.take 4 true (.take 5 true (.take 6 true (.take 7 true (.take 8 true (.take 9 true (.take 10 true (.run [11] (fun _ => [true, true, true, true, true, true, true]) fun _ => (.run [12] (fun _ => [false, false, false, false, false, false, false]) fun _ => .done))))))))))))) (by kernel_rfl) (by kernel_rfl) Ty.mixed ?_
    simp (maxSteps := 4000000) -implicitDefEqProofs only [go_sem, n1, n2, hw, Option.some.injEq, forall_eq', and_true, true_and, Bool.not_true, Bool.not_false, decide_true, Nat.reduceAdd, Nat.reduceSub, Nat.reduceLT, Nat.reduceLeDiff, Nat.reduceEqDiff, ↓reduceIte]
    refine ⟨⟨hD w, by rw [List.getElem?_map, hw]; rfl, rfl, rfl⟩, ?_⟩
    rw [e2]
    exact wk_dat (r' := .tup [hA w, .d (.bool (decide (w.fr ≤ t)))]) (by simp only [go_sem]; rfl) rfl (by simp only [go_sem])
  · have f1 : ((i : Int) == W.length) = true := by simp; omega
    have e2 : inR W t = (endH, false) := by rw [inR, e1, List.getElem?_eq_none h2]
    simp (maxSteps := 4000000) -implicitDefEqProofs only [go_sem, f1, Option.some.injEq, forall_eq', and_true, true_and, Bool.not_true, Bool.not_false, decide_true, Nat.reduceAdd, Nat.reduceSub, Nat.reduceLT, Nat.reduceLeDiff, Nat.reduceEqDiff, ↓reduceIte]
    rw [e2]
    exact wk_dat (r' := .tup [hA endH, .d (.bool false)]) (by simp only [go_sem, endH]; rfl) rfl (by simp only [go_sem])
def frozenR (l : List Hd) (b : ByteArray) (t : Int) : Bool × Int := if asked l [t] ≠ 0 then (false, asked l [t]) else (held l b t, 0)
def whyL (b : ByteArray) (t : Int) (l : List Hd) : List ByteArray := (l.filter (holds b t)).map (·.rs)
def whyR (l : List Hd) (b : ByteArray) (t : Int) : List ByteArray × Int := if asked l [t] ≠ 0 then ([], asked l [t]) else (whyL b t l, 0)
def fitRR (l : List Hd) (b : ByteArray) (t n : Int) : Int × Int := if asked l [t] ≠ 0 then (0, asked l [t]) else if n < 1 then (0, 2) else fitR (winL l b) t n
def slackR (l : List Hd) (b : ByteArray) (f t : Int) : Int × Int := if asked l [f, t] ≠ 0 then (0, asked l [f, t]) else if t < f then (0, 2) else (slR (winL l b) f t, 0)
def windowsR (l : List Hd) (b : ByteArray) : List Hd × Int := if wcheck l ≠ 0 then ([], wcheck l) else (winL l b, 0)
theorem asked_ok {l : List Hd} {ts : List Int} (h : asked l ts = 0) : wcheck l = 0 ∧ ∀ t ∈ ts, 0 ≤ t ∧ t ≤ 1000000 := by
  unfold asked at h
  split at h
  · omega
  · next h1 =>
    split at h
    · omega
    · next h2 =>
      refine ⟨by omega, fun t ht => ?_⟩
      have h2 : ts.any badT = false := by simpa using h2
      have := List.any_eq_false.1 h2 t ht
      simp only [badT, Bool.or_eq_true, decide_eq_true_eq, not_or] at this
      omega
theorem frozen_own (l : List Hd) (b : ByteArray) (t : Int) (hl : Sm l.length) : Spec Try.prog 19 [.d (.sl (l.map hD)), .d (.str b), .d (.int .i64 t)] [] (.tup [.d (.bool (frozenR l b t).1), .d (.int .i64 (frozenR l b t).2)]) [] := by
  have a1 := asked_own l [t] hl (by unfold Sm; simp)
  simp only [List.map_cons, List.map_nil, iD] at a1
  refine spec_of_ev (fn := Try.f19) DX_ok 3000 Try.func19 rfl rfl (Nat.le_of_ble_eq_true rfl) ?_
  simp (maxSteps := 4000000) -implicitDefEqProofs only [Try.f19, go_sem]
  simp (maxSteps := 4000000) -implicitDefEqProofs only [go_sem, Nat.reduceAdd, Nat.reduceSub, Nat.reduceLT, Nat.reduceLeDiff, Nat.reduceEqDiff, ↓reduceIte]
  try refine ⟨by omega, ?_⟩
  refine ECall.dat (by simp only [go_sem]; rfl) (by rfl) ?_
  refine ecall0 _ a1 (by simp only [go_sem]) (by simp only [go_sem]) ?_
  by_cases h1 : asked l [t] = 0
  case neg =>
    have d1 : (asked l [t] != 0) = true := by simp [h1]
    have e : frozenR l b t = (false, asked l [t]) := by rw [frozenR, if_pos h1]
    simp (maxSteps := 4000000) -implicitDefEqProofs only [go_sem, d1, Option.some.injEq, forall_eq', and_true, true_and, Bool.not_true, Bool.not_false, decide_true, Nat.reduceAdd, Nat.reduceSub, Nat.reduceLT, Nat.reduceLeDiff, Nat.reduceEqDiff, ↓reduceIte]
    rw [e]
    exact wk_dat (r' := .tup [.d (.bool false), .d (.int .i64 (asked l [t]))]) (by simp only [go_sem]; rfl) rfl (by simp only [go_sem])
  have d1 : (asked l [t] != 0) = false := by simp [h1]
  have O := okw b (asked_ok h1).1
  have wl := winL_len l b
  have ol := O.len
  have e : frozenR l b t = ((inR (winL l b) t).2, 0) := by
    rw [frozenR, if_neg (by omega)]
    congr 1
    rw [Bool.eq_iff_iff, in_cov O.can, O.heldC]
  simp (maxSteps := 4000000) -implicitDefEqProofs only [go_sem, d1, Option.some.injEq, forall_eq', and_true, true_and, Bool.not_true, Bool.not_false, decide_true, Nat.reduceAdd, Nat.reduceSub, Nat.reduceLT, Nat.reduceLeDiff, Nat.reduceEqDiff, ↓reduceIte]
  refine ecall0 _ (windows_own l b O) (by simp only [go_sem]) (by simp only [go_sem]) ?_
  simp (maxSteps := 4000000) -implicitDefEqProofs only [go_sem, Nat.reduceAdd, Nat.reduceSub, Nat.reduceLT, Nat.reduceLeDiff, Nat.reduceEqDiff, ↓reduceIte]
  refine ecall0 _ (in_own (winL l b) t O.can (by omega)) (by simp only [go_sem]) (by simp only [go_sem]) ?_
  simp (maxSteps := 4000000) -implicitDefEqProofs only [go_sem, Nat.reduceAdd, Nat.reduceSub, Nat.reduceLT, Nat.reduceLeDiff, Nat.reduceEqDiff, ↓reduceIte]
  rw [e]
  exact wk_dat (r' := .tup [.d (.bool (inR (winL l b) t).2), .d (.int .i64 0)]) (by simp only [go_sem]; rfl) rfl (by simp only [go_sem])
theorem in_bounds {l : List Hd} {b : ByteArray} (O : Okw l b) (t : Int) : (inR (winL l b) t).1 = endH ∧ (inR (winL l b) t).2 = false ∧ look (winL l b) t = none ∨ ∃ w, look (winL l b) t = some w ∧ inR (winL l b) t = (w, decide (w.fr ≤ t)) ∧ w ∈ winL l b ∧ t < w.to := by
  unfold inR
  cases h : look (winL l b) t with
  | none => exact .inl ⟨rfl, rfl, rfl⟩
  | some w =>
    obtain ⟨_, _, _, _, q, _, _, _, hm⟩ := look_some O.can h
    exact .inr ⟨w, rfl, rfl, hm, q⟩
theorem fit_own (l : List Hd) (b : ByteArray) (t n : Int) (hl : Sm l.length) : Spec Try.prog 67 [.d (.sl (l.map hD)), .d (.str b), .d (.int .i64 t), .d (.int .i64 n)] [] (.tup [.d (.int .i64 (fitRR l b t n).1), .d (.int .i64 (fitRR l b t n).2)]) [] := by
  have a1 := asked_own l [t] hl (by unfold Sm; simp)
  simp only [List.map_cons, List.map_nil, iD] at a1
  refine spec_of_ev (fn := Try.f67) DX_ok 3000 Try.func67 rfl rfl (Nat.le_of_ble_eq_true rfl) ?_
  simp (maxSteps := 4000000) -implicitDefEqProofs only [Try.f67, go_sem]
  simp (maxSteps := 4000000) -implicitDefEqProofs only [go_sem, Nat.reduceAdd, Nat.reduceSub, Nat.reduceLT, Nat.reduceLeDiff, Nat.reduceEqDiff, ↓reduceIte]
  try refine ⟨by omega, ?_⟩
  refine ECall.dat (by simp only [go_sem]; rfl) (by rfl) ?_
  refine ecall0 _ a1 (by simp only [go_sem]) (by simp only [go_sem]) ?_
  by_cases h1 : asked l [t] = 0
  case neg =>
    have d1 : (asked l [t] != 0) = true := by simp [h1]
    have e : fitRR l b t n = (0, asked l [t]) := by rw [fitRR, if_pos h1]
    simp (maxSteps := 4000000) -implicitDefEqProofs only [go_sem, d1, Option.some.injEq, forall_eq', and_true, true_and, Bool.not_true, Bool.not_false, decide_true, Nat.reduceAdd, Nat.reduceSub, Nat.reduceLT, Nat.reduceLeDiff, Nat.reduceEqDiff, ↓reduceIte]
    rw [e]
    exact wk_dat (r' := .tup [.d (.int .i64 0), .d (.int .i64 (asked l [t]))]) (by simp only [go_sem]; rfl) rfl (by simp only [go_sem])
  have d1 : (asked l [t] != 0) = false := by simp [h1]
  rcases Int.lt_or_le n 1 with h2 | h2
  · have d2 : decide (n < 1) = true := decide_eq_true h2
    have e : fitRR l b t n = (0, 2) := by rw [fitRR, if_neg (by omega), if_pos h2]
    simp (maxSteps := 4000000) -implicitDefEqProofs only [go_sem, d1, d2, Option.some.injEq, forall_eq', and_true, true_and, Bool.not_true, Bool.not_false, decide_true, Nat.reduceAdd, Nat.reduceSub, Nat.reduceLT, Nat.reduceLeDiff, Nat.reduceEqDiff, ↓reduceIte]
    rw [e]
    exact wk_dat (r' := .tup [.d (.int .i64 0), .d (.int .i64 2)]) (by simp only [go_sem]; rfl) rfl (by simp only [go_sem])
  have d2 : decide (n < 1) = false := decide_eq_false (by omega)
  have e : fitRR l b t n = fitR (winL l b) t n := by rw [fitRR, if_neg (by omega), if_neg (by omega)]
  obtain ⟨g1, g2⟩ := asked_ok h1
  have ht := g2 t (by simp)
  have O := okw b g1
  have wl := winL_len l b
  have ol := O.len
  simp (maxSteps := 4000000) -implicitDefEqProofs only [go_sem, d1, d2, Option.some.injEq, forall_eq', and_true, true_and, Bool.not_true, Bool.not_false, decide_true, Nat.reduceAdd, Nat.reduceSub, Nat.reduceLT, Nat.reduceLeDiff, Nat.reduceEqDiff, ↓reduceIte]
  refine ecall0 _ (windows_own l b O) (by simp only [go_sem]) (by simp only [go_sem]) ?_
  simp (maxSteps := 4000000) -implicitDefEqProofs only [go_sem, Nat.reduceAdd, Nat.reduceSub, Nat.reduceLT, Nat.reduceLeDiff, Nat.reduceEqDiff, ↓reduceIte]
  rw [e]
  obtain ⟨F, hF⟩ : ∃ F, F = fitR (winL l b) t n := ⟨_, rfl⟩
  rw [← hF]
  refine eloop (S := Int) (fun s => mkE 50 [(2, .d (.int .i64 s)), (3, .d (.int .i64 n)), (11, .d (.sl ((winL l b).map hD)))]) (fun _ => []) (fun s => 0 ≤ s ∧ s ≤ 1000000 ∧ fitR (winL l b) s n = F) (fun s => 2 * (late (winL l b) s).length + 1) t ⟨ht.1, ht.2, hF.symm⟩ (Wk.forget (by (simp only [go_sem]) <;> trivial) (by simp only [go_sem])) ?_
  intro s hs
  obtain ⟨s1, s2, s3⟩ := hs
  have a2 := in_own (winL l b) s O.can (by omega)
  rcases in_bounds O s with ⟨b1, b2, b3⟩ | ⟨w, b1, b2, b3, b4⟩
  · rw [b1, b2] at a2
    have w1 : IntKind.i64.wrap ((1000001 : Int) - s) = 1000001 - s := i64_in _ (by omega)
    have fe := fit_end (n := n) b3
    rw [s3] at fe
    simp only [endH, hA] at a2
    simp (maxSteps := 4000000) -implicitDefEqProofs only [go_sem, Nat.reduceAdd, Nat.reduceSub, Nat.reduceLT, Nat.reduceLeDiff, Nat.reduceEqDiff, ↓reduceIte]
    refine ecall0 _ a2 (by simp only [go_sem]) (by simp only [go_sem]) ?_
    rcases Int.lt_or_le (1000001 - s) n with q | q
    · have d3 : decide (n ≤ 1000001 - s) = false := decide_eq_false (by omega)
      have d4 : decide ((1000000 : Int) < 1000001) = true := rfl
      rw [if_neg (by omega)] at fe
      subst fe
      simp (maxSteps := 4000000) -implicitDefEqProofs only [go_sem, w1, d3, d4, Option.some.injEq, forall_eq', and_true, true_and, Bool.not_true, Bool.not_false, decide_true, Nat.reduceAdd, Nat.reduceSub, Nat.reduceLT, Nat.reduceLeDiff, Nat.reduceEqDiff, ↓reduceIte]
      exact wk_dat (r' := .tup [.d (.int .i64 0), .d (.int .i64 6)]) (by simp only [go_sem]; rfl) rfl (by simp only [go_sem])
    · have d3 : decide (n ≤ 1000001 - s) = true := decide_eq_true q
      rw [if_pos q] at fe
      subst fe
      simp (maxSteps := 4000000) -implicitDefEqProofs only [go_sem, w1, d3, Option.some.injEq, forall_eq', and_true, true_and, Bool.not_true, Bool.not_false, decide_true, Nat.reduceAdd, Nat.reduceSub, Nat.reduceLT, Nat.reduceLeDiff, Nat.reduceEqDiff, ↓reduceIte]
      exact wk_dat (r' := .tup [.d (.int .i64 s), .d (.int .i64 0)]) (by simp only [go_sem]; rfl) rfl (by simp only [go_sem])
  · rw [b2] at a2
    have wb := O.bounds b3
    have hlt := late_lt O.can b1
    simp only [hA] at a2
    have w1 : IntKind.i64.wrap (w.fr - s) = w.fr - s := i64_in _ (by omega)
    simp (maxSteps := 4000000) -implicitDefEqProofs only [go_sem, Nat.reduceAdd, Nat.reduceSub, Nat.reduceLT, Nat.reduceLeDiff, Nat.reduceEqDiff, ↓reduceIte]
    refine ecall0 _ a2 (by simp only [go_sem]) (by simp only [go_sem]) ?_
    rcases Int.lt_or_le s w.fr with q | q
    · have d3 : decide (w.fr ≤ s) = false := decide_eq_false (by omega)
      rcases Int.lt_or_le (w.fr - s) n with p | p
      · have d4 : decide (n ≤ w.fr - s) = false := decide_eq_false (by omega)
        have d5 : decide ((1000000 : Int) < w.fr) = false := decide_eq_false (by omega)
        have fn := fit_no O.can b1 q p
        simp (maxSteps := 4000000) -implicitDefEqProofs only [go_sem, d3, w1, d4, d5, Option.some.injEq, forall_eq', and_true, true_and, Bool.not_true, Bool.not_false, decide_true, Nat.reduceAdd, Nat.reduceSub, Nat.reduceLT, Nat.reduceLeDiff, Nat.reduceEqDiff, ↓reduceIte]
        exact .mk w.to ⟨by omega, by omega, by rw [← fn, s3]⟩ (by omega) (Wk.forget (by (simp only [go_sem]) <;> trivial) (by simp only [go_sem]))
      · have d4 : decide (n ≤ w.fr - s) = true := decide_eq_true p
        have fy := fit_yes O.can b1 q p
        rw [s3] at fy
        subst fy
        simp (maxSteps := 4000000) -implicitDefEqProofs only [go_sem, d3, w1, d4, Option.some.injEq, forall_eq', and_true, true_and, Bool.not_true, Bool.not_false, decide_true, Nat.reduceAdd, Nat.reduceSub, Nat.reduceLT, Nat.reduceLeDiff, Nat.reduceEqDiff, ↓reduceIte]
        exact wk_dat (r' := .tup [.d (.int .i64 s), .d (.int .i64 0)]) (by simp only [go_sem]; rfl) rfl (by simp only [go_sem])
    · have d3 : decide (w.fr ≤ s) = true := decide_eq_true q
      have fh := fit_held (n := n) O.can b1 q
      simp (maxSteps := 4000000) -implicitDefEqProofs only [go_sem, d3, Option.some.injEq, forall_eq', and_true, true_and, Bool.not_true, Bool.not_false, decide_true, Nat.reduceAdd, Nat.reduceSub, Nat.reduceLT, Nat.reduceLeDiff, Nat.reduceEqDiff, ↓reduceIte]
      exact .mk w.to ⟨by omega, by omega, by rw [← fh, s3]⟩ (by omega) (Wk.forget (by (simp only [go_sem]) <;> trivial) (by simp only [go_sem]))
theorem next_own (l : List Hd) (b : ByteArray) (t : Int) (hl : Sm l.length) : Spec Try.prog 24 [.d (.sl (l.map hD)), .d (.str b), .d (.int .i64 t)] [] (.tup [.d (.int .i64 (fitRR l b t 1).1), .d (.int .i64 (fitRR l b t 1).2)]) [] := by
  have a1 := fit_own l b t 1 hl
  obtain ⟨F, hF⟩ : ∃ F, F = fitRR l b t 1 := ⟨_, rfl⟩
  rw [← hF] at a1 ⊢
  refine spec_of_ev (fn := Try.f24) DX_ok 3000 Try.func24 rfl rfl (Nat.le_of_ble_eq_true rfl) ?_
  simp (maxSteps := 4000000) -implicitDefEqProofs only [Try.f24, go_sem]
  refine ecall0 _ a1 (by simp only [go_sem]) (by simp only [go_sem]) ?_
  simp (maxSteps := 4000000) -implicitDefEqProofs only [go_sem, Nat.reduceAdd, Nat.reduceSub, Nat.reduceLT, Nat.reduceLeDiff, Nat.reduceEqDiff, ↓reduceIte]
  exact wk_dat (r' := .tup [.d (.int .i64 F.1), .d (.int .i64 F.2)]) (by simp only [go_sem]; rfl) rfl (by simp only [go_sem])
end Go.AX.Wn
/- Windows: why, slack; the reference's functions. -/
set_option maxHeartbeats 8000000
set_option linter.unusedVariables false
set_option linter.unusedSimpArgs false
set_option maxRecDepth 20000
namespace Go.AX.Wn
open Go.Proofs Go.RowKit Go.IntWalk Go.AX.Br
/-! ### plain -/
theorem Can.end_open {W : List Hd} (C : Can W) {w : Hd} (hw : w ∈ W) : ¬ cov W w.to := by
  rintro ⟨y, y1, y2, y3⟩
  obtain ⟨A, B, hs⟩ := List.append_of_mem hw
  have c1 := C.1
  have cw := C.2 w hw
  rw [hs] at c1 y1
  obtain ⟨_, p2, p3⟩ := List.pairwise_append.1 c1
  rcases List.mem_append.1 y1 with y1 | y1
  · have := p3 y y1 w (by simp); omega
  rcases List.mem_cons.1 y1 with rfl | y1
  · omega
  · have := (List.pairwise_cons.1 p2).1 y y1; omega
def atK (W : List Hd) (k : Nat) : Int := match W[k]? with
  | some w => w.fr
  | none => 1000001
section
variable {l : List Hd} {b : ByteArray} (O : Okw l b)
include O
end
/-! ### the program's -/
def rest (W : List Hd) (f t : Int) : Int := if f < t then slR W f t else 0
end Go.AX.Wn
/- Windows: the reference's functions. -/
set_option maxHeartbeats 8000000
set_option linter.unusedVariables false
set_option linter.unusedSimpArgs false
set_option maxRecDepth 20000
namespace Go.AX.Wn
open Go.Proofs Go.RowKit Go.IntWalk Go.AX.Br
end Go.AX.Wn
/- Windows: the reference's windows, slack, fit, next. -/
set_option maxHeartbeats 8000000
set_option linter.unusedVariables false
set_option linter.unusedSimpArgs false
set_option maxRecDepth 20000
namespace Go.AX.Wn
open Go.Proofs Go.RowKit Go.IntWalk Go.AX.Br
def rsn (b : ByteArray) (t : Int) (l : List Hd) : ByteArray := match l.find? (holds b t) with
  | some h => h.rs
  | none => ByteArray.empty
/-- the next open tick is a fit of one -/
theorem fit_one {l : List Hd} {b : ByteArray} (O : Okw l b) {t : Int} (ht : 0 ≤ t ∧ t ≤ 1000000) : fitR (winL l b) t 1 = (nextW (winL l b) t, 0) := by
  have open_ : ∀ s, 0 ≤ s → s ≤ 1000000 → ¬ cov (winL l b) s → fitR (winL l b) s 1 = (s, 0) := fun s s1 s2 hc => by
    cases h : look (winL l b) s with
    | none => rw [fit_end h, if_pos (by omega)]
    | some w =>
      have : s < w.fr := by
        rcases Int.lt_or_le s w.fr with q | q
        · exact q
        · exact absurd ((look_cov O.can h).2 q) hc
      exact fit_yes O.can h this (by omega)
  unfold nextW
  cases h : look (winL l b) t with
  | none => exact open_ t ht.1 ht.2 (none_cov h)
  | some w =>
    obtain ⟨_, _, _, _, q, _, _, _, hm⟩ := look_some O.can h
    have := O.bounds hm
    simp only
    split
    · next hw => rw [fit_held O.can h hw]; exact open_ _ (by omega) (by omega) (O.can.end_open hm)
    · next hw => exact open_ t ht.1 ht.2 fun hc => hw ((look_cov O.can h).1 hc)
end Go.AX.Wn

/- Ledgers: copied; one branch's events in the call's own. -/
import Derived.Test.YtejipcfaedookaaGreatK6
import Derived.KernelRfl
import Derived.Test.YtejipcfaedookaaGreatRows
set_option maxHeartbeats 8000000
set_option linter.unusedVariables false
set_option linter.unusedSimpArgs false
set_option maxRecDepth 20000
namespace Go.AX.Lg
open Go.Proofs Go.RowKit Go.IntWalk Go.AX.Br
theorem esDx_len (l : List (List Ev)) : (∀ e ∈ l.map esD, e.length = 1) = True := esD_len
def inn (i j : Nat) (s : List Ev) : AObj := if i < j then .vec 2 (upD (s.map eD)) else .gone
theorem inn_t {i j : Nat} {s : List Ev} (h : i < j) : inn i j s = .vec 2 (upD (s.map eD)) := if_pos h
theorem inn_f {i j : Nat} {s : List Ev} (h : ¬ i < j) : inn i j s = .gone := if_neg h
theorem inn_ren {f : Nat → Nat} {i j : Nat} {s : List Ev} : renO f (inn i j s) = inn i j s := by
  unfold inn
  split
  · simp only [renO, renss_up]
  · rfl
theorem inn_bd {k : Nat} {i j : Nat} {s : List Ev} : bdO k (inn i j s) = True := by
  unfold inn
  split
  · simp only [bdO, bdss_up]
  · rfl
theorem inn_wk {i j : Nat} {s : List Ev} : wkO (inn i j s) (inn i j s) = True := eq_true (wkO_refl _)
attribute [go_sem ↓] inn_ren inn_bd inn_wk
def evX (l : Lg) (j : Nat) : List (List D) := (l.ev.take j).map esD
theorem evX_len {l : Lg} {j : Nat} (h : j ≤ l.ev.length) : (evX l j).length = j := by simp [evX]; omega
theorem evX_S {l : Lg} {j : Nat} {s : List Ev} (h : l.ev[j]? = some s) : evX l (j + 1) = evX l j ++ [[.sl (s.map eD)]] := by
  unfold evX
  rw [List.take_add_one, h]; simp [esD]
theorem evX_all {l : Lg} : evX l l.ev.length = l.ev.map esD := by simp [evX]
theorem evX_sz {l : Lg} {j : Nat} : (∀ e ∈ evX l j, e.length = 1) = True := esDx_len _
def zL : AObj := .cells [.nil, .nil, .nil]
attribute [go_sem] evX_sz zL
def cl0 (l : Lg) : List AObj := [lH l, zL, .cells [.own 3, .own 4, .nil], .row 2 (l.kn.map kD), .row 3 (l.br.map bD)]
theorem clone_lownI (l : Lg) (q : Nat) (t : List Ev) (hq : l.ev[q]? = some t) (hk : l.kn.length ≤ 1000) (hb : l.br.length ≤ 1000) (he : l.ev.length ≤ 1000) (hs : ∀ s ∈ l.ev, s.length ≤ 1000) :
    Spec Tryz.prog 112 [lA l] [] (.agg [.d (.sl (l.kn.map kD)), .d (.sl (l.br.map bD)), .own 0]) [.vec 1 (vset (l.ev.map esD) q 1), .vec 2 (upD (t.map eD))] := by
  have c1 := clone_kn l.kn hk
  have c2 := clone_br l.br hb
  have hql := some_lt hq
  refine spec_of_ev (fn := Tryz.f112) DX_ok 3000 Tryz.func112 rfl rfl (Nat.le_of_ble_eq_true rfl) ?_
  simp (maxSteps := 4000000) -implicitDefEqProofs only [Tryz.f112, go_sem, lA]
  refine DX.join (mkE 29 [(1, .ptr 0 0), (2, .ptr 1 0), (3, .ptr 2 0)]) (cl0 l)
    (.take 0 true (.take 1 true (.take 3 true (.take 4 true (.run [2, 7] (fun i => if i = 2 then [true, true, false, false] else [true, true, true, true]) fun i => if i = 2 then
      (.run [5, 7] (fun i => if i = 5 then [false, false] else [true, true]) fun i => if i = 5 then (.take 6 true (.run [7] (fun _ => [true]) fun _ => .run [8] (fun _ => [false]) fun _ => .done)) else (.run [5] (fun _ => [false, false]) fun _ => .take 6 false (.run [8] (fun _ => []) fun _ => .done)))
      else (.run [2] (fun _ => [true, true, false, false]) fun _ => .run [5] (fun _ => [false, false]) fun _ => .take 6 false (.run [8] (fun _ => []) fun _ => .done))))))) (by kernel_rfl) (by kernel_rfl) Ty.mixed ?_ ?_
  · simp (maxSteps := 4000000) -implicitDefEqProofs only [go_sem, cl0, Option.some.injEq, forall_eq', and_true, true_and, Bool.not_true, Bool.not_false, decide_true, Nat.reduceAdd, Nat.reduceSub, Nat.reduceLT, Nat.reduceLeDiff, Nat.reduceEqDiff, ↓reduceIte]
    refine ⟨⟨_, _, c1.liftN _ (by simp only [go_sem]), ?_⟩, ?_⟩
    · simp (maxSteps := 4000000) -implicitDefEqProofs only [go_sem, Nat.reduceAdd, Nat.reduceSub, Nat.reduceLT, Nat.reduceLeDiff, Nat.reduceEqDiff, ↓reduceIte]
      refine ⟨⟨_, _, c2.liftN _ (by simp only [go_sem]), ?_⟩, ?_⟩
      · simp (maxSteps := 4000000) -implicitDefEqProofs only [go_sem, Nat.reduceAdd, Nat.reduceSub, Nat.reduceLT, Nat.reduceLeDiff, Nat.reduceEqDiff, ↓reduceIte]
        exact (Wk.via [0, 1, 4, 2, 3] (by (simp only [go_sem, ↓reduceIte]) <;> trivial) (by first | (simp (maxSteps := 4000000) -implicitDefEqProofs only [go_sem, Nat.reduceAdd, Nat.reduceSub, Nat.reduceLT, Nat.reduceLeDiff, Nat.reduceEqDiff, ↓reduceIte]; done) | ((simp (maxSteps := 4000000) -implicitDefEqProofs only [go_sem, Nat.reduceAdd, Nat.reduceSub, Nat.reduceLT, Nat.reduceLeDiff, Nat.reduceEqDiff, ↓reduceIte]) <;> omega)) (by simp) (by first | (simp; done) | (simp [so]; done)) (by (simp (maxSteps := 4000000) -implicitDefEqProofs only [go_sem, Nat.reduceAdd, Nat.reduceSub, Nat.reduceLT, Nat.reduceLeDiff, Nat.reduceEqDiff, ↓reduceIte]) <;> trivial) (by first | (simp only [go_sem]; done) | ((simp (maxSteps := 4000000) -implicitDefEqProofs only [go_sem, Nat.reduceAdd, Nat.reduceSub, Nat.reduceLT, Nat.reduceLeDiff, Nat.reduceEqDiff, ↓reduceIte]) <;> omega)) (Nat.zero_le _) (fun i h => absurd h (Nat.not_lt_zero i)))
      · refine ⟨_, _, c2.liftN _ (by simp only [go_sem]), ?_⟩
        simp (maxSteps := 4000000) -implicitDefEqProofs only [go_sem, Nat.reduceAdd, Nat.reduceSub, Nat.reduceLT, Nat.reduceLeDiff, Nat.reduceEqDiff, ↓reduceIte]
        exact (Wk.via [0, 1, 3, 2, 4] (by (simp only [go_sem, ↓reduceIte]) <;> trivial) (by first | (simp (maxSteps := 4000000) -implicitDefEqProofs only [go_sem, Nat.reduceAdd, Nat.reduceSub, Nat.reduceLT, Nat.reduceLeDiff, Nat.reduceEqDiff, ↓reduceIte]; done) | ((simp (maxSteps := 4000000) -implicitDefEqProofs only [go_sem, Nat.reduceAdd, Nat.reduceSub, Nat.reduceLT, Nat.reduceLeDiff, Nat.reduceEqDiff, ↓reduceIte]) <;> omega)) (by simp) (by first | (simp; done) | (simp [so]; done)) (by (simp (maxSteps := 4000000) -implicitDefEqProofs only [go_sem, Nat.reduceAdd, Nat.reduceSub, Nat.reduceLT, Nat.reduceLeDiff, Nat.reduceEqDiff, ↓reduceIte]) <;> trivial) (by first | (simp only [go_sem]; done) | ((simp (maxSteps := 4000000) -implicitDefEqProofs only [go_sem, Nat.reduceAdd, Nat.reduceSub, Nat.reduceLT, Nat.reduceLeDiff, Nat.reduceEqDiff, ↓reduceIte]) <;> omega)) (Nat.zero_le _) (fun i h => absurd h (Nat.not_lt_zero i)))
    · refine ⟨_, _, c1.liftN _ (by simp only [go_sem]), ?_⟩
      simp (maxSteps := 4000000) -implicitDefEqProofs only [go_sem, Nat.reduceAdd, Nat.reduceSub, Nat.reduceLT, Nat.reduceLeDiff, Nat.reduceEqDiff, ↓reduceIte]
      refine ⟨_, _, c2.liftN _ (by simp only [go_sem]), ?_⟩
      simp (maxSteps := 4000000) -implicitDefEqProofs only [go_sem, Nat.reduceAdd, Nat.reduceSub, Nat.reduceLT, Nat.reduceLeDiff, Nat.reduceEqDiff, ↓reduceIte]
      exact (Wk.via [0, 1, 2, 3, 4] (by (simp only [go_sem, ↓reduceIte]) <;> trivial) (by first | (simp (maxSteps := 4000000) -implicitDefEqProofs only [go_sem, Nat.reduceAdd, Nat.reduceSub, Nat.reduceLT, Nat.reduceLeDiff, Nat.reduceEqDiff, ↓reduceIte]; done) | ((simp (maxSteps := 4000000) -implicitDefEqProofs only [go_sem, Nat.reduceAdd, Nat.reduceSub, Nat.reduceLT, Nat.reduceLeDiff, Nat.reduceEqDiff, ↓reduceIte]) <;> omega)) (by simp) (by first | (simp; done) | (simp [so]; done)) (by (simp (maxSteps := 4000000) -implicitDefEqProofs only [go_sem, Nat.reduceAdd, Nat.reduceSub, Nat.reduceLT, Nat.reduceLeDiff, Nat.reduceEqDiff, ↓reduceIte]) <;> trivial) (by first | (simp only [go_sem]; done) | ((simp (maxSteps := 4000000) -implicitDefEqProofs only [go_sem, Nat.reduceAdd, Nat.reduceSub, Nat.reduceLT, Nat.reduceLeDiff, Nat.reduceEqDiff, ↓reduceIte]) <;> omega)) (Nat.zero_le _) (fun i h => absurd h (Nat.not_lt_zero i)))
  simp (maxSteps := 4000000) -implicitDefEqProofs only [go_sem, cl0, Option.some.injEq, forall_eq', and_true, true_and, Bool.not_true, Bool.not_false, decide_true, Nat.reduceAdd, Nat.reduceSub, Nat.reduceLT, Nat.reduceLeDiff, Nat.reduceEqDiff, ↓reduceIte]
  refine eloop (S := Nat) (fun i => mkE 29 [(1, .ptr 0 0), (2, .ptr 1 0), (3, .ptr 2 0), (14, .d (.sl (l.ev.map esD))), (15, .d (.int .i64 l.ev.length)), (16, .d (.int .i64 i))]) (fun i => [lH l, zL, .cells [.own 3, .own 4, .own 5], .row 2 (l.kn.map kD), .row 3 (l.br.map bD), .vec 1 (vset (evX l i) q 6), inn q i t]) (fun i => i ≤ l.ev.length) (fun i => l.ev.length - i) 0 (by omega) ?_ ?_
  · refine Wk.trans (Wk.nilC 2 2 1 rfl rfl) (Wk.trans (Wk.rowv 5 rfl) ?_)
    rw [vset_nil (es := evX l 0) (i := q) (k := 6) (by simp [evX]), inn_f (by omega)]
    refine Wk.trans (Wk.more) ?_
    exact (Wk.via [0, 1, 2, 3, 4, 5, 6] (by (simp only [go_sem, ↓reduceIte]) <;> trivial) (by first | (simp (maxSteps := 4000000) -implicitDefEqProofs only [go_sem, Nat.reduceAdd, Nat.reduceSub, Nat.reduceLT, Nat.reduceLeDiff, Nat.reduceEqDiff, ↓reduceIte]; done) | ((simp (maxSteps := 4000000) -implicitDefEqProofs only [go_sem, Nat.reduceAdd, Nat.reduceSub, Nat.reduceLT, Nat.reduceLeDiff, Nat.reduceEqDiff, ↓reduceIte]) <;> omega)) (by simp) (by first | (simp; done) | (simp [so]; done)) (by (simp (maxSteps := 4000000) -implicitDefEqProofs only [go_sem, Nat.reduceAdd, Nat.reduceSub, Nat.reduceLT, Nat.reduceLeDiff, Nat.reduceEqDiff, ↓reduceIte]) <;> trivial) (by first | (simp only [go_sem]; done) | ((simp (maxSteps := 4000000) -implicitDefEqProofs only [go_sem, Nat.reduceAdd, Nat.reduceSub, Nat.reduceLT, Nat.reduceLeDiff, Nat.reduceEqDiff, ↓reduceIte]) <;> omega)) (Nat.zero_le _) (fun i h => absurd h (Nat.not_lt_zero i)))
  intro i hi
  rcases Nat.lt_or_ge i l.ev.length with h2 | h2
  case inr =>
    have hii : i = l.ev.length := by omega
    subst hii
    have f1 : decide ((l.ev.length : Int) < l.ev.length) = false := by simp
    simp (maxSteps := 4000000) -implicitDefEqProofs only [go_sem, f1, Option.some.injEq, forall_eq', and_true, true_and, Bool.not_true, Bool.not_false, decide_true, Nat.reduceAdd, Nat.reduceSub, Nat.reduceLT, Nat.reduceLeDiff, Nat.reduceEqDiff, ↓reduceIte]
    rw [evX_all, inn_t hql]
    refine Wk.trans (Wk.frz 3 rfl) (Wk.trans (Wk.frz 4 rfl) ?_)
    exact (Wk.via [5, 6] (by (simp only [go_sem, ↓reduceIte]) <;> trivial) (by first | (simp (maxSteps := 4000000) -implicitDefEqProofs only [go_sem, Nat.reduceAdd, Nat.reduceSub, Nat.reduceLT, Nat.reduceLeDiff, Nat.reduceEqDiff, ↓reduceIte]; done) | ((simp (maxSteps := 4000000) -implicitDefEqProofs only [go_sem, Nat.reduceAdd, Nat.reduceSub, Nat.reduceLT, Nat.reduceLeDiff, Nat.reduceEqDiff, ↓reduceIte]) <;> omega)) (by simp) (by first | (simp; done) | (simp [so]; done)) (by (simp (maxSteps := 4000000) -implicitDefEqProofs only [go_sem, Nat.reduceAdd, Nat.reduceSub, Nat.reduceLT, Nat.reduceLeDiff, Nat.reduceEqDiff, ↓reduceIte]) <;> trivial) (by first | (simp only [go_sem]; done) | ((simp (maxSteps := 4000000) -implicitDefEqProofs only [go_sem, Nat.reduceAdd, Nat.reduceSub, Nat.reduceLT, Nat.reduceLeDiff, Nat.reduceEqDiff, ↓reduceIte]) <;> omega)) (Nat.zero_le _) (fun i h => absurd h (Nat.not_lt_zero i)))
  have f1 : decide ((i : Int) < l.ev.length) = true := by simp; omega
  obtain ⟨s, hsi⟩ : ∃ x, l.ev[i]? = some x := ⟨l.ev[i]'h2, List.getElem?_eq_getElem _⟩
  have n1 : (0 ≤ (i : Int) ∧ (i : Int) < l.ev.length) = True := eq_true (by omega)
  have n2 : (i < l.ev.length) = True := eq_true (by omega)
  have w1 : IntKind.i64.wrap ((i : Int) + 1) = ((i + 1 : Nat) : Int) := by rw [i64_in _ (by omega)]; simp
  have hsl := hs s (List.mem_of_getElem? hsi)
  have c3 := clone_ev s hsl
  have c4 := clone_evV s hsl
  have xl := evX_len (l := l) (j := i) (by omega)
  have xs := evX_S hsi
  by_cases e : i = q
  · subst e
    rw [hq] at hsi; cases hsi
    have e1 := vset_at (k := 6) (m := 7) [D.sl (t.map eD)] xl.symm
    rw [inn_f (by omega)]
    simp (maxSteps := 4000000) -implicitDefEqProofs only [go_sem, f1, n1, n2, hq, Option.some.injEq, forall_eq', and_true, true_and, Bool.not_true, Bool.not_false, decide_true, Nat.reduceAdd, Nat.reduceSub, Nat.reduceLT, Nat.reduceLeDiff, Nat.reduceEqDiff, ↓reduceIte]
    refine DX.plain (.take 0 true (.take 1 true (.take 2 false (.run [3] (fun _ => [true, true]) fun _ => (.run [4] (fun _ => [true, true]) fun _ => (.run [5] (fun _ => [false, false]) fun _ => (.take 6 false (.run [7] (fun _ => []) fun _ => .done)))))))) (by kernel_rfl) (by kernel_rfl) Ty.mixed ?_
    simp (maxSteps := 4000000) -implicitDefEqProofs only [go_sem, xl, Option.some.injEq, forall_eq', and_true, true_and, Bool.not_true, Bool.not_false, decide_true, Nat.reduceAdd, Nat.reduceSub, Nat.reduceLT, Nat.reduceLeDiff, Nat.reduceEqDiff, ↓reduceIte]
    refine ⟨_, _, c4.liftN _ (by simp only [go_sem]), ?_⟩
    simp (maxSteps := 4000000) -implicitDefEqProofs only [go_sem, xl, Option.some.injEq, forall_eq', and_true, true_and, Bool.not_true, Bool.not_false, decide_true, Nat.reduceAdd, Nat.reduceSub, Nat.reduceLT, Nat.reduceLeDiff, Nat.reduceEqDiff, ↓reduceIte]
    refine ⟨⟨fun e he => by simp at he; subst he; rfl, rfl, by omega, by omega⟩, ?_⟩
    rw [e1]
    simp (maxSteps := 4000000) -implicitDefEqProofs only [go_sem, w1, Option.some.injEq, forall_eq', and_true, true_and, Bool.not_true, Bool.not_false, decide_true, Nat.reduceAdd, Nat.reduceSub, Nat.reduceLT, Nat.reduceLeDiff, Nat.reduceEqDiff, ↓reduceIte]
    exact .mk (i + 1) (by omega) (by omega) (by rw [xs, inn_t (by omega)]; exact (Wk.via [0, 1, 2, 3, 4, 9, 7] (by (simp only [go_sem, ↓reduceIte]) <;> trivial) (by first | (simp (maxSteps := 4000000) -implicitDefEqProofs only [go_sem, Nat.reduceAdd, Nat.reduceSub, Nat.reduceLT, Nat.reduceLeDiff, Nat.reduceEqDiff, ↓reduceIte]; done) | ((simp (maxSteps := 4000000) -implicitDefEqProofs only [go_sem, Nat.reduceAdd, Nat.reduceSub, Nat.reduceLT, Nat.reduceLeDiff, Nat.reduceEqDiff, ↓reduceIte]) <;> omega)) (by simp) (by first | (simp; done) | (simp [so]; done)) (by (simp (maxSteps := 4000000) -implicitDefEqProofs only [go_sem, Nat.reduceAdd, Nat.reduceSub, Nat.reduceLT, Nat.reduceLeDiff, Nat.reduceEqDiff, ↓reduceIte]) <;> trivial) (by first | (simp only [go_sem]; done) | ((simp (maxSteps := 4000000) -implicitDefEqProofs only [go_sem, Nat.reduceAdd, Nat.reduceSub, Nat.reduceLT, Nat.reduceLeDiff, Nat.reduceEqDiff, ↓reduceIte]) <;> omega)) (Nat.zero_le _) (fun i h => absurd h (Nat.not_lt_zero i))))
  · have e1 := vset_snoc (k := 6) (i := q) (es := evX l i) [D.sl (s.map eD)] (by rw [xl]; exact fun h => e h.symm)
    have e2 : inn q (i + 1) t = inn q i t := by unfold inn; rcases Nat.lt_or_ge q i with h | h; rw [if_pos h, if_pos (by omega)]; rw [if_neg (by omega), if_neg (by omega)]
    simp (maxSteps := 4000000) -implicitDefEqProofs only [go_sem, f1, n1, n2, hsi, Option.some.injEq, forall_eq', and_true, true_and, Bool.not_true, Bool.not_false, decide_true, Nat.reduceAdd, Nat.reduceSub, Nat.reduceLT, Nat.reduceLeDiff, Nat.reduceEqDiff, ↓reduceIte]
    refine DX.plain (.take 0 true (.take 1 true (.take 2 false (.run [3] (fun _ => [true, true]) fun _ => (.run [4] (fun _ => [true, true]) fun _ => (.run [5] (fun _ => [false, false]) fun _ => (.take 6 false (.run [7] (fun _ => []) fun _ => .done)))))))) (by kernel_rfl) (by kernel_rfl) Ty.mixed ?_
    simp (maxSteps := 4000000) -implicitDefEqProofs only [go_sem, xl, Option.some.injEq, forall_eq', and_true, true_and, Bool.not_true, Bool.not_false, decide_true, Nat.reduceAdd, Nat.reduceSub, Nat.reduceLT, Nat.reduceLeDiff, Nat.reduceEqDiff, ↓reduceIte]
    refine ⟨_, _, c3.liftN _ (by simp only [go_sem]), ?_⟩
    simp (maxSteps := 4000000) -implicitDefEqProofs only [go_sem, xl, Option.some.injEq, forall_eq', and_true, true_and, Bool.not_true, Bool.not_false, decide_true, Nat.reduceAdd, Nat.reduceSub, Nat.reduceLT, Nat.reduceLeDiff, Nat.reduceEqDiff, ↓reduceIte]
    refine ⟨⟨fun e he => by simp at he; subst he; rfl, rfl, by omega, by omega⟩, ?_⟩
    simp only [List.map_cons, List.map_nil] at e1
    rw [e1]
    simp (maxSteps := 4000000) -implicitDefEqProofs only [go_sem, w1, Option.some.injEq, forall_eq', and_true, true_and, Bool.not_true, Bool.not_false, decide_true, Nat.reduceAdd, Nat.reduceSub, Nat.reduceLT, Nat.reduceLeDiff, Nat.reduceEqDiff, ↓reduceIte]
    exact .mk (i + 1) (by omega) (by omega) (by rw [xs, e2]; exact (Wk.via [0, 1, 2, 3, 4, 9, 6] (by (simp only [go_sem, ↓reduceIte]) <;> trivial) (by first | (simp (maxSteps := 4000000) -implicitDefEqProofs only [go_sem, Nat.reduceAdd, Nat.reduceSub, Nat.reduceLT, Nat.reduceLeDiff, Nat.reduceEqDiff, ↓reduceIte]; done) | ((simp (maxSteps := 4000000) -implicitDefEqProofs only [go_sem, Nat.reduceAdd, Nat.reduceSub, Nat.reduceLT, Nat.reduceLeDiff, Nat.reduceEqDiff, ↓reduceIte]) <;> omega)) (by simp) (by first | (simp; done) | (simp [so]; done)) (by (simp (maxSteps := 4000000) -implicitDefEqProofs only [go_sem, Nat.reduceAdd, Nat.reduceSub, Nat.reduceLT, Nat.reduceLeDiff, Nat.reduceEqDiff, ↓reduceIte]) <;> trivial) (by first | (simp only [go_sem]; done) | ((simp (maxSteps := 4000000) -implicitDefEqProofs only [go_sem, Nat.reduceAdd, Nat.reduceSub, Nat.reduceLT, Nat.reduceLeDiff, Nat.reduceEqDiff, ↓reduceIte]) <;> omega)) (Nat.zero_le _) (fun i h => absurd h (Nat.not_lt_zero i))))
end Go.AX.Lg
namespace Go.AX
theorem Wk.vsets {xs ys : List AV} {σ : List AObj} {X Y : List (List D)} (a c i : Nat) {sz : Nat} (ha : ob σ a = .vec 1 (vset X i c)) (hc : ob σ c = .vec sz (upD Y)) (hne : a ≠ c) (hi : i < X.length) (hy : sbs a (.sl (X.set i [.sl Y])) xs = ys) (hb : bds 0 ys) : Wk 0 xs σ ys [] := by
  have la := some_lt (ob_some ha (by simp))
  have lc := some_lt (ob_some hc (by simp))
  have oc : ob (so σ c (.row sz Y)) c = .row sz Y := by rw [ob_eq, so_eq, List.getElem?_set_self lc]; rfl
  have oa : ob (so σ c (.row sz Y)) a = .vec 1 (vset X i c) := by rw [ob_eq, so_eq, List.getElem?_set_ne (Ne.symm hne), ← ob_eq]; exact ha
  have oa2 : ob (so (so σ c (.row sz Y)) c .gone) a = .vec 1 (vset X i c) := by rw [ob_eq, so_eq, List.getElem?_set_ne (Ne.symm hne), ← ob_eq]; exact oa
  have w1 := Wk.vrow (n0 := 0) (xs := xs) c hc (asEss_up Y) hc
  have w2 := Wk.vrow (n0 := 0) (xs := xs) a oa (asEss_vset oc hi) oa2
  have w3 := Wk.frz (n0 := 0) (xs := xs) (σ := so (so (so σ c (.row sz Y)) c .gone) a (.row 1 (X.set i [.sl Y]))) a (sz := 1) (es := X.set i [.sl Y]) (by
    rw [so_eq, List.getElem?_set_self (by rw [so_eq, so_eq]; simpa using la)])
  rw [hy] at w3
  exact Wk.trans w1 (Wk.trans w2 (Wk.trans w3 (Wk.out hb (rens_id hb))))
attribute [go_sem] vset_set
theorem Spec.at1 {P : Program} {f : FuncId} {args args0 : List AV} {σ : List AObj} {r : AV} {o o' : AObj} (l : Nat) (h7 : Spec P f args0 [o] r [o']) (h1 : args = rens (at0 [l]) args0) (hb : bds 1 args0) (hl : l < σ.length) (hO : ob σ l = renO (at0 [l]) o) (ho : bdO 1 o) :
    Spec P f args σ (ren (rn [l] σ.length) r) (back σ [l] [o']) := by
  subst h1
  exact h7.frame [l] hb (by simp) (by simpa using hl) (by simp [obs, mapO, hO]) ⟨ho, trivial⟩
end Go.AX
namespace Go.AX.Lg
open Go.Proofs Go.RowKit Go.IntWalk Go.AX.Br
def lg0 : Lg := ⟨[], [], []⟩
def addE (l : Lg) (i : Nat) (x : Ev) : Lg := ⟨l.kn, l.br, l.ev.set i ((l.ev.getD i []) ++ [x])⟩
def appR (l : Lg) (nm : ByteArray) (x : Ev) : Lg × Int :=
  if (lview l nm).2 ≠ 0 then (lg0, (lview l nm).2) else if classN l x.ch = none then (lg0, 6)
  else if (l.ev.getD (idx (has nm) l.br).toNat []).length = 40 then (lg0, 4)
  else if allR l (seenL l (lview l nm).1) x ≠ 0 then (lg0, allR l (seenL l (lview l nm).1) x) else (addE l (idx (has nm) l.br).toNat x, 0)
theorem appHas_own (b : Br) (nm : ByteArray) : Spec Tryz.prog 111 [bA b, .ptr 0 0] [.cells [.d (.str nm)]] (.d (.bool (has nm b))) [.cells [.d (.str nm)]] := by
  unfold bA
  refine spec_of_ev (fn := Tryz.f111) DX_ok 3000 Tryz.func111 rfl rfl (Nat.le_of_ble_eq_true rfl) ?_
  simp (maxSteps := 4000000) -implicitDefEqProofs only [Tryz.f111, go_sem]
  exact Wk.keep (σ := [_]) (τ := [_]) (by simp only [go_sem]) (by simp only [go_sem])
theorem set_map {α : Type} {g : α → List D} (l : List α) (i : Nat) (x : α) : (l.map g).set i (g x) = (l.set i x).map g := by simp
theorem append_lown (l : Lg) (nm : ByteArray) (x : Ev) (hk : l.kn.length ≤ 1000) (hb : l.br.length ≤ 1000) (he : l.ev.length ≤ 1000) :
    Spec Tryz.prog 81 [lA l, .d (.str nm), .agg [.d (.int .u8 x.kd), .d (.str x.ch)]] [] (.tup [lA (appR l nm x).1, .d (.int .i64 (appR l nm x).2)]) [] := by
  have c1 := view_lown l nm hk hb he
  have vk := lview_ok (l := l) (nm := nm)
  have c2 := classes_own l (by unfold Sm; omega)
  obtain ⟨M, hM⟩ : ∃ M, M = clsM l.kn := ⟨_, rfl⟩
  rw [← hM] at c2
  have c3 := br_indexFunc l.br (has nm) 111 [.ptr 0 0] [.cells [.d (.str nm)]] (by unfold Sm; omega) fun b _ => appHas_own b nm
  obtain ⟨V, hV⟩ : ∃ V, V = lview l nm := ⟨_, rfl⟩
  obtain ⟨R, hR⟩ : ∃ R, R = appR l nm x := ⟨_, rfl⟩
  rw [← hR]
  unfold appR at hR
  rw [← hV] at c1 vk hR
  simp only [lA] at c1 c2 ⊢
  have bad : ∀ (e : Int) {σ : List AObj}, R = (lg0, e) → Wk 0 [.tup [.agg [.nil, .nil, .nil], .d (.int .i64 e)]] σ [.tup [.agg [.d (.sl (R.1.kn.map kD)), .d (.sl (R.1.br.map bD)), .d (.sl (R.1.ev.map esD))], .d (.int .i64 R.2)]] [] := fun e σ h => by
    rw [h]; exact wk_dat (r' := .tup [.agg [.d (.sl []), .d (.sl []), .d (.sl [])], .d (.int .i64 e)]) (by simp only [go_sem]; rfl) rfl (by simp only [go_sem])
  refine spec_of_ev (fn := Tryz.f81) DX_ok 3000 Tryz.func81 rfl rfl (Nat.le_of_ble_eq_true rfl) ?_
  simp (maxSteps := 4000000) -implicitDefEqProofs only [Tryz.f81, go_sem, lA]
  refine ecall0 _ c1 (by simp only [go_sem]) (by simp only [go_sem]) ?_
  cases k1 : (V.2 != 0)
  case true =>
    have : V.2 ≠ 0 := by simpa using k1
    simp (maxSteps := 4000000) -implicitDefEqProofs only [go_sem, k1, Option.some.injEq, forall_eq', and_true, true_and, Bool.not_true, Bool.not_false, decide_true, Nat.reduceAdd, Nat.reduceSub, Nat.reduceLT, Nat.reduceLeDiff, Nat.reduceEqDiff, ↓reduceIte]
    exact bad _ (by rw [hR, if_pos this])
  have k1x : V.2 = 0 := by simpa using k1
  rw [if_neg (by omega)] at hR
  obtain ⟨lo, i, y, s, v, a, hn, hv, hi⟩ := vk k1x
  have nd : (∃ ks, KeyT Tryz.prog 9 false ks ∧ kindOk false ks [D.str x.ch] ∧ ∀ y ∈ mD sD iD M, kindOk false ks y.1) = True := mneed (kD := sD) (vD := iD) Ty.keyT_9 sD_kind x.ch M
  have gd : lkM [D.str x.ch] (mD sD iD M) = (classN l x.ch).map iD := by
    have := lkM_mD (kD := sD) (vD := iD) sD_eq x.ch M
    rw [show [D.str x.ch] = sD x.ch from rfl, this, hM, class_look lo.nd]
  cases k2 : classN l x.ch with
  | none =>
    rw [if_pos k2] at hR
    rw [k2] at gd
    simp (maxSteps := 4000000) -implicitDefEqProofs only [go_sem, k1, Option.some.injEq, forall_eq', and_true, true_and, Bool.not_true, Bool.not_false, decide_true, Nat.reduceAdd, Nat.reduceSub, Nat.reduceLT, Nat.reduceLeDiff, Nat.reduceEqDiff, ↓reduceIte]
    refine DX.plain (.take 0 false (.take 2 true (.take 3 true (.run [1] (fun _ => [true, true]) fun _ => (.take 4 false (.take 5 false (.take 6 false (.take 7 false (.take 8 false (.take 9 false .done)))))))))) (by kernel_rfl) (by kernel_rfl) Ty.mixed ?_
    simp (maxSteps := 4000000) -implicitDefEqProofs only [go_sem, nd, gd, Option.some.injEq, forall_eq', and_true, true_and, Bool.not_true, Bool.not_false, decide_true, Nat.reduceAdd, Nat.reduceSub, Nat.reduceLT, Nat.reduceLeDiff, Nat.reduceEqDiff, ↓reduceIte]
    refine ⟨_, _, c2.liftN _ (by simp only [go_sem]), ?_⟩
    simp (maxSteps := 4000000) -implicitDefEqProofs only [go_sem, nd, gd, Option.some.injEq, forall_eq', and_true, true_and, Bool.not_true, Bool.not_false, decide_true, Nat.reduceAdd, Nat.reduceSub, Nat.reduceLT, Nat.reduceLeDiff, Nat.reduceEqDiff, ↓reduceIte]
    exact bad _ hR
  | some c =>
  rw [if_neg (by rw [k2]; simp), hi, Int.toNat_natCast] at hR
  rw [k2] at gd
  have hc := classN_range lo.kv k2
  obtain ⟨c, rfl⟩ : ∃ n : Nat, c = n := ⟨c.toNat, by omega⟩
  have gd' : (Option.map iD (some (c : Int))) = some [D.int .i64 (c : Int)] := rfl
  rw [gd'] at gd
  have hs := a.hs
  have hgs : l.ev.getD i [] = s := by rw [List.getD_eq_getElem?_getD, hs]; rfl
  have hil := some_lt hs
  rw [hi] at c3
  rw [hgs] at hR
  have n1 : (0 ≤ (i : Int) ∧ (i : Int) < l.ev.length) = True := eq_true (by omega)
  have n2 : (i < l.ev.length) = True := eq_true (by omega)
  have h40 := lo.own i s hs
  simp (maxSteps := 4000000) -implicitDefEqProofs only [go_sem, k1, Option.some.injEq, forall_eq', and_true, true_and, Bool.not_true, Bool.not_false, decide_true, Nat.reduceAdd, Nat.reduceSub, Nat.reduceLT, Nat.reduceLeDiff, Nat.reduceEqDiff, ↓reduceIte]
  refine DX.plain (.take 0 false (.take 2 true (.take 3 true (.run [1] (fun _ => [true, true]) fun _ => (.take 4 false (.take 5 false (.take 6 false (.take 7 false (.take 8 false (.take 9 false .done)))))))))) (by kernel_rfl) (by kernel_rfl) Ty.mixed ?_
  simp (maxSteps := 4000000) -implicitDefEqProofs only [go_sem, nd, gd, Option.some.injEq, forall_eq', and_true, true_and, Bool.not_true, Bool.not_false, decide_true, Nat.reduceAdd, Nat.reduceSub, Nat.reduceLT, Nat.reduceLeDiff, Nat.reduceEqDiff, ↓reduceIte]
  refine ⟨_, _, c2.liftN _ (by simp only [go_sem]), ?_⟩
  simp (maxSteps := 4000000) -implicitDefEqProofs only [go_sem, nd, gd, Option.some.injEq, forall_eq', and_true, true_and, Bool.not_true, Bool.not_false, decide_true, Nat.reduceAdd, Nat.reduceSub, Nat.reduceLT, Nat.reduceLeDiff, Nat.reduceEqDiff, ↓reduceIte]
  refine .mk [1] [.d (.sl (l.br.map bD)), .fn 111 [.ptr 0 0]] [.cells [.d (.str nm)]] _ _ (by simp only [go_sem]) (by simp only [go_sem]; omega) (by simp) (by simp) (by simp only [go_sem]) (by simp only [go_sem]) c3 ?_
  by_cases k3 : s.length = 40
  · have k3' : ((s.length : Int) == 40) = true := by simp [k3]
    rw [if_pos k3] at hR
    simp (maxSteps := 4000000) -implicitDefEqProofs only [go_sem, n1, n2, hs, k3', Option.some.injEq, forall_eq', and_true, true_and, Bool.not_true, Bool.not_false, decide_true, Nat.reduceAdd, Nat.reduceSub, Nat.reduceLT, Nat.reduceLeDiff, Nat.reduceEqDiff, ↓reduceIte]
    exact bad _ hR
  have k3' : ((s.length : Int) == 40) = false := by simp; omega
  rw [if_neg k3] at hR
  rw [hv] at hR
  simp only at hR
  have alen := a.len
  have h320 := (lo.tab.g.ok.good i y a.hx).2.2
  have fo := folded_own l v lo.kv lo.kl a.inr (by omega) he
  have hkn : Known l (seenL l v) := by rw [a.seen]; exact a.known lo
  rw [foldS_foldE a.inr] at fo
  have ar := allow_ref lo.nd lo.kv hkn (x := x) k2
  have hok := foldE_ok l (seenL l v)
  obtain ⟨S, hS⟩ : ∃ S, S = foldE l (seenL l v) := ⟨_, rfl⟩
  rw [← hS] at fo hok ar
  have ao := allow_own S hok x.kd c (by omega)
  rw [Int.toNat_natCast] at ar
  rw [ar] at ao
  simp only [lA] at fo
  rw [hv] at k1 ⊢
  simp (maxSteps := 4000000) -implicitDefEqProofs only [go_sem, n1, n2, hs, k3', Option.some.injEq, forall_eq', and_true, true_and, Bool.not_true, Bool.not_false, decide_true, Nat.reduceAdd, Nat.reduceSub, Nat.reduceLT, Nat.reduceLeDiff, Nat.reduceEqDiff, ↓reduceIte]
  refine DX.plain (.take 3 true (.take 4 true (.take 5 true (.take 0 false (.take 1 false (.run [2] (fun _ => [true, true, true]) fun _ => (.run [6] (fun _ => [false, false, false]) fun _ => (.take 7 false .done)))))))) (by kernel_rfl) (by kernel_rfl) Ty.mixed ?_
  simp (maxSteps := 4000000) -implicitDefEqProofs only [go_sem, k3', Option.some.injEq, forall_eq', and_true, true_and, Bool.not_true, Bool.not_false, decide_true, Nat.reduceAdd, Nat.reduceSub, Nat.reduceLT, Nat.reduceLeDiff, Nat.reduceEqDiff, ↓reduceIte]
  refine ⟨_, _, fo.liftN _ (by simp only [go_sem]), ?_⟩
  simp (maxSteps := 4000000) -implicitDefEqProofs only [go_sem, Nat.reduceAdd, Nat.reduceSub, Nat.reduceLT, Nat.reduceLeDiff, Nat.reduceEqDiff, ↓reduceIte]
  refine ⟨_, _, ao.at1 5 (by simp only [go_sem]) (by simp only [go_sem]; omega) (by simp) (by simp only [go_sem]) (by simp only [go_sem]), ?_⟩
  simp (maxSteps := 4000000) -implicitDefEqProofs only [go_sem, Nat.reduceAdd, Nat.reduceSub, Nat.reduceLT, Nat.reduceLeDiff, Nat.reduceEqDiff, ↓reduceIte]
  cases k4 : (allR l (seenL l v) x != 0)
  case true =>
    have : allR l (seenL l v) x ≠ 0 := by simpa using k4
    rw [if_pos this] at hR
    simp (maxSteps := 4000000) -implicitDefEqProofs only [go_sem, k4, Option.some.injEq, forall_eq', and_true, true_and, Bool.not_true, Bool.not_false, decide_true, Nat.reduceAdd, Nat.reduceSub, Nat.reduceLT, Nat.reduceLeDiff, Nat.reduceEqDiff, ↓reduceIte]
    exact bad _ hR
  have k4x : allR l (seenL l v) x = 0 := by simpa using k4
  rw [if_neg (by omega)] at hR
  have cl := clone_lownI l i s hs hk hb he fun t ht => by
    obtain ⟨j, hj⟩ := List.getElem?_of_mem ht
    have := lo.own j t hj
    omega
  simp only [lA] at cl
  have vg : ∀ k, (vset (l.ev.map esD) i k).getD i [] = [.own k] := fun k => vset_get (by simpa using hil)
  have ua : upD (s.map eD) ++ [[.d (.int .u8 x.kd), .d (.str x.ch)]] = upD ((s ++ [x]).map eD) := by
    rw [List.map_append, ← upD_app]; rfl
  have sz1 : ∀ k, (∀ e ∈ vset (l.ev.map esD) i k, e.length = 1) = True := fun k => vset_len1 esD_len
  simp (maxSteps := 4000000) -implicitDefEqProofs only [go_sem, k4, Option.some.injEq, forall_eq', and_true, true_and, Bool.not_true, Bool.not_false, decide_true, Nat.reduceAdd, Nat.reduceSub, Nat.reduceLT, Nat.reduceLeDiff, Nat.reduceEqDiff, ↓reduceIte]
  refine ecallN _ _ cl (by simp only [go_sem]) ?_
  simp (maxSteps := 4000000) -implicitDefEqProofs only [go_sem, Nat.reduceAdd, Nat.reduceSub, Nat.reduceLT, Nat.reduceLeDiff, Nat.reduceEqDiff, ↓reduceIte]
  refine DX.plain (.take 0 true (.take 1 true (.take 2 true (.take 3 true (.take 4 true (.take 5 true (.take 6 true (.take 7 true (.take 8 false (.run [9] (fun _ => [true, true, true, true, true, true, true, true]) fun _ => (.run [10] (fun _ => [false, false, false, false, false, true, true, true]) fun _ => (.take 11 false (.run [12] (fun _ => [false, false, false]) fun _ => .done))))))))))))) (by kernel_rfl) (by kernel_rfl) Ty.mixed ?_
  simp (maxSteps := 4000000) -implicitDefEqProofs only [go_sem, n1, n2, vg, Option.some.injEq, forall_eq', and_true, true_and, Bool.not_true, Bool.not_false, decide_true, Nat.reduceAdd, Nat.reduceSub, Nat.reduceLT, Nat.reduceLeDiff, Nat.reduceEqDiff, ↓reduceIte]
  refine ⟨by omega, ⟨fun e he => by simp at he; subst he; rfl, rfl, by omega, by omega⟩, ?_⟩
  rw [ua, hR]
  have es : (l.ev.map esD).set i [.sl ((s ++ [x]).map eD)] = (addE l i x).ev.map esD := by
    rw [show [D.sl ((s ++ [x]).map eD)] = esD (s ++ [x]) from rfl, set_map]
    simp only [addE, hgs]
  refine Wk.vsets (X := l.ev.map esD) (Y := (s ++ [x]).map eD) 6 10 i rfl rfl (by omega) (by simpa using hil) ?_ (by simp only [go_sem])
  rw [es]
  simp only [go_sem, ↓reduceIte]
  rfl
end Go.AX.Lg
namespace Go.AX.Lg
open Go.Proofs Go.RowKit Go.IntWalk Go.AX.Br
end Go.AX.Lg
namespace Go.AX.Lg
open Go.Proofs Go.RowKit Go.IntWalk Go.AX.Br
def lcutR (l : Lg) (frm nm : ByteArray) (at' : Int) : Lg × Int :=
  if lcheck l ≠ 0 then (lg0, lcheck l) else if (cutR l.br (cntL l) frm nm at').2 ≠ 0 then (lg0, (cutR l.br (cntL l) frm nm at').2)
  else (⟨l.kn, (cutR l.br (cntL l) frm nm at').1, l.ev ++ [[]]⟩, 0)
end Go.AX.Lg
namespace Go.AX.Lg
open Go.Proofs Go.RowKit Go.IntWalk Go.AX.Br
def bigK (k : Kn) : Bool := decide (100 < k.ch.size)
def bigE (x : Ev) : Bool := decide (100 < x.ch.size)
def bigN (n : Nat) : Bool := (decide (8 < n) && decide (n ≤ 40)) || decide (50 < n)
def bigS (s : List Ev) : Bool := bigN s.length || s.any bigE
def greatL (l : Lg) : Bool := l.kn.any bigK || l.ev.any bigS || (decide (40 < l.kn.length) || great l.br [] || decide (20 < l.ev.length))
theorem great_lref (l : Lg) (hk : Sm l.kn.length) (hb : Sm l.br.length) (he : Sm l.ev.length) (hs : ∀ s ∈ l.ev, Sm s.length) : Spec Tryz.prog 19 [lA l] [] (.d (.bool (greatL l))) [] := by
  have c1 := great_ref l.br [] hb
  simp only [List.map_nil] at c1
  unfold Sm at hk hb he hs
  obtain ⟨R, hR⟩ : ∃ R, R = greatL l := ⟨_, rfl⟩
  rw [← hR]
  have yes : greatL l = true → ∀ {σ : List AObj}, Wk 0 [.d (.bool true)] σ [.d (.bool R)] [] := fun h {σ} => wk_bool (by rw [hR, h])
  refine spec_of_ev (fn := Tryz.f19) DX_ok 3000 Tryz.func19 rfl rfl (Nat.le_of_ble_eq_true rfl) ?_
  simp (maxSteps := 4000000) -implicitDefEqProofs only [Tryz.f19, go_sem, lA]
  refine eloop (S := Nat) (fun i => mkE 89 [(1, .ptr 0 0), (3, .d (.int .i64 i))]) (fun i => [lH l]) (fun i => i ≤ l.kn.length ∧ ∀ j y, l.kn[j]? = some y → j < i → bigK y = false) (fun i => l.kn.length - i) 0 ⟨by omega, by omega⟩ (Wk.via [0] (by (simp only [go_sem, ↓reduceIte]) <;> trivial) (by first | (simp (maxSteps := 4000000) -implicitDefEqProofs only [go_sem, Nat.reduceAdd, Nat.reduceSub, Nat.reduceLT, Nat.reduceLeDiff, Nat.reduceEqDiff, ↓reduceIte]; done) | ((simp (maxSteps := 4000000) -implicitDefEqProofs only [go_sem, Nat.reduceAdd, Nat.reduceSub, Nat.reduceLT, Nat.reduceLeDiff, Nat.reduceEqDiff, ↓reduceIte]) <;> omega)) (by simp) (by first | (simp; done) | (simp [so]; done)) (by (simp (maxSteps := 4000000) -implicitDefEqProofs only [go_sem, Nat.reduceAdd, Nat.reduceSub, Nat.reduceLT, Nat.reduceLeDiff, Nat.reduceEqDiff, ↓reduceIte]) <;> trivial) (by first | (simp only [go_sem]; done) | ((simp (maxSteps := 4000000) -implicitDefEqProofs only [go_sem, Nat.reduceAdd, Nat.reduceSub, Nat.reduceLT, Nat.reduceLeDiff, Nat.reduceEqDiff, ↓reduceIte]) <;> omega)) (Nat.zero_le _) (fun i h => absurd h (Nat.not_lt_zero i))) ?_
  rintro i ⟨hi, hj⟩
  rcases Nat.lt_or_ge i l.kn.length with h2 | h2
  case inl =>
    have f1 : decide ((i : Int) < l.kn.length) = true := by simp; omega
    obtain ⟨x, hx⟩ : ∃ x, l.kn[i]? = some x := ⟨l.kn[i]'h2, List.getElem?_eq_getElem _⟩
    have n1 : (0 ≤ (i : Int) ∧ (i : Int) < l.kn.length) = True := eq_true (by omega)
    have n2 : (i < l.kn.length) = True := eq_true (by omega)
    have w1 : IntKind.i64.wrap ((i : Int) + 1) = ((i + 1 : Nat) : Int) := by rw [i64_in _ (by omega)]; simp
    cases g : bigK x
    case true =>
      have d1 : decide ((100 : Int) < x.ch.size) = true := by simp only [bigK, decide_eq_true_eq] at g ⊢; omega
      simp (maxSteps := 4000000) -implicitDefEqProofs only [go_sem, f1, n1, n2, hx, d1, Option.some.injEq, forall_eq', and_true, true_and, Bool.not_true, Bool.not_false, decide_true, Nat.reduceAdd, Nat.reduceSub, Nat.reduceLT, Nat.reduceLeDiff, Nat.reduceEqDiff, ↓reduceIte]
      exact yes (by rw [greatL, any_t hx g]; rfl)
    have d1 : decide ((100 : Int) < x.ch.size) = false := by simp only [bigK, decide_eq_false_iff_not] at g ⊢; omega
    simp (maxSteps := 4000000) -implicitDefEqProofs only [go_sem, f1, n1, n2, hx, d1, w1, Option.some.injEq, forall_eq', and_true, true_and, Bool.not_true, Bool.not_false, decide_true, Nat.reduceAdd, Nat.reduceSub, Nat.reduceLT, Nat.reduceLeDiff, Nat.reduceEqDiff, ↓reduceIte]
    exact .mk (i + 1) ⟨by omega, upto_succ hx g hj⟩ (by omega) (Wk.via [0] (by (simp only [go_sem, ↓reduceIte]) <;> trivial) (by first | (simp (maxSteps := 4000000) -implicitDefEqProofs only [go_sem, Nat.reduceAdd, Nat.reduceSub, Nat.reduceLT, Nat.reduceLeDiff, Nat.reduceEqDiff, ↓reduceIte]; done) | ((simp (maxSteps := 4000000) -implicitDefEqProofs only [go_sem, Nat.reduceAdd, Nat.reduceSub, Nat.reduceLT, Nat.reduceLeDiff, Nat.reduceEqDiff, ↓reduceIte]) <;> omega)) (by simp) (by first | (simp; done) | (simp [so]; done)) (by (simp (maxSteps := 4000000) -implicitDefEqProofs only [go_sem, Nat.reduceAdd, Nat.reduceSub, Nat.reduceLT, Nat.reduceLeDiff, Nat.reduceEqDiff, ↓reduceIte]) <;> trivial) (by first | (simp only [go_sem]; done) | ((simp (maxSteps := 4000000) -implicitDefEqProofs only [go_sem, Nat.reduceAdd, Nat.reduceSub, Nat.reduceLT, Nat.reduceLeDiff, Nat.reduceEqDiff, ↓reduceIte]) <;> omega)) (Nat.zero_le _) (fun i h => absurd h (Nat.not_lt_zero i)))
  have f1 : decide ((i : Int) < l.kn.length) = false := by simp; omega
  have nk : l.kn.any bigK = false := any_f fun j y hy => hj j y hy (by have := some_lt hy; omega)
  simp (maxSteps := 4000000) -implicitDefEqProofs only [go_sem, f1, Option.some.injEq, forall_eq', and_true, true_and, Bool.not_true, Bool.not_false, decide_true, Nat.reduceAdd, Nat.reduceSub, Nat.reduceLT, Nat.reduceLeDiff, Nat.reduceEqDiff, ↓reduceIte]
  clear hj hi h2 f1
  refine eloop (S := Nat) (fun i => mkE 89 [(1, .ptr 0 0), (4, .d (.int .i64 i))]) (fun i => [lH l]) (fun i => i ≤ l.ev.length ∧ ∀ j y, l.ev[j]? = some y → j < i → bigS y = false) (fun i => l.ev.length - i) 0 ⟨by omega, by omega⟩ (Wk.via [0] (by (simp only [go_sem, ↓reduceIte]) <;> trivial) (by first | (simp (maxSteps := 4000000) -implicitDefEqProofs only [go_sem, Nat.reduceAdd, Nat.reduceSub, Nat.reduceLT, Nat.reduceLeDiff, Nat.reduceEqDiff, ↓reduceIte]; done) | ((simp (maxSteps := 4000000) -implicitDefEqProofs only [go_sem, Nat.reduceAdd, Nat.reduceSub, Nat.reduceLT, Nat.reduceLeDiff, Nat.reduceEqDiff, ↓reduceIte]) <;> omega)) (by simp) (by first | (simp; done) | (simp [so]; done)) (by (simp (maxSteps := 4000000) -implicitDefEqProofs only [go_sem, Nat.reduceAdd, Nat.reduceSub, Nat.reduceLT, Nat.reduceLeDiff, Nat.reduceEqDiff, ↓reduceIte]) <;> trivial) (by first | (simp only [go_sem]; done) | ((simp (maxSteps := 4000000) -implicitDefEqProofs only [go_sem, Nat.reduceAdd, Nat.reduceSub, Nat.reduceLT, Nat.reduceLeDiff, Nat.reduceEqDiff, ↓reduceIte]) <;> omega)) (Nat.zero_le _) (fun i h => absurd h (Nat.not_lt_zero i))) ?_
  rintro i ⟨hi, hj⟩
  rcases Nat.lt_or_ge i l.ev.length with h2 | h2
  case inr =>
    have f1 : decide ((i : Int) < l.ev.length) = false := by simp; omega
    have ne : l.ev.any bigS = false := any_f fun j y hy => hj j y hy (by have := some_lt hy; omega)
    have hg : greatL l = (decide (40 < l.kn.length) || great l.br [] || decide (20 < l.ev.length)) := by rw [greatL, nk, ne]; rfl
    cases g1 : decide (40 < l.kn.length)
    case true =>
      have d1 : decide ((40 : Int) < l.kn.length) = true := by simp only [decide_eq_true_eq] at g1 ⊢; omega
      simp (maxSteps := 4000000) -implicitDefEqProofs only [go_sem, f1, d1, Option.some.injEq, forall_eq', and_true, true_and, Bool.not_true, Bool.not_false, decide_true, Nat.reduceAdd, Nat.reduceSub, Nat.reduceLT, Nat.reduceLeDiff, Nat.reduceEqDiff, ↓reduceIte]
      exact yes (by rw [hg, g1]; rfl)
    have d1 : decide ((40 : Int) < l.kn.length) = false := by simp only [decide_eq_false_iff_not] at g1 ⊢; omega
    rw [g1, Bool.false_or] at hg
    simp (maxSteps := 4000000) -implicitDefEqProofs only [go_sem, f1, d1, Option.some.injEq, forall_eq', and_true, true_and, Bool.not_true, Bool.not_false, decide_true, Nat.reduceAdd, Nat.reduceSub, Nat.reduceLT, Nat.reduceLeDiff, Nat.reduceEqDiff, ↓reduceIte]
    refine ECall.dat (args' := [.d (.sl (l.br.map bD)), .d (.sl [])]) (by simp only [go_sem]; rfl) rfl ?_
    refine ecall0 _ c1 (by simp only [go_sem]) (by simp only [go_sem]) ?_
    cases g2 : great l.br []
    case true =>
      simp (maxSteps := 4000000) -implicitDefEqProofs only [go_sem, g2, Option.some.injEq, forall_eq', and_true, true_and, Bool.not_true, Bool.not_false, decide_true, Nat.reduceAdd, Nat.reduceSub, Nat.reduceLT, Nat.reduceLeDiff, Nat.reduceEqDiff, ↓reduceIte]
      exact yes (by rw [hg, g2]; rfl)
    rw [g2, Bool.false_or] at hg
    simp (maxSteps := 4000000) -implicitDefEqProofs only [go_sem, g2, Option.some.injEq, forall_eq', and_true, true_and, Bool.not_true, Bool.not_false, decide_true, Nat.reduceAdd, Nat.reduceSub, Nat.reduceLT, Nat.reduceLeDiff, Nat.reduceEqDiff, ↓reduceIte]
    exact wk_bool (by rw [hR, hg]; exact decide_eq_decide.2 (by omega))
  have f1 : decide ((i : Int) < l.ev.length) = true := by simp; omega
  obtain ⟨s, hx⟩ : ∃ x, l.ev[i]? = some x := ⟨l.ev[i]'h2, List.getElem?_eq_getElem _⟩
  have hsl := hs s (List.mem_of_getElem? hx)
  have n1 : (0 ≤ (i : Int) ∧ (i : Int) < l.ev.length) = True := eq_true (by omega)
  have n2 : (i < l.ev.length) = True := eq_true (by omega)
  have w1 : IntKind.i64.wrap ((i : Int) + 1) = ((i + 1 : Nat) : Int) := by rw [i64_in _ (by omega)]; simp
  have bigT : bigN s.length = true → greatL l = true := fun h => by
    rw [greatL, any_t hx (by rw [bigS, h]; rfl)]; simp
  have d1 : decide ((8 : Int) < s.length) = decide (8 < s.length) := decide_eq_decide.2 (by omega)
  have d2 : decide ((s.length : Int) ≤ 40) = decide (s.length ≤ 40) := decide_eq_decide.2 (by omega)
  have d3 : decide ((50 : Int) < s.length) = decide (50 < s.length) := decide_eq_decide.2 (by omega)
  cases g : bigN s.length
  case true =>
    cases a1 : decide (8 < s.length) <;> cases a2 : decide (s.length ≤ 40) <;> cases a3 : decide (50 < s.length) <;> (try (simp only [bigN, a1, a2, a3] at g; cases g; done)) <;> rw [a1] at d1 <;> rw [a2] at d2 <;> rw [a3] at d3
    all_goals (simp (maxSteps := 4000000) -implicitDefEqProofs only [go_sem, f1, n1, n2, hx, d1, d2, d3, Option.some.injEq, forall_eq', and_true, true_and, Bool.not_true, Bool.not_false, decide_true, Nat.reduceAdd, Nat.reduceSub, Nat.reduceLT, Nat.reduceLeDiff, Nat.reduceEqDiff, ↓reduceIte])
    all_goals exact yes (bigT g)
  have go : (decide (8 < s.length) = false ∧ decide (50 < s.length) = false) ∨ (decide (8 < s.length) = true ∧ decide (s.length ≤ 40) = false ∧ decide (50 < s.length) = false) := by
    simp only [bigN, Bool.or_eq_false_iff, Bool.and_eq_false_iff] at g
    cases a1 : decide (8 < s.length)
    · exact .inl ⟨rfl, g.2⟩
    · refine .inr ⟨rfl, ?_, g.2⟩
      rcases g.1 with q | q
      · rw [a1] at q; cases q
      · exact q
  rcases go with ⟨a1, a3⟩ | ⟨a1, a2, a3⟩
  all_goals rw [a1] at d1
  all_goals rw [a3] at d3
  case' inr => rw [a2] at d2
  all_goals (simp (maxSteps := 4000000) -implicitDefEqProofs only [go_sem, f1, n1, n2, hx, d1, d2, d3, Option.some.injEq, forall_eq', and_true, true_and, Bool.not_true, Bool.not_false, decide_true, Nat.reduceAdd, Nat.reduceSub, Nat.reduceLT, Nat.reduceLeDiff, Nat.reduceEqDiff, ↓reduceIte])
  all_goals refine eloop (S := Nat) (fun k => mkE 89 [(1, .ptr 0 0), (4, .d (.int .i64 i)), (5, .d (.int .i64 k))]) (fun k => [lH l]) (fun k => k ≤ s.length ∧ ∀ j y, s[j]? = some y → j < k → bigE y = false) (fun k => s.length - k) 0 ⟨by omega, by omega⟩ (Wk.via [0] (by (simp only [go_sem, ↓reduceIte]) <;> trivial) (by first | (simp (maxSteps := 4000000) -implicitDefEqProofs only [go_sem, Nat.reduceAdd, Nat.reduceSub, Nat.reduceLT, Nat.reduceLeDiff, Nat.reduceEqDiff, ↓reduceIte]; done) | ((simp (maxSteps := 4000000) -implicitDefEqProofs only [go_sem, Nat.reduceAdd, Nat.reduceSub, Nat.reduceLT, Nat.reduceLeDiff, Nat.reduceEqDiff, ↓reduceIte]) <;> omega)) (by simp) (by first | (simp; done) | (simp [so]; done)) (by (simp (maxSteps := 4000000) -implicitDefEqProofs only [go_sem, Nat.reduceAdd, Nat.reduceSub, Nat.reduceLT, Nat.reduceLeDiff, Nat.reduceEqDiff, ↓reduceIte]) <;> trivial) (by first | (simp only [go_sem]; done) | ((simp (maxSteps := 4000000) -implicitDefEqProofs only [go_sem, Nat.reduceAdd, Nat.reduceSub, Nat.reduceLT, Nat.reduceLeDiff, Nat.reduceEqDiff, ↓reduceIte]) <;> omega)) (Nat.zero_le _) (fun i h => absurd h (Nat.not_lt_zero i))) ?_
  all_goals rintro k ⟨hk2, hjk⟩
  all_goals rcases Nat.lt_or_ge k s.length with h3 | h3
  case' inl.inl | inr.inl =>
    have f2 : decide ((k : Int) < s.length) = true := by simp; omega
    obtain ⟨y, hy⟩ : ∃ x, s[k]? = some x := ⟨s[k]'h3, List.getElem?_eq_getElem _⟩
    have n3 : (0 ≤ (k : Int) ∧ (k : Int) < s.length) = True := eq_true (by omega)
    have n4 : (k < s.length) = True := eq_true (by omega)
    have w2 : IntKind.i64.wrap ((k : Int) + 1) = ((k + 1 : Nat) : Int) := by rw [i64_in _ (by omega)]; simp
    cases gy : bigE y
  case' inl.inl.true | inr.inl.true =>
    have d4 : decide ((100 : Int) < y.ch.size) = true := by simp only [bigE, decide_eq_true_eq] at gy ⊢; omega
    simp (maxSteps := 4000000) -implicitDefEqProofs only [go_sem, n1, n2, hx, f2, n3, n4, hy, d4, Option.some.injEq, forall_eq', and_true, true_and, Bool.not_true, Bool.not_false, decide_true, Nat.reduceAdd, Nat.reduceSub, Nat.reduceLT, Nat.reduceLeDiff, Nat.reduceEqDiff, ↓reduceIte]
  case inl.inl.true | inr.inl.true =>
    exact yes (by rw [greatL, any_t hx (by rw [bigS, any_t hy gy]; simp)]; simp)
  case' inl.inl.false | inr.inl.false =>
    have d4 : decide ((100 : Int) < y.ch.size) = false := by simp only [bigE, decide_eq_false_iff_not] at gy ⊢; omega
    simp (maxSteps := 4000000) -implicitDefEqProofs only [go_sem, n1, n2, hx, f2, n3, n4, hy, d4, w2, Option.some.injEq, forall_eq', and_true, true_and, Bool.not_true, Bool.not_false, decide_true, Nat.reduceAdd, Nat.reduceSub, Nat.reduceLT, Nat.reduceLeDiff, Nat.reduceEqDiff, ↓reduceIte]
  case inl.inl.false | inr.inl.false =>
    exact .mk (k + 1) ⟨by omega, upto_succ hy gy hjk⟩ (by omega) (Wk.via [0] (by (simp only [go_sem, ↓reduceIte]) <;> trivial) (by first | (simp (maxSteps := 4000000) -implicitDefEqProofs only [go_sem, Nat.reduceAdd, Nat.reduceSub, Nat.reduceLT, Nat.reduceLeDiff, Nat.reduceEqDiff, ↓reduceIte]; done) | ((simp (maxSteps := 4000000) -implicitDefEqProofs only [go_sem, Nat.reduceAdd, Nat.reduceSub, Nat.reduceLT, Nat.reduceLeDiff, Nat.reduceEqDiff, ↓reduceIte]) <;> omega)) (by simp) (by first | (simp; done) | (simp [so]; done)) (by (simp (maxSteps := 4000000) -implicitDefEqProofs only [go_sem, Nat.reduceAdd, Nat.reduceSub, Nat.reduceLT, Nat.reduceLeDiff, Nat.reduceEqDiff, ↓reduceIte]) <;> trivial) (by first | (simp only [go_sem]; done) | ((simp (maxSteps := 4000000) -implicitDefEqProofs only [go_sem, Nat.reduceAdd, Nat.reduceSub, Nat.reduceLT, Nat.reduceLeDiff, Nat.reduceEqDiff, ↓reduceIte]) <;> omega)) (Nat.zero_le _) (fun i h => absurd h (Nat.not_lt_zero i)))
  all_goals
    have f2 : decide ((k : Int) < s.length) = false := by simp; omega
    have ns : s.any bigE = false := any_f fun j y hy => hjk j y hy (by have := some_lt hy; omega)
    simp (maxSteps := 4000000) -implicitDefEqProofs only [go_sem, n1, n2, hx, f2, w1, Option.some.injEq, forall_eq', and_true, true_and, Bool.not_true, Bool.not_false, decide_true, Nat.reduceAdd, Nat.reduceSub, Nat.reduceLT, Nat.reduceLeDiff, Nat.reduceEqDiff, ↓reduceIte]
    exact .mk (i + 1) ⟨by omega, upto_succ hx (by rw [bigS, g, ns]; rfl) hj⟩ (by omega) (Wk.via [0] (by (simp only [go_sem, ↓reduceIte]) <;> trivial) (by first | (simp (maxSteps := 4000000) -implicitDefEqProofs only [go_sem, Nat.reduceAdd, Nat.reduceSub, Nat.reduceLT, Nat.reduceLeDiff, Nat.reduceEqDiff, ↓reduceIte]; done) | ((simp (maxSteps := 4000000) -implicitDefEqProofs only [go_sem, Nat.reduceAdd, Nat.reduceSub, Nat.reduceLT, Nat.reduceLeDiff, Nat.reduceEqDiff, ↓reduceIte]) <;> omega)) (by simp) (by first | (simp; done) | (simp [so]; done)) (by (simp (maxSteps := 4000000) -implicitDefEqProofs only [go_sem, Nat.reduceAdd, Nat.reduceSub, Nat.reduceLT, Nat.reduceLeDiff, Nat.reduceEqDiff, ↓reduceIte]) <;> trivial) (by first | (simp only [go_sem]; done) | ((simp (maxSteps := 4000000) -implicitDefEqProofs only [go_sem, Nat.reduceAdd, Nat.reduceSub, Nat.reduceLT, Nat.reduceLeDiff, Nat.reduceEqDiff, ↓reduceIte]) <;> omega)) (Nat.zero_le _) (fun i h => absurd h (Nat.not_lt_zero i)))
end Go.AX.Lg
namespace Go.AX.Lg
open Go.Proofs Go.RowKit Go.IntWalk Go.AX.Br
def sMain : ByteArray := ⟨#[109, 97, 105, 110]⟩
def sR1 : ByteArray := ⟨#[114, 49]⟩
def sFix : ByteArray := ⟨#[102, 105, 120]⟩
def sFix2 : ByteArray := ⟨#[102, 105, 120, 45, 50]⟩
def sOther : ByteArray := ⟨#[111, 116, 104, 101, 114]⟩
def exG : Lg := ⟨[⟨sFix, 3⟩, ⟨sFix2, 3⟩, ⟨sOther, 0⟩], [⟨sMain, ⟨#[]⟩, 0⟩, ⟨sR1, sMain, 1⟩], [[⟨1, sFix⟩, ⟨1, sOther⟩], [⟨3, sFix⟩]]⟩
theorem eff2 : effR exG sR1 = ([], 0) := by kernel_rfl
end Go.AX.Lg
namespace Go.AX.Lg
open Go.Proofs Go.RowKit Go.IntWalk Go.AX.Br
theorem int_of {n : Nat} {d : List D} (h : Tyd Tryz.prog (n + 1) 3 d) : ∃ i : Int, d = [.int .i64 i] ∧ (-9223372036854775808 ≤ i ∧ i ≤ 9223372036854775807) := by
  obtain ⟨i, rfl, hw⟩ := h.int Ty.under_3
  exact ⟨i, rfl, wf_i64 hw⟩
theorem u8_of {n : Nat} {d : List D} (h : Tyd Tryz.prog (n + 1) 5 d) : ∃ i : Int, d = [.int .u8 i] ∧ (0 ≤ i ∧ i ≤ 255) := by
  obtain ⟨i, rfl, hw⟩ := h.int Ty.under_5
  exact ⟨i, rfl, wf_u8 hw⟩
theorem str_of {n : Nat} {d : List D} (h : Tyd Tryz.prog (n + 1) 9 d) : ∃ s : ByteArray, d = [.str s] ∧ Sm s.size := by
  obtain ⟨i, rfl, hw⟩ := h.str Ty.under_9
  exact ⟨i, rfl, hw⟩
theorem branch_of {n : Nat} {x : List D} (h : Tyd Tryz.prog (n + 2) 37 x) : ∃ p : Br, x = bD p ∧ (-9223372036854775808 ≤ p.at' ∧ p.at' ≤ 9223372036854775807) := by
  obtain ⟨f0, f1, f2, hu, e0, e1, e2⟩ : ∃ f0 f1 f2 : Field, Tryz.prog.underlying 37 = some (.struct #[f0, f1, f2]) ∧ f0.type = 9 ∧ f1.type = 9 ∧ f2.type = 3 := ⟨_, _, _, by rfl, rfl, rfl, rfl⟩
  have this := h.struct hu
  simp only [List.map_cons, List.map_nil, Sq] at this
  obtain ⟨a0, b0, rfl, k0, a1, b1, rfl, k1, a2, b2, rfl, k2, rfl⟩ := this
  rw [e0] at k0; rw [e1] at k1; rw [e2] at k2
  obtain ⟨i, rfl, hi⟩ := str_of k0
  obtain ⟨j, rfl, hj⟩ := str_of k1
  obtain ⟨k, rfl, hk⟩ := int_of k2
  exact ⟨⟨i, j, k⟩, rfl, hk⟩
theorem known_of {n : Nat} {x : List D} (h : Tyd Tryz.prog (n + 2) 55 x) : ∃ p : Kn, x = kD p ∧ (-9223372036854775808 ≤ p.cl ∧ p.cl ≤ 9223372036854775807) := by
  obtain ⟨f0, f1, hu, e0, e1⟩ : ∃ f0 f1 : Field, Tryz.prog.underlying 55 = some (.struct #[f0, f1]) ∧ f0.type = 9 ∧ f1.type = 3 := ⟨_, _, by rfl, rfl, rfl⟩
  have this := h.struct hu
  simp only [List.map_cons, List.map_nil, Sq] at this
  obtain ⟨a0, b0, rfl, k0, a1, b1, rfl, k1, rfl⟩ := this
  rw [e0] at k0; rw [e1] at k1
  obtain ⟨i, rfl, hi⟩ := str_of k0
  obtain ⟨k, rfl, hk⟩ := int_of k1
  exact ⟨⟨i, k⟩, rfl, hk⟩
theorem event_of {n : Nat} {x : List D} (h : Tyd Tryz.prog (n + 2) 86 x) : ∃ p : Ev, x = eD p ∧ (0 ≤ p.kd ∧ p.kd ≤ 255) := by
  obtain ⟨f0, f1, hu, e0, e1⟩ : ∃ f0 f1 : Field, Tryz.prog.underlying 86 = some (.struct #[f0, f1]) ∧ f0.type = 5 ∧ f1.type = 9 := ⟨_, _, by rfl, rfl, rfl⟩
  have this := h.struct hu
  simp only [List.map_cons, List.map_nil, Sq] at this
  obtain ⟨a0, b0, rfl, k0, a1, b1, rfl, k1, rfl⟩ := this
  rw [e0] at k0; rw [e1] at k1
  obtain ⟨i, rfl, hi⟩ := u8_of k0
  obtain ⟨k, rfl, hk⟩ := str_of k1
  exact ⟨⟨i, k⟩, rfl, hi⟩
theorem branches_of {n : Nat} {d : List D} (h : Tyd Tryz.prog (n + 3) 23 d) : ∃ l : List Br, d = [.sl (l.map bD)] ∧ Sm l.length ∧ ∀ b ∈ l, (-9223372036854775808 ≤ b.at' ∧ b.at' ≤ 9223372036854775807) := by
  obtain ⟨es, rfl, h1, h2⟩ := h.slice Ty.under_23
  obtain ⟨l, rfl, hl⟩ := rows_ofP (g := bD) fun x hx => branch_of (h2 x hx)
  refine ⟨l, rfl, ?_, hl⟩
  have hb : Tryz.prog.bytesOf 37 = 40 := by kernel_rfl
  rw [hb, List.length_map] at h1
  unfold Sm; omega
theorem knowns_of {n : Nat} {d : List D} (h : Tyd Tryz.prog (n + 3) 22 d) : ∃ l : List Kn, d = [.sl (l.map kD)] ∧ Sm l.length ∧ ∀ b ∈ l, (-9223372036854775808 ≤ b.cl ∧ b.cl ≤ 9223372036854775807) := by
  obtain ⟨es, rfl, h1, h2⟩ := h.slice Ty.under_22
  obtain ⟨l, rfl, hl⟩ := rows_ofP (g := kD) fun x hx => known_of (h2 x hx)
  refine ⟨l, rfl, ?_, hl⟩
  have hb : Tryz.prog.bytesOf 55 = 24 := by kernel_rfl
  rw [hb, List.length_map] at h1
  unfold Sm; omega
theorem events_of {n : Nat} {d : List D} (h : Tyd Tryz.prog (n + 3) 82 d) : ∃ l : List Ev, d = esD l ∧ Sm l.length ∧ ∀ b ∈ l, (0 ≤ b.kd ∧ b.kd ≤ 255) := by
  obtain ⟨es, rfl, h1, h2⟩ := h.slice Ty.under_82
  obtain ⟨l, rfl, hl⟩ := rows_ofP (g := eD) fun x hx => event_of (h2 x hx)
  refine ⟨l, rfl, ?_, hl⟩
  have hb : Tryz.prog.bytesOf 86 = 24 := by kernel_rfl
  rw [hb, List.length_map] at h1
  unfold Sm; omega
theorem eventss_of {n : Nat} {d : List D} (h : Tyd Tryz.prog (n + 4) 24 d) : ∃ l : List (List Ev), d = [.sl (l.map esD)] ∧ Sm l.length ∧ ∀ b ∈ l, Sm b.length ∧ ∀ x ∈ b, (0 ≤ x.kd ∧ x.kd ≤ 255) := by
  obtain ⟨es, rfl, h1, h2⟩ := h.slice Ty.under_24
  obtain ⟨l, rfl, hl⟩ := rows_ofP (g := esD) fun x hx => events_of (h2 x hx)
  refine ⟨l, rfl, ?_, hl⟩
  have hb : Tryz.prog.bytesOf 82 = 24 := by kernel_rfl
  rw [hb, List.length_map] at h1
  unfold Sm; omega
structure LSm (l : Lg) : Prop where
  k : Sm l.kn.length
  b : Sm l.br.length
  e : Sm l.ev.length
  s : ∀ s ∈ l.ev, Sm s.length
  kv : ∀ x ∈ l.kn, (-9223372036854775808 ≤ x.cl ∧ x.cl ≤ 9223372036854775807)
  bv : ∀ x ∈ l.br, (-9223372036854775808 ≤ x.at' ∧ x.at' ≤ 9223372036854775807)
  ev : ∀ s ∈ l.ev, ∀ x ∈ s, (0 ≤ x.kd ∧ x.kd ≤ 255)
theorem ledger_of {n : Nat} {x : List D} (h : Tyd Tryz.prog (n + 5) 26 x) : ∃ l : Lg, x = [.sl (l.kn.map kD), .sl (l.br.map bD), .sl (l.ev.map esD)] ∧ LSm l := by
  obtain ⟨f0, f1, f2, hu, e0, e1, e2⟩ : ∃ f0 f1 f2 : Field, Tryz.prog.underlying 26 = some (.struct #[f0, f1, f2]) ∧ f0.type = 22 ∧ f1.type = 23 ∧ f2.type = 24 := ⟨_, _, _, by rfl, rfl, rfl, rfl⟩
  have this := h.struct hu
  simp only [List.map_cons, List.map_nil, Sq] at this
  obtain ⟨a0, b0, rfl, k0, a1, b1, rfl, k1, a2, b2, rfl, k2, rfl⟩ := this
  rw [e0] at k0; rw [e1] at k1; rw [e2] at k2
  obtain ⟨i, rfl, h1, h1'⟩ := knowns_of k0
  obtain ⟨j, rfl, h2, h2'⟩ := branches_of k1
  obtain ⟨k, rfl, h3, h3'⟩ := eventss_of k2
  exact ⟨⟨i, j, k⟩, rfl, h1, h2, h3, fun s hs => (h3' s hs).1, h1', h2', fun s hs => (h3' s hs).2⟩
structure Fit (l : Lg) : Prop where
  k : l.kn.length ≤ 40
  b : l.br.length ≤ 20
  e : l.ev.length ≤ 20
  s : ∀ s ∈ l.ev, s.length ≤ 50 ∧ (s.length ≤ 8 ∨ 40 < s.length)
  kn : ∀ k ∈ l.kn, k.ch.size ≤ 100
  en : ∀ s ∈ l.ev, ∀ x ∈ s, x.ch.size ≤ 100
  bn : ∀ b ∈ l.br, b.name.size ≤ 100 ∧ b.frm.size ≤ 100
theorem fit_of {l : Lg} (h : greatL l = false) : Fit l := by
  simp only [greatL, great, Bool.or_eq_false_iff, decide_eq_false_iff_not, List.any_eq_false] at h
  obtain ⟨⟨h1, h2⟩, ⟨h3, h4, h5, h5'⟩, h6⟩ := h
  refine ⟨by omega, by omega, by omega, fun s hs => ?_, fun k hk => ?_, fun s hs x hx => ?_, fun b hb => ?_⟩
  · have := h2 s hs
    simp only [bigS, bigN, Bool.or_eq_true, Bool.and_eq_true, decide_eq_true_eq, not_or, not_and] at this
    omega
  · have := h1 k hk
    simp only [bigK, decide_eq_true_eq] at this
    omega
  · have := h2 s hs
    simp only [bigS, Bool.or_eq_true, not_or, List.any_eq_true, not_exists, not_and] at this
    have := this.2 x hx
    simp only [bigE, decide_eq_true_eq] at this
    omega
  · have := h4 b hb
    simp only [Bool.or_eq_true, decide_eq_true_eq, not_or] at this
    omega
end Go.AX.Lg
namespace Go.AX.Lg
open Go.Proofs Go.RowKit Go.IntWalk Go.AX.Br
def hasI (l : List Int) (n : Int) : Bool := l.any fun x => x == n
theorem LOk.view {l : Lg} (lo : LOk l) {i : Nat} {x : Br} {s : List Ev} {v : List Mk} (a : At l i x s v) : lview l x.name = (v, 0) := by
  unfold lview
  rw [if_neg (by have := lo.chk; omega)]
  exact vname lo.tab a
theorem LOk.eff {l : Lg} (lo : LOk l) {i : Nat} {x : Br} {s : List Ev} {v : List Mk} (a : At l i x s v) : effR l x.name = (effL l (preE l i ++ s), 0) := by
  rw [effR, lo.view a]; simp only [ne_eq, not_true_eq_false, if_false, a.seen]
end Go.AX.Lg
namespace Go.AX.Br
open Go.Proofs Go.RowKit Go.IntWalk
theorem vws_more {l : List Br} {cs : List Int} {i : Nat} {c : Int} (ho : Ok l) (hc : cs[i]? = some c) (h0 : 0 ≤ c) : ∀ (n : Nat) (V : List (List Mk)), n ≤ l.length → vws l cs n = some V →
    ∃ W, vws l (cs.set i (c + 1)) n = some W ∧ (∀ (k : Nat) (v : List Mk), V[k]? = some v → W[k]? = some (if k = i then v ++ [⟨i, c⟩] else v)) := by
  intro n
  induction n with
  | zero => intro V _ h; simp only [vws, Option.some.injEq] at h; subst h; exact ⟨[], rfl, by simp⟩
  | succ n ih =>
    intro V hn h
    simp only [vws, Option.bind_eq_some_iff] at h
    obtain ⟨o, h1, h2⟩ := h
    obtain ⟨w, w1, w2⟩ := ih o (by omega) h1
    have hol := vws_len h1
    have hwl := vws_len w1
    obtain ⟨x, hx⟩ : ∃ x, l[n]? = some x := ⟨l[n]'(by omega), List.getElem?_eq_getElem _⟩
    have hcn : ∃ d, cs[n]? = some d ∧ (cs.set i (c + 1))[n]? = some (if n = i then d + 1 else d) ∧ (n = i → d = c) := by
      cases q : cs[n]? with
      | none => simp only [vstep, hol, hx, q] at h2; simp at h2
      | some d =>
        refine ⟨d, rfl, ?_, fun e => by subst e; rw [hc] at q; cases q; rfl⟩
        rw [List.getElem?_set]
        by_cases e : i = n
        · subst e
          rw [hc] at q; cases q
          rw [if_pos rfl, if_pos (some_lt hc), if_pos rfl]
        · rw [if_neg e, if_neg (fun h => e h.symm), q]
    obtain ⟨d, d1, d2, d3⟩ := hcn
    have own1 : ∀ k : Nat, k = i → d = c → Br.own k (d + 1) = Br.own k d ++ [⟨i, c⟩] := fun k e ed => by
      subst e; subst ed
      have e2 : (d + 1).toNat = d.toNat + 1 := by omega
      simp only [Br.own, e2, List.range_succ, List.map_append, List.map_cons, List.map_nil]
      congr 2
      simp only [Mk.mk.injEq, true_and]; omega
    have last : ∀ (a b : List Mk), V = o ++ [a] → (b = if n = i then a ++ [⟨i, c⟩] else a) → ∀ (k : Nat) (v : List Mk), V[k]? = some v → (w ++ [b])[k]? = some (if k = i then v ++ [⟨i, c⟩] else v) := fun a b hV hb k v hk => by
      subst hV
      rcases Nat.lt_or_ge k n with q | q
      · rw [List.getElem?_append_left (by omega)] at hk ⊢; exact w2 k v hk
      · have hlt := some_lt hk
        simp at hlt
        have : k = n := by omega
        subst this
        rw [List.getElem?_append_right (by omega), hol] at hk
        rw [List.getElem?_append_right (by omega), hwl]
        simp at hk ⊢
        subst hk; exact hb
    have hw3 := vws_succ w1
    simp only [vstep, hol, hx, d1] at h2
    split at h2
    · next h0' =>
      cases h2
      rw [vstep_zero (by omega) (by rw [hwl]; exact hx) (by rw [hwl]; exact d2)] at hw3
      refine ⟨_, hw3, last _ _ rfl ?_⟩
      rw [hwl]
      split
      · next e => exact own1 n e (d3 e)
      · rfl
    · next h0' =>
      obtain ⟨j, j1, j2⟩ := ho.from' n x hx (by omega)
      rw [j2, Int.toNat_natCast] at h2
      cases q : o[j]? with
      | none => rw [q] at h2; simp at h2
      | some f =>
        rw [q] at h2
        simp only at h2
        split at h2
        · simp at h2
        · next hle =>
          cases h2
          have hwj := w2 j f q
          rw [vstep_pos (by omega) (by rw [hwl]; exact hx) (by rw [hwl]; exact d2) j2 hwj] at hw3
          have hat := (ho.good n x hx).2.1
          have hfl : ((if j = i then f ++ [⟨i, c⟩] else f).length : Int) = f.length + if j = i then 1 else 0 := by split <;> simp
          rw [if_neg (by rw [hfl]; split <;> omega)] at hw3
          refine ⟨_, hw3, last _ _ rfl ?_⟩
          rw [hwl]
          have et : (if j = i then f ++ [⟨i, c⟩] else f).take x.at'.toNat = f.take x.at'.toNat := by
            split
            · rw [List.take_append_of_le_length (by omega)]
            · rfl
          rw [et]
          split
          · next e => rw [own1 n e (d3 e), List.append_assoc]
          · rfl
theorem more_fits {l : List Br} {cs : List Int} {i : Nat} {c : Int} (g : Good l cs) (hc : cs[i]? = some c) (h : c + 1 ≤ 40) : fits l (cs.set i (c + 1)) = 0 ∧ ∀ (k : Nat) (v : List Mk), (vw l cs)[k]? = some v → (vw l (cs.set i (c + 1)))[k]? = some (if k = i then v ++ [⟨i, c⟩] else v) := by
  have hc0 := (g.cnt c (List.mem_of_getElem? hc)).1
  obtain ⟨W, w1, w2⟩ := vws_more g.ok hc hc0 l.length _ (Nat.le_refl _) g.some'
  have hw : vw l (cs.set i (c + 1)) = W := by simp [vw, w1]
  refine ⟨?_, by rw [hw]; exact w2⟩
  have hany : (cs.set i (c + 1)).any badC = false := by
    rw [List.any_eq_false]
    intro d hd
    rcases List.mem_or_eq_of_mem_set hd with hd | hd
    · have := g.cnt d hd; simp [badC]; omega
    · subst hd; simp [badC]; omega
  simp only [fits, hany, Br.fit, w1]
  rw [if_neg (by have := g.chk; omega), if_neg (by rw [List.length_set]; simp [g.len])]
  rfl
def sNew : ByteArray := ⟨#[122, 122, 45, 110, 101, 119]⟩
theorem view_bound {l : List Br} {cs : List Int} (g : Good l cs) : ∀ (i : Nat) (v : List Mk), (vw l cs)[i]? = some v → v.length ≤ 40 * (i + 1) := by
  intro i
  induction i using Nat.strongRecOn with
  | _ i ih =>
  intro v hv
  have hil : i < l.length := by have := some_lt hv; have := g.vlen; omega
  obtain ⟨x, hx⟩ : ∃ x, l[i]? = some x := ⟨l[i]'hil, List.getElem?_eq_getElem _⟩
  obtain ⟨c, hc⟩ : ∃ c, cs[i]? = some c := ⟨cs[i]'(by have := g.len; omega), List.getElem?_eq_getElem _⟩
  have hcc := g.cnt c (List.mem_of_getElem? hc)
  have hlen := fit_len g.ok g.fit hx hc hv
  rcases Nat.eq_zero_or_pos i with h0 | h0
  · subst h0
    rw [(g.ok.root x hx).2] at hlen
    simp at hlen; omega
  · obtain ⟨j, f, j1, j2, j3, j4, j5⟩ := g.fit.step i x c v h0 hx hc hv
    have := ih j j1 f j3
    omega
end Go.AX.Br
namespace Go.AX.Lg
open Go.Proofs Go.RowKit Go.IntWalk Go.AX.Br
theorem inR_snoc (l : Lg) (s : List Ev) (x : Ev) (c : Int) : inR l (s ++ [x]) c = if classR l x.ch = c then (x.kd != 3) else inR l s c := by
  have lr := lastN_range (p := isC l c) (s := s) s.length
  rw [show lastN (isC l c) s s.length = lastR l s c from rfl] at lr
  unfold inR
  rw [lastR_snoc]
  unfold isC
  by_cases q : classR l x.ch = c
  · rw [if_pos q, if_pos (decide_eq_true q)]
    simp only [kdAt, Int.toNat_natCast, List.getElem?_append_right (Nat.le_refl _), Nat.sub_self, List.getElem?_cons_zero]
    simp
  · rw [if_neg q, if_neg (by simp [q])]
    cases h : decide (0 ≤ lastR l s c)
    · rfl
    · rw [kdAt_pre (by omega) (of_decide_eq_true h)]
theorem kn_inR {l m : Lg} (h : m.kn = l.kn) : inR m = inR l := by
  obtain ⟨a, b, c⟩ := l; obtain ⟨a', b', c'⟩ := m; cases h; rfl
theorem kn_classN {l m : Lg} (h : m.kn = l.kn) : classN m = classN l := by
  obtain ⟨a, b, c⟩ := l; obtain ⟨a', b', c'⟩ := m; cases h; rfl
theorem kn_allR {l m : Lg} (h : m.kn = l.kn) : allR m = allR l := by
  obtain ⟨a, b, c⟩ := l; obtain ⟨a', b', c'⟩ := m; cases h; rfl
theorem kn_badL {l m : Lg} (h : m.kn = l.kn) : ∀ (s pre : List Ev), badL m pre s = badL l pre s
  | [], _ => rfl
  | x :: s, pre => by
    simp only [badL, badX, kn_badL h s, kn_classN h, kn_allR h]
theorem badL_app {l : Lg} : ∀ (s pre t : List Ev), badL l pre (s ++ t) = (badL l pre s || badL l (pre ++ s) t)
  | [], pre, t => by simp [badL]
  | x :: s, pre, t => by
    simp only [List.cons_append, badL, badL_app s, List.append_assoc, List.nil_append, Bool.or_assoc]
theorem kn_effL {l m : Lg} (h : m.kn = l.kn) (s : List Ev) : effL m s = effL l s := by
  unfold effL effN
  rw [kn_inR h]
theorem filterMap_cong {α β : Type} {f g : α → Option β} : ∀ {v : List α}, (∀ k ∈ v, f k = g k) → v.filterMap f = v.filterMap g
  | [], _ => rfl
  | x :: v, h => by
    rw [List.filterMap_cons, List.filterMap_cons, h x (by simp), filterMap_cong fun k hk => h k (by simp [hk])]
theorem seenL_more {l m : Lg} (h : ∀ (b : Nat) (s : List Ev), l.ev[b]? = some s → ∃ t, m.ev[b]? = some (s ++ t)) {v : List Mk} (hv : ∀ k ∈ v, InR l k) : seenL m v = seenL l v := by
  unfold seenL
  refine filterMap_cong fun k hk => ?_
  obtain ⟨b, e, s, x, rfl, h1, h2⟩ := hv k hk
  obtain ⟨t, ht⟩ := h b s h1
  rw [evAt_in h1 h2, evAt_in ht (by rw [List.getElem?_append_left (some_lt h2)]; exact h2)]
theorem lcheck_mk {l : Lg} (h1 : l.kn.length ≤ 30) (h2 : (clsM l.kn).length = l.kn.length) (h3 : l.kn.any badK = false) (h4 : check l.br = 0) (h5 : l.ev.length = l.br.length) (h6 : l.ev.any many = false) (h7 : fits l.br (cntL l) = 0) (h8 : ∀ i, i < l.ev.length → badB l i = false) : lcheck l = 0 := by
  unfold lcheck
  rw [if_neg (by omega), if_neg (by omega), if_neg (by rw [h3]; simp), if_neg (by omega), if_neg (by omega), if_neg (by rw [h6]; simp), if_neg (by omega), if_neg]
  simp only [List.any_eq_true, List.mem_range, not_exists, not_and]
  intro i hi
  rw [h8 i hi]; simp
theorem LOk.parts {l : Lg} (lo : LOk l) : (clsM l.kn).length = l.kn.length ∧ l.kn.any badK = false ∧ check l.br = 0 ∧ l.ev.any many = false := by
  have h := lo.chk
  unfold lcheck at h
  split at h
  · cases h
  next k1 =>
  split at h
  · cases h
  next k2 =>
  split at h
  · cases h
  next k3 =>
  split at h
  · next q => exact absurd h q
  next k4 =>
  split at h
  · cases h
  next k5 =>
  split at h
  · cases h
  next k6 =>
  exact ⟨by have := (cls_len (l := l)).1; omega, by simpa using k3, by omega, by simpa using k6⟩
theorem add_ok {l : Lg} (lo : LOk l) {i : Nat} {x : Br} {s : List Ev} {v : List Mk} (a : At l i x s v) {e : Ev} {c : Int} (h40 : s.length ≠ 40) (hc : classN l e.ch = some c) (hal : allR l (preE l i ++ s) e = 0) :
    LOk (addE l i e) ∧ (∀ (k : Nat) (y : Br) (t : List Ev) (w : List Mk), At l k y t w → effR (addE l i e) y.name = (effL l (preE l k ++ if k = i then t ++ [e] else t), 0)) ∧
      ∃ w, At (addE l i e) i x (s ++ [e]) w ∧ preE (addE l i e) i = preE l i := by
  obtain ⟨p1, p2, p3, p4⟩ := lo.parts
  have hs := a.hs
  have hil := some_lt hs
  have hle := lo.own i s hs
  have hge : l.ev.getD i [] = s := by rw [List.getD_eq_getElem?_getD, hs]; rfl
  have kn : (addE l i e).kn = l.kn := rfl
  have ev : (addE l i e).ev = l.ev.set i (s ++ [e]) := by simp only [addE, hge]
  have br : (addE l i e).br = l.br := rfl
  have hcnt : cntL (addE l i e) = (cntL l).set i ((s.length : Int) + 1) := by
    unfold cntL
    rw [ev, List.map_set]; simp
  have hci := cnt_get hs
  obtain ⟨f1, f2⟩ := more_fits lo.tab.g hci (by omega)
  have more : ∀ (b : Nat) (t : List Ev), l.ev[b]? = some t → ∃ u, (addE l i e).ev[b]? = some (t ++ u) := fun b t ht => by
    rw [ev, List.getElem?_set]
    by_cases q : i = b
    · subst q; rw [hs] at ht; cases ht
      exact ⟨[e], by rw [if_pos rfl, if_pos hil]⟩
    · exact ⟨[], by rw [if_neg q]; simpa using ht⟩
  have vws : ∀ (k : Nat) (w : List Mk), (vw l.br (cntL l))[k]? = some w → (vw (addE l i e).br (cntL (addE l i e)))[k]? = some (if k = i then w ++ [⟨i, (s.length : Int)⟩] else w) := fun k w hw => by
    rw [br, hcnt]; exact f2 k w hw
  have pre : ∀ k, k < l.br.length → preE (addE l i e) k = preE l k := fun k hk => by
    obtain ⟨y, t, w, b⟩ := at_of lo.tab hk
    have h1 : vwI (addE l i e) k = if k = i then w ++ [⟨i, (s.length : Int)⟩] else w := vwI_eq (vws k w b.hv)
    have h2 : atN (addE l i e) k = y.at'.toNat := by simp [atN, br, b.hx]
    have h3 : atN l k = y.at'.toNat := by simp [atN, b.hx]
    have hlen := b.len
    unfold preE
    rw [h1, h2, h3, vwI_eq b.hv]
    have h4 : (if k = i then w ++ [⟨i, (s.length : Int)⟩] else w).take y.at'.toNat = w.take y.at'.toNat := by
      split
      · rw [List.take_append_of_le_length (by omega)]
      · rfl
    rw [h4]
    exact seenL_more more fun m hm => b.inr m (List.mem_of_mem_take hm)
  have hbad : ∀ k, k < l.ev.length → badB (addE l i e) k = false := fun k hk => by
    have te := lo.tab.ev
    have := lo.good k hk
    unfold badB at this ⊢
    rw [pre k (by omega), kn_badL kn, ev, List.getElem?_set]
    by_cases q : i = k
    · subst q
      rw [if_pos rfl, if_pos hil]
      rw [hs] at this
      simp only [Option.getD_some] at this ⊢
      rw [badL_app, this]
      simp [badL, badX, hc, hal]
    · rw [if_neg q]; exact this
  have hchk : lcheck (addE l i e) = 0 := by
    refine lcheck_mk lo.kl p1 p2 p3 (by rw [ev, List.length_set]; exact lo.tab.ev) ?_ (by rw [hcnt]; exact f1) fun k hk => hbad k (by rw [ev, List.length_set] at hk; exact hk)
    rw [ev, List.any_eq_false]
    intro t ht
    rcases List.mem_or_eq_of_mem_set ht with q | q
    · exact List.any_eq_false.1 p4 t q
    · subst q; simp [many]; omega
  have lm := lok_of hchk
  refine ⟨lm, fun k y t w b => ?_, ?_⟩
  · have hk := some_lt b.hx
    obtain ⟨y', t', w', b'⟩ := at_of lm.tab (i := k) hk
    have ey : y' = y := by have := b'.hx; rw [br, b.hx] at this; cases this; rfl
    subst ey
    have et : t' = if k = i then t ++ [e] else t := by
      have := b'.hs
      rw [ev, List.getElem?_set] at this
      by_cases q : i = k
      · subst q
        rw [if_pos rfl, if_pos hil] at this
        have h2 := b.hs
        rw [hs] at h2; cases h2; cases this
        rw [if_pos rfl]
      · rw [if_neg q, b.hs] at this; cases this
        rw [if_neg (fun h => q h.symm)]
    rw [lm.eff b', pre k hk, et, kn_effL kn]
  · have hk := some_lt a.hx
    obtain ⟨y', t', w', b'⟩ := at_of lm.tab (i := i) hk
    have ey : y' = x := by have := b'.hx; rw [br, a.hx] at this; cases this; rfl
    subst ey
    have et : t' = s ++ [e] := by
      have := b'.hs
      rw [ev, List.getElem?_set, if_pos rfl, if_pos hil] at this
      cases this; rfl
    subst et
    exact ⟨w', b', pre i hk⟩
end Go.AX.Lg
namespace Go.AX.Lg
open Go.Proofs Go.RowKit Go.IntWalk Go.AX.Br
theorem vlen_le {l : Lg} (lo : LOk l) {i : Nat} {x : Br} {s : List Ev} {v : List Mk} (a : At l i x s v) : v.length ≤ 320 := by
  have := view_bound lo.tab.g i v a.hv
  have := some_lt a.hx
  have := lo.tab.g.ok.len
  omega
end Go.AX.Lg
namespace Go.AX.Lg
open Go.Proofs Go.RowKit Go.IntWalk Go.AX.Br
theorem filter_get {α : Type} {p : α → Bool} {l : List α} {k : Nat} {x : α} (h : l[k]? = some x) (hp : p x = true) : (l.filter p)[((l.take k).filter p).length]? = some x ∧ ((l.take (k + 1)).filter p).length = ((l.take k).filter p).length + 1 ∧ ((l.take k).filter p).length < (l.filter p).length := by
  have hk := some_lt h
  have e : l = l.take k ++ x :: l.drop (k + 1) := by
    have := List.take_append_drop k l
    rw [List.drop_eq_getElem_cons hk, (List.getElem?_eq_some_iff.1 h).2] at this
    exact this.symm
  have e2 : l.filter p = (l.take k).filter p ++ x :: (l.drop (k + 1)).filter p := by
    conv => lhs; rw [e]
    rw [List.filter_append, List.filter_cons_of_pos hp]
  refine ⟨?_, ?_, ?_⟩
  · rw [e2, List.getElem?_append_right (Nat.le_refl _), Nat.sub_self]; rfl
  · rw [List.take_add_one, h, Option.toList_some, List.filter_append, List.filter_cons_of_pos hp, List.filter_nil, List.length_append]; rfl
  · rw [e2, List.length_append]; simp
theorem filter_skip {α : Type} {p : α → Bool} {l : List α} {k : Nat} {x : α} (h : l[k]? = some x) (hp : p x = false) : ((l.take (k + 1)).filter p).length = ((l.take k).filter p).length := by
  rw [List.take_add_one, h, Option.toList_some, List.filter_append, List.filter_cons_of_neg (by simp [hp]), List.filter_nil, List.append_nil]
def ne (c : Int) (x : Int) : Bool := !(x == c)
end Go.AX.Lg
namespace Go.AX.Wn
open Go.Proofs Go.RowKit Go.IntWalk Go.AX.Br
structure Hd where
  br : ByteArray
  fr : Int
  to : Int
  rs : ByteArray
instance : DecidableEq Hd := fun a b => decidable_of_iff (a.br = b.br ∧ a.fr = b.fr ∧ a.to = b.to ∧ a.rs = b.rs) (by cases a; cases b; simp)
def hD (r : Hd) : List D := [.str r.br, .int .i64 r.fr, .int .i64 r.to, .str r.rs]
def hA (r : Hd) : AV := .agg [.d (.str r.br), .d (.int .i64 r.fr), .d (.int .i64 r.to), .d (.str r.rs)]
theorem hD_len {l : List Hd} : (∀ e ∈ l.map hD, e.length = 4) = True := eq_true (map_len (g := hD) fun _ => rfl)
theorem iD_len {l : List Int} : (∀ e ∈ l.map iD, e.length = 1) = True := eq_true (map_len (g := iD) fun _ => rfl)
theorem sD_len {l : List ByteArray} : (∀ e ∈ l.map sD, e.length = 1) = True := eq_true (map_len (g := sD) fun _ => rfl)
attribute [go_sem] hD hA hD_len iD_len sD_len
def wrong (h : Hd) : Bool := decide (h.fr < 0) || decide (h.to ≤ h.fr) || decide (1000000 < h.to) || !isNm h.br || !isNm h.rs
def wcheck (l : List Hd) : Int := if 16 < l.length then 4 else if l.any wrong then 8 else 0
def tick (t : Int) : Bool := decide (0 ≤ t) && decide (t ≤ 1000000)
def badT (t : Int) : Bool := decide (t < 0) || decide (1000000 < t)
def asked (l : List Hd) (ts : List Int) : Int := if wcheck l ≠ 0 then wcheck l else if ts.any badT then 2 else 0
def holds (b : ByteArray) (t : Int) (h : Hd) : Bool := decide (h.br = b) && decide (h.fr ≤ t) && decide (t < h.to)
def held (l : List Hd) (b : ByteArray) (t : Int) : Bool := l.any (holds b t)
def wgreat (l : List Hd) : Bool := l.any (fun r => decide (100 < r.br.size) || decide (100 < r.rs.size)) || decide (30 < l.length)
theorem check_one (s : ByteArray) : (check [⟨s, ⟨#[]⟩, 0⟩] == 0) = isNm s := by
  have ht : twice [⟨s, ⟨#[]⟩, 0⟩] = false := by
    refine anyI_f fun i b hb => decide_eq_false ?_
    have hi := some_lt hb
    simp at hi
    subst hi
    simp at hb
    subst hb
    have := idx_le (l := [(⟨s, ⟨#[]⟩, 0⟩ : Br)]) (i := 0) (x := ⟨s, ⟨#[]⟩, 0⟩) rfl (p := has s) (by simp [has])
    simp only; omega
  have hb : anyI (badAt [⟨s, ⟨#[]⟩, 0⟩]) [⟨s, ⟨#[]⟩, 0⟩] = !isNm s := by
    cases h : isNm s
    · exact anyI_t (i := 0) (x := ⟨s, ⟨#[]⟩, 0⟩) rfl (by simp [badAt, badN, h])
    · refine anyI_f fun i b hb => ?_
      have hi := some_lt hb
      simp at hi
      subst hi
      simp at hb
      subst hb
      simp [badAt, badN, root, h]
  simp only [check, ht, hb]
  cases isNm s <;> simp
theorem isName_own (s : ByteArray) : Spec Tryz.prog 97 [.d (.str s)] [] (.d (.bool (isNm s))) [] := by
  have hc := check_own [⟨s, ⟨#[]⟩, 0⟩] (by unfold Sm; simp)
  refine spec_of_ev (fn := Tryz.f97) DX_ok 3000 Tryz.func97 rfl rfl (Nat.le_of_ble_eq_true rfl) ?_
  simp (maxSteps := 4000000) -implicitDefEqProofs only [Tryz.f97, go_sem]
  simp (maxSteps := 4000000) -implicitDefEqProofs only [go_sem, Nat.reduceAdd, Nat.reduceSub, Nat.reduceLT, Nat.reduceLeDiff, Nat.reduceEqDiff, ↓reduceIte]
  refine ⟨by omega, ?_⟩
  refine ECall.frz 0 rfl ?_
  simp (maxSteps := 4000000) -implicitDefEqProofs only [go_sem, Nat.reduceAdd, Nat.reduceSub, Nat.reduceLT, Nat.reduceLeDiff, Nat.reduceEqDiff, ↓reduceIte]
  refine ecall0 _ hc (by simp only [go_sem]) (by simp only [go_sem]) ?_
  simp (maxSteps := 4000000) -implicitDefEqProofs only [go_sem, Nat.reduceAdd, Nat.reduceSub, Nat.reduceLT, Nat.reduceLeDiff, Nat.reduceEqDiff, ↓reduceIte]
  exact wk_bool (check_one s)
theorem wrong_own (h : Hd) : Spec Tryz.prog 96 [hA h] [] (.d (.bool (wrong h))) [] := by
  have a1 := isName_own h.br
  have a2 := isName_own h.rs
  refine spec_of_ev (fn := Tryz.f96) DX_ok 3000 Tryz.func96 rfl rfl (Nat.le_of_ble_eq_true rfl) ?_
  simp (maxSteps := 4000000) -implicitDefEqProofs only [Tryz.f96, go_sem]
  cases h1 : decide (h.fr < 0)
  case true =>
    simp (maxSteps := 4000000) -implicitDefEqProofs only [go_sem, h1, Option.some.injEq, forall_eq', and_true, true_and, Bool.not_true, Bool.not_false, decide_true, Nat.reduceAdd, Nat.reduceSub, Nat.reduceLT, Nat.reduceLeDiff, Nat.reduceEqDiff, ↓reduceIte]
    exact wk_bool (by simp [wrong, h1])
  cases h2 : decide (h.to ≤ h.fr)
  case true =>
    simp (maxSteps := 4000000) -implicitDefEqProofs only [go_sem, h1, h2, Option.some.injEq, forall_eq', and_true, true_and, Bool.not_true, Bool.not_false, decide_true, Nat.reduceAdd, Nat.reduceSub, Nat.reduceLT, Nat.reduceLeDiff, Nat.reduceEqDiff, ↓reduceIte]
    exact wk_bool (by simp [wrong, h2])
  cases h3 : decide (1000000 < h.to)
  case true =>
    simp (maxSteps := 4000000) -implicitDefEqProofs only [go_sem, h1, h2, h3, Option.some.injEq, forall_eq', and_true, true_and, Bool.not_true, Bool.not_false, decide_true, Nat.reduceAdd, Nat.reduceSub, Nat.reduceLT, Nat.reduceLeDiff, Nat.reduceEqDiff, ↓reduceIte]
    exact wk_bool (by simp [wrong, h3])
  simp (maxSteps := 4000000) -implicitDefEqProofs only [go_sem, h1, h2, h3, Option.some.injEq, forall_eq', and_true, true_and, Bool.not_true, Bool.not_false, decide_true, Nat.reduceAdd, Nat.reduceSub, Nat.reduceLT, Nat.reduceLeDiff, Nat.reduceEqDiff, ↓reduceIte]
  refine ecall0 _ a1 (by simp only [go_sem]) (by simp only [go_sem]) ?_
  cases h4 : isNm h.br
  case false =>
    simp (maxSteps := 4000000) -implicitDefEqProofs only [go_sem, h4, Option.some.injEq, forall_eq', and_true, true_and, Bool.not_true, Bool.not_false, decide_true, Nat.reduceAdd, Nat.reduceSub, Nat.reduceLT, Nat.reduceLeDiff, Nat.reduceEqDiff, ↓reduceIte]
    exact wk_bool (by simp [wrong, h4])
  simp (maxSteps := 4000000) -implicitDefEqProofs only [go_sem, h4, Option.some.injEq, forall_eq', and_true, true_and, Bool.not_true, Bool.not_false, decide_true, Nat.reduceAdd, Nat.reduceSub, Nat.reduceLT, Nat.reduceLeDiff, Nat.reduceEqDiff, ↓reduceIte]
  refine ecall0 _ a2 (by simp only [go_sem]) (by simp only [go_sem]) ?_
  simp (maxSteps := 4000000) -implicitDefEqProofs only [go_sem, Nat.reduceAdd, Nat.reduceSub, Nat.reduceLT, Nat.reduceLeDiff, Nat.reduceEqDiff, ↓reduceIte]
  exact wk_bool (by simp [wrong, h1, h2, h3, h4])
theorem hd_indexFunc (l : List Hd) (p : Hd → Bool) (f : FuncId) (caps : List AV) (τ : List AObj) (hl : Sm l.length) (h : ∀ x ∈ l, Spec Tryz.prog f (hA x :: caps) τ (.d (.bool (p x))) τ) :
    Spec Tryz.prog 119 [.d (.sl (l.map hD)), .fn f caps] τ (.d (.int .i64 (idx p l))) τ := by
  unfold Sm at hl
  refine spec_of_ev (fn := Tryz.f119) DX_ok 3000 Tryz.func119 rfl rfl (Nat.le_of_ble_eq_true rfl) ?_
  simp (maxSteps := 4000000) -implicitDefEqProofs only [Tryz.f119, go_sem]
  refine eloop (S := Nat) (fun i => mkE 19 [(0, .d (.sl (l.map hD))), (1, .fn f caps), (6, .d (.sl (l.map hD))), (7, .d (.int .i64 l.length)), (8, .d (.int .i64 i))]) (fun i => τ) (fun i => i ≤ l.length ∧ ∀ j x, l[j]? = some x → j < i → p x = false) (fun i => l.length - i) 0 ⟨by omega, by omega⟩ (Wk.sub (by (simp only [go_sem]) <;> trivial)) ?_
  rintro i ⟨hi, hj⟩
  simp (maxSteps := 4000000) -implicitDefEqProofs only [go_sem, Nat.reduceAdd, Nat.reduceSub, Nat.reduceLT, Nat.reduceLeDiff, Nat.reduceEqDiff, ↓reduceIte]
  refine cbs (fun h1 => ?_) (fun h1 => ?_)
  · simp only [go_sem, decide_eq_true_eq] at h1 ⊢
    refine ⟨by omega, fun x hx => .all _ _ (h x (List.mem_of_getElem? hx)) ?_⟩
    simp (maxSteps := 4000000) -implicitDefEqProofs only [go_sem, Nat.reduceAdd, Nat.reduceSub, Nat.reduceLT, Nat.reduceLeDiff, Nat.reduceEqDiff, ↓reduceIte]
    refine cbs (fun h2 => ?_) (fun h2 => ?_)
    · simp (maxSteps := 4000000) -implicitDefEqProofs only [go_sem, Nat.reduceAdd, Nat.reduceSub, Nat.reduceLT, Nat.reduceLeDiff, Nat.reduceEqDiff, ↓reduceIte]
      rw [idx_found hx h2 hj]
      exact Wk.refl _ _ _
    · simp (maxSteps := 4000000) -implicitDefEqProofs only [go_sem, Nat.reduceAdd, Nat.reduceSub, Nat.reduceLT, Nat.reduceLeDiff, Nat.reduceEqDiff, ↓reduceIte]
      rw [i64_in _ (by omega)]
      refine .mk (i + 1) ⟨by omega, fun j y hy hlt => ?_⟩ (by omega) (Wk.sub (by (simp only [go_sem]) <;> trivial))
      rcases Nat.lt_or_ge j i with q | q
      · exact hj j y hy q
      · have : j = i := by omega
        subst this; rw [hx] at hy; cases hy; exact h2
  · simp only [go_sem, decide_eq_false_iff_not] at h1 ⊢
    rw [idx_none fun j y hy => hj j y hy (by have := some_lt hy; omega)]
    exact Wk.refl _ _ _
theorem hd_containsFunc (l : List Hd) (p : Hd → Bool) (f : FuncId) (caps : List AV) (τ : List AObj) (hl : Sm l.length) (h : ∀ x ∈ l, Spec Tryz.prog f (hA x :: caps) τ (.d (.bool (p x))) τ) :
    Spec Tryz.prog 98 [.d (.sl (l.map hD)), .fn f caps] τ (.d (.bool (l.any p))) τ := by
  refine spec_of_ev (fn := Tryz.f98) DX_ok 3000 Tryz.func98 rfl rfl (Nat.le_of_ble_eq_true rfl) ?_
  simp (maxSteps := 4000000) -implicitDefEqProofs only [Tryz.f98, go_sem]
  refine .all _ _ (hd_indexFunc l p f caps τ hl h) ?_
  simp (maxSteps := 4000000) -implicitDefEqProofs only [go_sem, Nat.reduceAdd, Nat.reduceSub, Nat.reduceLT, Nat.reduceLeDiff, Nat.reduceEqDiff, ↓reduceIte]
  rw [idx_any]
  exact Wk.refl _ _ _
theorem wcheck_own (l : List Hd) (hl : Sm l.length) : Spec Tryz.prog 62 [.d (.sl (l.map hD))] [] (.d (.int .i64 (wcheck l))) [] := by
  refine spec_of_ev (fn := Tryz.f62) DX_ok 3000 Tryz.func62 rfl rfl (Nat.le_of_ble_eq_true rfl) ?_
  simp (maxSteps := 4000000) -implicitDefEqProofs only [Tryz.f62, go_sem]
  rcases Nat.lt_or_ge 16 l.length with h0 | h0
  · have d0 : decide (16 < (l.length : Int)) = true := by simp; omega
    simp (maxSteps := 4000000) -implicitDefEqProofs only [go_sem, d0, Option.some.injEq, forall_eq', and_true, true_and, Bool.not_true, Bool.not_false, decide_true, Nat.reduceAdd, Nat.reduceSub, Nat.reduceLT, Nat.reduceLeDiff, Nat.reduceEqDiff, ↓reduceIte]
    exact wk_int (by simp only [wcheck]; rw [if_pos h0])
  have h0' : ¬ 16 < l.length := by omega
  have d0 : decide (16 < (l.length : Int)) = false := by simp; omega
  simp (maxSteps := 4000000) -implicitDefEqProofs only [go_sem, d0, Option.some.injEq, forall_eq', and_true, true_and, Bool.not_true, Bool.not_false, decide_true, Nat.reduceAdd, Nat.reduceSub, Nat.reduceLT, Nat.reduceLeDiff, Nat.reduceEqDiff, ↓reduceIte]
  refine .all _ _ (hd_containsFunc l wrong _ [] [] hl fun x _ => wrong_own x) ?_
  cases h1 : l.any wrong
  · simp (maxSteps := 4000000) -implicitDefEqProofs only [go_sem, h1, Option.some.injEq, forall_eq', and_true, true_and, Bool.not_true, Bool.not_false, decide_true, Nat.reduceAdd, Nat.reduceSub, Nat.reduceLT, Nat.reduceLeDiff, Nat.reduceEqDiff, ↓reduceIte]
    exact wk_int (by simp only [wcheck, h1]; rw [if_neg h0']; rfl)
  · simp (maxSteps := 4000000) -implicitDefEqProofs only [go_sem, h1, Option.some.injEq, forall_eq', and_true, true_and, Bool.not_true, Bool.not_false, decide_true, Nat.reduceAdd, Nat.reduceSub, Nat.reduceLT, Nat.reduceLeDiff, Nat.reduceEqDiff, ↓reduceIte]
    exact wk_int (by simp only [wcheck, h1]; rw [if_neg h0']; rfl)
theorem wcheck_bad {q : List Hd} {x : Hd} (hl : ¬ 16 < q.length) (hx : x ∈ q) (hv : wrong x = true) : wcheck q = 8 := by
  have : q.any wrong = true := List.any_eq_true.2 ⟨x, hx, hv⟩
  simp only [wcheck, this]
  rw [if_neg hl]; rfl
theorem wcheck_ref (q : List Hd) (hq : Sm q.length) : Spec Tryz.prog 24 [.d (.sl (q.map hD))] [] (.d (.int .i64 (wcheck q))) [] := by
  unfold Sm at hq
  refine spec_of_ev (fn := Tryz.f24) DX_ok 3000 Tryz.func24 rfl rfl (Nat.le_of_ble_eq_true rfl) ?_
  simp (maxSteps := 4000000) -implicitDefEqProofs only [Tryz.f24, go_sem]
  rcases Nat.lt_or_ge 16 q.length with h0 | h0
  · have d0 : decide (16 < (q.length : Int)) = true := by simp; omega
    simp (maxSteps := 4000000) -implicitDefEqProofs only [go_sem, d0, Option.some.injEq, forall_eq', and_true, true_and, Bool.not_true, Bool.not_false, decide_true, Nat.reduceAdd, Nat.reduceSub, Nat.reduceLT, Nat.reduceLeDiff, Nat.reduceEqDiff, ↓reduceIte]
    exact wk_int (by simp only [wcheck]; rw [if_pos h0])
  have h0' : ¬ 16 < q.length := by omega
  have d0 : decide (16 < (q.length : Int)) = false := by simp; omega
  simp (maxSteps := 4000000) -implicitDefEqProofs only [go_sem, d0, Option.some.injEq, forall_eq', and_true, true_and, Bool.not_true, Bool.not_false, decide_true, Nat.reduceAdd, Nat.reduceSub, Nat.reduceLT, Nat.reduceLeDiff, Nat.reduceEqDiff, ↓reduceIte]
  refine eloop (S := Nat) (fun i => mkE 58 [(0, .d (.sl (q.map hD))), (3, .d (.int .i64 i))]) (fun i => []) (fun i => i ≤ q.length ∧ ∀ j x, q[j]? = some x → j < i → wrong x = false) (fun i => q.length - i) 0 ⟨by omega, by omega⟩ (Wk.sub (by (simp only [go_sem]) <;> trivial)) ?_
  rintro i ⟨hi, hj⟩
  rcases Nat.lt_or_ge i q.length with h2 | h2
  · have d2 : decide ((i : Int) < q.length) = true := by simp; omega
    obtain ⟨x, hx⟩ : ∃ x, q[i]? = some x := ⟨q[i]'(by omega), List.getElem?_eq_getElem _⟩
    have n1 : (0 ≤ (i : Int) ∧ (i : Int) < q.length) = True := eq_true (by omega)
    have n2 : (i < q.length) = True := eq_true (by omega)
    have w1 : IntKind.i64.wrap ((i : Int) + 1) = ((i + 1 : Nat) : Int) := by rw [i64_in _ (by omega)]; simp
    have a1 := name_ref x.br
    have a2 := name_ref x.rs
    have bad : wrong x = true → wcheck q = 8 := fun h => wcheck_bad h0' (List.mem_of_getElem? hx) h
    simp (maxSteps := 4000000) -implicitDefEqProofs only [go_sem, d2, Option.some.injEq, forall_eq', and_true, true_and, Bool.not_true, Bool.not_false, decide_true, Nat.reduceAdd, Nat.reduceSub, Nat.reduceLT, Nat.reduceLeDiff, Nat.reduceEqDiff, ↓reduceIte]
    refine DX.plain (.take 0 false (.take 1 false (.take 2 false (.take 3 false (.take 4 false (.take 5 false (.take 6 false (.take 7 false (.take 8 false (.take 9 false (.take 10 false (.take 11 false (.take 12 false (.take 13 false (.take 14 false (.take 15 false (.take 16 false (.take 17 false (.take 18 false (.take 19 false (.take 20 false (.take 21 false (.take 22 false (.take 23 false (.take 24 false (.take 25 false (.take 26 false (.take 27 false (.take 28 false (.take 29 false (.take 30 false (.take 31 false (.take 32 false (.take 33 false (.take 34 false (.take 35 false (.take 36 false (.take 37 false (.take 38 false (.take 39 false (.take 40 false (.take 41 false (.take 42 false (.take 43 false (.take 44 false .done))))))))))))))))))))))))))))))))))))))))))))) (by kernel_rfl) (by kernel_rfl) Ty.mixed ?_
    simp (maxSteps := 4000000) -implicitDefEqProofs only [go_sem, n1, n2, hx, Option.some.injEq, forall_eq', and_true, true_and, Bool.not_true, Bool.not_false, decide_true, Nat.reduceAdd, Nat.reduceSub, Nat.reduceLT, Nat.reduceLeDiff, Nat.reduceEqDiff, ↓reduceIte]
    refine ⟨_, _, a1, rfl, ?_⟩
    cases h1 : isNm x.br
    case false =>
      simp (maxSteps := 4000000) -implicitDefEqProofs only [go_sem, h1, Option.some.injEq, forall_eq', and_true, true_and, Bool.not_true, Bool.not_false, decide_true, Nat.reduceAdd, Nat.reduceSub, Nat.reduceLT, Nat.reduceLeDiff, Nat.reduceEqDiff, ↓reduceIte]
      exact wk_int (bad (by simp [wrong, h1])).symm
    simp (maxSteps := 4000000) -implicitDefEqProofs only [go_sem, h1, n1, n2, hx, Option.some.injEq, forall_eq', and_true, true_and, Bool.not_true, Bool.not_false, decide_true, Nat.reduceAdd, Nat.reduceSub, Nat.reduceLT, Nat.reduceLeDiff, Nat.reduceEqDiff, ↓reduceIte]
    refine ⟨_, _, a2, rfl, ?_⟩
    cases h3 : isNm x.rs
    case false =>
      simp (maxSteps := 4000000) -implicitDefEqProofs only [go_sem, h3, Option.some.injEq, forall_eq', and_true, true_and, Bool.not_true, Bool.not_false, decide_true, Nat.reduceAdd, Nat.reduceSub, Nat.reduceLT, Nat.reduceLeDiff, Nat.reduceEqDiff, ↓reduceIte]
      exact wk_int (bad (by simp [wrong, h3])).symm
    cases h4 : decide (x.fr < 0)
    case true =>
      simp (maxSteps := 4000000) -implicitDefEqProofs only [go_sem, h3, n1, n2, hx, h4, Option.some.injEq, forall_eq', and_true, true_and, Bool.not_true, Bool.not_false, decide_true, Nat.reduceAdd, Nat.reduceSub, Nat.reduceLT, Nat.reduceLeDiff, Nat.reduceEqDiff, ↓reduceIte]
      exact wk_int (bad (by simp [wrong, h4])).symm
    cases h5 : decide (x.to ≤ x.fr)
    case true =>
      simp (maxSteps := 4000000) -implicitDefEqProofs only [go_sem, h3, n1, n2, hx, h4, h5, Option.some.injEq, forall_eq', and_true, true_and, Bool.not_true, Bool.not_false, decide_true, Nat.reduceAdd, Nat.reduceSub, Nat.reduceLT, Nat.reduceLeDiff, Nat.reduceEqDiff, ↓reduceIte]
      exact wk_int (bad (by simp [wrong, h5])).symm
    cases h6 : decide (1000000 < x.to)
    case true =>
      simp (maxSteps := 4000000) -implicitDefEqProofs only [go_sem, h3, n1, n2, hx, h4, h5, h6, Option.some.injEq, forall_eq', and_true, true_and, Bool.not_true, Bool.not_false, decide_true, Nat.reduceAdd, Nat.reduceSub, Nat.reduceLT, Nat.reduceLeDiff, Nat.reduceEqDiff, ↓reduceIte]
      exact wk_int (bad (by simp [wrong, h6])).symm
    simp (maxSteps := 4000000) -implicitDefEqProofs only [go_sem, h3, n1, n2, hx, h4, h5, h6, w1, Option.some.injEq, forall_eq', and_true, true_and, Bool.not_true, Bool.not_false, decide_true, Nat.reduceAdd, Nat.reduceSub, Nat.reduceLT, Nat.reduceLeDiff, Nat.reduceEqDiff, ↓reduceIte]
    exact .mk (i + 1) ⟨by omega, upto_succ hx (by simp only [wrong, h1, h3, h4, h5, h6]; rfl) hj⟩ (by omega) (Wk.sub (by (simp only [go_sem]) <;> trivial))
  have d2 : decide ((i : Int) < q.length) = false := by simp; omega
  simp (maxSteps := 4000000) -implicitDefEqProofs only [go_sem, d2, Option.some.injEq, forall_eq', and_true, true_and, Bool.not_true, Bool.not_false, decide_true, Nat.reduceAdd, Nat.reduceSub, Nat.reduceLT, Nat.reduceLeDiff, Nat.reduceEqDiff, ↓reduceIte]
  refine wk_int ?_
  have : q.any wrong = false := by
    rw [List.any_eq_false]
    intro x hx
    obtain ⟨j, hj'⟩ := List.mem_iff_getElem?.1 hx
    simp [hj j x hj' (by have := some_lt hj'; omega)]
  simp only [wcheck, this]
  rw [if_neg h0']; rfl
theorem badT_own (t : Int) : Spec Tryz.prog 64 [.d (.int .i64 t)] [] (.d (.bool (badT t))) [] := by
  refine spec_of_ev (fn := Tryz.f64) DX_ok 3000 Tryz.func64 rfl rfl (Nat.le_of_ble_eq_true rfl) ?_
  simp (maxSteps := 4000000) -implicitDefEqProofs only [Tryz.f64, go_sem]
  cases h1 : decide (t < 0)
  · simp (maxSteps := 4000000) -implicitDefEqProofs only [go_sem, h1, Option.some.injEq, forall_eq', and_true, true_and, Bool.not_true, Bool.not_false, decide_true, Nat.reduceAdd, Nat.reduceSub, Nat.reduceLT, Nat.reduceLeDiff, Nat.reduceEqDiff, ↓reduceIte]
    exact wk_bool (by simp [badT, h1])
  · simp (maxSteps := 4000000) -implicitDefEqProofs only [go_sem, h1, Option.some.injEq, forall_eq', and_true, true_and, Bool.not_true, Bool.not_false, decide_true, Nat.reduceAdd, Nat.reduceSub, Nat.reduceLT, Nat.reduceLeDiff, Nat.reduceEqDiff, ↓reduceIte]
    exact wk_bool (by simp [badT, h1])
def iA (i : Int) : AV := .d (.int .i64 i)
attribute [go_sem] iA
theorem it_indexFunc (l : List Int) (p : Int → Bool) (f : FuncId) (caps : List AV) (τ : List AObj) (hl : Sm l.length) (h : ∀ x ∈ l, Spec Tryz.prog f (iA x :: caps) τ (.d (.bool (p x))) τ) :
    Spec Tryz.prog 99 [.d (.sl (l.map iD)), .fn f caps] τ (.d (.int .i64 (idx p l))) τ := by
  unfold Sm at hl
  refine spec_of_ev (fn := Tryz.f99) DX_ok 3000 Tryz.func99 rfl rfl (Nat.le_of_ble_eq_true rfl) ?_
  simp (maxSteps := 4000000) -implicitDefEqProofs only [Tryz.f99, go_sem]
  refine eloop (S := Nat) (fun i => mkE 19 [(0, .d (.sl (l.map iD))), (1, .fn f caps), (6, .d (.sl (l.map iD))), (7, .d (.int .i64 l.length)), (8, .d (.int .i64 i))]) (fun i => τ) (fun i => i ≤ l.length ∧ ∀ j x, l[j]? = some x → j < i → p x = false) (fun i => l.length - i) 0 ⟨by omega, by omega⟩ (Wk.sub (by (simp only [go_sem]) <;> trivial)) ?_
  rintro i ⟨hi, hj⟩
  simp (maxSteps := 4000000) -implicitDefEqProofs only [go_sem, Nat.reduceAdd, Nat.reduceSub, Nat.reduceLT, Nat.reduceLeDiff, Nat.reduceEqDiff, ↓reduceIte]
  refine cbs (fun h1 => ?_) (fun h1 => ?_)
  · simp only [go_sem, decide_eq_true_eq] at h1 ⊢
    refine ⟨by omega, fun x hx => .all _ _ (h x (List.mem_of_getElem? hx)) ?_⟩
    simp (maxSteps := 4000000) -implicitDefEqProofs only [go_sem, Nat.reduceAdd, Nat.reduceSub, Nat.reduceLT, Nat.reduceLeDiff, Nat.reduceEqDiff, ↓reduceIte]
    refine cbs (fun h2 => ?_) (fun h2 => ?_)
    · simp (maxSteps := 4000000) -implicitDefEqProofs only [go_sem, Nat.reduceAdd, Nat.reduceSub, Nat.reduceLT, Nat.reduceLeDiff, Nat.reduceEqDiff, ↓reduceIte]
      rw [idx_found hx h2 hj]
      exact Wk.refl _ _ _
    · simp (maxSteps := 4000000) -implicitDefEqProofs only [go_sem, Nat.reduceAdd, Nat.reduceSub, Nat.reduceLT, Nat.reduceLeDiff, Nat.reduceEqDiff, ↓reduceIte]
      rw [i64_in _ (by omega)]
      refine .mk (i + 1) ⟨by omega, fun j y hy hlt => ?_⟩ (by omega) (Wk.sub (by (simp only [go_sem]) <;> trivial))
      rcases Nat.lt_or_ge j i with q | q
      · exact hj j y hy q
      · have : j = i := by omega
        subst this; rw [hx] at hy; cases hy; exact h2
  · simp only [go_sem, decide_eq_false_iff_not] at h1 ⊢
    rw [idx_none fun j y hy => hj j y hy (by have := some_lt hy; omega)]
    exact Wk.refl _ _ _
theorem it_containsFunc (l : List Int) (p : Int → Bool) (f : FuncId) (caps : List AV) (τ : List AObj) (hl : Sm l.length) (h : ∀ x ∈ l, Spec Tryz.prog f (iA x :: caps) τ (.d (.bool (p x))) τ) :
    Spec Tryz.prog 63 [.d (.sl (l.map iD)), .fn f caps] τ (.d (.bool (l.any p))) τ := by
  refine spec_of_ev (fn := Tryz.f63) DX_ok 3000 Tryz.func63 rfl rfl (Nat.le_of_ble_eq_true rfl) ?_
  simp (maxSteps := 4000000) -implicitDefEqProofs only [Tryz.f63, go_sem]
  refine .all _ _ (it_indexFunc l p f caps τ hl h) ?_
  simp (maxSteps := 4000000) -implicitDefEqProofs only [go_sem, Nat.reduceAdd, Nat.reduceSub, Nat.reduceLT, Nat.reduceLeDiff, Nat.reduceEqDiff, ↓reduceIte]
  rw [idx_any]
  exact Wk.refl _ _ _
theorem asked_own (l : List Hd) (ts : List Int) (hl : Sm l.length) (ht : Sm ts.length) : Spec Tryz.prog 30 [.d (.sl (l.map hD)), .d (.sl (ts.map iD))] [] (.d (.int .i64 (asked l ts))) [] := by
  have a1 := wcheck_own l hl
  refine spec_of_ev (fn := Tryz.f30) DX_ok 3000 Tryz.func30 rfl rfl (Nat.le_of_ble_eq_true rfl) ?_
  simp (maxSteps := 4000000) -implicitDefEqProofs only [Tryz.f30, go_sem]
  refine ecall0 _ a1 (by simp only [go_sem]) (by simp only [go_sem]) ?_
  by_cases h1 : wcheck l = 0
  case neg =>
    have d1 : (wcheck l != 0) = true := by simp [h1]
    simp (maxSteps := 4000000) -implicitDefEqProofs only [go_sem, d1, Option.some.injEq, forall_eq', and_true, true_and, Bool.not_true, Bool.not_false, decide_true, Nat.reduceAdd, Nat.reduceSub, Nat.reduceLT, Nat.reduceLeDiff, Nat.reduceEqDiff, ↓reduceIte]
    exact wk_int (by simp [asked, h1])
  have d1 : (wcheck l != 0) = false := by simp [h1]
  simp (maxSteps := 4000000) -implicitDefEqProofs only [go_sem, d1, Option.some.injEq, forall_eq', and_true, true_and, Bool.not_true, Bool.not_false, decide_true, Nat.reduceAdd, Nat.reduceSub, Nat.reduceLT, Nat.reduceLeDiff, Nat.reduceEqDiff, ↓reduceIte]
  refine .all _ _ (it_containsFunc ts badT _ [] [] ht fun x _ => badT_own x) ?_
  cases h2 : ts.any badT
  · simp (maxSteps := 4000000) -implicitDefEqProofs only [go_sem, h2, Option.some.injEq, forall_eq', and_true, true_and, Bool.not_true, Bool.not_false, decide_true, Nat.reduceAdd, Nat.reduceSub, Nat.reduceLT, Nat.reduceLeDiff, Nat.reduceEqDiff, ↓reduceIte]
    exact wk_int (by simp only [asked, h2]; rw [if_neg (by simp [h1])]; rfl)
  · simp (maxSteps := 4000000) -implicitDefEqProofs only [go_sem, h2, Option.some.injEq, forall_eq', and_true, true_and, Bool.not_true, Bool.not_false, decide_true, Nat.reduceAdd, Nat.reduceSub, Nat.reduceLT, Nat.reduceLeDiff, Nat.reduceEqDiff, ↓reduceIte]
    exact wk_int (by simp only [asked, h2]; rw [if_neg (by simp [h1])]; rfl)
theorem tick_ref (t : Int) : Spec Tryz.prog 7 [.d (.int .i64 t)] [] (.d (.bool (tick t))) [] := by
  refine spec_of_ev (fn := Tryz.f7) DX_ok 3000 Tryz.func7 rfl rfl (Nat.le_of_ble_eq_true rfl) ?_
  simp (maxSteps := 4000000) -implicitDefEqProofs only [Tryz.f7, go_sem]
  cases h1 : decide (0 ≤ t)
  · simp (maxSteps := 4000000) -implicitDefEqProofs only [go_sem, h1, Option.some.injEq, forall_eq', and_true, true_and, Bool.not_true, Bool.not_false, decide_true, Nat.reduceAdd, Nat.reduceSub, Nat.reduceLT, Nat.reduceLeDiff, Nat.reduceEqDiff, ↓reduceIte]
    exact wk_bool (by simp [tick, h1])
  · simp (maxSteps := 4000000) -implicitDefEqProofs only [go_sem, h1, Option.some.injEq, forall_eq', and_true, true_and, Bool.not_true, Bool.not_false, decide_true, Nat.reduceAdd, Nat.reduceSub, Nat.reduceLT, Nat.reduceLeDiff, Nat.reduceEqDiff, ↓reduceIte]
    exact wk_bool (by simp [tick, h1])
theorem great_ref (q : List Hd) (hq : Sm q.length) : Spec Tryz.prog 20 [.d (.sl (q.map hD))] [] (.d (.bool (wgreat q))) [] := by
  unfold Sm at hq
  refine spec_of_ev (fn := Tryz.f20) DX_ok 3000 Tryz.func20 rfl rfl (Nat.le_of_ble_eq_true rfl) ?_
  simp (maxSteps := 4000000) -implicitDefEqProofs only [Tryz.f20, go_sem]
  refine eloop (S := Nat) (fun i => mkE 29 [(0, .d (.sl (q.map hD))), (3, .d (.int .i64 i))]) (fun i => []) (fun i => i ≤ q.length ∧ ∀ j x, q[j]? = some x → j < i → (decide (100 < x.br.size) || decide (100 < x.rs.size)) = false) (fun i => q.length - i) 0 ⟨by omega, by omega⟩ (Wk.sub (by (simp only [go_sem]) <;> trivial)) ?_
  rintro i ⟨hi, hj⟩
  rcases Nat.lt_or_ge i q.length with h2 | h2
  · have d2 : decide ((i : Int) < q.length) = true := by simp; omega
    obtain ⟨x, hx⟩ : ∃ x, q[i]? = some x := ⟨q[i]'(by omega), List.getElem?_eq_getElem _⟩
    have n1 : (0 ≤ (i : Int) ∧ (i : Int) < q.length) = True := eq_true (by omega)
    have w1 : IntKind.i64.wrap ((i : Int) + 1) = ((i + 1 : Nat) : Int) := by rw [i64_in _ (by omega)]; simp
    have yes : (decide (100 < x.br.size) || decide (100 < x.rs.size)) = true → wgreat q = true := fun h => by
      simp only [wgreat, Bool.or_eq_true]
      exact .inl (List.any_eq_true.2 ⟨x, List.mem_of_getElem? hx, h⟩)
    rcases Nat.lt_or_ge 100 x.br.size with hA | hA
    · have d1 : decide (100 < (x.br.size : Int)) = true := by simp; omega
      simp (maxSteps := 4000000) -implicitDefEqProofs only [go_sem, d2, n1, hx, d1, Option.some.injEq, forall_eq', and_true, true_and, Bool.not_true, Bool.not_false, decide_true, Nat.reduceAdd, Nat.reduceSub, Nat.reduceLT, Nat.reduceLeDiff, Nat.reduceEqDiff, ↓reduceIte]
      exact wk_bool (yes (by simp; omega)).symm
    have d1 : decide (100 < (x.br.size : Int)) = false := by simp; omega
    rcases Nat.lt_or_ge 100 x.rs.size with hB | hB
    · have d3 : decide (100 < (x.rs.size : Int)) = true := by simp; omega
      simp (maxSteps := 4000000) -implicitDefEqProofs only [go_sem, d2, n1, hx, d1, d3, Option.some.injEq, forall_eq', and_true, true_and, Bool.not_true, Bool.not_false, decide_true, Nat.reduceAdd, Nat.reduceSub, Nat.reduceLT, Nat.reduceLeDiff, Nat.reduceEqDiff, ↓reduceIte]
      exact wk_bool (yes (by simp; omega)).symm
    have d3 : decide (100 < (x.rs.size : Int)) = false := by simp; omega
    simp (maxSteps := 4000000) -implicitDefEqProofs only [go_sem, d2, n1, hx, d1, d3, w1, Option.some.injEq, forall_eq', and_true, true_and, Bool.not_true, Bool.not_false, decide_true, Nat.reduceAdd, Nat.reduceSub, Nat.reduceLT, Nat.reduceLeDiff, Nat.reduceEqDiff, ↓reduceIte]
    exact .mk (i + 1) ⟨by omega, upto_succ hx (by simp; omega) hj⟩ (by omega) (Wk.sub (by (simp only [go_sem]) <;> trivial))
  · have d2 : decide ((i : Int) < q.length) = false := by simp; omega
    simp (maxSteps := 4000000) -implicitDefEqProofs only [go_sem, d2, Option.some.injEq, forall_eq', and_true, true_and, Bool.not_true, Bool.not_false, decide_true, Nat.reduceAdd, Nat.reduceSub, Nat.reduceLT, Nat.reduceLeDiff, Nat.reduceEqDiff, ↓reduceIte]
    have no : q.any (fun r => decide (100 < r.br.size) || decide (100 < r.rs.size)) = false := by
      rw [List.any_eq_false]
      intro x hx
      obtain ⟨j, hj'⟩ := List.mem_iff_getElem?.1 hx
      have := hj j x hj' (by have := some_lt hj'; omega)
      simp [this]
    refine wk_bool ?_
    simp only [wgreat, no, Bool.false_or]
    rw [decide_eq_decide]; omega
end Go.AX.Wn
namespace Go.AX.Wn
open Go.Proofs Go.RowKit Go.IntWalk Go.AX.Br
def ins (x : Hd) : List Hd → List Hd
  | [] => [x]
  | y :: ys => if x.fr < y.fr then x :: y :: ys else y :: ins x ys
def isort (l : List Hd) : List Hd := l.foldl (fun P x => ins x P) []
def Srt (P : List Hd) : Prop := P.Pairwise fun a b => a.fr ≤ b.fr
theorem ins_perm (x : Hd) : ∀ P : List Hd, (ins x P).Perm (x :: P)
  | [] => .refl _
  | y :: ys => by
    simp only [ins]
    split
    · exact .refl _
    · exact ((ins_perm x ys).cons y).trans (.swap x y ys)
theorem ins_srt (x : Hd) : ∀ {P : List Hd}, Srt P → Srt (ins x P)
  | [], _ => by simp [ins, Srt]
  | y :: ys, h => by
    obtain ⟨h1, h2⟩ := List.pairwise_cons.1 h
    simp only [ins]
    split
    · next e => exact List.pairwise_cons.2 ⟨fun z hz => by
        rcases List.mem_cons.1 hz with rfl | hz
        · omega
        · have := h1 z hz; omega, h⟩
    · next e => exact List.pairwise_cons.2 ⟨fun z hz => by
        rcases List.mem_cons.1 ((ins_perm x ys).mem_iff.1 hz) with rfl | hz
        · omega
        · exact h1 z hz, ins_srt x h2⟩
theorem ins_split {x : Hd} {B : List Hd} (hb : ∀ y, B.head? = some y → x.fr < y.fr) : ∀ {A : List Hd}, (∀ y ∈ A, y.fr ≤ x.fr) → ins x (A ++ B) = A ++ x :: B
  | [], _ => by
    cases B with
    | nil => rfl
    | cons y ys => simp only [List.nil_append, ins]; rw [if_pos (hb y rfl)]
  | y :: ys, h => by
    simp only [List.cons_append, ins]
    rw [if_neg (by have := h y (by simp); omega), ins_split hb fun z hz => h z (by simp [hz])]
theorem ins_find {x : Hd} {v : Int} : ∀ {P : List Hd}, Srt P → (ins x P).find? (fun h => decide (h.fr = v)) = (P ++ [x]).find? (fun h => decide (h.fr = v))
  | [], _ => rfl
  | y :: ys, h => by
    obtain ⟨h1, h2⟩ := List.pairwise_cons.1 h
    simp only [ins]
    split
    · next e =>
      by_cases hx : x.fr = v
      · have no : (y :: ys).find? (fun h => decide (h.fr = v)) = none := by
          rw [List.find?_eq_none]
          intro z hz
          rcases List.mem_cons.1 hz with rfl | hz
          · simp; omega
          · have := h1 z hz; simp; omega
        rw [List.find?_append, no]
        simp [hx]
      · rw [List.find?_append]
        simp only [List.find?_cons, List.find?_nil, decide_eq_false hx]
        cases (if decide (y.fr = v) = true then some y else ys.find? fun h => decide (h.fr = v)) <;> simp_all
    · simp only [List.cons_append, List.find?_cons]
      rw [ins_find h2]
theorem fold_srt : ∀ (l P : List Hd), Srt P → Srt (l.foldl (fun P x => ins x P) P) ∧ (l.foldl (fun P x => ins x P) P).Perm (P ++ l) ∧ ∀ v, (l.foldl (fun P x => ins x P) P).find? (fun h => decide (h.fr = v)) = (P ++ l).find? (fun h => decide (h.fr = v))
  | [], P, h => by simp [h]
  | x :: l, P, h => by
    obtain ⟨g1, g2, g3⟩ := fold_srt l (ins x P) (ins_srt x h)
    refine ⟨g1, g2.trans ?_, fun v => ?_⟩
    · exact ((ins_perm x P).append_right l).trans (List.perm_middle.symm)
    · rw [List.foldl_cons, g3 v, List.find?_append, ins_find h, ← List.find?_append]; simp
theorem isort_srt (l : List Hd) : Srt (isort l) := (fold_srt l [] .nil).1
theorem isort_mem {l : List Hd} {x : Hd} : x ∈ isort l ↔ x ∈ l := by unfold isort; simpa using (fold_srt l [] .nil).2.1.mem_iff
theorem isort_len (l : List Hd) : (isort l).length = l.length := by unfold isort; simpa using (fold_srt l [] .nil).2.1.length_eq
theorem isort_find (l : List Hd) (v : Int) : (isort l).find? (fun h => decide (h.fr = v)) = l.find? (fun h => decide (h.fr = v)) := by unfold isort; simpa using (fold_srt l [] .nil).2.2 v
theorem isort_snoc (l : List Hd) (x : Hd) : isort (l ++ [x]) = ins x (isort l) := by simp [isort]
def joinTo (w h : Hd) : Hd := ⟨w.br, w.fr, max w.to h.to, w.rs⟩
def mstep (out : List Hd) (h : Hd) : List Hd := match out.getLast? with
  | some w => if h.fr ≤ w.to then out.dropLast ++ [joinTo w h] else out ++ [h]
  | none => [h]
def winL (l : List Hd) (b : ByteArray) : List Hd := (isort (l.filter fun h => decide (h.br = b))).foldl mstep []
def cov (P : List Hd) (t : Int) : Prop := ∃ h ∈ P, h.fr ≤ t ∧ t < h.to
def Can (W : List Hd) : Prop := W.Pairwise (fun a b => a.to < b.fr) ∧ ∀ w ∈ W, w.fr < w.to
structure Jn (P out : List Hd) : Prop where
  can : Can out
  same : ∀ t, cov P t ↔ cov out t
  first : ∀ w ∈ out, ∃ h ∈ P, P.find? (fun h => decide (h.fr = w.fr)) = some h ∧ w.br = h.br ∧ w.rs = h.rs
  last : ∀ w ∈ out, ∃ h ∈ P, h.to = w.to
theorem find_app {P Q : List Hd} {p : Hd → Bool} {h : Hd} (e : P.find? p = some h) : (P ++ Q).find? p = some h := by rw [List.find?_append, e]; rfl
theorem last_split {out : List Hd} {w : Hd} (h : out.getLast? = some w) : out = out.dropLast ++ [w] := by
  have hne : out ≠ [] := fun e => by simp [e] at h
  have := List.dropLast_concat_getLast hne
  rw [List.getLast?_eq_some_getLast hne] at h
  cases h
  exact this.symm
theorem jn_step {P out : List Hd} {h : Hd} (J : Jn P out) (hh : h.fr < h.to) (hs : ∀ p ∈ P, p.fr ≤ h.fr) (hp : ∀ p ∈ P, p.fr < p.to) : Jn (P ++ [h]) (mstep out h) := by
  have hcov : ∀ t, cov (P ++ [h]) t ↔ (cov P t ∨ (h.fr ≤ t ∧ t < h.to)) := fun t => by
    simp only [cov, List.mem_append, List.mem_singleton]
    constructor
    · rintro ⟨x, hx | rfl, h1⟩
      · exact .inl ⟨x, hx, h1⟩
      · exact .inr h1
    · rintro (⟨x, hx, h1⟩ | h1)
      · exact ⟨x, .inl hx, h1⟩
      · exact ⟨h, .inr rfl, h1⟩
  unfold mstep
  cases hl : out.getLast? with
  | none =>
    have ho : out = [] := by simpa using hl
    subst ho
    have hP : P = [] := by
      cases P with
      | nil => rfl
      | cons p P =>
        obtain ⟨w, hw, _⟩ := (J.same p.fr).1 ⟨p, by simp, Int.le_refl _, hp p (by simp)⟩
        simp at hw
    subst hP
    refine ⟨⟨by simp, by simp [hh]⟩, fun t => by simp, ?_, ?_⟩
    · intro w hw; simp at hw; subst hw; exact ⟨w, by simp, by simp, rfl, rfl⟩
    · intro w hw; simp at hw; subst hw; exact ⟨w, by simp, rfl⟩
  | some w =>
    have hsp := last_split hl
    obtain ⟨A, hA⟩ : ∃ A, A = out.dropLast := ⟨_, rfl⟩
    rw [← hA] at hsp ⊢
    have hwm : w ∈ out := by rw [hsp]; simp
    have c1 := J.can.1
    have c2 := J.can.2
    rw [hsp] at c1
    obtain ⟨cA, _, cAw⟩ := List.pairwise_append.1 c1
    have hAw : ∀ a ∈ A, a.to < w.fr := fun a ha => cAw a ha w (by simp)
    have hAm : ∀ a ∈ A, a ∈ out := fun a ha => by rw [hsp]; simp [ha]
    have hw := c2 w hwm
    obtain ⟨hf, hfm, hff, hfb, hfr⟩ := J.first w hwm
    have hwf : w.fr ≤ h.fr := by
      have e : hf.fr = w.fr := by simpa using List.find?_some hff
      have := hs hf hfm; omega
    simp only
    split
    · next hle =>
      have hcov2 : ∀ t, cov (A ++ [joinTo w h]) t ↔ (cov out t ∨ (h.fr ≤ t ∧ t < h.to)) := fun t => by
        rw [hsp]
        simp only [cov, List.mem_append, List.mem_singleton]
        constructor
        · rintro ⟨x, hx | rfl, h1, h2⟩
          · exact .inl ⟨x, .inl hx, h1, h2⟩
          · simp only [joinTo] at h1 h2
            rcases Int.lt_or_le t w.to with q | q
            · exact .inl ⟨w, .inr rfl, h1, q⟩
            · exact .inr ⟨by omega, by omega⟩
        · rintro (⟨x, hx | rfl, h1, h2⟩ | ⟨h1, h2⟩)
          · exact ⟨x, .inl hx, h1, h2⟩
          · exact ⟨_, .inr rfl, h1, by simp only [joinTo]; omega⟩
          · exact ⟨_, .inr rfl, by simp only [joinTo]; omega, by simp only [joinTo]; omega⟩
      refine ⟨⟨List.pairwise_append.2 ⟨cA, by simp, fun a ha x hx => ?_⟩, fun x hx => ?_⟩, fun t => ?_, fun x hx => ?_, fun x hx => ?_⟩
      · simp at hx; subst hx; exact hAw a ha
      · rcases List.mem_append.1 hx with hx | hx
        · exact c2 x (hAm x hx)
        · simp at hx; subst hx; simp only [joinTo]; omega
      · rw [hcov, hcov2, J.same]
      · rcases List.mem_append.1 hx with hx | hx
        · obtain ⟨y, y1, y2, y3, y4⟩ := J.first x (hAm x hx)
          exact ⟨y, by simp [y1], find_app y2, y3, y4⟩
        · simp at hx; subst hx
          exact ⟨hf, by simp [hfm], find_app hff, hfb, hfr⟩
      · rcases List.mem_append.1 hx with hx | hx
        · obtain ⟨y, y1, y2⟩ := J.last x (hAm x hx)
          exact ⟨y, by simp [y1], y2⟩
        · simp at hx; subst hx
          rcases Int.le_total w.to h.to with q | q
          · exact ⟨h, by simp, by simp only [joinTo]; omega⟩
          · obtain ⟨y, y1, y2⟩ := J.last w hwm
            exact ⟨y, by simp [y1], by simp only [joinTo]; omega⟩
    · next hlt =>
      have hAll : ∀ a ∈ out, a.to < h.fr := fun a ha => by
        rw [hsp] at ha
        rcases List.mem_append.1 ha with ha | ha
        · have := hAw a ha; omega
        · simp at ha; subst ha; omega
      refine ⟨⟨List.pairwise_append.2 ⟨J.can.1, by simp, fun a ha x hx => ?_⟩, fun x hx => ?_⟩, fun t => ?_, fun x hx => ?_, fun x hx => ?_⟩
      · simp at hx; subst hx; exact hAll a ha
      · rcases List.mem_append.1 hx with hx | hx
        · exact c2 x hx
        · simp at hx; subst hx; exact hh
      · rw [hcov, J.same]
        simp only [cov, List.mem_append, List.mem_singleton]
        constructor
        · rintro (⟨x, hx, h1⟩ | h1)
          · exact ⟨x, .inl hx, h1⟩
          · exact ⟨h, .inr rfl, h1⟩
        · rintro ⟨x, hx | rfl, h1⟩
          · exact .inl ⟨x, hx, h1⟩
          · exact .inr h1
      · rcases List.mem_append.1 hx with hx | hx
        · obtain ⟨y, y1, y2, y3, y4⟩ := J.first x hx
          exact ⟨y, by simp [y1], find_app y2, y3, y4⟩
        · simp at hx; subst hx
          have no : P.find? (fun h => decide (h.fr = x.fr)) = none := by
            rw [List.find?_eq_none]
            intro p hpm
            simp only [decide_eq_true_eq]
            intro e
            obtain ⟨v, v1, v2, v3⟩ := (J.same p.fr).1 ⟨p, hpm, Int.le_refl _, hp p hpm⟩
            have := hAll v v1
            omega
          exact ⟨x, by simp, by rw [List.find?_append, no]; simp, rfl, rfl⟩
      · rcases List.mem_append.1 hx with hx | hx
        · obtain ⟨y, y1, y2⟩ := J.last x hx
          exact ⟨y, by simp [y1], y2⟩
        · simp at hx; subst hx
          exact ⟨x, by simp, rfl⟩
theorem jn_all : ∀ (Q P out : List Hd), Jn P out → Srt (P ++ Q) → (∀ p ∈ P ++ Q, p.fr < p.to) → Jn (P ++ Q) (Q.foldl mstep out)
  | [], P, out, J, _, _ => by simpa using J
  | h :: Q, P, out, J, hs, hp => by
    have e : P ++ h :: Q = (P ++ [h]) ++ Q := by simp
    rw [e] at hs hp ⊢
    refine jn_all Q (P ++ [h]) _ (jn_step J (hp h (by simp)) (fun p hpm => ?_) fun p hpm => hp p (by simp [hpm])) hs hp
    have := (List.pairwise_append.1 (List.pairwise_append.1 hs).1).2.2 p hpm h (by simp)
    exact this
theorem jn_win (l : List Hd) (b : ByteArray) (hv : ∀ h ∈ l, h.fr < h.to) : Jn (isort (l.filter fun h => decide (h.br = b))) (winL l b) := by
  refine jn_all _ [] [] ⟨⟨.nil, by simp⟩, fun t => Iff.rfl, by simp, by simp⟩ (isort_srt _) fun p hp => ?_
  have := isort_mem.1 hp
  exact hv p (List.mem_filter.1 this).1
end Go.AX.Wn
namespace Go.AX.Wn
open Go.Proofs Go.RowKit Go.IntWalk Go.AX.Br
def look (W : List Hd) (t : Int) : Option Hd := W.find? fun w => decide (t < w.to)
def endH : Hd := ⟨ByteArray.empty, 1000001, 1000001, ByteArray.empty⟩
def inR (W : List Hd) (t : Int) : Hd × Bool := match look W t with
  | some w => (w, decide (w.fr ≤ t))
  | none => (endH, false)
def nextW (W : List Hd) (t : Int) : Int := match look W t with
  | some w => if w.fr ≤ t then w.to else t
  | none => t
def stopW (W : List Hd) (t : Int) : Int := match look W t with
  | some w => max t w.fr
  | none => 1000001
theorem look_none {W : List Hd} {t : Int} (h : look W t = none) : ∀ a ∈ W, a.to ≤ t := fun a ha => by
  have := List.find?_eq_none.1 h a ha
  simp only [decide_eq_true_eq] at this; omega
theorem look_some {W : List Hd} {t : Int} {w : Hd} (C : Can W) (h : look W t = some w) :
    ∃ A B, W = A ++ w :: B ∧ (∀ a ∈ A, a.to ≤ t) ∧ t < w.to ∧ w.fr < w.to ∧ (∀ a ∈ A, a.to < w.fr) ∧ (∀ b ∈ B, w.to < b.fr ∧ b.fr < b.to) ∧ w ∈ W := by
  obtain ⟨h1, A, B, h2, h3⟩ := List.find?_eq_some_iff_append.1 h
  obtain ⟨c1, c2⟩ := C
  have hm : w ∈ W := by rw [h2]; simp
  have c1' := c1
  rw [h2] at c1'
  obtain ⟨_, p2, p3⟩ := List.pairwise_append.1 c1'
  refine ⟨A, B, h2, fun a ha => ?_, by simpa using h1, c2 w hm, fun a ha => p3 a ha w (by simp), fun b hb => ⟨(List.pairwise_cons.1 p2).1 b hb, c2 b (by rw [h2]; simp [hb])⟩, hm⟩
  have := h3 a ha
  simp only [Bool.not_eq_true', decide_eq_false_iff_not] at this; omega
theorem look_cov {W : List Hd} {t : Int} {w : Hd} (C : Can W) (h : look W t = some w) : cov W t ↔ w.fr ≤ t := by
  obtain ⟨A, B, e, a1, a2, a3, a4, a5, a6⟩ := look_some C h
  constructor
  · rintro ⟨x, hx, h1, h2⟩
    rw [e] at hx
    rcases List.mem_append.1 hx with hx | hx
    · have := a1 x hx; omega
    rcases List.mem_cons.1 hx with rfl | hx
    · exact h1
    · have := a5 x hx; omega
  · intro hw; exact ⟨w, a6, hw, a2⟩
theorem none_cov {W : List Hd} {t : Int} (h : look W t = none) : ¬ cov W t := by
  rintro ⟨x, hx, h1, h2⟩
  have := look_none h x hx; omega
theorem in_cov {W : List Hd} {t : Int} (C : Can W) : (inR W t).2 = true ↔ cov W t := by
  unfold inR
  cases h : look W t with
  | none => simp [none_cov h]
  | some w => simp [look_cov C h]
theorem find_congr {p q : Hd → Bool} : ∀ {l : List Hd}, (∀ x ∈ l, p x = q x) → l.find? p = l.find? q
  | [], _ => rfl
  | x :: l, h => by rw [List.find?_cons, List.find?_cons, h x (by simp), find_congr fun y hy => h y (by simp [hy])]
structure Okw (l : List Hd) (b : ByteArray) : Prop where
  len : l.length ≤ 16
  val : ∀ h ∈ l, 0 ≤ h.fr ∧ h.fr < h.to ∧ h.to ≤ 1000000
theorem okw {l : List Hd} (b : ByteArray) (h : wcheck l = 0) : Okw l b := by
  simp only [wcheck] at h
  split at h
  · omega
  split at h
  · omega
  · next h1 h2 =>
    refine ⟨by omega, fun x hx => ?_⟩
    have h2 : l.any wrong = false := by simpa using h2
    have := List.any_eq_false.1 h2 x hx
    simp only [wrong, Bool.or_eq_true, decide_eq_true_eq, not_or] at this
    omega
section
variable {l : List Hd} {b : ByteArray} (O : Okw l b)
include O
theorem Okw.jn : Jn (isort (l.filter fun h => decide (h.br = b))) (winL l b) := jn_win l b fun h hh => (O.val h hh).2.1
theorem Okw.can : Can (winL l b) := O.jn.can
theorem Okw.mem {h : Hd} : h ∈ isort (l.filter fun h => decide (h.br = b)) ↔ h ∈ l ∧ h.br = b := by
  have _ := O.len
  rw [isort_mem, List.mem_filter]; simp
theorem Okw.heldC (t : Int) : Wn.held l b t = true ↔ cov (winL l b) t := by
  rw [← O.jn.same t]
  simp only [Wn.held, List.any_eq_true, cov]
  constructor
  · rintro ⟨h, hh, e⟩
    simp only [holds, Bool.and_eq_true, decide_eq_true_eq] at e
    exact ⟨h, O.mem.2 ⟨hh, e.1.1⟩, e.1.2, e.2⟩
  · rintro ⟨h, hh, e⟩
    obtain ⟨h1, h2⟩ := O.mem.1 hh
    exact ⟨h, h1, by simp [holds, h2, e.1, e.2]⟩
theorem Okw.nheld (t : Int) : Wn.held l b t = false ↔ ¬ cov (winL l b) t := by
  rw [← O.heldC t]; simp
theorem Okw.first {w : Hd} (hw : w ∈ winL l b) : ∃ h ∈ l, h.br = b ∧ h.fr = w.fr ∧ w.br = b ∧ (l.find? fun h => holds b w.fr h) = some h ∧ h.rs = w.rs := by
  obtain ⟨h, h1, h2, h3, h4⟩ := O.jn.first w hw
  obtain ⟨m1, m2⟩ := O.mem.1 h1
  have e : h.fr = w.fr := by simpa using List.find?_some h2
  refine ⟨h, m1, m2, e, by rw [h3, m2], ?_, h4.symm⟩
  rw [isort_find, List.find?_filter] at h2
  rw [← h2]
  refine find_congr fun x hx => ?_
  obtain ⟨v1, v2, v3⟩ := O.val x hx
  rw [Bool.eq_iff_iff]
  simp only [holds, Bool.and_eq_true, decide_eq_true_eq]
  constructor
  · rintro ⟨⟨x1, x2⟩, x3⟩
    refine ⟨x1, ?_⟩
    rcases Int.lt_or_le x.fr w.fr with q | q
    · exfalso
      have hc : cov (winL l b) (w.fr - 1) := (O.jn.same _).1 ⟨x, O.mem.2 ⟨hx, x1⟩, by omega, by omega⟩
      obtain ⟨y, y1, y2, y3⟩ := hc
      have C := O.can
      have hwv := C.2 w hw
      obtain ⟨A, B, hs⟩ := List.append_of_mem hw
      have c1 := C.1
      rw [hs] at c1 y1
      obtain ⟨_, p2, p3⟩ := List.pairwise_append.1 c1
      rcases List.mem_append.1 y1 with y1 | y1
      · have := p3 y y1 w (by simp); omega
      rcases List.mem_cons.1 y1 with rfl | y1
      · omega
      · have := (List.pairwise_cons.1 p2).1 y y1; omega
    · omega
  · rintro ⟨x1, x2⟩
    exact ⟨⟨x1, by omega⟩, by omega⟩
theorem Okw.last {w : Hd} (hw : w ∈ winL l b) : ∃ h ∈ l, h.br = b ∧ h.to = w.to := by
  obtain ⟨h, h1, h2⟩ := O.jn.last w hw
  obtain ⟨m1, m2⟩ := O.mem.1 h1
  exact ⟨h, m1, m2, h2⟩
theorem Okw.bounds {w : Hd} (hw : w ∈ winL l b) : 0 ≤ w.fr ∧ w.fr < w.to ∧ w.to ≤ 1000000 := by
  obtain ⟨h, h1, _, h3, _⟩ := O.first hw
  obtain ⟨k, k1, _, k3⟩ := O.last hw
  have := O.val h h1; have := O.val k k1; have := O.can.2 w hw
  omega
end
theorem mstep_len (out : List Hd) (h : Hd) : (mstep out h).length ≤ out.length + 1 := by
  unfold mstep
  split
  · split
    · simp
    · simp
  · simp
theorem fold_len : ∀ (Q out : List Hd), (Q.foldl mstep out).length ≤ out.length + Q.length
  | [], out => by simp
  | h :: Q, out => by
    have := fold_len Q (mstep out h)
    have := mstep_len out h
    simp only [List.foldl_cons, List.length_cons]; omega
theorem winL_len (l : List Hd) (b : ByteArray) : (winL l b).length ≤ l.length := by
  have h1 := fold_len (isort (l.filter fun h => decide (h.br = b))) []
  rw [isort_len] at h1
  have := List.length_filter_le (fun h : Hd => decide (h.br = b)) l
  unfold winL
  simp only [List.length_nil] at h1; omega
def sumOv : List Hd → Int → Int → Int
  | [], _, _ => 0
  | w :: W, f, t => max 0 (min t w.to - max f w.fr) + sumOv W f t
def slR (W : List Hd) (f t : Int) : Int := t - f - sumOv W f t
def fitA : List Hd → Int → Int → Int × Int
  | [], t, n => if n ≤ 1000001 - t then (t, 0) else (0, 6)
  | w :: B, t, n => if w.fr ≤ t then fitA B w.to n else if n ≤ w.fr - t then (t, 0) else fitA B w.to n
def late (W : List Hd) (t : Int) : List Hd := W.dropWhile fun w => decide (w.to ≤ t)
theorem late_some {W : List Hd} {t : Int} {w : Hd} (C : Can W) (h : look W t = some w) : ∃ B, late W t = w :: B ∧ late W w.to = B ∧ ∀ t', t' < w.to → t ≤ t' → late W t' = w :: B := by
  obtain ⟨A, B, e, a1, a2, a3, a4, a5, _⟩ := look_some C h
  have drop : ∀ t', (∀ a ∈ A, a.to ≤ t') → late W t' = late (w :: B) t' := fun t' ha => by
    unfold late
    rw [e, List.dropWhile_append_of_pos]
    intro a h; simpa using ha a h
  have stay : ∀ t', t' < w.to → late (w :: B) t' = w :: B := fun t' h => by
    unfold late
    rw [List.dropWhile_cons, if_neg (by simp; omega)]
  refine ⟨B, (drop t a1).trans (stay t a2), ?_, fun t' h1 h2 => (drop t' fun a ha => by have := a1 a ha; omega).trans (stay t' h1)⟩
  rw [drop w.to fun a ha => by have := a4 a ha; omega]
  unfold late
  rw [List.dropWhile_cons, if_pos (by simp)]
  cases B with
  | nil => rfl
  | cons x B =>
    rw [List.dropWhile_cons, if_neg]
    have := a5 x (by simp)
    simp; omega
theorem late_none {W : List Hd} {t : Int} (h : look W t = none) : late W t = [] := by
  have := look_none h
  unfold late
  clear h
  induction W with
  | nil => rfl
  | cons x W ih =>
    rw [List.dropWhile_cons, if_pos (by simpa using this x (by simp))]
    exact ih fun a ha => this a (by simp [ha])
def fitR (W : List Hd) (t n : Int) : Int × Int := fitA (late W t) t n
theorem fit_held {W : List Hd} {t n : Int} {w : Hd} (C : Can W) (h : look W t = some w) (h1 : w.fr ≤ t) : fitR W t n = fitR W w.to n := by
  obtain ⟨B, b1, b2, _⟩ := late_some C h
  unfold fitR
  rw [b1, b2, fitA, if_pos h1]
theorem fit_yes {W : List Hd} {t n : Int} {w : Hd} (C : Can W) (h : look W t = some w) (h1 : t < w.fr) (h2 : n ≤ w.fr - t) : fitR W t n = (t, 0) := by
  obtain ⟨B, b1, b2, _⟩ := late_some C h
  unfold fitR
  rw [b1, fitA, if_neg (by omega), if_pos h2]
theorem fit_no {W : List Hd} {t n : Int} {w : Hd} (C : Can W) (h : look W t = some w) (h1 : t < w.fr) (h2 : w.fr - t < n) : fitR W t n = fitR W w.to n := by
  obtain ⟨B, b1, b2, _⟩ := late_some C h
  unfold fitR
  rw [b1, b2, fitA, if_neg (by omega), if_neg (by omega)]
theorem fit_end {W : List Hd} {t n : Int} (h : look W t = none) : fitR W t n = if n ≤ 1000001 - t then (t, 0) else (0, 6) := by
  unfold fitR
  rw [late_none h, fitA]
theorem late_lt {W : List Hd} {t : Int} {w : Hd} (C : Can W) (h : look W t = some w) : (late W w.to).length < (late W t).length := by
  obtain ⟨B, b1, b2, _⟩ := late_some C h
  rw [b1, b2]; simp
end Go.AX.Wn
namespace Go.AX.Wn
open Go.Proofs Go.RowKit Go.IntWalk Go.AX.Br
theorem cmp_own (a b : Hd) (ha : 0 ≤ a.fr ∧ a.fr ≤ 1000000) (hb : 0 ≤ b.fr ∧ b.fr ≤ 1000000) : Spec Tryz.prog 68 [hA a, hA b] [] (.d (.int .i64 (a.fr - b.fr))) [] := by
  have w1 : IntKind.i64.wrap (a.fr - b.fr) = a.fr - b.fr := i64_in _ (by omega)
  refine spec_of_ev (fn := Tryz.f68) DX_ok 3000 Tryz.func68 rfl rfl (Nat.le_of_ble_eq_true rfl) ?_
  simp (maxSteps := 4000000) -implicitDefEqProofs only [Tryz.f68, go_sem]
  simp (maxSteps := 4000000) -implicitDefEqProofs only [go_sem, w1, Option.some.injEq, forall_eq', and_true, true_and, Bool.not_true, Bool.not_false, decide_true, Nat.reduceAdd, Nat.reduceSub, Nat.reduceLT, Nat.reduceLeDiff, Nat.reduceEqDiff, ↓reduceIte]
  exact wk_int rfl
theorem swap_at {A T : List Hd} {x y : Hd} : ((A ++ y :: x :: T).set (A.length + 1) y).set A.length x = A ++ x :: y :: T := by
  rw [List.set_append_right _ _ (by omega), List.set_append_right _ _ (by omega)]
  simp
def Lat (P R : List Hd) (x : Hd) (j : Nat) : List Hd := P.take j ++ x :: (P.drop j ++ R)
theorem lat_len {P R : List Hd} {x : Hd} {j : Nat} (h : j ≤ P.length) : (Lat P R x j).length = P.length + 1 + R.length := by simp [Lat]; omega
theorem lat_x {P R : List Hd} {x : Hd} {j : Nat} (h : j ≤ P.length) : (Lat P R x j)[j]? = some x := by
  have : (P.take j).length = j := by simp; omega
  unfold Lat
  rw [List.getElem?_append_right (by omega), this, Nat.sub_self]; rfl
theorem lat_eq {P R : List Hd} {x y : Hd} {k : Nat} (h : P[k]? = some y) : Lat P R x (k + 1) = P.take k ++ y :: x :: (P.drop (k + 1) ++ R) ∧ Lat P R x k = P.take k ++ x :: y :: (P.drop (k + 1) ++ R) := by
  have hlt := some_lt h
  have hy := (List.getElem?_eq_some_iff.1 h).2
  unfold Lat
  refine ⟨by rw [List.take_add_one, h]; simp, ?_⟩
  rw [List.drop_eq_getElem_cons hlt, hy]; simp
theorem lat_y {P R : List Hd} {x y : Hd} {k : Nat} (h : P[k]? = some y) : (Lat P R x (k + 1))[k]? = some y := by
  have hlt := some_lt h
  have : (P.take k).length = k := by simp; omega
  rw [(lat_eq h).1, List.getElem?_append_right (by omega), this, Nat.sub_self]; rfl
theorem lat_swap {P R : List Hd} {x y : Hd} {k : Nat} (h : P[k]? = some y) : (((Lat P R x (k + 1)).map hD).set (k + 1) (hD y)).set k (hD x) = (Lat P R x k).map hD := by
  have hlt := some_lt h
  have : (P.take k).length = k := by simp; omega
  rw [← List.map_set, ← List.map_set, (lat_eq h).1, (lat_eq h).2]
  have := swap_at (A := P.take k) (T := P.drop (k + 1) ++ R) (x := x) (y := y)
  rw [‹(P.take k).length = k›] at this
  rw [this]
def Val (l : List Hd) : Prop := ∀ h ∈ l, 0 ≤ h.fr ∧ h.fr ≤ 1000000
theorem insertion_own (l : List Hd) (hl : l.length ≤ 16) (hv : Val l) : Spec Tryz.prog 120 [.own 0, .d (.int .i64 0), .d (.int .i64 l.length), .fn 68 []] [.row 4 (l.map hD)] (.tup []) [.row 4 ((isort l).map hD)] := by
  have w0 : IntKind.i64.wrap ((0 : Int) + 1) = ((1 : Nat) : Int) := by rw [i64_in _ (by omega)]; rfl
  refine spec_of_ev (fn := Tryz.f120) DX_ok 3000 Tryz.func120 rfl rfl (Nat.le_of_ble_eq_true rfl) ?_
  simp (maxSteps := 4000000) -implicitDefEqProofs only [Tryz.f120, go_sem]
  simp (maxSteps := 4000000) -implicitDefEqProofs only [go_sem, w0, Option.some.injEq, forall_eq', and_true, true_and, Bool.not_true, Bool.not_false, decide_true, Nat.reduceAdd, Nat.reduceSub, Nat.reduceLT, Nat.reduceLeDiff, Nat.reduceEqDiff, ↓reduceIte]
  refine eloop (S := Nat) (fun i => mkE 53 [(0, .own 0), (1, .d (.int .i64 0)), (2, .d (.int .i64 l.length)), (3, .fn 68 []), (8, .d (.int .i64 i))]) (fun i => [.row 4 ((isort (l.take i) ++ l.drop i).map hD)]) (fun i => 1 ≤ i ∧ (i ≤ l.length ∨ i = 1)) (fun i => l.length + 1 - i) 1 ⟨by omega, by omega⟩ ?_ ?_
  · have e : isort (l.take 1) ++ l.drop 1 = l := by
      cases l with
      | nil => rfl
      | cons a l => rfl
    rw [e]; exact (Wk.sub (by (simp only [go_sem]) <;> trivial))
  intro i hi
  rcases Nat.lt_or_ge i l.length with h2 | h2
  case inr =>
    have f1 : decide ((i : Int) < l.length) = false := by simp; omega
    simp (maxSteps := 4000000) -implicitDefEqProofs only [go_sem, f1, Option.some.injEq, forall_eq', and_true, true_and, Bool.not_true, Bool.not_false, decide_true, Nat.reduceAdd, Nat.reduceSub, Nat.reduceLT, Nat.reduceLeDiff, Nat.reduceEqDiff, ↓reduceIte]
    rw [List.take_of_length_le h2, List.drop_of_length_le h2, List.append_nil]
    exact Wk.refl _ _ _
  have f1 : decide ((i : Int) < l.length) = true := by simp; omega
  obtain ⟨x, hx⟩ : ∃ x, l[i]? = some x := ⟨l[i]'h2, List.getElem?_eq_getElem _⟩
  obtain ⟨P, hP⟩ : ∃ P, P = isort (l.take i) := ⟨_, rfl⟩
  obtain ⟨R, hR⟩ : ∃ R, R = l.drop (i + 1) := ⟨_, rfl⟩
  have hPl : P.length = i := by rw [hP, isort_len]; simp; omega
  have hPs : Srt P := by rw [hP]; exact isort_srt _
  have hRl : R.length = l.length - (i + 1) := by rw [hR]; simp
  have e0 : isort (l.take i) ++ l.drop i = Lat P R x i := by
    rw [← hP, List.drop_eq_getElem_cons h2, (List.getElem?_eq_some_iff.1 hx).2, ← hR]
    unfold Lat
    rw [List.take_of_length_le (by omega), List.drop_of_length_le (by omega)]; rfl
  have e1 : isort (l.take (i + 1)) = ins x P := by rw [List.take_add_one, hx, hP]; exact isort_snoc _ _
  have hxv := hv x (List.mem_of_getElem? hx)
  have hPv : ∀ y ∈ P, 0 ≤ y.fr ∧ y.fr ≤ 1000000 := fun y hy => hv y (List.mem_of_mem_take (isort_mem.1 (by rw [← hP]; exact hy)))
  have w1 : IntKind.i64.wrap ((i : Int) + 1) = ((i + 1 : Nat) : Int) := by rw [i64_in _ (by omega)]; simp
  rw [e0]
  simp (maxSteps := 4000000) -implicitDefEqProofs only [go_sem, f1, Option.some.injEq, forall_eq', and_true, true_and, Bool.not_true, Bool.not_false, decide_true, Nat.reduceAdd, Nat.reduceSub, Nat.reduceLT, Nat.reduceLeDiff, Nat.reduceEqDiff, ↓reduceIte]
  refine eloop (S := Nat) (fun j => mkE 53 [(0, .own 0), (1, .d (.int .i64 0)), (2, .d (.int .i64 l.length)), (3, .fn 68 []), (8, .d (.int .i64 i)), (9, .d (.int .i64 j))]) (fun j => [.row 4 ((Lat P R x j).map hD)]) (fun j => j ≤ i ∧ ∀ y ∈ P.drop j, x.fr < y.fr) (fun j => j) i ⟨by omega, by rw [List.drop_of_length_le (by omega)]; simp⟩ (Wk.sub (by (simp only [go_sem]) <;> trivial)) ?_
  intro j hj
  obtain ⟨j1, j2⟩ := hj
  have stop : (∀ y ∈ P.take j, y.fr ≤ x.fr) → Lat P R x j = isort (l.take (i + 1)) ++ l.drop (i + 1) := fun h => by
    rw [e1, ← hR]
    have := ins_split (x := x) (B := P.drop j) (fun y hy => j2 y (List.mem_of_mem_head? hy)) h
    rw [List.take_append_drop] at this
    rw [this]; simp [Lat]
  cases j with
  | zero =>
    have f2 : decide ((0 : Int) < ((0 : Nat) : Int)) = false := rfl
    have st := stop (by simp)
    simp (maxSteps := 4000000) -implicitDefEqProofs only [go_sem, Nat.reduceAdd, Nat.reduceSub, Nat.reduceLT, Nat.reduceLeDiff, Nat.reduceEqDiff, ↓reduceIte]
    refine DX.plain (.take 0 false (.take 1 false (.take 2 false (.take 3 false (.take 4 false (.take 5 false (.take 6 false (.take 7 false (.take 8 false (.take 9 false (.take 10 false (.take 11 false (.take 12 false (.take 13 false (.take 14 false (.take 15 false (.take 16 false .done))))))))))))))))) (by kernel_rfl) (by kernel_rfl) Ty.mixed ?_
    simp (maxSteps := 4000000) -implicitDefEqProofs only [go_sem, f2, Option.some.injEq, forall_eq', and_true, true_and, Bool.not_true, Bool.not_false, decide_true, Nat.reduceAdd, Nat.reduceSub, Nat.reduceLT, Nat.reduceLeDiff, Nat.reduceEqDiff, ↓reduceIte]
    simp (maxSteps := 4000000) -implicitDefEqProofs only [go_sem, w1, Option.some.injEq, forall_eq', and_true, true_and, Bool.not_true, Bool.not_false, decide_true, Nat.reduceAdd, Nat.reduceSub, Nat.reduceLT, Nat.reduceLeDiff, Nat.reduceEqDiff, ↓reduceIte]
    rw [st]
    exact .mk (i + 1) (by omega) (by omega) (Wk.sub (by (simp only [go_sem]) <;> trivial))
  | succ k =>
    have f2 : decide ((0 : Int) < ((k + 1 : Nat) : Int)) = true := decide_eq_true (by omega)
    obtain ⟨y, hy⟩ : ∃ y, P[k]? = some y := ⟨P[k]'(by omega), List.getElem?_eq_getElem _⟩
    have hyv := hPv y (List.mem_of_getElem? hy)
    have ll := lat_len (P := P) (R := R) (x := x) (j := k + 1) (by omega)
    have gx := lat_x (P := P) (R := R) (x := x) (j := k + 1) (by omega)
    have gy := lat_y (R := R) (x := x) hy
    have sw := lat_swap (R := R) (x := x) hy
    have n1 : (0 ≤ ((k + 1 : Nat) : Int) ∧ ((k + 1 : Nat) : Int) < (Lat P R x (k + 1)).length) = True := eq_true (by omega)
    have n2 : (k + 1 < (Lat P R x (k + 1)).length) = True := eq_true (by omega)
    have n3 : (0 ≤ (k : Int) ∧ (k : Int) < (Lat P R x (k + 1)).length) = True := eq_true (by omega)
    have n4 : (k < (Lat P R x (k + 1)).length) = True := eq_true (by omega)
    have w2 : IntKind.i64.wrap (((k + 1 : Nat) : Int) - 1) = (k : Int) := by rw [i64_in _ (by omega)]; omega
    have cm := cmp_own x y hxv hyv
    simp only [hA] at cm
    simp (maxSteps := 4000000) -implicitDefEqProofs only [go_sem, Nat.reduceAdd, Nat.reduceSub, Nat.reduceLT, Nat.reduceLeDiff, Nat.reduceEqDiff, ↓reduceIte]
    refine DX.plain (.take 0 false (.take 1 false (.take 2 false (.take 3 false (.take 4 false (.take 5 false (.take 6 false (.take 7 false (.take 8 false (.take 9 false (.take 10 false (.take 11 false (.take 12 false (.take 13 false (.take 14 false (.take 15 false (.take 16 false .done))))))))))))))))) (by kernel_rfl) (by kernel_rfl) Ty.mixed ?_
    simp (maxSteps := 4000000) -implicitDefEqProofs only [go_sem, f2, n1, n2, n3, n4, gx, gy, w2, Option.some.injEq, forall_eq', and_true, true_and, Bool.not_true, Bool.not_false, decide_true, Nat.reduceAdd, Nat.reduceSub, Nat.reduceLT, Nat.reduceLeDiff, Nat.reduceEqDiff, ↓reduceIte]
    refine ⟨_, _, Spec.lift0 cm _ (by simp only [go_sem]) (by simp only [go_sem]), rfl, ?_⟩
    rcases Int.lt_or_le x.fr y.fr with h5 | h5
    case inr =>
      have f3 : decide (x.fr - y.fr < 0) = false := decide_eq_false (by omega)
      have st := stop fun z hz => by
        rw [List.take_add_one, hy] at hz
        rcases List.mem_append.1 hz with hz | hz
        · obtain ⟨m, hm⟩ := List.mem_iff_getElem?.1 hz
          have hmk : m < k := by have := some_lt hm; simp at this; omega
          rw [List.getElem?_take_of_lt hmk] at hm
          obtain ⟨q1, q2⟩ := List.getElem?_eq_some_iff.1 hm
          obtain ⟨q3, q4⟩ := List.getElem?_eq_some_iff.1 hy
          have := (List.pairwise_iff_getElem.1 hPs) m k q1 q3 hmk
          rw [q2, q4] at this; omega
        · simp at hz; subst hz; exact h5
      simp (maxSteps := 4000000) -implicitDefEqProofs only [go_sem, f3, Option.some.injEq, forall_eq', and_true, true_and, Bool.not_true, Bool.not_false, decide_true, Nat.reduceAdd, Nat.reduceSub, Nat.reduceLT, Nat.reduceLeDiff, Nat.reduceEqDiff, ↓reduceIte]
      simp (maxSteps := 4000000) -implicitDefEqProofs only [go_sem, w1, Option.some.injEq, forall_eq', and_true, true_and, Bool.not_true, Bool.not_false, decide_true, Nat.reduceAdd, Nat.reduceSub, Nat.reduceLT, Nat.reduceLeDiff, Nat.reduceEqDiff, ↓reduceIte]
      rw [st]
      exact .mk (i + 1) (by omega) (by omega) (Wk.sub (by (simp only [go_sem]) <;> trivial))
    have f3 : decide (x.fr - y.fr < 0) = true := decide_eq_true (by omega)
    simp (maxSteps := 4000000) -implicitDefEqProofs only [go_sem, f3, Option.some.injEq, forall_eq', and_true, true_and, Bool.not_true, Bool.not_false, decide_true, Nat.reduceAdd, Nat.reduceSub, Nat.reduceLT, Nat.reduceLeDiff, Nat.reduceEqDiff, ↓reduceIte]
    refine DX.plain (.take 0 false (.take 1 false (.take 2 true (.take 3 true (.take 4 true (.take 5 false (.take 6 false (.take 7 false (.take 8 false (.take 9 false (.take 10 false (.take 11 false (.take 12 false (.take 13 false (.take 14 false (.run [15] (fun _ => [true, true, true]) fun _ => (.take 16 false (.run [17] (fun _ => [false, false, false]) fun _ => .done)))))))))))))))))) (by kernel_rfl) (by kernel_rfl) Ty.mixed ?_
    simp (maxSteps := 4000000) -implicitDefEqProofs only [go_sem, n1, n2, n3, n4, gx, gy, w2, List.length_set, Option.some.injEq, forall_eq', and_true, true_and, Bool.not_true, Bool.not_false, decide_true, Nat.reduceAdd, Nat.reduceSub, Nat.reduceLT, Nat.reduceLeDiff, Nat.reduceEqDiff, ↓reduceIte]
    intro e he
    rw [List.getElem?_set_ne (by omega), List.getElem?_map, gy] at he
    have he2 := Option.some.inj he
    subst he2
    simp only [hD] at sw
    simp only [hD, spl]
    rw [sw]
    refine .mk k ⟨by omega, fun z hz => ?_⟩ (by omega) (Wk.sub (by (simp only [go_sem]) <;> trivial))
    rw [List.drop_eq_getElem_cons (by omega : k < P.length), (List.getElem?_eq_some_iff.1 hy).2] at hz
    rcases List.mem_cons.1 hz with rfl | hz
    · exact h5
    · exact j2 z hz
theorem stable_own (l : List Hd) (hl : l.length ≤ 16) (hv : Val l) : Spec Tryz.prog 100 [.own 0, .d (.int .i64 l.length), .fn 68 []] [.row 4 (l.map hD)] (.tup []) [.row 4 ((isort l).map hD)] := by
  have f1 : decide ((20 : Int) ≤ l.length) = false := decide_eq_false (by omega)
  have f2 : decide ((20 : Int) < l.length) = false := decide_eq_false (by omega)
  refine spec_of_ev (fn := Tryz.f100) DX_ok 3000 Tryz.func100 rfl rfl (Nat.le_of_ble_eq_true rfl) ?_
  simp (maxSteps := 4000000) -implicitDefEqProofs only [Tryz.f100, go_sem]
  refine eloop (S := Unit) (fun _ => mkE 63 [(0, .own 0), (1, .d (.int .i64 l.length)), (2, .fn 68 []), (6, .d (.int .i64 20)), (7, .d (.int .i64 0)), (8, .d (.int .i64 20))]) (fun _ => [.row 4 (l.map hD)]) (fun _ => True) (fun _ => 0) () trivial (Wk.sub (by (simp only [go_sem]) <;> trivial)) ?_
  intro _ _
  simp (maxSteps := 4000000) -implicitDefEqProofs only [go_sem, f1, Option.some.injEq, forall_eq', and_true, true_and, Bool.not_true, Bool.not_false, decide_true, Nat.reduceAdd, Nat.reduceSub, Nat.reduceLT, Nat.reduceLeDiff, Nat.reduceEqDiff, ↓reduceIte]
  refine .all _ _ (insertion_own l hl hv) ?_
  simp (maxSteps := 4000000) -implicitDefEqProofs only [go_sem, Nat.reduceAdd, Nat.reduceSub, Nat.reduceLT, Nat.reduceLeDiff, Nat.reduceEqDiff, ↓reduceIte]
  refine eloop (S := Unit) (fun _ => mkE 63 [(1, .d (.int .i64 l.length)), (6, .d (.int .i64 20))]) (fun _ => [.row 4 ((isort l).map hD)]) (fun _ => True) (fun _ => 0) () trivial (Wk.sub (by (simp only [go_sem]) <;> trivial)) ?_
  intro _ _
  simp (maxSteps := 4000000) -implicitDefEqProofs only [go_sem, f2, Option.some.injEq, forall_eq', and_true, true_and, Bool.not_true, Bool.not_false, decide_true, Nat.reduceAdd, Nat.reduceSub, Nat.reduceLT, Nat.reduceLeDiff, Nat.reduceEqDiff, ↓reduceIte]
  exact Wk.refl _ _ _
theorem sort_own (l : List Hd) (hl : l.length ≤ 16) (hv : Val l) : Spec Tryz.prog 67 [.own 0, .fn 68 []] [.row 4 (l.map hD)] (.tup []) [.row 4 ((isort l).map hD)] := by
  refine spec_of_ev (fn := Tryz.f67) DX_ok 3000 Tryz.func67 rfl rfl (Nat.le_of_ble_eq_true rfl) ?_
  simp (maxSteps := 4000000) -implicitDefEqProofs only [Tryz.f67, go_sem]
  refine .all _ _ (stable_own l hl hv) ?_
  simp (maxSteps := 4000000) -implicitDefEqProofs only [go_sem, Nat.reduceAdd, Nat.reduceSub, Nat.reduceLT, Nat.reduceLeDiff, Nat.reduceEqDiff, ↓reduceIte]
  exact Wk.refl _ _ _
end Go.AX.Wn
namespace Go.AX.Wn
open Go.Proofs Go.RowKit Go.IntWalk Go.AX.Br
theorem mstep_nil (h : Hd) : mstep [] h = [h] := rfl
theorem mstep_join {A : List Hd} {w h : Hd} (e : h.fr ≤ w.to) : mstep (A ++ [w]) h = A ++ [joinTo w h] := by
  unfold mstep
  simp only [List.getLast?_append, List.getLast?_singleton, Option.some_or]
  rw [if_pos e]; simp
theorem mstep_new {A : List Hd} {w h : Hd} (e : w.to < h.fr) : mstep (A ++ [w]) h = A ++ [w] ++ [h] := by
  unfold mstep
  simp only [List.getLast?_append, List.getLast?_singleton, Option.some_or]
  rw [if_neg (by omega)]
def mine (b : ByteArray) (l : List Hd) : List Hd := l.filter fun h => decide (h.br = b)
theorem mine_yes {l : List Hd} {b : ByteArray} {i : Nat} {x : Hd} (hx : l[i]? = some x) (h : x.br = b) : mine b (l.take (i + 1)) = mine b (l.take i) ++ [x] := by
  rw [List.take_add_one, hx]; simp [mine, h]
theorem mine_no {l : List Hd} {b : ByteArray} {i : Nat} {x : Hd} (hx : l[i]? = some x) (h : x.br ≠ b) : mine b (l.take (i + 1)) = mine b (l.take i) := by
  rw [List.take_add_one, hx]; simp [mine, h]
theorem mine_len (b : ByteArray) (l : List Hd) : (mine b l).length ≤ l.length := List.length_filter_le ..
theorem fold_snoc {S : List Hd} {i : Nat} {x : Hd} (hx : S[i]? = some x) : (S.take (i + 1)).foldl mstep [] = mstep ((S.take i).foldl mstep []) x := by
  rw [List.take_add_one, hx]; simp
theorem set_last {A : List Hd} {w : Hd} {e : List D} : ((A ++ [w]).map hD).set A.length e = A.map hD ++ [e] := by
  rw [List.map_append, List.set_append_right _ _ (by simp)]; simp
theorem windows_own (l : List Hd) (b : ByteArray) (O : Okw l b) : Spec Tryz.prog 32 [.d (.sl (l.map hD)), .d (.str b)] [] (.d (.sl ((winL l b).map hD))) [] := by
  have hl := O.len
  refine spec_of_ev (fn := Tryz.f32) DX_ok 3000 Tryz.func32 rfl rfl (Nat.le_of_ble_eq_true rfl) ?_
  simp (maxSteps := 4000000) -implicitDefEqProofs only [Tryz.f32, go_sem]
  refine eloop (S := Nat) (fun i => mkE 70 [(0, .d (.sl (l.map hD))), (1, .d (.str b)), (5, .own 0), (12, .d (.sl (l.map hD))), (13, .d (.int .i64 l.length)), (14, .d (.int .i64 i))]) (fun i => [.row 4 ((mine b (l.take i)).map hD)]) (fun i => i ≤ l.length) (fun i => l.length - i) 0 (by omega) (Wk.trans (Wk.nil 5 4 rfl) (Wk.via1 0 (by (simp only [go_sem, ↓reduceIte]) <;> trivial) (by simp (maxSteps := 4000000) -implicitDefEqProofs only [go_sem, Nat.reduceAdd, Nat.reduceSub, Nat.reduceLT, Nat.reduceLeDiff, Nat.reduceEqDiff, ↓reduceIte]) (by simp) (by (simp only [go_sem]) <;> trivial) (by trivial))) ?_
  intro i hi
  rcases Nat.lt_or_ge i l.length with h2 | h2
  · have f1 : decide ((i : Int) < l.length) = true := by simp; omega
    obtain ⟨x, hx⟩ : ∃ x, l[i]? = some x := ⟨l[i]'h2, List.getElem?_eq_getElem _⟩
    have n1 : (0 ≤ (i : Int) ∧ (i : Int) < l.length) = True := eq_true (by omega)
    have n2 : (i < l.length) = True := eq_true (by omega)
    have w1 : IntKind.i64.wrap ((i : Int) + 1) = ((i + 1 : Nat) : Int) := by rw [i64_in _ (by omega)]; simp
    have ml := mine_len b (l.take i)
    rw [List.length_take] at ml
    by_cases e1 : x.br = b
    case neg =>
      have d1 : decide (x.br = b) = false := decide_eq_false e1
      have e2 := mine_no hx e1
      simp (maxSteps := 4000000) -implicitDefEqProofs only [go_sem, f1, n1, n2, hx, d1, w1, Option.some.injEq, forall_eq', and_true, true_and, Bool.not_true, Bool.not_false, decide_true, Nat.reduceAdd, Nat.reduceSub, Nat.reduceLT, Nat.reduceLeDiff, Nat.reduceEqDiff, ↓reduceIte]
      exact .mk (i + 1) h2 (by omega) (by rw [e2]; exact (Wk.via1 0 (by (simp only [go_sem, ↓reduceIte]) <;> trivial) (by simp (maxSteps := 4000000) -implicitDefEqProofs only [go_sem, Nat.reduceAdd, Nat.reduceSub, Nat.reduceLT, Nat.reduceLeDiff, Nat.reduceEqDiff, ↓reduceIte]) (by simp) (by (simp only [go_sem]) <;> trivial) (by trivial)))
    have d1 : decide (x.br = b) = true := decide_eq_true e1
    have e2 := mine_yes hx e1
    simp (maxSteps := 4000000) -implicitDefEqProofs only [go_sem, f1, n1, n2, hx, d1, w1, Option.some.injEq, forall_eq', and_true, true_and, Bool.not_true, Bool.not_false, decide_true, Nat.reduceAdd, Nat.reduceSub, Nat.reduceLT, Nat.reduceLeDiff, Nat.reduceEqDiff, ↓reduceIte]
    refine ⟨by omega, ⟨fun e he => by simp at he; subst he; rfl, by omega, by omega⟩, ?_⟩
    exact .mk (i + 1) h2 (by omega) (by rw [e2, List.map_append]; exact (Wk.via1 3 (by (simp only [go_sem, ↓reduceIte]) <;> trivial) (by simp (maxSteps := 4000000) -implicitDefEqProofs only [go_sem, Nat.reduceAdd, Nat.reduceSub, Nat.reduceLT, Nat.reduceLeDiff, Nat.reduceEqDiff, ↓reduceIte]) (by simp) (by (simp only [go_sem]) <;> trivial) (by trivial)))
  have f1 : decide ((i : Int) < l.length) = false := by simp; omega
  simp (maxSteps := 4000000) -implicitDefEqProofs only [go_sem, f1, Option.some.injEq, forall_eq', and_true, true_and, Bool.not_true, Bool.not_false, decide_true, Nat.reduceAdd, Nat.reduceSub, Nat.reduceLT, Nat.reduceLeDiff, Nat.reduceEqDiff, ↓reduceIte]
  rw [List.take_of_length_le h2]
  obtain ⟨F, hF⟩ : ∃ F, F = mine b l := ⟨_, rfl⟩
  rw [← hF]
  have hFl : F.length ≤ 16 := by have := mine_len b l; rw [hF]; omega
  have hFv : Val F := fun h hh => by
    rw [hF] at hh
    have := O.val h (List.mem_filter.1 hh).1
    omega
  refine .all _ _ (sort_own F hFl hFv) ?_
  obtain ⟨T, hT⟩ : ∃ T, T = isort F := ⟨_, rfl⟩
  have hTl : T.length ≤ 16 := by rw [hT, isort_len]; exact hFl
  have hW : winL l b = T.foldl mstep [] := by rw [hT, hF]; rfl
  rw [← hT, hW]
  simp (maxSteps := 4000000) -implicitDefEqProofs only [go_sem, Nat.reduceAdd, Nat.reduceSub, Nat.reduceLT, Nat.reduceLeDiff, Nat.reduceEqDiff, ↓reduceIte]
  refine eloop (S := Nat) (fun i => mkE 70 [(8, .own 0), (29, .d (.sl (T.map hD))), (30, .d (.int .i64 T.length)), (31, .d (.int .i64 i))]) (fun i => [.row 4 (((T.take i).foldl mstep []).map hD)]) (fun i => i ≤ T.length) (fun i => T.length - i) 0 (by omega) (Wk.trans (Wk.frz 0 rfl) (Wk.trans (Wk.nil 8 4 rfl) ?_)) ?_
  · simp only [go_sem, ↓reduceIte]
    exact (Wk.via1 1 (by (simp only [go_sem, ↓reduceIte]) <;> trivial) (by simp (maxSteps := 4000000) -implicitDefEqProofs only [go_sem, Nat.reduceAdd, Nat.reduceSub, Nat.reduceLT, Nat.reduceLeDiff, Nat.reduceEqDiff, ↓reduceIte]) (by simp) (by (simp only [go_sem]) <;> trivial) (by trivial))
  clear hi h2 f1 i
  intro i hi
  rcases Nat.lt_or_ge i T.length with h2 | h2
  case inr =>
    have f1 : decide ((i : Int) < T.length) = false := by simp; omega
    simp (maxSteps := 4000000) -implicitDefEqProofs only [go_sem, f1, Option.some.injEq, forall_eq', and_true, true_and, Bool.not_true, Bool.not_false, decide_true, Nat.reduceAdd, Nat.reduceSub, Nat.reduceLT, Nat.reduceLeDiff, Nat.reduceEqDiff, ↓reduceIte]
    rw [List.take_of_length_le h2]
    exact wk_dat (r' := .d (.sl ((T.foldl mstep []).map hD))) (by simp only [go_sem]; rfl) rfl trivial
  have f1 : decide ((i : Int) < T.length) = true := by simp; omega
  obtain ⟨h, hh⟩ : ∃ x, T[i]? = some x := ⟨T[i]'h2, List.getElem?_eq_getElem _⟩
  have n1 : (0 ≤ (i : Int) ∧ (i : Int) < T.length) = True := eq_true (by omega)
  have n2 : (i < T.length) = True := eq_true (by omega)
  have w1 : IntKind.i64.wrap ((i : Int) + 1) = ((i + 1 : Nat) : Int) := by rw [i64_in _ (by omega)]; simp
  have fs := fold_snoc hh
  have fl := fold_len (T.take i) []
  rw [List.length_take] at fl
  simp only [List.length_nil] at fl
  obtain ⟨out, ho⟩ : ∃ out, out = (T.take i).foldl mstep [] := ⟨_, rfl⟩
  rw [← ho] at fs fl ⊢
  have hol : out.length ≤ 16 := by omega
  cases hlast : out.getLast? with
  | none =>
    have e0 : out = [] := by simpa using hlast
    subst e0
    have f2 : decide ((0 : Int) < ((0 : Nat) : Int)) = false := rfl
    rw [mstep_nil] at fs
    simp (maxSteps := 4000000) -implicitDefEqProofs only [go_sem, f1, n1, n2, hh, Option.some.injEq, forall_eq', and_true, true_and, Bool.not_true, Bool.not_false, decide_true, Nat.reduceAdd, Nat.reduceSub, Nat.reduceLT, Nat.reduceLeDiff, Nat.reduceEqDiff, ↓reduceIte]
    refine DX.plain (.take 0 false (.take 1 false (.take 2 false (.take 3 false (.take 4 false (.take 5 false (.take 6 false (.take 7 false (.take 8 false (.take 9 false (.take 10 false (.take 11 false (.take 12 false .done))))))))))))) (by kernel_rfl) (by kernel_rfl) Ty.mixed ?_
    simp (maxSteps := 4000000) -implicitDefEqProofs only [go_sem, f2, Option.some.injEq, forall_eq', and_true, true_and, Bool.not_true, Bool.not_false, decide_true, Nat.reduceAdd, Nat.reduceSub, Nat.reduceLT, Nat.reduceLeDiff, Nat.reduceEqDiff, ↓reduceIte]
    refine ⟨by omega, ⟨fun e he => by simp at he; subst he; rfl, by omega⟩, ?_⟩
    simp (maxSteps := 4000000) -implicitDefEqProofs only [go_sem, w1, Option.some.injEq, forall_eq', and_true, true_and, Bool.not_true, Bool.not_false, decide_true, Nat.reduceAdd, Nat.reduceSub, Nat.reduceLT, Nat.reduceLeDiff, Nat.reduceEqDiff, ↓reduceIte]
    exact .mk (i + 1) (by omega) (by omega) (by rw [fs]; exact (Wk.via1 3 (by (simp only [go_sem, ↓reduceIte]) <;> trivial) (by simp (maxSteps := 4000000) -implicitDefEqProofs only [go_sem, Nat.reduceAdd, Nat.reduceSub, Nat.reduceLT, Nat.reduceLeDiff, Nat.reduceEqDiff, ↓reduceIte]) (by simp) (by (simp only [go_sem]) <;> trivial) (by trivial)))
  | some w =>
    have hs := last_split hlast
    obtain ⟨A, hA'⟩ : ∃ A, A = out.dropLast := ⟨_, rfl⟩
    rw [← hA'] at hs
    subst hs
    clear hA'
    have hAl : A.length + 1 ≤ 16 := by simpa using hol
    have f2 : decide ((0 : Int) < ((A ++ [w]).length : Int)) = true := decide_eq_true (by simp)
    have w2 : IntKind.i64.wrap (((A ++ [w]).length : Int) - 1) = (A.length : Int) := by rw [i64_in _ (by simp; omega)]; simp
    have gw : (A ++ [w])[A.length]? = some w := by simp
    have n3 : (0 ≤ (A.length : Int) ∧ (A.length : Int) < (A ++ [w]).length) = True := eq_true (by simp; omega)
    have n4 : (A.length < (A ++ [w]).length) = True := eq_true (by simp)
    rcases Int.lt_or_le w.to h.fr with q | q
    · have f3 : decide (h.fr ≤ w.to) = false := decide_eq_false (by omega)
      rw [mstep_new q] at fs
      simp (maxSteps := 4000000) -implicitDefEqProofs only [go_sem, f1, n1, n2, hh, Option.some.injEq, forall_eq', and_true, true_and, Bool.not_true, Bool.not_false, decide_true, Nat.reduceAdd, Nat.reduceSub, Nat.reduceLT, Nat.reduceLeDiff, Nat.reduceEqDiff, ↓reduceIte]
      refine DX.plain (.take 0 false (.take 1 false (.take 2 false (.take 3 false (.take 4 false (.take 5 false (.take 6 false (.take 7 false (.take 8 false (.take 9 false (.take 10 false (.take 11 false (.take 12 false .done))))))))))))) (by kernel_rfl) (by kernel_rfl) Ty.mixed ?_
      simp (maxSteps := 4000000) -implicitDefEqProofs only [go_sem, f2, w2, n3, n4, gw, f3, Option.some.injEq, forall_eq', and_true, true_and, Bool.not_true, Bool.not_false, decide_true, Nat.reduceAdd, Nat.reduceSub, Nat.reduceLT, Nat.reduceLeDiff, Nat.reduceEqDiff, ↓reduceIte]
      refine ⟨by omega, ⟨fun e he => by simp at he; subst he; rfl, by omega, by omega⟩, ?_⟩
      simp (maxSteps := 4000000) -implicitDefEqProofs only [go_sem, w1, Option.some.injEq, forall_eq', and_true, true_and, Bool.not_true, Bool.not_false, decide_true, Nat.reduceAdd, Nat.reduceSub, Nat.reduceLT, Nat.reduceLeDiff, Nat.reduceEqDiff, ↓reduceIte]
      have e3 : (A ++ [w]).map hD ++ [[D.str h.br, D.int .i64 h.fr, D.int .i64 h.to, D.str h.rs]] = (A ++ [w] ++ [h]).map hD := by simp [hD]
      rw [e3]
      exact .mk (i + 1) (by omega) (by omega) (by rw [fs]; exact (Wk.via1 3 (by (simp only [go_sem, ↓reduceIte]) <;> trivial) (by simp (maxSteps := 4000000) -implicitDefEqProofs only [go_sem, Nat.reduceAdd, Nat.reduceSub, Nat.reduceLT, Nat.reduceLeDiff, Nat.reduceEqDiff, ↓reduceIte]) (by simp) (by (simp only [go_sem]) <;> trivial) (by trivial)))
    · have f3 : decide (h.fr ≤ w.to) = true := decide_eq_true q
      rw [mstep_join q] at fs
      simp (maxSteps := 4000000) -implicitDefEqProofs only [go_sem, f1, n1, n2, hh, Option.some.injEq, forall_eq', and_true, true_and, Bool.not_true, Bool.not_false, decide_true, Nat.reduceAdd, Nat.reduceSub, Nat.reduceLT, Nat.reduceLeDiff, Nat.reduceEqDiff, ↓reduceIte]
      refine DX.plain (.take 0 false (.take 1 false (.take 2 false (.take 3 false (.take 4 false (.take 5 false (.take 6 false (.take 7 false (.take 8 false (.take 9 false (.take 10 false (.take 11 false (.take 12 false .done))))))))))))) (by kernel_rfl) (by kernel_rfl) Ty.mixed ?_
      simp (maxSteps := 4000000) -implicitDefEqProofs only [go_sem, f2, w2, n3, n4, gw, f3, Option.some.injEq, forall_eq', and_true, true_and, Bool.not_true, Bool.not_false, decide_true, Nat.reduceAdd, Nat.reduceSub, Nat.reduceLT, Nat.reduceLeDiff, Nat.reduceEqDiff, ↓reduceIte]
      have mx : (if w.to < h.to then h.to else w.to) = max w.to h.to := by split <;> omega
      have jt : hD (joinTo w h) = [D.str w.br, D.int .i64 w.fr, D.int .i64 (max w.to h.to), D.str w.rs] := rfl
      refine DX.plain (.take 0 false (.take 1 false (.take 2 false (.take 3 false (.take 4 false (.take 5 false (.take 6 false (.take 7 false (.take 8 false (.take 9 false (.take 10 false (.take 11 false (.take 12 false (.take 13 false (.run [14] (fun _ => []) fun _ => .done))))))))))))))) (by kernel_rfl) (by kernel_rfl) Ty.mixed ?_
      simp (maxSteps := 4000000) -implicitDefEqProofs only [go_sem, w2, n3, n4, gw, w1, Option.some.injEq, forall_eq', and_true, true_and, Bool.not_true, Bool.not_false, decide_true, Nat.reduceAdd, Nat.reduceSub, Nat.reduceLT, Nat.reduceLeDiff, Nat.reduceEqDiff, ↓reduceIte]
      have e3 : A.map hD ++ [[D.str w.br, D.int .i64 w.fr, D.int .i64 (max w.to h.to), D.str w.rs]] = (A ++ [joinTo w h]).map hD := by rw [List.map_append, List.map_singleton, jt]
      rw [set_last, mx, e3]
      exact .mk (i + 1) (by omega) (by omega) (by rw [fs]; exact (Wk.via1 0 (by (simp only [go_sem, ↓reduceIte]) <;> trivial) (by simp (maxSteps := 4000000) -implicitDefEqProofs only [go_sem, Nat.reduceAdd, Nat.reduceSub, Nat.reduceLT, Nat.reduceLeDiff, Nat.reduceEqDiff, ↓reduceIte]) (by simp) (by (simp only [go_sem]) <;> trivial) (by trivial)))
def sgn (h : Hd) (t : Int) : Int := if h.to ≤ t then -1 else 1
theorem inF_own (h : Hd) (t : Int) : Spec Tryz.prog 66 [hA h, .d (.int .i64 t)] [] (.d (.int .i64 (sgn h t))) [] := by
  refine spec_of_ev (fn := Tryz.f66) DX_ok 3000 Tryz.func66 rfl rfl (Nat.le_of_ble_eq_true rfl) ?_
  simp (maxSteps := 4000000) -implicitDefEqProofs only [Tryz.f66, go_sem]
  rcases Int.lt_or_le t h.to with q | q
  · have d : decide (h.to ≤ t) = false := decide_eq_false (by omega)
    simp (maxSteps := 4000000) -implicitDefEqProofs only [go_sem, d, Option.some.injEq, forall_eq', and_true, true_and, Bool.not_true, Bool.not_false, decide_true, Nat.reduceAdd, Nat.reduceSub, Nat.reduceLT, Nat.reduceLeDiff, Nat.reduceEqDiff, ↓reduceIte]
    exact wk_int (by rw [sgn, if_neg (by omega)])
  · have d : decide (h.to ≤ t) = true := decide_eq_true q
    simp (maxSteps := 4000000) -implicitDefEqProofs only [go_sem, d, Option.some.injEq, forall_eq', and_true, true_and, Bool.not_true, Bool.not_false, decide_true, Nat.reduceAdd, Nat.reduceSub, Nat.reduceLT, Nat.reduceLeDiff, Nat.reduceEqDiff, ↓reduceIte]
    exact wk_int (by rw [sgn, if_pos q])
theorem to_mono {W : List Hd} (C : Can W) {i j : Nat} {x y : Hd} (hx : W[i]? = some x) (hy : W[j]? = some y) (h : i ≤ j) : x.to ≤ y.to := by
  rcases Nat.lt_or_ge i j with q | q
  · obtain ⟨q1, q2⟩ := List.getElem?_eq_some_iff.1 hx
    obtain ⟨q3, q4⟩ := List.getElem?_eq_some_iff.1 hy
    have := (List.pairwise_iff_getElem.1 C.1) i j q1 q3 q
    have hv := C.2 y (List.mem_of_getElem? hy)
    rw [q2, q4] at this; omega
  · have : i = j := by omega
    subst this; rw [hx] at hy; cases hy; exact Int.le_refl _
theorem mid {n : Nat} (h : n ≤ 100) : IntKind.i64.wrap ((IntKind.u64.wrap (n : Int)).fdiv (2 ^ min 1 64)) = ((n / 2 : Nat) : Int) := by
  have e1 : (2 : Int) ^ min 1 64 = 2 := rfl
  have e2 : IntKind.u64.wrap (n : Int) = n := by
    simp only [IntKind.wrap, IntKind.bits, IntKind.signed]
    simp; omega
  rw [e1, e2, Int.fdiv_eq_ediv_of_nonneg _ (by omega), i64_in _ (by omega)]; simp
theorem search_own (W : List Hd) (t : Int) (C : Can W) (hW : W.length ≤ 16) : Spec Tryz.prog 65 [.d (.sl (W.map hD)), .d (.int .i64 t), .fn 66 []] [] (.tup [.d (.int .i64 (W.findIdx fun w => decide (t < w.to))), .d (.bool false)]) [] := by
  refine spec_of_ev (fn := Tryz.f65) DX_ok 3000 Tryz.func65 rfl rfl (Nat.le_of_ble_eq_true rfl) ?_
  simp (maxSteps := 4000000) -implicitDefEqProofs only [Tryz.f65, go_sem]
  refine eloop (S := Nat × Nat) (fun s => mkE 49 [(0, .d (.sl (W.map hD))), (1, .d (.int .i64 t)), (2, .fn 66 []), (8, .d (.int .i64 W.length)), (9, .d (.int .i64 s.1)), (10, .d (.int .i64 s.2))]) (fun s => []) (fun s => s.1 ≤ s.2 ∧ s.2 ≤ W.length ∧ (∀ j x, W[j]? = some x → j < s.1 → x.to ≤ t) ∧ ∀ j x, W[j]? = some x → s.2 ≤ j → t < x.to) (fun s => s.2 - s.1) (0, W.length) ⟨by omega, by omega, by omega, fun j x hx hj => by have := some_lt hx; simp only at hj; omega⟩ (Wk.sub (by (simp only [go_sem]) <;> trivial)) ?_
  intro s hs
  obtain ⟨i1, i2, i3, i4⟩ := hs
  rcases Nat.lt_or_ge s.1 s.2 with h2 | h2
  · have f1 : decide ((s.1 : Int) < s.2) = true := by simp; omega
    have w1 : IntKind.i64.wrap ((s.1 : Int) + s.2) = ((s.1 + s.2 : Nat) : Int) := by rw [i64_in _ (by omega)]; simp
    obtain ⟨m, hm⟩ : ∃ m, m = (s.1 + s.2) / 2 := ⟨_, rfl⟩
    have w2 := mid (n := s.1 + s.2) (by omega)
    rw [← hm] at w2
    have w3 : IntKind.i64.wrap ((m : Int) + 1) = ((m + 1 : Nat) : Int) := by rw [i64_in _ (by omega)]; simp
    have n0 : (0 ≤ (1 : Int)) = True := eq_true (by omega)
    obtain ⟨x, hx⟩ : ∃ x, W[m]? = some x := ⟨W[m]'(by omega), List.getElem?_eq_getElem _⟩
    have n1 : (0 ≤ (m : Int) ∧ (m : Int) < W.length) = True := eq_true (by omega)
    have n2 : (m < W.length) = True := eq_true (by omega)
    have sp := inF_own x t
    simp only [hA] at sp
    simp (maxSteps := 4000000) -implicitDefEqProofs only [go_sem, f1, w1, w2, n0, n1, n2, hx, Option.some.injEq, forall_eq', and_true, true_and, Bool.not_true, Bool.not_false, decide_true, Nat.reduceAdd, Nat.reduceSub, Nat.reduceLT, Nat.reduceLeDiff, Nat.reduceEqDiff, ↓reduceIte]
    refine ecall0 _ sp (by simp only [go_sem]) (by simp only [go_sem]) ?_
    rcases Int.lt_or_le t x.to with q | q
    · have sg : sgn x t = 1 := by rw [sgn, if_neg (by omega)]
      have d : decide ((1 : Int) < 0) = false := rfl
      simp (maxSteps := 4000000) -implicitDefEqProofs only [go_sem, sg, d, Option.some.injEq, forall_eq', and_true, true_and, Bool.not_true, Bool.not_false, decide_true, Nat.reduceAdd, Nat.reduceSub, Nat.reduceLT, Nat.reduceLeDiff, Nat.reduceEqDiff, ↓reduceIte]
      exact .mk (s.1, m) ⟨by simp only; omega, by simp only; omega, i3, fun j y hy hj => by have := to_mono C hx hy hj; omega⟩ (by simp only; omega) (Wk.sub (by (simp only [go_sem]) <;> trivial))
    · have sg : sgn x t = -1 := by rw [sgn, if_pos q]
      have d : decide ((-1 : Int) < 0) = true := rfl
      simp (maxSteps := 4000000) -implicitDefEqProofs only [go_sem, sg, d, w3, Option.some.injEq, forall_eq', and_true, true_and, Bool.not_true, Bool.not_false, decide_true, Nat.reduceAdd, Nat.reduceSub, Nat.reduceLT, Nat.reduceLeDiff, Nat.reduceEqDiff, ↓reduceIte]
      exact .mk (m + 1, s.2) ⟨by simp only; omega, i2, fun j y hy hj => by have := to_mono C hy hx (by simp only at hj; omega); omega, i4⟩ (by simp only; omega) (Wk.sub (by (simp only [go_sem]) <;> trivial))
  have hidx : W.findIdx (fun w => decide (t < w.to)) = s.1 := by
    rcases Nat.lt_or_ge s.1 W.length with h3 | h3
    · have g := List.getElem?_eq_getElem h3
      refine (List.findIdx_eq h3).2 ⟨by simpa using i4 _ _ g (by omega), fun j hj => ?_⟩
      have := i3 j _ (List.getElem?_eq_getElem (by omega)) hj
      simp; omega
    · have : s.1 = W.length := by omega
      rw [this]
      refine List.findIdx_eq_length.2 fun x hx => ?_
      obtain ⟨j, hj⟩ := List.mem_iff_getElem?.1 hx
      have := i3 j x hj (by have := some_lt hj; omega)
      simp; omega
  have f1 : decide ((s.1 : Int) < s.2) = false := by simp; omega
  rcases Nat.lt_or_ge s.1 W.length with h3 | h3
  · have f2 : decide ((s.1 : Int) < W.length) = true := by simp; omega
    obtain ⟨x, hx⟩ : ∃ x, W[s.1]? = some x := ⟨W[s.1]'h3, List.getElem?_eq_getElem _⟩
    have n1 : (0 ≤ (s.1 : Int) ∧ (s.1 : Int) < W.length) = True := eq_true (by omega)
    have n2 : (s.1 < W.length) = True := eq_true (by omega)
    have sp := inF_own x t
    simp only [hA] at sp
    simp (maxSteps := 4000000) -implicitDefEqProofs only [go_sem, f1, f2, n1, n2, hx, Option.some.injEq, forall_eq', and_true, true_and, Bool.not_true, Bool.not_false, decide_true, Nat.reduceAdd, Nat.reduceSub, Nat.reduceLT, Nat.reduceLeDiff, Nat.reduceEqDiff, ↓reduceIte]
    refine ecall0 _ sp (by simp only [go_sem]) (by simp only [go_sem]) ?_
    have sg : (sgn x t == 0) = false := by unfold sgn; split <;> rfl
    simp (maxSteps := 4000000) -implicitDefEqProofs only [go_sem, sg, Option.some.injEq, forall_eq', and_true, true_and, Bool.not_true, Bool.not_false, decide_true, Nat.reduceAdd, Nat.reduceSub, Nat.reduceLT, Nat.reduceLeDiff, Nat.reduceEqDiff, ↓reduceIte]
    rw [hidx]
    exact wk_dat (r' := .tup [.d (.int .i64 s.1), .d (.bool false)]) (by simp only [go_sem]; rfl) rfl (by simp only [go_sem])
  · have f2 : decide ((s.1 : Int) < W.length) = false := by simp; omega
    simp (maxSteps := 4000000) -implicitDefEqProofs only [go_sem, f1, f2, Option.some.injEq, forall_eq', and_true, true_and, Bool.not_true, Bool.not_false, decide_true, Nat.reduceAdd, Nat.reduceSub, Nat.reduceLT, Nat.reduceLeDiff, Nat.reduceEqDiff, ↓reduceIte]
    rw [hidx]
    exact wk_dat (r' := .tup [.d (.int .i64 s.1), .d (.bool false)]) (by simp only [go_sem]; rfl) rfl (by simp only [go_sem])
end Go.AX.Wn
namespace Go.AX.Wn
open Go.Proofs Go.RowKit Go.IntWalk Go.AX.Br
theorem find_at_idx {p : Hd → Bool} : ∀ W : List Hd, W.find? p = W[W.findIdx p]?
  | [] => rfl
  | w :: W => by
    rw [List.find?_cons, List.findIdx_cons]
    cases h : p w with
    | true => simp
    | false => simp [find_at_idx W]
theorem in_own (W : List Hd) (t : Int) (C : Can W) (hW : W.length ≤ 16) : Spec Tryz.prog 31 [.d (.sl (W.map hD)), .d (.int .i64 t)] [] (.tup [hA (inR W t).1, .d (.bool (inR W t).2)]) [] := by
  have a1 := search_own W t C hW
  have e1 : look W t = W[W.findIdx fun w => decide (t < w.to)]? := find_at_idx W
  obtain ⟨i, hi⟩ : ∃ i, i = W.findIdx fun w => decide (t < w.to) := ⟨_, rfl⟩
  rw [← hi] at a1 e1
  have hil : i ≤ W.length := by rw [hi]; exact List.findIdx_le_length
  refine spec_of_ev (fn := Tryz.f31) DX_ok 3000 Tryz.func31 rfl rfl (Nat.le_of_ble_eq_true rfl) ?_
  simp (maxSteps := 4000000) -implicitDefEqProofs only [Tryz.f31, go_sem]
  refine ecall0 _ a1 (by simp only [go_sem]) (by simp only [go_sem]) ?_
  rcases Nat.lt_or_ge i W.length with h2 | h2
  · have f1 : ((i : Int) == W.length) = false := by simp; omega
    obtain ⟨w, hw⟩ : ∃ x, W[i]? = some x := ⟨W[i]'h2, List.getElem?_eq_getElem _⟩
    have n1 : (0 ≤ (i : Int) ∧ (i : Int) < W.length) = True := eq_true (by omega)
    have n2 : (i < W.length) = True := eq_true (by omega)
    have e2 : inR W t = (w, decide (w.fr ≤ t)) := by rw [inR, e1, hw]
    simp (maxSteps := 4000000) -implicitDefEqProofs only [go_sem, f1, Option.some.injEq, forall_eq', and_true, true_and, Bool.not_true, Bool.not_false, decide_true, Nat.reduceAdd, Nat.reduceSub, Nat.reduceLT, Nat.reduceLeDiff, Nat.reduceEqDiff, ↓reduceIte]
    refine DX.plain (.take 0 false (.take 1 false (.take 2 false (.take 3 false (.take 4 true (.take 5 true (.take 6 true (.take 7 true (.take 8 true (.take 9 true (.take 10 true (.run [11] (fun _ => [true, true, true, true, true, true, true]) fun _ => (.run [12] (fun _ => [false, false, false, false, false, false, false]) fun _ => .done))))))))))))) (by kernel_rfl) (by kernel_rfl) Ty.mixed ?_
    simp (maxSteps := 4000000) -implicitDefEqProofs only [go_sem, n1, n2, hw, Option.some.injEq, forall_eq', and_true, true_and, Bool.not_true, Bool.not_false, decide_true, Nat.reduceAdd, Nat.reduceSub, Nat.reduceLT, Nat.reduceLeDiff, Nat.reduceEqDiff, ↓reduceIte]
    refine ⟨⟨hD w, by rw [List.getElem?_map, hw]; rfl, rfl, rfl⟩, ?_⟩
    rw [e2]
    exact wk_dat (r' := .tup [hA w, .d (.bool (decide (w.fr ≤ t)))]) (by simp only [go_sem]; rfl) rfl (by simp only [go_sem])
  · have f1 : ((i : Int) == W.length) = true := by simp; omega
    have e2 : inR W t = (endH, false) := by rw [inR, e1, List.getElem?_eq_none h2]
    simp (maxSteps := 4000000) -implicitDefEqProofs only [go_sem, f1, Option.some.injEq, forall_eq', and_true, true_and, Bool.not_true, Bool.not_false, decide_true, Nat.reduceAdd, Nat.reduceSub, Nat.reduceLT, Nat.reduceLeDiff, Nat.reduceEqDiff, ↓reduceIte]
    rw [e2]
    exact wk_dat (r' := .tup [hA endH, .d (.bool false)]) (by simp only [go_sem, endH]; rfl) rfl (by simp only [go_sem])
def frozenR (l : List Hd) (b : ByteArray) (t : Int) : Bool × Int := if asked l [t] ≠ 0 then (false, asked l [t]) else (held l b t, 0)
def whyL (b : ByteArray) (t : Int) (l : List Hd) : List ByteArray := (l.filter (holds b t)).map (·.rs)
def whyR (l : List Hd) (b : ByteArray) (t : Int) : List ByteArray × Int := if asked l [t] ≠ 0 then ([], asked l [t]) else (whyL b t l, 0)
def fitRR (l : List Hd) (b : ByteArray) (t n : Int) : Int × Int := if asked l [t] ≠ 0 then (0, asked l [t]) else if n < 1 then (0, 2) else fitR (winL l b) t n
def slackR (l : List Hd) (b : ByteArray) (f t : Int) : Int × Int := if asked l [f, t] ≠ 0 then (0, asked l [f, t]) else if t < f then (0, 2) else (slR (winL l b) f t, 0)
def windowsR (l : List Hd) (b : ByteArray) : List Hd × Int := if wcheck l ≠ 0 then ([], wcheck l) else (winL l b, 0)
theorem asked_ok {l : List Hd} {ts : List Int} (h : asked l ts = 0) : wcheck l = 0 ∧ ∀ t ∈ ts, 0 ≤ t ∧ t ≤ 1000000 := by
  unfold asked at h
  split at h
  · omega
  · next h1 =>
    split at h
    · omega
    · next h2 =>
      refine ⟨by omega, fun t ht => ?_⟩
      have h2 : ts.any badT = false := by simpa using h2
      have := List.any_eq_false.1 h2 t ht
      simp only [badT, Bool.or_eq_true, decide_eq_true_eq, not_or] at this
      omega
theorem frozen_own (l : List Hd) (b : ByteArray) (t : Int) (hl : Sm l.length) : Spec Tryz.prog 10 [.d (.sl (l.map hD)), .d (.str b), .d (.int .i64 t)] [] (.tup [.d (.bool (frozenR l b t).1), .d (.int .i64 (frozenR l b t).2)]) [] := by
  have a1 := asked_own l [t] hl (by unfold Sm; simp)
  simp only [List.map_cons, List.map_nil, iD] at a1
  refine spec_of_ev (fn := Tryz.f10) DX_ok 3000 Tryz.func10 rfl rfl (Nat.le_of_ble_eq_true rfl) ?_
  simp (maxSteps := 4000000) -implicitDefEqProofs only [Tryz.f10, go_sem]
  simp (maxSteps := 4000000) -implicitDefEqProofs only [go_sem, Nat.reduceAdd, Nat.reduceSub, Nat.reduceLT, Nat.reduceLeDiff, Nat.reduceEqDiff, ↓reduceIte]
  try refine ⟨by omega, ?_⟩
  refine ECall.dat (by simp only [go_sem]; rfl) (by rfl) ?_
  refine ecall0 _ a1 (by simp only [go_sem]) (by simp only [go_sem]) ?_
  by_cases h1 : asked l [t] = 0
  case neg =>
    have d1 : (asked l [t] != 0) = true := by simp [h1]
    have e : frozenR l b t = (false, asked l [t]) := by rw [frozenR, if_pos h1]
    simp (maxSteps := 4000000) -implicitDefEqProofs only [go_sem, d1, Option.some.injEq, forall_eq', and_true, true_and, Bool.not_true, Bool.not_false, decide_true, Nat.reduceAdd, Nat.reduceSub, Nat.reduceLT, Nat.reduceLeDiff, Nat.reduceEqDiff, ↓reduceIte]
    rw [e]
    exact wk_dat (r' := .tup [.d (.bool false), .d (.int .i64 (asked l [t]))]) (by simp only [go_sem]; rfl) rfl (by simp only [go_sem])
  have d1 : (asked l [t] != 0) = false := by simp [h1]
  have O := okw b (asked_ok h1).1
  have wl := winL_len l b
  have ol := O.len
  have e : frozenR l b t = ((inR (winL l b) t).2, 0) := by
    rw [frozenR, if_neg (by omega)]
    congr 1
    rw [Bool.eq_iff_iff, in_cov O.can, O.heldC]
  simp (maxSteps := 4000000) -implicitDefEqProofs only [go_sem, d1, Option.some.injEq, forall_eq', and_true, true_and, Bool.not_true, Bool.not_false, decide_true, Nat.reduceAdd, Nat.reduceSub, Nat.reduceLT, Nat.reduceLeDiff, Nat.reduceEqDiff, ↓reduceIte]
  refine ecall0 _ (windows_own l b O) (by simp only [go_sem]) (by simp only [go_sem]) ?_
  simp (maxSteps := 4000000) -implicitDefEqProofs only [go_sem, Nat.reduceAdd, Nat.reduceSub, Nat.reduceLT, Nat.reduceLeDiff, Nat.reduceEqDiff, ↓reduceIte]
  refine ecall0 _ (in_own (winL l b) t O.can (by omega)) (by simp only [go_sem]) (by simp only [go_sem]) ?_
  simp (maxSteps := 4000000) -implicitDefEqProofs only [go_sem, Nat.reduceAdd, Nat.reduceSub, Nat.reduceLT, Nat.reduceLeDiff, Nat.reduceEqDiff, ↓reduceIte]
  rw [e]
  exact wk_dat (r' := .tup [.d (.bool (inR (winL l b) t).2), .d (.int .i64 0)]) (by simp only [go_sem]; rfl) rfl (by simp only [go_sem])
theorem in_bounds {l : List Hd} {b : ByteArray} (O : Okw l b) (t : Int) : (inR (winL l b) t).1 = endH ∧ (inR (winL l b) t).2 = false ∧ look (winL l b) t = none ∨ ∃ w, look (winL l b) t = some w ∧ inR (winL l b) t = (w, decide (w.fr ≤ t)) ∧ w ∈ winL l b ∧ t < w.to := by
  unfold inR
  cases h : look (winL l b) t with
  | none => exact .inl ⟨rfl, rfl, rfl⟩
  | some w =>
    obtain ⟨_, _, _, _, q, _, _, _, hm⟩ := look_some O.can h
    exact .inr ⟨w, rfl, rfl, hm, q⟩
theorem fit_own (l : List Hd) (b : ByteArray) (t n : Int) (hl : Sm l.length) : Spec Tryz.prog 61 [.d (.sl (l.map hD)), .d (.str b), .d (.int .i64 t), .d (.int .i64 n)] [] (.tup [.d (.int .i64 (fitRR l b t n).1), .d (.int .i64 (fitRR l b t n).2)]) [] := by
  have a1 := asked_own l [t] hl (by unfold Sm; simp)
  simp only [List.map_cons, List.map_nil, iD] at a1
  refine spec_of_ev (fn := Tryz.f61) DX_ok 3000 Tryz.func61 rfl rfl (Nat.le_of_ble_eq_true rfl) ?_
  simp (maxSteps := 4000000) -implicitDefEqProofs only [Tryz.f61, go_sem]
  simp (maxSteps := 4000000) -implicitDefEqProofs only [go_sem, Nat.reduceAdd, Nat.reduceSub, Nat.reduceLT, Nat.reduceLeDiff, Nat.reduceEqDiff, ↓reduceIte]
  try refine ⟨by omega, ?_⟩
  refine ECall.dat (by simp only [go_sem]; rfl) (by rfl) ?_
  refine ecall0 _ a1 (by simp only [go_sem]) (by simp only [go_sem]) ?_
  by_cases h1 : asked l [t] = 0
  case neg =>
    have d1 : (asked l [t] != 0) = true := by simp [h1]
    have e : fitRR l b t n = (0, asked l [t]) := by rw [fitRR, if_pos h1]
    simp (maxSteps := 4000000) -implicitDefEqProofs only [go_sem, d1, Option.some.injEq, forall_eq', and_true, true_and, Bool.not_true, Bool.not_false, decide_true, Nat.reduceAdd, Nat.reduceSub, Nat.reduceLT, Nat.reduceLeDiff, Nat.reduceEqDiff, ↓reduceIte]
    rw [e]
    exact wk_dat (r' := .tup [.d (.int .i64 0), .d (.int .i64 (asked l [t]))]) (by simp only [go_sem]; rfl) rfl (by simp only [go_sem])
  have d1 : (asked l [t] != 0) = false := by simp [h1]
  rcases Int.lt_or_le n 1 with h2 | h2
  · have d2 : decide (n < 1) = true := decide_eq_true h2
    have e : fitRR l b t n = (0, 2) := by rw [fitRR, if_neg (by omega), if_pos h2]
    simp (maxSteps := 4000000) -implicitDefEqProofs only [go_sem, d1, d2, Option.some.injEq, forall_eq', and_true, true_and, Bool.not_true, Bool.not_false, decide_true, Nat.reduceAdd, Nat.reduceSub, Nat.reduceLT, Nat.reduceLeDiff, Nat.reduceEqDiff, ↓reduceIte]
    rw [e]
    exact wk_dat (r' := .tup [.d (.int .i64 0), .d (.int .i64 2)]) (by simp only [go_sem]; rfl) rfl (by simp only [go_sem])
  have d2 : decide (n < 1) = false := decide_eq_false (by omega)
  have e : fitRR l b t n = fitR (winL l b) t n := by rw [fitRR, if_neg (by omega), if_neg (by omega)]
  obtain ⟨g1, g2⟩ := asked_ok h1
  have ht := g2 t (by simp)
  have O := okw b g1
  have wl := winL_len l b
  have ol := O.len
  simp (maxSteps := 4000000) -implicitDefEqProofs only [go_sem, d1, d2, Option.some.injEq, forall_eq', and_true, true_and, Bool.not_true, Bool.not_false, decide_true, Nat.reduceAdd, Nat.reduceSub, Nat.reduceLT, Nat.reduceLeDiff, Nat.reduceEqDiff, ↓reduceIte]
  refine ecall0 _ (windows_own l b O) (by simp only [go_sem]) (by simp only [go_sem]) ?_
  simp (maxSteps := 4000000) -implicitDefEqProofs only [go_sem, Nat.reduceAdd, Nat.reduceSub, Nat.reduceLT, Nat.reduceLeDiff, Nat.reduceEqDiff, ↓reduceIte]
  rw [e]
  obtain ⟨F, hF⟩ : ∃ F, F = fitR (winL l b) t n := ⟨_, rfl⟩
  rw [← hF]
  refine eloop (S := Int) (fun s => mkE 50 [(2, .d (.int .i64 s)), (3, .d (.int .i64 n)), (11, .d (.sl ((winL l b).map hD)))]) (fun _ => []) (fun s => 0 ≤ s ∧ s ≤ 1000000 ∧ fitR (winL l b) s n = F) (fun s => 2 * (late (winL l b) s).length + 1) t ⟨ht.1, ht.2, hF.symm⟩ (Wk.forget (by (simp only [go_sem]) <;> trivial) (by simp only [go_sem])) ?_
  intro s hs
  obtain ⟨s1, s2, s3⟩ := hs
  have a2 := in_own (winL l b) s O.can (by omega)
  rcases in_bounds O s with ⟨b1, b2, b3⟩ | ⟨w, b1, b2, b3, b4⟩
  · rw [b1, b2] at a2
    have w1 : IntKind.i64.wrap ((1000001 : Int) - s) = 1000001 - s := i64_in _ (by omega)
    have fe := fit_end (n := n) b3
    rw [s3] at fe
    simp only [endH, hA] at a2
    simp (maxSteps := 4000000) -implicitDefEqProofs only [go_sem, Nat.reduceAdd, Nat.reduceSub, Nat.reduceLT, Nat.reduceLeDiff, Nat.reduceEqDiff, ↓reduceIte]
    refine ecall0 _ a2 (by simp only [go_sem]) (by simp only [go_sem]) ?_
    rcases Int.lt_or_le (1000001 - s) n with q | q
    · have d3 : decide (n ≤ 1000001 - s) = false := decide_eq_false (by omega)
      have d4 : decide ((1000000 : Int) < 1000001) = true := rfl
      rw [if_neg (by omega)] at fe
      subst fe
      simp (maxSteps := 4000000) -implicitDefEqProofs only [go_sem, w1, d3, d4, Option.some.injEq, forall_eq', and_true, true_and, Bool.not_true, Bool.not_false, decide_true, Nat.reduceAdd, Nat.reduceSub, Nat.reduceLT, Nat.reduceLeDiff, Nat.reduceEqDiff, ↓reduceIte]
      exact wk_dat (r' := .tup [.d (.int .i64 0), .d (.int .i64 6)]) (by simp only [go_sem]; rfl) rfl (by simp only [go_sem])
    · have d3 : decide (n ≤ 1000001 - s) = true := decide_eq_true q
      rw [if_pos q] at fe
      subst fe
      simp (maxSteps := 4000000) -implicitDefEqProofs only [go_sem, w1, d3, Option.some.injEq, forall_eq', and_true, true_and, Bool.not_true, Bool.not_false, decide_true, Nat.reduceAdd, Nat.reduceSub, Nat.reduceLT, Nat.reduceLeDiff, Nat.reduceEqDiff, ↓reduceIte]
      exact wk_dat (r' := .tup [.d (.int .i64 s), .d (.int .i64 0)]) (by simp only [go_sem]; rfl) rfl (by simp only [go_sem])
  · rw [b2] at a2
    have wb := O.bounds b3
    have hlt := late_lt O.can b1
    simp only [hA] at a2
    have w1 : IntKind.i64.wrap (w.fr - s) = w.fr - s := i64_in _ (by omega)
    simp (maxSteps := 4000000) -implicitDefEqProofs only [go_sem, Nat.reduceAdd, Nat.reduceSub, Nat.reduceLT, Nat.reduceLeDiff, Nat.reduceEqDiff, ↓reduceIte]
    refine ecall0 _ a2 (by simp only [go_sem]) (by simp only [go_sem]) ?_
    rcases Int.lt_or_le s w.fr with q | q
    · have d3 : decide (w.fr ≤ s) = false := decide_eq_false (by omega)
      rcases Int.lt_or_le (w.fr - s) n with p | p
      · have d4 : decide (n ≤ w.fr - s) = false := decide_eq_false (by omega)
        have d5 : decide ((1000000 : Int) < w.fr) = false := decide_eq_false (by omega)
        have fn := fit_no O.can b1 q p
        simp (maxSteps := 4000000) -implicitDefEqProofs only [go_sem, d3, w1, d4, d5, Option.some.injEq, forall_eq', and_true, true_and, Bool.not_true, Bool.not_false, decide_true, Nat.reduceAdd, Nat.reduceSub, Nat.reduceLT, Nat.reduceLeDiff, Nat.reduceEqDiff, ↓reduceIte]
        exact .mk w.to ⟨by omega, by omega, by rw [← fn, s3]⟩ (by omega) (Wk.forget (by (simp only [go_sem]) <;> trivial) (by simp only [go_sem]))
      · have d4 : decide (n ≤ w.fr - s) = true := decide_eq_true p
        have fy := fit_yes O.can b1 q p
        rw [s3] at fy
        subst fy
        simp (maxSteps := 4000000) -implicitDefEqProofs only [go_sem, d3, w1, d4, Option.some.injEq, forall_eq', and_true, true_and, Bool.not_true, Bool.not_false, decide_true, Nat.reduceAdd, Nat.reduceSub, Nat.reduceLT, Nat.reduceLeDiff, Nat.reduceEqDiff, ↓reduceIte]
        exact wk_dat (r' := .tup [.d (.int .i64 s), .d (.int .i64 0)]) (by simp only [go_sem]; rfl) rfl (by simp only [go_sem])
    · have d3 : decide (w.fr ≤ s) = true := decide_eq_true q
      have fh := fit_held (n := n) O.can b1 q
      simp (maxSteps := 4000000) -implicitDefEqProofs only [go_sem, d3, Option.some.injEq, forall_eq', and_true, true_and, Bool.not_true, Bool.not_false, decide_true, Nat.reduceAdd, Nat.reduceSub, Nat.reduceLT, Nat.reduceLeDiff, Nat.reduceEqDiff, ↓reduceIte]
      exact .mk w.to ⟨by omega, by omega, by rw [← fh, s3]⟩ (by omega) (Wk.forget (by (simp only [go_sem]) <;> trivial) (by simp only [go_sem]))
theorem next_own (l : List Hd) (b : ByteArray) (t : Int) (hl : Sm l.length) : Spec Tryz.prog 29 [.d (.sl (l.map hD)), .d (.str b), .d (.int .i64 t)] [] (.tup [.d (.int .i64 (fitRR l b t 1).1), .d (.int .i64 (fitRR l b t 1).2)]) [] := by
  have a1 := fit_own l b t 1 hl
  obtain ⟨F, hF⟩ : ∃ F, F = fitRR l b t 1 := ⟨_, rfl⟩
  rw [← hF] at a1 ⊢
  refine spec_of_ev (fn := Tryz.f29) DX_ok 3000 Tryz.func29 rfl rfl (Nat.le_of_ble_eq_true rfl) ?_
  simp (maxSteps := 4000000) -implicitDefEqProofs only [Tryz.f29, go_sem]
  refine ecall0 _ a1 (by simp only [go_sem]) (by simp only [go_sem]) ?_
  simp (maxSteps := 4000000) -implicitDefEqProofs only [go_sem, Nat.reduceAdd, Nat.reduceSub, Nat.reduceLT, Nat.reduceLeDiff, Nat.reduceEqDiff, ↓reduceIte]
  exact wk_dat (r' := .tup [.d (.int .i64 F.1), .d (.int .i64 F.2)]) (by simp only [go_sem]; rfl) rfl (by simp only [go_sem])
end Go.AX.Wn
namespace Go.AX.Wn
open Go.Proofs Go.RowKit Go.IntWalk Go.AX.Br
theorem Can.end_open {W : List Hd} (C : Can W) {w : Hd} (hw : w ∈ W) : ¬ cov W w.to := by
  rintro ⟨y, y1, y2, y3⟩
  obtain ⟨A, B, hs⟩ := List.append_of_mem hw
  have c1 := C.1
  have cw := C.2 w hw
  rw [hs] at c1 y1
  obtain ⟨_, p2, p3⟩ := List.pairwise_append.1 c1
  rcases List.mem_append.1 y1 with y1 | y1
  · have := p3 y y1 w (by simp); omega
  rcases List.mem_cons.1 y1 with rfl | y1
  · omega
  · have := (List.pairwise_cons.1 p2).1 y y1; omega
def atK (W : List Hd) (k : Nat) : Int := match W[k]? with
  | some w => w.fr
  | none => 1000001
section
variable {l : List Hd} {b : ByteArray} (O : Okw l b)
include O
end
def rest (W : List Hd) (f t : Int) : Int := if f < t then slR W f t else 0
end Go.AX.Wn
namespace Go.AX.Wn
open Go.Proofs Go.RowKit Go.IntWalk Go.AX.Br
end Go.AX.Wn
namespace Go.AX.Wn
open Go.Proofs Go.RowKit Go.IntWalk Go.AX.Br
def rsn (b : ByteArray) (t : Int) (l : List Hd) : ByteArray := match l.find? (holds b t) with
  | some h => h.rs
  | none => ByteArray.empty
theorem fit_one {l : List Hd} {b : ByteArray} (O : Okw l b) {t : Int} (ht : 0 ≤ t ∧ t ≤ 1000000) : fitR (winL l b) t 1 = (nextW (winL l b) t, 0) := by
  have open_ : ∀ s, 0 ≤ s → s ≤ 1000000 → ¬ cov (winL l b) s → fitR (winL l b) s 1 = (s, 0) := fun s s1 s2 hc => by
    cases h : look (winL l b) s with
    | none => rw [fit_end h, if_pos (by omega)]
    | some w =>
      have : s < w.fr := by
        rcases Int.lt_or_le s w.fr with q | q
        · exact q
        · exact absurd ((look_cov O.can h).2 q) hc
      exact fit_yes O.can h this (by omega)
  unfold nextW
  cases h : look (winL l b) t with
  | none => exact open_ t ht.1 ht.2 (none_cov h)
  | some w =>
    obtain ⟨_, _, _, _, q, _, _, _, hm⟩ := look_some O.can h
    have := O.bounds hm
    simp only
    split
    · next hw => rw [fit_held O.can h hw]; exact open_ _ (by omega) (by omega) (O.can.end_open hm)
    · next hw => exact open_ t ht.1 ht.2 fun hc => hw ((look_cov O.can h).1 hc)
end Go.AX.Wn

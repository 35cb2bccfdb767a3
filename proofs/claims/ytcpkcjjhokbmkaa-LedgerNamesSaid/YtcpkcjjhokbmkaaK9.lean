/- Ledgers: the last event of a class, both sides. -/
import Derived.Test.YtcpkcjjhokbmkaaK8
set_option maxHeartbeats 8000000
set_option linter.unusedVariables false
set_option linter.unusedSimpArgs false
set_option maxRecDepth 20000
namespace Go.AX.Lg
open Go.Proofs Go.RowKit Go.IntWalk Go.AX.Br
def lasR (l : Lg) (nm : ByteArray) (c : Int) : Mk × Int × Int :=
  if (lview l nm).2 ≠ 0 then (⟨0, 0⟩, 0, (lview l nm).2)
  else if c < 0 ∨ lastR l (seenL l (lview l nm).1) c < 0 then (⟨0, 0⟩, 0, 6)
  else match (lview l nm).1[(lastR l (seenL l (lview l nm).1) c).toNat]?, (seenL l (lview l nm).1)[(lastR l (seenL l (lview l nm).1) c).toNat]? with
    | some m, some x => (m, x.kd, 0)
    | _, _ => (⟨0, 0⟩, 0, 6)
theorem backward_own (v : List Mk) : Spec Try.prog 56 [.d (.sl (v.map mkD))] [] (.fn 71 [.ptr 0 0]) [.cells [.d (.sl (v.map mkD))]] := by
  refine spec_of_ev (fn := Try.f56) DX_ok 3000 Try.func56 rfl rfl (Nat.le_of_ble_eq_true rfl) ?_
  simp (maxSteps := 4000000) -implicitDefEqProofs only [Try.f56, go_sem]
  exact (Wk.via [0] (by (simp only [go_sem, ↓reduceIte]) <;> trivial) (by first | (simp (maxSteps := 4000000) -implicitDefEqProofs only [go_sem, Nat.reduceAdd, Nat.reduceSub, Nat.reduceLT, Nat.reduceLeDiff, Nat.reduceEqDiff, ↓reduceIte]; done) | ((simp (maxSteps := 4000000) -implicitDefEqProofs only [go_sem, Nat.reduceAdd, Nat.reduceSub, Nat.reduceLT, Nat.reduceLeDiff, Nat.reduceEqDiff, ↓reduceIte]) <;> omega)) (by simp) (by first | (simp; done) | (simp [so]; done)) (by (simp (maxSteps := 4000000) -implicitDefEqProofs only [go_sem, Nat.reduceAdd, Nat.reduceSub, Nat.reduceLT, Nat.reduceLeDiff, Nat.reduceEqDiff, ↓reduceIte]) <;> trivial) (by first | (simp only [go_sem]; done) | ((simp (maxSteps := 4000000) -implicitDefEqProofs only [go_sem, Nat.reduceAdd, Nat.reduceSub, Nat.reduceLT, Nat.reduceLeDiff, Nat.reduceEqDiff, ↓reduceIte]) <;> omega)) (Nat.zero_le _) (fun i h => absurd h (Nat.not_lt_zero i)))
/-- the iterator: from the last to the first -/
theorem backward_it (v : List Mk) (L B : Nat) (ok : Nat → Prop) (args : Nat → List AV) (H : Nat → List AObj) (Sp : Code → List AObj → Prop) (hv : v.length ≤ 1000) (h0 : ok 0)
    (hB : ∀ i, i ≤ v.length → ob (H i) B = .cells [.d (.sl (v.map mkD))]) (ha : ∀ i m, i < v.length → v[v.length - 1 - i]? = some m → args i = [.d (.int .i64 ((v.length - 1 - i : Nat) : Int)), .agg [.d (.int .i64 m.b), .d (.int .i64 m.e)]])
    (hl : ∀ i, i ≤ v.length → (H i).length = (H 0).length) :
    SpecI Try.prog 71 [.raw (.func (.yield L) #[] #[]), .ptr B 0] (H 0) (YH L v.length ok args H Sp) (fun s => (s = H v.length ∧ ok v.length) ∨ ∃ c, Sp c s) := by
  refine speci_of_ev (fn := Try.f71) DX_ok 3000 Try.func71 rfl (Nat.le_of_ble_eq_true rfl) ?_
  have hB0 := hB 0 (Nat.zero_le _)
  have w0 : IntKind.i64.wrap ((v.length : Int) - 1) = (v.length : Int) - 1 := i64_in _ (by omega)
  simp (maxSteps := 4000000) -implicitDefEqProofs only [go_sem, Try.f71, hB0, w0, Option.some.injEq, forall_eq', and_true, true_and, Bool.not_true, Bool.not_false, decide_true, Nat.reduceAdd, Nat.reduceSub, Nat.reduceLT, Nat.reduceLeDiff, Nat.reduceEqDiff, ↓reduceIte]
  refine eloop (S := Nat) (fun i => mkE 19 [(0, .raw (.func (.yield L) #[] #[])), (1, .ptr B 0), (3, .d (.int .i64 ((v.length : Int) - 1 - i)))]) (fun i => H i) (fun i => i ≤ v.length ∧ ok i) (fun i => v.length - i) 0 ⟨by omega, h0⟩ (by simp only [Int.natCast_zero, Int.sub_zero]; exact (Wk.sub (by (simp only [go_sem]) <;> trivial))) ?_
  rintro i ⟨hi, hok⟩
  have hBi := hB i hi
  rcases Nat.lt_or_ge i v.length with h2 | h2
  case inr =>
    have f1 : decide (0 ≤ (v.length : Int) - 1 - i) = false := by simp; omega
    simp (maxSteps := 4000000) -implicitDefEqProofs only [go_sem, f1, Option.some.injEq, forall_eq', and_true, true_and, Bool.not_true, Bool.not_false, decide_true, Nat.reduceAdd, Nat.reduceSub, Nat.reduceLT, Nat.reduceLeDiff, Nat.reduceEqDiff, ↓reduceIte]
    have : i = v.length := by omega
    subst this
    exact ⟨_, Wk.refl _ _ _, .inl ⟨rfl, hok⟩⟩
  have f1 : decide (0 ≤ (v.length : Int) - 1 - i) = true := by simp; omega
  obtain ⟨m, hm⟩ : ∃ x, v[v.length - 1 - i]? = some x := ⟨v[v.length - 1 - i]'(by omega), List.getElem?_eq_getElem _⟩
  have hk : (v.length : Int) - 1 - i = ((v.length - 1 - i : Nat) : Int) := by omega
  have hai := ha i m h2 hm
  have w1 : IntKind.i64.wrap (((v.length - 1 - i : Nat) : Int) - 1) = (v.length : Int) - 1 - ((i + 1 : Nat) : Int) := by rw [i64_in _ (by omega)]; omega
  have b1 : (!true) = false := rfl
  have b2 : (!false) = true := rfl
  rw [hk] at f1 ⊢
  obtain ⟨k, hkk⟩ : ∃ k, k = v.length - 1 - i := ⟨_, rfl⟩
  rw [← hkk] at f1 hm hai w1 ⊢
  have n1 : (0 ≤ (k : Int) ∧ (k : Int) < v.length) = True := eq_true (by omega)
  have n2 : (k < v.length) = True := eq_true (by omega)
  simp (maxSteps := 4000000) -implicitDefEqProofs only [go_sem, f1, hBi, n1, n2, hm, Option.some.injEq, forall_eq', and_true, true_and, Bool.not_true, Bool.not_false, decide_true, Nat.reduceAdd, Nat.reduceSub, Nat.reduceLT, Nat.reduceLeDiff, Nat.reduceEqDiff, ↓reduceIte]
  refine ⟨i, h2, hok, rfl, hai.symm, rfl, fun hn => ?_, fun c τ hs => ?_⟩
  · simp (maxSteps := 4000000) -implicitDefEqProofs only [go_sem, b1, w1, Option.some.injEq, forall_eq', and_true, true_and, Bool.not_true, Bool.not_false, decide_true, Nat.reduceAdd, Nat.reduceSub, Nat.reduceLT, Nat.reduceLeDiff, Nat.reduceEqDiff, ↓reduceIte]
    exact .mk (i + 1) ⟨by omega, hn⟩ (by omega) (Wk.sub (by (simp only [go_sem]) <;> trivial))
  · simp (maxSteps := 4000000) -implicitDefEqProofs only [go_sem, b2, Option.some.injEq, forall_eq', and_true, true_and, Bool.not_true, Bool.not_false, decide_true, Nat.reduceAdd, Nat.reduceSub, Nat.reduceLT, Nat.reduceLeDiff, Nat.reduceEqDiff, ↓reduceIte]
    exact ⟨_, Wk.refl _ _ _, .inr ⟨c, hs⟩⟩
end Go.AX.Lg

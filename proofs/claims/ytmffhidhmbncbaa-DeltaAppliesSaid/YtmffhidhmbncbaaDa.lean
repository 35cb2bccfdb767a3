/- Deltas: what small functions compute. -/
import Derived.Test.YtmffhidhmbncbaaAxTy
import Derived.IntWalk
set_option maxHeartbeats 1000000
set_option linter.unusedVariables false
set_option linter.unusedSimpArgs false
set_option maxRecDepth 20000
namespace Go.AX.De
open Go.Proofs Go.RowKit Go.IntWalk
structure Part where
  at' : Int
  n : Int
  data : List Int
def bI (b : Int) : List D := [.int .u8 b]
def pD (p : Part) : List D := [.int .i64 p.at', .int .i64 p.n, .sl (p.data.map bI)]
attribute [go_sem] bI pD
theorem bI_len {l : List Int} : (∀ e ∈ l.map bI, e.length = 1) = True := eq_true (map_len (g := bI) fun _ => rfl)
theorem pD_len {l : List Part} : (∀ e ∈ l.map pD, e.length = 3) = True := eq_true (map_len (g := pD) fun _ => rfl)
theorem set_bI {l : List Int} {i : Nat} {v : Int} : (l.map bI).set i [.int .u8 v] = (l.set i v).map bI := by rw [List.map_set]; rfl
attribute [go_sem] bI_len pD_len set_bI
/-- no longer than memory -/
def Sm (n : Nat) : Prop := n ≤ 140737488351232

def great (l : List Part) : Bool := l.any (fun p => decide (2100 < p.data.length)) || (decide (30 < l.length) && decide (l.length ≤ 200)) || decide (300 < l.length)
theorem great_spec (l : List Part) (h : Sm l.length) : Spec Try.prog 9 [.d (.sl (l.map pD))] [] (.d (.bool (great l))) [] := by
  unfold Sm at h
  refine spec_of_ev (fn := Try.f9) DX_ok 3000 Try.func9 rfl rfl (Nat.le_of_ble_eq_true rfl) ?_
  simp only [Try.f9, go_sem]
  refine eloop (S := Nat) (fun i => mkE 30 [(0, .d (.sl (l.map pD))), (3, .d (.int .i64 i))]) (fun i => []) (fun i => i ≤ l.length ∧ ∀ j x, l[j]? = some x → j < i → x.data.length ≤ 2100) (fun i => l.length - i) 0 ⟨by omega, by omega⟩ (Wk.sub (by simp only [go_sem]; trivial)) ?_
  rintro i ⟨hi, hj⟩
  simp only [go_sem, Nat.reduceAdd, Nat.reduceSub, Nat.reduceLT, Nat.reduceLeDiff, Nat.reduceEqDiff, ↓reduceIte]
  refine cbs (fun h1 => ?_) (fun h1 => ?_)
  · simp only [go_sem, decide_eq_true_eq] at h1 ⊢
    refine ⟨by omega, fun x hx => cbs (fun h2 => ?_) (fun h2 => ?_)⟩
    · simp only [go_sem, Nat.reduceAdd, Nat.reduceSub, Nat.reduceLT, Nat.reduceLeDiff, Nat.reduceEqDiff, ↓reduceIte]
      refine wk_bool ?_
      simp only [go_sem, decide_eq_true_eq] at h2 ⊢
      have : l.any (fun p => decide (2100 < p.data.length)) = true := List.any_eq_true.2 ⟨x, List.mem_of_getElem? hx, by simp; omega⟩
      simp [great, this]
    · simp only [go_sem, Nat.reduceAdd, Nat.reduceSub, Nat.reduceLT, Nat.reduceLeDiff, Nat.reduceEqDiff, ↓reduceIte]
      rw [i64_in _ (by omega)]
      simp only [decide_eq_false_iff_not] at h2
      refine .mk (i + 1) ⟨by omega, fun j y hy hlt => ?_⟩ (by omega) (Wk.sub (by simp only [go_sem]; trivial))
      rcases Nat.lt_or_ge j i with q | q
      · exact hj j y hy q
      · have : j = i := by omega
        subst this; rw [hx] at hy; cases hy; omega
  · simp only [go_sem, decide_eq_false_iff_not] at h1 ⊢
    have hno : l.any (fun p => decide (2100 < p.data.length)) = false := by
      rw [List.any_eq_false]
      intro x hx
      obtain ⟨j, hj'⟩ := List.mem_iff_getElem?.1 hx
      have := hj j x hj' (by have := some_lt hj'; omega)
      simp; omega
    have hg : great l = ((decide (30 < l.length) && decide (l.length ≤ 200)) || decide (300 < l.length)) := by simp [great, hno]
    repeat' (refine gbs (fun _ => ?_) (fun _ => ?_) <;> simp only [go_sem])
    all_goals
      refine wk_bool ?_
      rw [hg]
      simp only [decide_eq_true_eq, decide_eq_false_iff_not] at *
      (rw [Bool.eq_iff_iff]; simp only [Bool.and_eq_true, Bool.or_eq_true, Bool.not_eq_true', decide_eq_true_eq, decide_eq_false_iff_not, beq_iff_eq, bne_iff_ne, ne_eq, true_iff, iff_true, false_iff, iff_false, eq_self, Bool.false_eq_true]; omega)

theorem sameBytes_spec (a b : List Int) (h : Sm a.length) : Spec Try.prog 16 [.d (.sl (a.map bI)), .d (.sl (b.map bI))] [] (.d (.bool (decide (a = b)))) [] := by
  unfold Sm at h
  refine spec_of_ev (fn := Try.f16) DX_ok 3000 Try.func16 rfl rfl (Nat.le_of_ble_eq_true rfl) ?_
  simp only [Try.f16, go_sem]
  refine cbs (fun h1 => ?_) (fun h1 => ?_)
  · simp only [go_sem, Nat.reduceAdd, Nat.reduceSub, Nat.reduceLT, Nat.reduceLeDiff, Nat.reduceEqDiff, ↓reduceIte]
    refine wk_bool ?_
    simp at h1
    simp; intro q; subst q; exact h1 rfl
  · simp only [go_sem, Nat.reduceAdd, Nat.reduceSub, Nat.reduceLT, Nat.reduceLeDiff, Nat.reduceEqDiff, ↓reduceIte]
    have hl : a.length = b.length := by simp at h1; omega
    refine eloop (S := Nat) (fun i => mkE 26 [(0, .d (.sl (a.map bI))), (1, .d (.sl (b.map bI))), (5, .d (.int .i64 i))]) (fun i => []) (fun i => i ≤ a.length ∧ a.take i = b.take i) (fun i => a.length - i) 0 ⟨by omega, by simp⟩ (Wk.sub (by simp only [go_sem]; trivial)) ?_
    rintro i ⟨hi, hj⟩
    simp only [go_sem, Nat.reduceAdd, Nat.reduceSub, Nat.reduceLT, Nat.reduceLeDiff, Nat.reduceEqDiff, ↓reduceIte]
    refine cbs (fun h2 => ?_) (fun h2 => ?_)
    · simp only [go_sem, decide_eq_true_eq] at h2 ⊢
      refine DX.plain (.take 0 false (.take 1 false (.take 2 false (.take 3 false (.take 4 false (.take 5 false (.take 6 false (.take 7 false (.take 8 false .done))))))))) (by kernel_rfl) (by kernel_rfl) Ty.mixed ?_
      simp only [go_sem, Nat.reduceAdd, Nat.reduceSub, Nat.reduceLT, Nat.reduceLeDiff, Nat.reduceEqDiff, ↓reduceIte]
      refine ⟨by omega, by omega, fun x hx => ⟨by omega, by omega, fun y hy => cbs (fun h3 => ?_) (fun h3 => ?_)⟩⟩
      · simp only [go_sem, Nat.reduceAdd, Nat.reduceSub, Nat.reduceLT, Nat.reduceLeDiff, Nat.reduceEqDiff, ↓reduceIte]
        refine wk_bool ?_
        simp at h3
        simp; intro q; subst q; rw [hx] at hy; cases hy; exact h3 rfl
      · simp only [go_sem, Nat.reduceAdd, Nat.reduceSub, Nat.reduceLT, Nat.reduceLeDiff, Nat.reduceEqDiff, ↓reduceIte]
        rw [i64_in _ (by omega)]
        refine .mk (i + 1) ⟨by omega, ?_⟩ (by omega) (Wk.sub (by simp only [go_sem]; trivial))
        simp at h3
        rw [List.take_add_one, List.take_add_one, hx, hy, hj, h3]
    · simp only [go_sem, Nat.reduceAdd, Nat.reduceSub, Nat.reduceLT, Nat.reduceLeDiff, Nat.reduceEqDiff, ↓reduceIte]
      refine wk_bool ?_
      simp at h2
      rw [List.take_of_length_le (by omega), List.take_of_length_le (by omega)] at hj
      simp [hj]
end Go.AX.De

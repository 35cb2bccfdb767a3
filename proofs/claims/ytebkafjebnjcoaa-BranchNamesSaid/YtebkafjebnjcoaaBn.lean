/- Branches: the law BranchViews returns true. -/
import Derived.Test.YtebkafjebnjcoaaBm
set_option maxHeartbeats 1000000
set_option linter.unusedVariables false
set_option linter.unusedSimpArgs false
set_option maxRecDepth 20000
namespace Go.AX.Br
open Go.Proofs Go.RowKit Go.IntWalk
theorem viewR_len (l : List Br) (cs : List Int) (nm : ByteArray) : (viewR l cs nm).1.length ≤ 400 := by
  simp only [viewR]
  split
  · simp
  · next h1 =>
    split
    · simp
    · next h2 =>
      have g := good_of (l := l) (cs := cs) (by omega)
      obtain ⟨i, x, k1, k2, k3⟩ := idx_get (p := has nm) (l := l) (by omega)
      obtain ⟨v, hv⟩ := good_view g (some_lt k2)
      obtain ⟨c, hc⟩ : ∃ c, cs[i]? = some c := ⟨cs[i]'(by have := some_lt k2; have := g.len; omega), List.getElem?_eq_getElem _⟩
      have := fit_len g.ok g.fit k2 hc hv
      have := g.ok.good _ _ k2
      have := g.cnt c (List.mem_of_getElem? hc)
      rw [k1]
      simp only [Int.toNat_natCast, List.getD_eq_getElem?_getD, hv, Option.getD_some]
      omega
theorem views_law (l : List Br) (cs : List Int) (a b : ByteArray) (hl : Sm l.length) (hc : Sm cs.length) : Spec Try.prog 3 [.d (.sl (l.map bD)), .d (.sl (cs.map iD)), .d (.str a), .d (.str b)] [] (.d (.bool true)) [] := by
  refine spec_of_ev (fn := Try.f3) DX_ok 3000 Try.func3 rfl rfl (Nat.le_of_ble_eq_true rfl) ?_
  simp only [Try.f3, go_sem]
  refine ecall0 _ (great_ref l cs hl) (by simp only [go_sem]) (by simp only [go_sem]) ?_
  simp only [go_sem, Nat.reduceAdd, Nat.reduceSub, Nat.reduceLT, Nat.reduceLeDiff, Nat.reduceEqDiff, ↓reduceIte]
  cases h1 : great l cs
  · cases h2 : decide (100 < (a.size : Int))
    · cases h3 : decide (100 < (b.size : Int))
      · simp only [go_sem, h1, h2, h3, Option.some.injEq, forall_eq', and_true, true_and, Bool.not_true, Bool.not_false, decide_true, Nat.reduceAdd, Nat.reduceSub, Nat.reduceLT, Nat.reduceLeDiff, Nat.reduceEqDiff, ↓reduceIte]
        refine ecallN _ _ (View_own l cs a hl hc) (by simp only [go_sem]) ?_
        simp only [go_sem, Nat.reduceAdd, Nat.reduceSub, Nat.reduceLT, Nat.reduceLeDiff, Nat.reduceEqDiff, ↓reduceIte]
        refine ECall.frz 0 rfl ?_
        simp only [go_sem, Nat.reduceAdd, Nat.reduceSub, Nat.reduceLT, Nat.reduceLeDiff, Nat.reduceEqDiff, ↓reduceIte]
        refine ecall0 _ (View_ref l cs a hl hc) (by simp only [go_sem]) (by simp only [go_sem]) ?_
        simp only [go_sem, Nat.reduceAdd, Nat.reduceSub, Nat.reduceLT, Nat.reduceLeDiff, Nat.reduceEqDiff, ↓reduceIte]
        refine ecall0 _ (Stem_own l cs a b hl hc) (by simp only [go_sem]) (by simp only [go_sem]) ?_
        simp only [go_sem, Nat.reduceAdd, Nat.reduceSub, Nat.reduceLT, Nat.reduceLeDiff, Nat.reduceEqDiff, ↓reduceIte]
        refine ecall0 _ (Stem_ref l cs a b hl hc) (by simp only [go_sem]) (by simp only [go_sem]) ?_
        simp only [go_sem, Nat.reduceAdd, Nat.reduceSub, Nat.reduceLT, Nat.reduceLeDiff, Nat.reduceEqDiff, ↓reduceIte]
        refine ecall0 _ (check_own l hl) (by simp only [go_sem]) (by simp only [go_sem]) ?_
        simp only [go_sem, Nat.reduceAdd, Nat.reduceSub, Nat.reduceLT, Nat.reduceLeDiff, Nat.reduceEqDiff, ↓reduceIte]
        refine ecall0 _ (check_ref l hl) (by simp only [go_sem]) (by simp only [go_sem]) ?_
        simp only [go_sem, Nat.reduceAdd, Nat.reduceSub, Nat.reduceLT, Nat.reduceLeDiff, Nat.reduceEqDiff, ↓reduceIte]
        have e1 : (check l == check l) = true := by simp
        have e2 : (fits l cs == fits l cs) = true := by simp
        have e3 : decide ((viewR l cs a).1 = (viewR l cs a).1) = true := by simp
        have e4 : ((viewR l cs a).2 == (viewR l cs a).2) = true := by simp
        have e5 : ((stemR l cs a b).1 == (stemR l cs a b).1) = true := by simp
        have e6 : ((stemR l cs a b).2 == (stemR l cs a b).2) = true := by simp
        refine ecall0 _ (fits_own l cs hl hc) (by simp only [go_sem]) (by simp only [go_sem]) ?_
        simp only [go_sem, Nat.reduceAdd, Nat.reduceSub, Nat.reduceLT, Nat.reduceLeDiff, Nat.reduceEqDiff, ↓reduceIte]
        refine ecall0 _ (fits_ref l cs hl hc) (by simp only [go_sem]) (by simp only [go_sem]) ?_
        simp only [go_sem, Nat.reduceAdd, Nat.reduceSub, Nat.reduceLT, Nat.reduceLeDiff, Nat.reduceEqDiff, ↓reduceIte]
        refine ecall0 _ (sameMarks_ref (viewR l cs a).1 (viewR l cs a).1 (by have := viewR_len l cs a; unfold Sm; omega)) (by simp only [go_sem]) (by simp only [go_sem]) ?_
        simp only [go_sem, Nat.reduceAdd, Nat.reduceSub, Nat.reduceLT, Nat.reduceLeDiff, Nat.reduceEqDiff, ↓reduceIte]
        simp only [go_sem, e4, Option.some.injEq, forall_eq', and_true, true_and, Bool.not_true, Bool.not_false, decide_true, Nat.reduceAdd, Nat.reduceSub, Nat.reduceLT, Nat.reduceLeDiff, Nat.reduceEqDiff, ↓reduceIte]
        exact wk_bool rfl
      · simp only [go_sem, h1, h2, h3, Option.some.injEq, forall_eq', and_true, true_and, Bool.not_true, Bool.not_false, decide_true, Nat.reduceAdd, Nat.reduceSub, Nat.reduceLT, Nat.reduceLeDiff, Nat.reduceEqDiff, ↓reduceIte]
        exact Wk.refl _ _ _
    · simp only [go_sem, h1, h2, Option.some.injEq, forall_eq', and_true, true_and, Bool.not_true, Bool.not_false, decide_true, Nat.reduceAdd, Nat.reduceSub, Nat.reduceLT, Nat.reduceLeDiff, Nat.reduceEqDiff, ↓reduceIte]
      exact Wk.refl _ _ _
  · simp only [go_sem, h1, Option.some.injEq, forall_eq', and_true, true_and, Bool.not_true, Bool.not_false, decide_true, Nat.reduceAdd, Nat.reduceSub, Nat.reduceLT, Nat.reduceLeDiff, Nat.reduceEqDiff, ↓reduceIte]
    exact Wk.refl _ _ _
end Go.AX.Br

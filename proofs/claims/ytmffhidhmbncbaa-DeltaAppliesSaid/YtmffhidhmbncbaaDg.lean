/- Deltas: the law DeltaApplies returns true. -/
import Derived.Test.YtmffhidhmbncbaaDf
set_option maxHeartbeats 1000000
set_option linter.unusedVariables false
set_option linter.unusedSimpArgs false
set_option maxRecDepth 20000
namespace Go.AX.De
open Go.Proofs Go.RowKit Go.IntWalk
theorem applies_law (base : List Int) (l : List Part) (n : Int) (hb : Sm base.length) (hl : Sm l.length) : Spec Try.prog 3 [.d (.sl (base.map bI)), .d (.sl (l.map pD)), .d (.int .i64 n)] [] (.d (.bool true)) [] := by
  have hl' := hl
  have hb' := hb
  unfold Sm at hl hb
  refine spec_of_ev (fn := Try.f3) DX_ok 3000 Try.func3 rfl rfl (Nat.le_of_ble_eq_true rfl) ?_
  simp only [Try.f3, go_sem]
  refine gbs (fun h1 => ?_) (fun h1 => ?_)
  · simp only [go_sem, Nat.reduceAdd, Nat.reduceSub, Nat.reduceLT, Nat.reduceLeDiff, Nat.reduceEqDiff, ↓reduceIte]
    exact Wk.refl _ _ _
  simp only [go_sem, Nat.reduceAdd, Nat.reduceSub, Nat.reduceLT, Nat.reduceLeDiff, Nat.reduceEqDiff, ↓reduceIte]
  refine ecall0 _ (great_spec l hl') (by simp only [go_sem]) trivial ?_
  simp only [go_sem, Nat.reduceAdd, Nat.reduceSub, Nat.reduceLT, Nat.reduceLeDiff, Nat.reduceEqDiff, ↓reduceIte]
  refine cbs (fun h2 => ?_) (fun h2 => ?_)
  · simp only [go_sem, Nat.reduceAdd, Nat.reduceSub, Nat.reduceLT, Nat.reduceLeDiff, Nat.reduceEqDiff, ↓reduceIte]
    exact Wk.refl _ _ _
  simp only [go_sem, Nat.reduceAdd, Nat.reduceSub, Nat.reduceLT, Nat.reduceLeDiff, Nat.reduceEqDiff, ↓reduceIte]
  refine ⟨⟨by omega, by omega⟩, ?_⟩
  refine ECall.frz 1 rfl ?_
  simp only [go_sem, Nat.reduceAdd, Nat.reduceSub, Nat.reduceLT, Nat.reduceLeDiff, Nat.reduceEqDiff, ↓reduceIte]
  refine ecall0 _ (cost_own l hl') (by simp only [go_sem]) (by simp only [go_sem]) ?_
  simp only [go_sem, Nat.reduceAdd, Nat.reduceSub, Nat.reduceLT, Nat.reduceLeDiff, Nat.reduceEqDiff, ↓reduceIte]
  refine ecall0 _ (cost_ref l hl') (by simp only [go_sem]) (by simp only [go_sem]) ?_
  simp only [go_sem, Nat.reduceAdd, Nat.reduceSub, Nat.reduceLT, Nat.reduceLeDiff, Nat.reduceEqDiff, ↓reduceIte]
  refine ecallN _ _ (apply_own base l hb' hl') (by simp only [go_sem]) ?_
  simp only [go_sem, Nat.reduceAdd, Nat.reduceSub, Nat.reduceLT, Nat.reduceLeDiff, Nat.reduceEqDiff, ↓reduceIte]
  refine ecall0 _ (apply_ref base l hb' hl') (by simp only [go_sem]) (by simp only [go_sem]) ?_
  simp only [go_sem, Nat.reduceAdd, Nat.reduceSub, Nat.reduceLT, Nat.reduceLeDiff, Nat.reduceEqDiff, ↓reduceIte]
  generalize ho : applied base l = o
  have hol : o.1.length ≤ 2000 := by
    rw [← ho]; simp only [applied]
    split
    · simp
    · split
      · simp
      · split
        · simp
        · next q => simpa using q
  obtain ⟨bs, e⟩ := o
  simp only at hol
  refine eloop (S := Nat × List Int) (fun s => mkE 110 [(0, .d (.sl (base.map bI))), (1, .d (.sl (l.map pD))), (2, .d (.int .i64 n)), (7, .d (.sl (base.map bI))), (8, .d (.int .i64 (costs l).1)), (9, .d (.int .i64 (costs l).2)), (10, .d (.int .i64 (costs l).1)), (11, .d (.int .i64 (costs l).2)),
      (12, .own 0), (13, .d (.int .i64 e)), (14, .d (.sl (bs.map bI))), (15, .d (.int .i64 e)), (16, .d (.int .i64 s.1))]) (fun s => [.row 1 (s.2.map bI)]) (fun s => s.1 ≤ bs.length ∧ s.2.length = bs.length ∧ s.2.drop s.1 = bs.drop s.1) (fun s => bs.length - s.1) (0, bs) ?_ ?_ ?_
  · exact ⟨Nat.zero_le _, rfl, rfl⟩
  · skip
    simp only [go_sem, Nat.reduceAdd, Nat.reduceSub, Nat.reduceLT, Nat.reduceLeDiff, Nat.reduceEqDiff, ↓reduceIte]
    refine Wk.via1 2 ?_ ?_ ?_ ?_ ?_
    · simp only [go_sem, ↓reduceIte]; trivial
    · simp only [go_sem, Nat.reduceAdd, Nat.reduceSub, Nat.reduceLT, Nat.reduceLeDiff, Nat.reduceEqDiff, ↓reduceIte]
    · simp
    · simp only [go_sem]
    · trivial
  intro s hs
  have hi : s.1 ≤ bs.length := hs.1
  have hc : s.2.length = bs.length := hs.2.1
  have hd : s.2.drop s.1 = bs.drop s.1 := hs.2.2
  clear hs
  have hg : ∀ y : Int, bs[s.1]? = some y → s.2[s.1]? = some y := fun y hy => by
    have := congrArg (fun l => l[0]?) hd
    simpa [hy] using this
  simp only [go_sem, Nat.reduceAdd, Nat.reduceSub, Nat.reduceLT, Nat.reduceLeDiff, Nat.reduceEqDiff, ↓reduceIte]
  refine gbs (fun h3 => ?_) (fun h3 => ?_)
  · simp only [go_sem, Nat.reduceAdd, Nat.reduceSub, Nat.reduceLT, Nat.reduceLeDiff, Nat.reduceEqDiff, ↓reduceIte]
    simp only [decide_eq_true_eq] at h3
    have hlt : s.1 < s.2.length := by omega
    refine cbs (fun h4 => ?_) (fun h4 => ?_)
    · simp only [go_sem, Nat.reduceAdd, Nat.reduceSub, Nat.reduceLT, Nat.reduceLeDiff, Nat.reduceEqDiff, ↓reduceIte]
      refine DX.plain (.take 0 false (.take 1 false (.take 2 false (.take 3 false (.take 4 false (.take 5 false (.take 6 false (.take 7 false (.take 8 false .done))))))))) (by kernel_rfl) (by kernel_rfl) Ty.mixed ?_
      simp only [go_sem, Nat.reduceAdd, Nat.reduceSub, Nat.reduceLT, Nat.reduceLeDiff, Nat.reduceEqDiff, ↓reduceIte]
      refine ⟨by omega, hlt, hlt, fun x hx => ⟨by omega, by omega, fun y hy => ?_⟩⟩
      have hxy : x = y := by have := hg y hy; rw [hx] at this; simpa using this
      subst hxy
      rw [show (x != x) = false by simp]
      simp only [go_sem, Nat.reduceAdd, Nat.reduceSub, Nat.reduceLT, Nat.reduceLeDiff, Nat.reduceEqDiff, ↓reduceIte]
      refine ⟨⟨by omega, by omega⟩, hlt, fun x1 hx1 => ⟨⟨by omega, by omega⟩, hlt, fun x2 hx2 => ?_⟩⟩
      rw [i64_in _ (by omega)]
      refine .mk (s.1 + 1, s.2.set s.1 (IntKind.u8.wrap (BitVec.ofInt 8 x1 ^^^ BitVec.ofInt 8 255).toNat)) ?_ ?_ ?_
      · refine ⟨?_, by rw [List.length_set]; exact hc, ?_⟩
        · show s.1 + 1 ≤ bs.length
          omega
        · show (s.2.set s.1 _).drop (s.1 + 1) = bs.drop (s.1 + 1)
          rw [List.drop_set_of_lt (by omega), ← List.drop_drop, ← List.drop_drop, hd]
      · show bs.length - (s.1 + 1) < bs.length - s.1
        omega
      · simp only [go_sem, Nat.reduceAdd, Nat.reduceSub, Nat.reduceLT, Nat.reduceLeDiff, Nat.reduceEqDiff, ↓reduceIte]
        exact Wk.sub (by simp only [go_sem]; trivial)
    · exfalso; simp at h4; omega
  · simp only [go_sem, Nat.reduceAdd, Nat.reduceSub, Nat.reduceLT, Nat.reduceLeDiff, Nat.reduceEqDiff, ↓reduceIte]
    simp only [decide_eq_false_iff_not] at h3
    have hsb : Spec Try.prog 16 [.d (.sl (base.map bI)), .d (.sl (base.map bI))] [] (.d (.bool true)) [] := by
      have := sameBytes_spec base base hb'
      simpa using this
    rw [hc]
    refine ecall0 _ (check_own l n hl') (by simp only [go_sem]) (by simp only [go_sem]) ?_
    simp only [go_sem, Nat.reduceAdd, Nat.reduceSub, Nat.reduceLT, Nat.reduceLeDiff, Nat.reduceEqDiff, ↓reduceIte]
    refine ecall0 _ (check_ref l n hl') (by simp only [go_sem]) (by simp only [go_sem]) ?_
    simp only [go_sem, Nat.reduceAdd, Nat.reduceSub, Nat.reduceLT, Nat.reduceLeDiff, Nat.reduceEqDiff, ↓reduceIte]
    rw [hc]
    simp only [go_sem, Nat.reduceAdd, Nat.reduceSub, Nat.reduceLT, Nat.reduceLeDiff, Nat.reduceEqDiff, ↓reduceIte]
    refine ecall0 _ (hsb) (by simp only [go_sem]) (by simp only [go_sem]) ?_
    simp only [go_sem, Nat.reduceAdd, Nat.reduceSub, Nat.reduceLT, Nat.reduceLeDiff, Nat.reduceEqDiff, ↓reduceIte]
    exact Wk.dataZ (τ := [_]) rfl trivial
end Go.AX.De

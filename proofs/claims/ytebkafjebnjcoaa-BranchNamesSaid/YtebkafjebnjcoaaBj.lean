/- Branches: View and Stem, both sides. -/
import Derived.Test.YtebkafjebnjcoaaBi
set_option maxHeartbeats 1000000
set_option linter.unusedVariables false
set_option linter.unusedSimpArgs false
set_option maxRecDepth 20000
namespace Go.AX.Br
open Go.Proofs Go.RowKit Go.IntWalk
/-- a view, or an error -/
def viewR (l : List Br) (cs : List Int) (nm : ByteArray) : List Mk × Int :=
  if fits l cs ≠ 0 then ([], fits l cs) else if idx (has nm) l < 0 then ([], 6) else ((vw l cs).getD (idx (has nm) l).toNat [], 0)
/-- all that holds of a table and counts that fit -/
structure Good (l : List Br) (cs : List Int) : Prop where
  chk : check l = 0
  ok : Ok l
  len : cs.length = l.length
  cnt : ∀ c ∈ cs, 0 ≤ c ∧ c ≤ 40
  some' : vws l cs l.length = some (vw l cs)
  vlen : (vw l cs).length = l.length
  fit : Fit l cs (vw l cs)
theorem good_of {l : List Br} {cs : List Int} (h : fits l cs = 0) : Good l cs := by
  simp only [fits] at h
  split at h
  · next h1 => exact absurd h h1
  · next h1 =>
    split at h
    · omega
    · next h2 =>
      split at h
      · next h3 =>
        have h1' : check l = 0 := by omega
        have hs : vws l cs l.length = some (vw l cs) := by
          unfold Br.fit at h3
          cases q : vws l cs l.length with
          | none => rw [q] at h3; simp at h3
          | some V => simp [vw, q]
        have ho := ok_of h1'
        refine ⟨h1', ho, ?_, ?_, hs, vws_len hs, fit_of ho (Nat.le_refl _) hs⟩
        · by_cases q : cs.length = l.length
          · exact q
          · exact absurd (.inl q) h2
        · refine badC_all ?_
          cases q : cs.any badC
          · rfl
          · exact absurd (.inr q) h2
      · omega
theorem good_view {l : List Br} {cs : List Int} (g : Good l cs) {i : Nat} (hi : i < l.length) : ∃ v, (vw l cs)[i]? = some v := ⟨_, List.getElem?_eq_getElem (by rw [g.vlen]; exact hi)⟩
theorem View_own (l : List Br) (cs : List Int) (nm : ByteArray) (hl : Sm l.length) (hc : Sm cs.length) : Spec Try.prog 11 [.d (.sl (l.map bD)), .d (.sl (cs.map iD)), .d (.str nm)] [] (.tup [.own 0, .d (.int .i64 (viewR l cs nm).2)]) [.row 2 ((viewR l cs nm).1.map mkD)] := by
  refine spec_of_ev (fn := Try.f11) DX_ok 3000 Try.func11 rfl rfl (Nat.le_of_ble_eq_true rfl) ?_
  simp only [Try.f11, go_sem]
  refine ecall0 _ (fits_own l cs hl hc) (by simp only [go_sem]) (by simp only [go_sem]) ?_
  simp only [go_sem, Nat.reduceAdd, Nat.reduceSub, Nat.reduceLT, Nat.reduceLeDiff, Nat.reduceEqDiff, ↓reduceIte]
  refine cbs (fun h1 => ?_) (fun h1 => ?_)
  · simp only [go_sem, Nat.reduceAdd, Nat.reduceSub, Nat.reduceLT, Nat.reduceLeDiff, Nat.reduceEqDiff, ↓reduceIte]
    simp only [bne_iff_ne, ne_eq] at h1
    have e : viewR l cs nm = ([], fits l cs) := by simp only [viewR]; rw [if_pos h1]
    rw [e]
    exact wk_tup_nil 2 rfl
  simp only [go_sem, Nat.reduceAdd, Nat.reduceSub, Nat.reduceLT, Nat.reduceLeDiff, Nat.reduceEqDiff, ↓reduceIte]
  simp only [bne_eq_false_iff_eq] at h1
  have g := good_of h1
  refine ecall0 _ (index_own l nm hl) (by simp only [go_sem]) (by simp only [go_sem]) ?_
  simp only [go_sem, Nat.reduceAdd, Nat.reduceSub, Nat.reduceLT, Nat.reduceLeDiff, Nat.reduceEqDiff, ↓reduceIte]
  rcases Int.lt_or_le (idx (has nm) l) 0 with h2 | h2
  · have d1 := decide_eq_true h2
    simp only [go_sem, d1, Option.some.injEq, forall_eq', and_true, true_and, Bool.not_true, Bool.not_false, Nat.reduceAdd, Nat.reduceSub, Nat.reduceLT, Nat.reduceLeDiff, Nat.reduceEqDiff, ↓reduceIte]
    have e : viewR l cs nm = ([], 6) := by simp only [viewR]; rw [if_neg (by omega), if_pos h2]
    rw [e]
    exact wk_tup_nil 2 rfl
  · have d1 := decide_eq_false (Int.not_lt.2 h2)
    obtain ⟨i, x, k1, k2, k3⟩ := idx_get h2
    obtain ⟨v, hv⟩ := good_view g (some_lt k2)
    have e : viewR l cs nm = (v, 0) := by simp only [viewR]; rw [if_neg (by omega), if_neg (by omega), k1]; simp [List.getD_eq_getElem?_getD, hv]
    rw [e]
    simp only [go_sem, d1, k1, Option.some.injEq, forall_eq', and_true, true_and, Bool.not_true, Bool.not_false, Nat.reduceAdd, Nat.reduceSub, Nat.reduceLT, Nat.reduceLeDiff, Nat.reduceEqDiff, ↓reduceIte]
    refine ecallN _ _ (view_own l cs _ g.ok g.fit g.vlen g.len g.cnt i v hv) (by simp only [go_sem]) ?_
    simp only [go_sem, Nat.reduceAdd, Nat.reduceSub, Nat.reduceLT, Nat.reduceLeDiff, Nat.reduceEqDiff, ↓reduceIte]
    exact Wk.refl _ _ _
theorem View_ref (l : List Br) (cs : List Int) (nm : ByteArray) (hl : Sm l.length) (hc : Sm cs.length) : Spec Try.prog 12 [.d (.sl (l.map bD)), .d (.sl (cs.map iD)), .d (.str nm)] [] (.tup [.d (.sl ((viewR l cs nm).1.map mkD)), .d (.int .i64 (viewR l cs nm).2)]) [] := by
  refine spec_of_ev (fn := Try.f12) DX_ok 3000 Try.func12 rfl rfl (Nat.le_of_ble_eq_true rfl) ?_
  simp only [Try.f12, go_sem]
  refine ecall0 _ (fits_ref l cs hl hc) (by simp only [go_sem]) (by simp only [go_sem]) ?_
  simp only [go_sem, Nat.reduceAdd, Nat.reduceSub, Nat.reduceLT, Nat.reduceLeDiff, Nat.reduceEqDiff, ↓reduceIte]
  refine cbs (fun h1 => ?_) (fun h1 => ?_)
  · simp only [go_sem, Nat.reduceAdd, Nat.reduceSub, Nat.reduceLT, Nat.reduceLeDiff, Nat.reduceEqDiff, ↓reduceIte]
    refine ecall0 _ (fits_ref l cs hl hc) (by simp only [go_sem]) (by simp only [go_sem]) ?_
    simp only [go_sem, Nat.reduceAdd, Nat.reduceSub, Nat.reduceLT, Nat.reduceLeDiff, Nat.reduceEqDiff, ↓reduceIte]
    simp only [bne_iff_ne, ne_eq] at h1
    refine wk_dat (r' := .tup [.d (.sl []), .d (.int .i64 (fits l cs))]) (by simp only [go_sem]; rfl) ?_ (by simp only [go_sem])
    simp only [viewR]; rw [if_pos h1]; rfl
  simp only [go_sem, Nat.reduceAdd, Nat.reduceSub, Nat.reduceLT, Nat.reduceLeDiff, Nat.reduceEqDiff, ↓reduceIte]
  simp only [bne_eq_false_iff_eq] at h1
  have g := good_of h1
  refine ecall0 _ (index_ref l nm hl) (by simp only [go_sem]) (by simp only [go_sem]) ?_
  simp only [go_sem, Nat.reduceAdd, Nat.reduceSub, Nat.reduceLT, Nat.reduceLeDiff, Nat.reduceEqDiff, ↓reduceIte]
  rcases Int.lt_or_le (idx (has nm) l) 0 with h2 | h2
  · have d1 := decide_eq_true h2
    simp only [go_sem, d1, Option.some.injEq, forall_eq', and_true, true_and, Bool.not_true, Bool.not_false, Nat.reduceAdd, Nat.reduceSub, Nat.reduceLT, Nat.reduceLeDiff, Nat.reduceEqDiff, ↓reduceIte]
    refine wk_dat (r' := .tup [.d (.sl []), .d (.int .i64 6)]) (by simp only [go_sem]; rfl) ?_ (by simp only [go_sem])
    simp only [viewR]; rw [if_neg (by omega), if_pos h2]; rfl
  · have d1 := decide_eq_false (Int.not_lt.2 h2)
    obtain ⟨i, x, k1, k2, k3⟩ := idx_get h2
    obtain ⟨v, hv⟩ := good_view g (some_lt k2)
    have hil := some_lt k2
    have hvl := g.vlen
    have need : (0 ≤ (i : Int) ∧ (i : Int) < (vw l cs).length) = True := eq_true (by omega)
    have hlt : (i < (vw l cs).length) = True := eq_true (by omega)
    have e : viewR l cs nm = (v, 0) := by simp only [viewR]; rw [if_neg (by omega), if_neg (by omega), k1]; simp [List.getD_eq_getElem?_getD, hv]
    rw [e]
    simp only [go_sem, d1, k1, Option.some.injEq, forall_eq', and_true, true_and, Bool.not_true, Bool.not_false, Nat.reduceAdd, Nat.reduceSub, Nat.reduceLT, Nat.reduceLeDiff, Nat.reduceEqDiff, ↓reduceIte]
    refine ecall0 _ (views_ref l cs g.chk g.len g.cnt) (by simp only [go_sem]) (by simp only [go_sem]) ?_
    simp only [go_sem, Nat.reduceAdd, Nat.reduceSub, Nat.reduceLT, Nat.reduceLeDiff, Nat.reduceEqDiff, ↓reduceIte]
    simp only [go_sem, need, hlt, hv, Option.some.injEq, forall_eq', and_true, true_and, Bool.not_true, Bool.not_false, Nat.reduceAdd, Nat.reduceSub, Nat.reduceLT, Nat.reduceLeDiff, Nat.reduceEqDiff, ↓reduceIte]
    trace_state
    exact Wk.refl _ _ _
end Go.AX.Br

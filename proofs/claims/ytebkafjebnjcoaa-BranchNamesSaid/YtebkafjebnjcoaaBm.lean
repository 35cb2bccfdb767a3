/- Branches: the program's own Stem. -/
import Derived.Test.YtebkafjebnjcoaaBl
set_option maxHeartbeats 1000000
set_option linter.unusedVariables false
set_option linter.unusedSimpArgs false
set_option maxRecDepth 20000
namespace Go.AX.Br
open Go.Proofs Go.RowKit Go.IntWalk
theorem Stem_own (l : List Br) (cs : List Int) (a b : ByteArray) (hl : Sm l.length) (hc : Sm cs.length) : Spec Try.prog 13 [.d (.sl (l.map bD)), .d (.sl (cs.map iD)), .d (.str a), .d (.str b)] [] (.tup [.d (.int .i64 (stemR l cs a b).1), .d (.int .i64 (stemR l cs a b).2)]) [] := by
  refine spec_of_ev (fn := Try.f13) DX_ok 3000 Try.func13 rfl rfl (Nat.le_of_ble_eq_true rfl) ?_
  simp only [Try.f13, go_sem]
  refine ecall0 _ (fits_own l cs hl hc) (by simp only [go_sem]) (by simp only [go_sem]) ?_
  simp only [go_sem, Nat.reduceAdd, Nat.reduceSub, Nat.reduceLT, Nat.reduceLeDiff, Nat.reduceEqDiff, ↓reduceIte]
  refine cbs (fun h1 => ?_) (fun h1 => ?_)
  · simp only [go_sem, Nat.reduceAdd, Nat.reduceSub, Nat.reduceLT, Nat.reduceLeDiff, Nat.reduceEqDiff, ↓reduceIte]
    simp only [bne_iff_ne, ne_eq] at h1
    have e : stemR l cs a b = (0, fits l cs) := by simp only [stemR]; rw [if_pos h1]
    rw [e]
    exact Wk.refl _ _ _
  simp only [go_sem, Nat.reduceAdd, Nat.reduceSub, Nat.reduceLT, Nat.reduceLeDiff, Nat.reduceEqDiff, ↓reduceIte]
  simp only [bne_eq_false_iff_eq] at h1
  have g := good_of h1
  refine ecall0 _ (index_own l a hl) (by simp only [go_sem]) (by simp only [go_sem]) ?_
  simp only [go_sem, Nat.reduceAdd, Nat.reduceSub, Nat.reduceLT, Nat.reduceLeDiff, Nat.reduceEqDiff, ↓reduceIte]
  refine ecall0 _ (index_own l b hl) (by simp only [go_sem]) (by simp only [go_sem]) ?_
  simp only [go_sem, Nat.reduceAdd, Nat.reduceSub, Nat.reduceLT, Nat.reduceLeDiff, Nat.reduceEqDiff, ↓reduceIte]
  have bad : (idx (has a) l < 0 ∨ idx (has b) l < 0) → stemR l cs a b = (0, 6) := fun h => by simp only [stemR]; rw [if_neg (by omega), if_pos h]
  rcases Int.lt_or_le (idx (has a) l) 0 with h2 | h2
  · have d1 := decide_eq_true h2
    simp only [go_sem, d1, Option.some.injEq, forall_eq', and_true, true_and, Bool.not_true, Bool.not_false, Nat.reduceAdd, Nat.reduceSub, Nat.reduceLT, Nat.reduceLeDiff, Nat.reduceEqDiff, ↓reduceIte]
    rw [bad (.inl h2)]
    exact Wk.refl _ _ _
  have d1 := decide_eq_false (Int.not_lt.2 h2)
  rcases Int.lt_or_le (idx (has b) l) 0 with h3 | h3
  · have d2 := decide_eq_true h3
    simp only [go_sem, d1, d2, Option.some.injEq, forall_eq', and_true, true_and, Bool.not_true, Bool.not_false, Nat.reduceAdd, Nat.reduceSub, Nat.reduceLT, Nat.reduceLeDiff, Nat.reduceEqDiff, ↓reduceIte]
    rw [bad (.inr h3)]
    exact Wk.refl _ _ _
  have d2 := decide_eq_false (Int.not_lt.2 h3)
  obtain ⟨i, x, i1, i2, i3⟩ := idx_get h2
  obtain ⟨k, y, k1, k2, k3⟩ := idx_get h3
  have hil := some_lt i2
  have hkl := some_lt k2
  have hvl := g.vlen
  have hl8 := g.ok.len
  obtain ⟨v, hv⟩ := good_view g hil
  obtain ⟨w, hw⟩ := good_view g hkl
  have e : stemR l cs a b = ((lcp v w : Int), 0) := by
    simp only [stemR]; rw [if_neg (by omega), if_neg (by omega), i1, k1]; simp [List.getD_eq_getElem?_getD, hv, hw]
  rw [e]
  obtain ⟨ci, hci⟩ : ∃ c, cs[i]? = some c := ⟨cs[i]'(by have := g.len; omega), List.getElem?_eq_getElem _⟩
  obtain ⟨ck, hck⟩ : ∃ c, cs[k]? = some c := ⟨cs[k]'(by have := g.len; omega), List.getElem?_eq_getElem _⟩
  have hvlen := fit_len g.ok g.fit i2 hci hv
  have hwlen := fit_len g.ok g.fit k2 hck hw
  have hgi := g.ok.good _ _ i2
  have hgk := g.ok.good _ _ k2
  have hgc := g.cnt ci (List.mem_of_getElem? hci)
  have hgd := g.cnt ck (List.mem_of_getElem? hck)
  simp only [go_sem, d1, d2, Option.some.injEq, forall_eq', and_true, true_and, Bool.not_true, Bool.not_false, Nat.reduceAdd, Nat.reduceSub, Nat.reduceLT, Nat.reduceLeDiff, Nat.reduceEqDiff, ↓reduceIte]
  simp only [i1, k1]
  refine ecallN _ _ (view_own l cs _ g.ok g.fit g.vlen g.len g.cnt i v hv) (by simp only [go_sem]) ?_
  simp only [go_sem, Nat.reduceAdd, Nat.reduceSub, Nat.reduceLT, Nat.reduceLeDiff, Nat.reduceEqDiff, ↓reduceIte]
  refine eloop (S := Nat) (fun j => mkE 66 [(0, .d (.sl (l.map bD))), (1, .d (.sl (cs.map iD))), (12, .d (.int .i64 k)), (13, .mp 0), (41, .own 1), (42, .d (.int .i64 v.length)), (43, .d (.int .i64 j))]) (fun j => [.map true false (mD mkD boD (mkM (v.take j))), .row 2 (v.map mkD)]) (fun j => j ≤ v.length) (fun j => v.length - j) 0 (Nat.zero_le _) ?_ ?_
  · exact Wk.sub (by simp only [go_sem]; trivial)
  intro j hj
  have nd : ∀ (z : Mk) (m : List (Mk × Bool)), (∃ ks, KeyT Try.prog 45 true ks ∧ kindOk true ks [D.int .i64 z.b, D.int .i64 z.e] ∧ ∀ y ∈ mD mkD boD m, kindOk true ks y.1) = True := fun z m => mneed (kD := mkD) (vD := boD) Ty.keyT_45 mkD_kind z m
  have up : ∀ (z : Mk) (m : List (Mk × Bool)), upM [D.int .i64 z.b, D.int .i64 z.e] [.bool true] (mD mkD boD m) = mD mkD boD (mput z true m) := fun z m => upM_mD (kD := mkD) (vD := boD) mkD_eq z true m
  have lo : ∀ (z : Mk) (m : List (Mk × Bool)), lkM [D.int .i64 z.b, D.int .i64 z.e] (mD mkD boD m) = (look z m).map boD := fun z m => lkM_mD (kD := mkD) (vD := boD) mkD_eq z m
  rcases Nat.lt_or_ge j v.length with h4 | h4
  · have d3 : decide ((j : Int) < v.length) = true := by simp; omega
    obtain ⟨z, hz⟩ : ∃ x, v[j]? = some x := ⟨v[j]'(by omega), List.getElem?_eq_getElem _⟩
    have n5 : (0 ≤ (j : Int) ∧ (j : Int) < v.length) = True := eq_true (by omega)
    have n6 : (j < v.length) = True := eq_true (by omega)
    simp only [go_sem, d3, n5, n6, hz, nd, up, Option.some.injEq, forall_eq', and_true, true_and, Bool.not_true, Bool.not_false, Nat.reduceAdd, Nat.reduceSub, Nat.reduceLT, Nat.reduceLeDiff, Nat.reduceEqDiff, ↓reduceIte]
    rw [i64_in _ (by omega), ← mkM_succ hz]
    exact .mk (j + 1) h4 (by omega) (Wk.via [0, 1] (by (simp only [go_sem, ↓reduceIte]) <;> trivial) (by simp only [go_sem, Nat.reduceAdd, Nat.reduceSub, Nat.reduceLT, Nat.reduceLeDiff, Nat.reduceEqDiff, ↓reduceIte]) (by simp) (by simp) (by (simp only [go_sem, Nat.reduceAdd, Nat.reduceSub, Nat.reduceLT, Nat.reduceLeDiff, Nat.reduceEqDiff, ↓reduceIte]) <;> trivial) (by simp only [go_sem]) (Nat.zero_le _) (fun i h => absurd h (Nat.not_lt_zero i)))
  · have d3 : decide ((j : Int) < v.length) = false := by simp; omega
    rw [List.take_of_length_le h4]
    simp only [go_sem, d3, Option.some.injEq, forall_eq', and_true, true_and, Bool.not_true, Bool.not_false, Nat.reduceAdd, Nat.reduceSub, Nat.reduceLT, Nat.reduceLeDiff, Nat.reduceEqDiff, ↓reduceIte]
    refine ecallN _ _ (view_own l cs _ g.ok g.fit g.vlen g.len g.cnt k w hw) (by simp only [go_sem]) ?_
    simp only [go_sem, Nat.reduceAdd, Nat.reduceSub, Nat.reduceLT, Nat.reduceLeDiff, Nat.reduceEqDiff, ↓reduceIte]
    refine eloop (S := Nat × Nat) (fun s => mkE 66 [(13, .mp 0), (16, .d (.int .i64 s.2)), (53, .own 1), (54, .d (.int .i64 w.length)), (55, .d (.int .i64 s.1))]) (fun s => [.map true false (mD mkD boD (mkM v)), .row 2 (w.map mkD)]) (fun s => s.1 ≤ w.length ∧ s.2 = (w.take s.1).countP fun m => decide (m ∈ v)) (fun s => w.length - s.1) (0, 0) ⟨Nat.zero_le _, rfl⟩ ?_ ?_
    · exact (Wk.via [0, 2] (by (simp only [go_sem, ↓reduceIte]) <;> trivial) (by simp only [go_sem, Nat.reduceAdd, Nat.reduceSub, Nat.reduceLT, Nat.reduceLeDiff, Nat.reduceEqDiff, ↓reduceIte]) (by simp) (by simp) (by (simp only [go_sem, Nat.reduceAdd, Nat.reduceSub, Nat.reduceLT, Nat.reduceLeDiff, Nat.reduceEqDiff, ↓reduceIte]) <;> trivial) (by simp only [go_sem]) (Nat.zero_le _) (fun i h => absurd h (Nat.not_lt_zero i)))
    intro s hs
    obtain ⟨q, n⟩ := s
    have hq : q ≤ w.length := hs.1
    have hn : n = (w.take q).countP fun m => decide (m ∈ v) := hs.2
    clear hs
    have hcl : n ≤ q := by rw [hn]; exact Nat.le_trans List.countP_le_length (by rw [List.length_take]; omega)
    rcases Nat.lt_or_ge q w.length with h5 | h5
    · have d4 : decide ((q : Int) < w.length) = true := by simp; omega
      obtain ⟨z, hz⟩ : ∃ x, w[q]? = some x := ⟨w[q]'(by omega), List.getElem?_eq_getElem _⟩
      have n5 : (0 ≤ (q : Int) ∧ (q : Int) < w.length) = True := eq_true (by omega)
      have n6 : (q < w.length) = True := eq_true (by omega)
      have nx : (w.take (q + 1)).countP (fun m => decide (m ∈ v)) = n + if decide (z ∈ v) = true then 1 else 0 := by
        rw [List.take_add_one, hz, List.countP_append, hn]; simp [List.countP_cons]
      have w1 : IntKind.i64.wrap ((n : Int) + 1) = n + 1 := i64_in _ (by clear nx hn hv hw e; omega)
      have w2 : IntKind.i64.wrap ((q : Int) + 1) = q + 1 := i64_in _ (by omega)
      by_cases hin : z ∈ v
      · have lz : look z (mkM v) = some true := by rw [mkM_in, if_pos hin]
        rw [if_pos (by simpa using hin)] at nx
        simp only [go_sem, d4, n5, n6, hz, nd, lo, lz, w1, w2, Option.some.injEq, forall_eq', and_true, true_and, Bool.not_true, Bool.not_false, Nat.reduceAdd, Nat.reduceSub, Nat.reduceLT, Nat.reduceLeDiff, Nat.reduceEqDiff, ↓reduceIte]
        exact .mk (q + 1, n + 1) ⟨h5, nx.symm⟩ (by simp only; omega) (Wk.via [0, 1] (by (simp only [go_sem, ↓reduceIte]) <;> trivial) (by simp only [go_sem, Nat.reduceAdd, Nat.reduceSub, Nat.reduceLT, Nat.reduceLeDiff, Nat.reduceEqDiff, ↓reduceIte]) (by simp) (by simp) (by (simp only [go_sem, Nat.reduceAdd, Nat.reduceSub, Nat.reduceLT, Nat.reduceLeDiff, Nat.reduceEqDiff, ↓reduceIte]) <;> trivial) (by simp only [go_sem]) (Nat.zero_le _) (fun i h => absurd h (Nat.not_lt_zero i)))
      · have lz : look z (mkM v) = none := by rw [mkM_in, if_neg hin]
        rw [if_neg (by simpa using hin)] at nx
        simp only [go_sem, d4, n5, n6, hz, nd, lo, lz, w2, Option.some.injEq, forall_eq', and_true, true_and, Bool.not_true, Bool.not_false, Nat.reduceAdd, Nat.reduceSub, Nat.reduceLT, Nat.reduceLeDiff, Nat.reduceEqDiff, ↓reduceIte]
        exact .mk (q + 1, n) ⟨h5, nx.symm⟩ (by simp only; omega) (Wk.via [0, 1] (by (simp only [go_sem, ↓reduceIte]) <;> trivial) (by simp only [go_sem, Nat.reduceAdd, Nat.reduceSub, Nat.reduceLT, Nat.reduceLeDiff, Nat.reduceEqDiff, ↓reduceIte]) (by simp) (by simp) (by (simp only [go_sem, Nat.reduceAdd, Nat.reduceSub, Nat.reduceLT, Nat.reduceLeDiff, Nat.reduceEqDiff, ↓reduceIte]) <;> trivial) (by simp only [go_sem]) (Nat.zero_le _) (fun i h => absurd h (Nat.not_lt_zero i)))
    · have d4 : decide ((q : Int) < w.length) = false := by simp; omega
      rw [List.take_of_length_le h5, count_stem g hv hw] at hn
      subst hn
      simp only [go_sem, d4, Option.some.injEq, forall_eq', and_true, true_and, Bool.not_true, Bool.not_false, Nat.reduceAdd, Nat.reduceSub, Nat.reduceLT, Nat.reduceLeDiff, Nat.reduceEqDiff, ↓reduceIte]
      exact (Wk.forget (by (simp only [go_sem]) <;> trivial) (by simp only [go_sem]))
end Go.AX.Br

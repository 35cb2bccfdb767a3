/- Branches: the reference's views. -/
import Derived.Test.YtebkafjebnjcoaaBf
set_option maxHeartbeats 1000000
set_option linter.unusedVariables false
set_option linter.unusedSimpArgs false
set_option maxRecDepth 20000
namespace Go.AX.Br
open Go.Proofs Go.RowKit Go.IntWalk
theorem own_take {i : Nat} {c : Int} {k : Nat} (hk : k < c.toNat) : (own i c).take (k + 1) = (own i c).take k ++ [⟨i, k⟩] := by
  have : (own i c)[k]? = some ⟨i, k⟩ := by simp [own, hk]
  rw [List.take_add_one, this]; rfl
theorem own_full {i : Nat} {c : Int} : (own i c).take c.toNat = own i c := List.take_of_length_le (by rw [own_len]; exact Nat.le_refl _)
def vE (l : List Br) (cs : List Int) (V : List (List Mk)) (i : Nat) (c : Int) (pre : List Mk) : Option Nat → List AV
  | some k => mkE 65 [(0, .d (.sl (l.map bD))), (1, .d (.sl (cs.map iD))), (6, .own 0), (7, .d (.int .i64 i)), (8, .own 1), (10, .d (.int .i64 k))]
  | none => mkE 65 [(0, .d (.sl (l.map bD))), (1, .d (.sl (cs.map iD))), (6, .own 0), (7, .d (.int .i64 i)), (8, .d (.sl ((pre ++ own i c).map mkD))), (10, .d (.int .i64 c))]
def vH (V : List (List Mk)) (i : Nat) (c : Int) (pre : List Mk) : Option Nat → List AObj
  | some k => [.row 1 (V.map vD), .row 2 ((pre ++ (own i c).take k).map mkD)]
  | none => [.row 1 (V.map vD)]
def vO (c : Int) : Option Nat → Prop
  | some k => k < c.toNat
  | none => True
def vM (c : Int) : Option Nat → Nat
  | some k => c.toNat - k
  | none => 0
theorem views_done (l : List Br) (cs : List Int) (V : List (List Mk)) (i : Nat) (c : Int) (k : Int) (hk : k = c) (v : List Mk) : Wk 0 (mkE 65 [(0, .d (.sl (l.map bD))), (1, .d (.sl (cs.map iD))), (6, .own 0), (7, .d (.int .i64 i)), (8, .own 1), (10, .d (.int .i64 k))]) [.row 1 (V.map vD), .row 2 (v.map mkD)]
    (mkE 65 [(0, .d (.sl (l.map bD))), (1, .d (.sl (cs.map iD))), (6, .own 0), (7, .d (.int .i64 i)), (8, .d (.sl (v.map mkD))), (10, .d (.int .i64 c))]) [.row 1 (V.map vD)] := by
  subst hk
  refine Wk.trans (Wk.frz 1 rfl) ?_
  have nb : sbs 1 (.sl (v.map mkD)) (mkE 65 [(0, .d (.sl (l.map bD))), (1, .d (.sl (cs.map iD))), (6, .own 0), (7, .d (.int .i64 i)), (8, .own 1), (10, .d (.int .i64 k))]) = mkE 65 [(0, .d (.sl (l.map bD))), (1, .d (.sl (cs.map iD))), (6, .own 0), (7, .d (.int .i64 i)), (8, .d (.sl (v.map mkD))), (10, .d (.int .i64 k))] := rfl
  rw [nb]
  simp only [go_sem]
  exact (Wk.via [0] (by (simp only [go_sem, ↓reduceIte]) <;> trivial) (by simp only [go_sem, Nat.reduceAdd, Nat.reduceSub, Nat.reduceLT, Nat.reduceLeDiff, Nat.reduceEqDiff, ↓reduceIte]) (by simp) (by simp) (by (simp only [go_sem, Nat.reduceAdd, Nat.reduceSub, Nat.reduceLT, Nat.reduceLeDiff, Nat.reduceEqDiff, ↓reduceIte]) <;> trivial) (by simp only [go_sem]) (Nat.zero_le _) (fun i h => absurd h (Nat.not_lt_zero i)))
/-- after k marks -/
theorem views_at (l : List Br) (cs : List Int) (V : List (List Mk)) (i : Nat) (c : Int) (pre : List Mk) (k : Nat) (hk : k ≤ c.toNat) (h0 : 0 ≤ c) : Wk 0 (mkE 65 [(0, .d (.sl (l.map bD))), (1, .d (.sl (cs.map iD))), (6, .own 0), (7, .d (.int .i64 i)), (8, .own 1), (10, .d (.int .i64 k))]) [.row 1 (V.map vD), .row 2 ((pre ++ (own i c).take k).map mkD)]
    (vE l cs V i c pre (if k < c.toNat then some k else none)) (vH V i c pre (if k < c.toNat then some k else none)) := by
  split
  · exact Wk.refl _ _ _
  · have : k = c.toNat := by omega
    subst this
    rw [own_full]
    exact views_done l cs V i c _ (by omega) _
theorem views_ref (l : List Br) (cs : List Int) (hl : check l = 0) (hc : cs.length = l.length) (hb : ∀ c ∈ cs, 0 ≤ c ∧ c ≤ 40) : Spec Try.prog 33 [.d (.sl (l.map bD)), .d (.sl (cs.map iD))] [] (.tup [.d (.sl ((vw l cs).map vD)), .d (.bool (fit l cs))]) [] := by
  have ho := ok_of hl
  have hl8 := ho.len
  refine spec_of_ev (fn := Try.f33) DX_ok 3000 Try.func33 rfl rfl (Nat.le_of_ble_eq_true rfl) ?_
  simp only [Try.f33, go_sem]
  refine eloop (S := Nat × List (List Mk)) (fun s => mkE 65 [(0, .d (.sl (l.map bD))), (1, .d (.sl (cs.map iD))), (6, .own 0), (7, .d (.int .i64 s.1))])
    (fun s => [.row 1 (s.2.map vD)]) (fun s => s.1 ≤ l.length ∧ vws l cs s.1 = some s.2) (fun s => l.length - s.1) (0, []) ⟨by omega, rfl⟩ ?_ ?_
  · refine Wk.trans (Wk.nil 6 1 (by simp only [go_sem])) ?_
    simp only [go_sem, Nat.reduceAdd, Nat.reduceSub, Nat.reduceLT, Nat.reduceLeDiff, Nat.reduceEqDiff, ↓reduceIte]
    exact Wk.sub (by simp only [go_sem]; trivial)
  intro s hs
  have hi : s.1 ≤ l.length := hs.1
  have hV := hs.2
  clear hs
  have hVl := vws_len hV
  have hF := fit_of ho hi hV
  have eV : s.1 = s.2.length := hVl.symm
  simp only [go_sem, Nat.reduceAdd, Nat.reduceSub, Nat.reduceLT, Nat.reduceLeDiff, Nat.reduceEqDiff, ↓reduceIte]
  refine cbs (fun h2 => ?_) (fun h2 => ?_)
  · simp only [decide_eq_true_eq] at h2
    obtain ⟨x, hx⟩ : ∃ x, l[s.1]? = some x := ⟨l[s.1]'(by omega), List.getElem?_eq_getElem _⟩
    obtain ⟨c, hx2⟩ : ∃ c, cs[s.1]? = some c := ⟨cs[s.1]'(by omega), List.getElem?_eq_getElem _⟩
    have need : (0 ≤ (s.1 : Int) ∧ (s.1 : Int) < l.length) = True := eq_true (by omega)
    have need2 : (0 ≤ (s.1 : Int) ∧ (s.1 : Int) < cs.length) = True := eq_true (by omega)
    have hlt : (s.1 < cs.length) = True := eq_true (by omega)
    have hlt2 : (s.1 < l.length) = True := eq_true (by omega)
    have hub := hb c (List.mem_of_getElem? hx2)
    have hux := (ho.good _ x hx).2
    have ini := fun pre : List Mk => views_at l cs s.2 s.1 c pre 0 (by omega) (by omega)
    simp only [List.take_zero, List.append_nil] at ini
    have ok0 : vO c (if 0 < c.toNat then some 0 else none) := by
      by_cases q : 0 < c.toNat
      · rw [if_pos q]; exact q
      · rw [if_neg q]; trivial
    rcases Nat.eq_zero_or_pos s.1 with h0 | h0
    case' inl =>
      have g0 : decide (0 < (s.1 : Int)) = false := by simp [h0]
      have hv1 : vws l cs (s.1 + 1) = some (s.2 ++ [own s.2.length c]) := by rw [vws_succ hV]; exact vstep_zero (by omega) (by rw [← eV]; exact hx) (by rw [← eV]; exact hx2)
      obtain ⟨pre, hpre⟩ : ∃ pre : List Mk, pre = [] := ⟨_, rfl⟩
      have hpl : pre.length ≤ 320 := by rw [hpre]; simp
      have hv2 : vws l cs (s.1 + 1) = some (s.2 ++ [pre ++ own s.1 c]) := by rw [hv1, hpre, ← eV]; rfl
      simp only [go_sem, g0, Option.some.injEq, forall_eq', and_true, true_and, Bool.not_true, Bool.not_false, Nat.reduceAdd, Nat.reduceSub, Nat.reduceLT, Nat.reduceLeDiff, Nat.reduceEqDiff, ↓reduceIte]
      refine eloop (S := Option Nat) (vE l cs s.2 s.1 c pre) (vH s.2 s.1 c pre) (vO c) (vM c) (if 0 < c.toNat then some 0 else none) ok0 ?_ ?_
      · refine Wk.trans (Wk.nil 8 2 (by simp only [go_sem])) (Wk.trans ?_ (ini pre))
        rw [hpre]
        simp only [go_sem, Nat.reduceAdd, Nat.reduceSub, Nat.reduceLT, Nat.reduceLeDiff, Nat.reduceEqDiff, ↓reduceIte]
        exact Wk.sub (by simp only [go_sem]; trivial)
    case' inr =>
      have g0 : decide (0 < (s.1 : Int)) = true := by simp; omega
      obtain ⟨j, hj1, hj2⟩ := ho.from' _ x hx h0
      obtain ⟨f, hf⟩ : ∃ f, s.2[j]? = some f := ⟨s.2[j]'(by omega), List.getElem?_eq_getElem _⟩
      obtain ⟨cj, hcj⟩ : ∃ c, cs[j]? = some c := ⟨cs[j]'(by omega), List.getElem?_eq_getElem _⟩
      obtain ⟨bj, hbj⟩ : ∃ b, l[j]? = some b := ⟨l[j]'(by omega), List.getElem?_eq_getElem _⟩
      have hfl := fit_len ho hF hbj hcj hf
      have hbb := (ho.good _ bj hbj).2
      have hcb := hb cj (List.mem_of_getElem? hcj)
      have hv1 := vws_succ hV
      rw [vstep_pos (by omega) (by rw [← eV]; exact hx) (by rw [← eV]; exact hx2) hj2 hf] at hv1
      have need3 : (0 ≤ (j : Int) ∧ (j : Int) < s.2.length) = True := eq_true (by omega)
      have need4 : (j < s.2.length) = True := eq_true (by omega)
      simp only [go_sem, g0, need, hx, Option.some.injEq, forall_eq', and_true, true_and, Bool.not_true, Bool.not_false, Nat.reduceAdd, Nat.reduceSub, Nat.reduceLT, Nat.reduceLeDiff, Nat.reduceEqDiff, ↓reduceIte]
      refine ecall0 _ (index_ref l x.frm (by unfold Sm; omega)) (by simp only [go_sem]) (by simp only [go_sem]) ?_
      simp only [go_sem, Nat.reduceAdd, Nat.reduceSub, Nat.reduceLT, Nat.reduceLeDiff, Nat.reduceEqDiff, ↓reduceIte]
      rcases Int.lt_or_le f.length x.at' with hA | hA
      · have d1 := decide_eq_true hA
        rw [if_pos (by omega)] at hv1
        simp only [go_sem, hj2, need3, need4, hf, need, hx, d1, Option.some.injEq, forall_eq', and_true, true_and, Bool.not_true, Bool.not_false, Nat.reduceAdd, Nat.reduceSub, Nat.reduceLT, Nat.reduceLeDiff, Nat.reduceEqDiff, ↓reduceIte]
        refine wk_dat (r' := .tup [.d (.sl []), .d (.bool false)]) (by simp only [go_sem]; rfl) ?_ (by simp only [go_sem])
        have := vws_none hv1 l.length (by omega)
        simp [fit, vw, this]
      have d1 := decide_eq_false (Int.not_lt.2 hA)
      rw [if_neg (by omega)] at hv1
      obtain ⟨pre, hpre⟩ : ∃ pre : List Mk, pre = f.take x.at'.toNat := ⟨_, rfl⟩
      have hpl : pre.length ≤ 320 := by rw [hpre, List.length_take]; omega
      have hv2 : vws l cs (s.1 + 1) = some (s.2 ++ [pre ++ own s.1 c]) := by rw [hv1, hpre, ← eV]
      simp only [go_sem, hj2, need3, need4, hf, need, hx, d1, Option.some.injEq, forall_eq', and_true, true_and, Bool.not_true, Bool.not_false, Nat.reduceAdd, Nat.reduceSub, Nat.reduceLT, Nat.reduceLeDiff, Nat.reduceEqDiff, ↓reduceIte]
      rw [← hpre]
      refine ⟨by omega, by omega, ?_⟩
      refine eloop (S := Option Nat) (vE l cs s.2 s.1 c pre) (vH s.2 s.1 c pre) (vO c) (vM c) (if 0 < c.toNat then some 0 else none) ok0 ?_ ?_
      · refine Wk.trans ?_ (ini pre)
        exact Wk.sub (by simp only [go_sem]; trivial)
    all_goals
      intro o ho'
      cases o with
      | some k =>
        simp only [vO] at ho'
        have d2 : decide ((k : Int) < c) = true := by simp; omega
        have hln : (pre ++ (own s.1 c).take k).length ≤ 360 := by rw [List.length_append, List.length_take, own_len]; omega
        simp only [vE, vH]
        simp only [go_sem, need2, hlt, hx2, d2, Option.some.injEq, forall_eq', and_true, true_and, Bool.not_true, Bool.not_false, Nat.reduceAdd, Nat.reduceSub, Nat.reduceLT, Nat.reduceLeDiff, Nat.reduceEqDiff, ↓reduceIte]
        refine ⟨by omega, ⟨by simp, by omega, by omega⟩, ?_⟩
        rw [i64_in _ (by omega)]
        have e : (pre ++ (own s.1 c).take k).map mkD ++ [[D.int .i64 s.1, D.int .i64 k]] = (pre ++ (own s.1 c).take (k + 1)).map mkD := by rw [own_take ho']; simp [mkD]
        rw [e]
        refine .mk (if k + 1 < c.toNat then some (k + 1) else none) ?_ ?_ (Wk.trans ?_ (views_at l cs s.2 s.1 c pre (k + 1) (by omega) (by omega)))
        · by_cases q : k + 1 < c.toNat
          · rw [if_pos q]; exact q
          · rw [if_neg q]; trivial
        · by_cases q : k + 1 < c.toNat
          · rw [if_pos q]; simp only [vM]; omega
          · rw [if_neg q]; simp only [vM]; omega
        · exact (Wk.via [0, 3] (by (simp only [go_sem, ↓reduceIte]) <;> trivial) (by simp only [go_sem, Nat.reduceAdd, Nat.reduceSub, Nat.reduceLT, Nat.reduceLeDiff, Nat.reduceEqDiff, ↓reduceIte]) (by simp) (by simp) (by (simp only [go_sem, Nat.reduceAdd, Nat.reduceSub, Nat.reduceLT, Nat.reduceLeDiff, Nat.reduceEqDiff, ↓reduceIte]) <;> trivial) (by simp only [go_sem]) (Nat.zero_le _) (fun i h => absurd h (Nat.not_lt_zero i)))
      | none =>
        have d2 : decide (c < c) = false := by simp
        simp only [vE, vH]
        simp only [go_sem, need2, hlt, hx2, d2, Option.some.injEq, forall_eq', and_true, true_and, Bool.not_true, Bool.not_false, Nat.reduceAdd, Nat.reduceSub, Nat.reduceLT, Nat.reduceLeDiff, Nat.reduceEqDiff, ↓reduceIte]
        refine ⟨⟨by simp, by omega, by omega⟩, ?_⟩
        rw [i64_in _ (by omega)]
        have e : s.2.map vD ++ [[D.sl ((pre ++ own s.1 c).map mkD)]] = (s.2 ++ [pre ++ own s.1 c]).map vD := by simp [vD]
        rw [e]
        exact .mk (s.1 + 1, s.2 ++ [pre ++ own s.1 c]) ⟨by simp only; omega, hv2⟩ (by simp only; omega) (Wk.via [2] (by (simp only [go_sem, ↓reduceIte]) <;> trivial) (by simp only [go_sem, Nat.reduceAdd, Nat.reduceSub, Nat.reduceLT, Nat.reduceLeDiff, Nat.reduceEqDiff, ↓reduceIte]) (by simp) (by simp) (by (simp only [go_sem, Nat.reduceAdd, Nat.reduceSub, Nat.reduceLT, Nat.reduceLeDiff, Nat.reduceEqDiff, ↓reduceIte]) <;> trivial) (by simp only [go_sem]) (Nat.zero_le _) (fun i h => absurd h (Nat.not_lt_zero i)))
  · simp only [decide_eq_false_iff_not] at h2
    simp only [go_sem, Nat.reduceAdd, Nat.reduceSub, Nat.reduceLT, Nat.reduceLeDiff, Nat.reduceEqDiff, ↓reduceIte]
    have e : s.1 = l.length := by omega
    rw [e] at hV
    refine wk_dat (r' := .tup [.d (.sl (s.2.map vD)), .d (.bool true)]) (by simp only [go_sem]; rfl) (by simp [fit, vw, hV]) (by simp only [go_sem])
end Go.AX.Br

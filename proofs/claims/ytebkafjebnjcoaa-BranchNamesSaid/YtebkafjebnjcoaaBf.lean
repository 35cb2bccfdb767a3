/- Branches: where marks begin; whether counts fit. -/
import Derived.Test.YtebkafjebnjcoaaBe
set_option maxHeartbeats 1000000
set_option linter.unusedVariables false
set_option linter.unusedSimpArgs false
set_option maxRecDepth 20000
namespace Go.AX.Br
open Go.Proofs Go.RowKit Go.IntWalk
def great (l : List Br) (cs : List Int) : Bool := l.any (fun b => decide (100 < b.name.size) || decide (100 < b.frm.size)) || (decide (20 < l.length) || decide (20 < cs.length))
attribute [go_sem] mkD mkA vD
theorem mkD_len {l : List Mk} : (∀ e ∈ l.map mkD, e.length = 2) = True := eq_true (map_len (g := mkD) fun _ => rfl)
theorem iD_len {l : List Int} : (∀ e ∈ l.map iD, e.length = 1) = True := eq_true (map_len (g := iD) fun _ => rfl)
theorem vD_len {l : List (List Mk)} : (∀ e ∈ l.map vD, e.length = 1) = True := eq_true (map_len (g := vD) fun _ => rfl)
attribute [go_sem] mkD_len iD_len vD_len
theorem great_ref (l : List Br) (cs : List Int) (hl : Sm l.length) : Spec Try.prog 10 [.d (.sl (l.map bD)), .d (.sl (cs.map iD))] [] (.d (.bool (great l cs))) [] := by
  unfold Sm at hl
  refine spec_of_ev (fn := Try.f10) DX_ok 3000 Try.func10 rfl rfl (Nat.le_of_ble_eq_true rfl) ?_
  simp only [Try.f10, go_sem]
  refine eloop (S := Nat) (fun i => mkE 36 [(0, .d (.sl (l.map bD))), (1, .d (.sl (cs.map iD))), (5, .d (.int .i64 i))]) (fun i => []) (fun i => i ≤ l.length ∧ ∀ j x, l[j]? = some x → j < i → (decide (100 < x.name.size) || decide (100 < x.frm.size)) = false) (fun i => l.length - i) 0 ⟨by omega, by omega⟩ (Wk.sub (by simp only [go_sem]; trivial)) ?_
  rintro i ⟨hi, hj⟩
  simp only [go_sem, Nat.reduceAdd, Nat.reduceSub, Nat.reduceLT, Nat.reduceLeDiff, Nat.reduceEqDiff, ↓reduceIte]
  refine cbs (fun h2 => ?_) (fun h2 => ?_)
  · simp only [decide_eq_true_eq] at h2
    obtain ⟨x, hx⟩ : ∃ x, l[i]? = some x := ⟨l[i]'(by omega), List.getElem?_eq_getElem _⟩
    have need : (0 ≤ (i : Int) ∧ (i : Int) < l.length) = True := eq_true (by omega)
    have yes : (decide (100 < x.name.size) || decide (100 < x.frm.size)) = true → great l cs = true := fun h => by
      simp only [great, Bool.or_eq_true]; exact .inl (List.any_eq_true.2 ⟨x, List.mem_of_getElem? hx, h⟩)
    rcases Int.lt_or_le 100 x.name.size with hA | hA
    · have d1 := decide_eq_true hA
      simp only [go_sem, need, hx, d1, Option.some.injEq, forall_eq', and_true, true_and, Bool.not_true, Bool.not_false, Nat.reduceAdd, Nat.reduceSub, Nat.reduceLT, Nat.reduceLeDiff, Nat.reduceEqDiff, ↓reduceIte]
      exact wk_bool (yes (by simp; omega)).symm
    have d1 := decide_eq_false (Int.not_lt.2 hA)
    rcases Int.lt_or_le 100 x.frm.size with hB | hB
    · have d2 := decide_eq_true hB
      simp only [go_sem, need, hx, d1, d2, Option.some.injEq, forall_eq', and_true, true_and, Bool.not_true, Bool.not_false, Nat.reduceAdd, Nat.reduceSub, Nat.reduceLT, Nat.reduceLeDiff, Nat.reduceEqDiff, ↓reduceIte]
      exact wk_bool (yes (by simp; omega)).symm
    have d2 := decide_eq_false (Int.not_lt.2 hB)
    simp only [go_sem, need, hx, d1, d2, Option.some.injEq, forall_eq', and_true, true_and, Bool.not_true, Bool.not_false, Nat.reduceAdd, Nat.reduceSub, Nat.reduceLT, Nat.reduceLeDiff, Nat.reduceEqDiff, ↓reduceIte]
    rw [i64_in _ (by omega)]
    exact .mk (i + 1) ⟨by omega, upto_succ hx (by simp; omega) hj⟩ (by omega) (Wk.sub (by simp only [go_sem]; trivial))
  · simp only [decide_eq_false_iff_not] at h2
    have no : l.any (fun b => decide (100 < b.name.size) || decide (100 < b.frm.size)) = false := by
      rw [List.any_eq_false]
      intro x hx
      obtain ⟨j, hj'⟩ := List.mem_iff_getElem?.1 hx
      have := hj j x hj' (by have := some_lt hj'; omega)
      simp [this]
    rcases Int.lt_or_le 20 l.length with hA | hA
    · have d1 := decide_eq_true hA
      simp only [go_sem, d1, Option.some.injEq, forall_eq', and_true, true_and, Bool.not_true, Bool.not_false, Nat.reduceAdd, Nat.reduceSub, Nat.reduceLT, Nat.reduceLeDiff, Nat.reduceEqDiff, ↓reduceIte]
      exact wk_bool (by simp [great]; omega)
    have d1 := decide_eq_false (Int.not_lt.2 hA)
    simp only [go_sem, d1, Option.some.injEq, forall_eq', and_true, true_and, Bool.not_true, Bool.not_false, Nat.reduceAdd, Nat.reduceSub, Nat.reduceLT, Nat.reduceLeDiff, Nat.reduceEqDiff, ↓reduceIte]
    refine wk_bool ?_
    simp only [great, no, Bool.false_or]
    rw [decide_eq_false (show ¬ 20 < l.length by omega), Bool.false_or, decide_eq_decide]
    omega
theorem bad_own (c : Int) : Spec Try.prog 37 [.d (.int .i64 c)] [] (.d (.bool (badC c))) [] := by
  refine spec_of_ev (fn := Try.f37) DX_ok 3000 Try.func37 rfl rfl (Nat.le_of_ble_eq_true rfl) ?_
  simp only [Try.f37, go_sem]
  refine gbs (fun h1 => ?_) (fun h1 => ?_)
  · simp only [go_sem, Nat.reduceAdd, Nat.reduceSub, Nat.reduceLT, Nat.reduceLeDiff, Nat.reduceEqDiff, ↓reduceIte]
    exact wk_bool (by simp only [badC, h1, Bool.true_or])
  · simp only [go_sem, Nat.reduceAdd, Nat.reduceSub, Nat.reduceLT, Nat.reduceLeDiff, Nat.reduceEqDiff, ↓reduceIte]
    exact wk_bool (by simp only [badC, h1, Bool.false_or])
def iA (c : Int) : AV := .d (.int .i64 c)
attribute [go_sem] iA
theorem ints_indexFunc (l : List Int) (p : Int → Bool) (f : FuncId) (caps : List AV) (τ : List AObj) (hl : Sm l.length) (h : ∀ x ∈ l, Spec Try.prog f (iA x :: caps) τ (.d (.bool (p x))) τ) :
    Spec Try.prog 44 [.d (.sl (l.map iD)), .fn f caps] τ (.d (.int .i64 (idx p l))) τ := by
  unfold Sm at hl
  refine spec_of_ev (fn := Try.f44) DX_ok 3000 Try.func44 rfl rfl (Nat.le_of_ble_eq_true rfl) ?_
  simp only [Try.f44, go_sem]
  refine eloop (S := Nat) (fun i => mkE 19 [(0, .d (.sl (l.map iD))), (1, .fn f caps), (6, .d (.sl (l.map iD))), (7, .d (.int .i64 l.length)), (8, .d (.int .i64 i))]) (fun i => τ) (fun i => i ≤ l.length ∧ ∀ j x, l[j]? = some x → j < i → p x = false) (fun i => l.length - i) 0 ⟨by omega, by omega⟩ (Wk.sub (by simp only [go_sem]; trivial)) ?_
  rintro i ⟨hi, hj⟩
  simp only [go_sem, Nat.reduceAdd, Nat.reduceSub, Nat.reduceLT, Nat.reduceLeDiff, Nat.reduceEqDiff, ↓reduceIte]
  refine cbs (fun h1 => ?_) (fun h1 => ?_)
  · simp only [go_sem, decide_eq_true_eq] at h1 ⊢
    refine ⟨by omega, fun x hx => .all _ _ (h x (List.mem_of_getElem? hx)) ?_⟩
    simp only [go_sem, Nat.reduceAdd, Nat.reduceSub, Nat.reduceLT, Nat.reduceLeDiff, Nat.reduceEqDiff, ↓reduceIte]
    refine cbs (fun h2 => ?_) (fun h2 => ?_)
    · simp only [go_sem, Nat.reduceAdd, Nat.reduceSub, Nat.reduceLT, Nat.reduceLeDiff, Nat.reduceEqDiff, ↓reduceIte]
      rw [idx_found hx h2 hj]
      exact Wk.refl _ _ _
    · simp only [go_sem, Nat.reduceAdd, Nat.reduceSub, Nat.reduceLT, Nat.reduceLeDiff, Nat.reduceEqDiff, ↓reduceIte]
      rw [i64_in _ (by omega)]
      refine .mk (i + 1) ⟨by omega, fun j y hy hlt => ?_⟩ (by omega) (Wk.sub (by simp only [go_sem]; trivial))
      rcases Nat.lt_or_ge j i with q | q
      · exact hj j y hy q
      · have : j = i := by omega
        subst this; rw [hx] at hy; cases hy; exact h2
  · simp only [go_sem, decide_eq_false_iff_not] at h1 ⊢
    rw [idx_none fun j y hy => hj j y hy (by have := some_lt hy; omega)]
    exact Wk.refl _ _ _

theorem ints_containsFunc (l : List Int) (p : Int → Bool) (f : FuncId) (caps : List AV) (τ : List AObj) (hl : Sm l.length) (h : ∀ x ∈ l, Spec Try.prog f (iA x :: caps) τ (.d (.bool (p x))) τ) :
    Spec Try.prog 36 [.d (.sl (l.map iD)), .fn f caps] τ (.d (.bool (l.any p))) τ := by
  refine spec_of_ev (fn := Try.f36) DX_ok 3000 Try.func36 rfl rfl (Nat.le_of_ble_eq_true rfl) ?_
  simp only [Try.f36, go_sem]
  refine .all _ _ (ints_indexFunc l p f caps τ hl h) ?_
  simp only [go_sem, Nat.reduceAdd, Nat.reduceSub, Nat.reduceLT, Nat.reduceLeDiff, Nat.reduceEqDiff, ↓reduceIte]
  rw [idx_any]
  exact Wk.refl _ _ _

theorem vws_none {l : List Br} {cs : List Int} {n : Nat} (h : vws l cs n = none) : ∀ m, n ≤ m → vws l cs m = none
  | 0, hm => by have : n = 0 := by omega
                subst this; exact h
  | m + 1, hm => by
    rcases Nat.lt_or_ge n (m + 1) with q | q
    · simp only [vws, vws_none h m (by omega), Option.bind_none]
    · have : n = m + 1 := by omega
      subst this; exact h
theorem vstep_zero {l : List Br} {cs : List Int} {V : List (List Mk)} {x : Br} {c : Int} (h0 : V.length = 0) (hx : l[V.length]? = some x) (hc : cs[V.length]? = some c) : vstep l cs V = some (V ++ [own V.length c]) := by
  simp only [vstep, hx, hc]; rw [if_pos h0]
theorem vstep_pos {l : List Br} {cs : List Int} {V : List (List Mk)} {x : Br} {c : Int} {j : Nat} {f : List Mk} (h0 : 0 < V.length) (hx : l[V.length]? = some x) (hc : cs[V.length]? = some c) (hj : idx (has x.frm) l = j) (hf : V[j]? = some f) :
    vstep l cs V = if (f.length : Int) < x.at' then none else some (V ++ [f.take x.at'.toNat ++ own V.length c]) := by
  simp only [vstep, hx, hc]; rw [if_neg (by omega), hj]; simp only [Int.toNat_natCast, hf]
theorem vws_succ {l : List Br} {cs : List Int} {n : Nat} {V : List (List Mk)} (h : vws l cs n = some V) : vws l cs (n + 1) = vstep l cs V := by simp only [vws, h, Option.bind_some]
theorem fit_none {l : List Br} {cs : List Int} {n : Nat} (h : vws l cs n = none) (hn : n ≤ l.length) : fit l cs = false := by simp [fit, vws_none h _ hn]
theorem starts_own (l : List Br) (cs : List Int) (hl : check l = 0) (hc : cs.length = l.length) (hb : ∀ c ∈ cs, 0 ≤ c ∧ c ≤ 40) : Spec Try.prog 38 [.d (.sl (l.map bD)), .d (.sl (cs.map iD))] [] (.tup [.any, .d (.bool (fit l cs))]) [] := by
  have ho := ok_of hl
  have hl8 := ho.len
  refine spec_of_ev (fn := Try.f38) DX_ok 3000 Try.func38 rfl rfl (Nat.le_of_ble_eq_true rfl) ?_
  simp only [Try.f38, go_sem]
  refine eloop (S := Nat × List (ByteArray × Int) × List Int) (fun s => mkE 46 [(0, .d (.sl (l.map bD))), (1, .d (.sl (cs.map iD))), (6, .mp 0), (7, .own 1), (11, .d (.sl (l.map bD))), (12, .d (.int .i64 l.length)), (13, .d (.int .i64 s.1))])
    (fun s => [.map false false (mD sD iD s.2.1), .row 1 (s.2.2.map iD)])
    (fun s => s.1 ≤ l.length ∧ s.2.2.length = s.1 ∧ (∃ V, vws l cs s.1 = some V) ∧ ∀ j b c, j < s.1 → l[j]? = some b → cs[j]? = some c → look b.name s.2.1 = some (b.at' + c)) (fun s => l.length - s.1) (0, [], []) ?_ ?_ ?_
  · exact ⟨by omega, rfl, ⟨_, rfl⟩, by omega⟩
  · refine Wk.trans (Wk.nil 7 1 (by simp only [go_sem])) ?_
    simp only [go_sem, Nat.reduceAdd, Nat.reduceSub, Nat.reduceLT, Nat.reduceLeDiff, Nat.reduceEqDiff, ↓reduceIte]
    exact Wk.sub (by simp only [go_sem]; trivial)
  intro s hs
  have hi : s.1 ≤ l.length := hs.1
  have hs2 : s.2.2.length = s.1 := hs.2.1
  obtain ⟨V, hV⟩ := hs.2.2.1
  have hk := hs.2.2.2
  clear hs
  have hVl := vws_len hV
  have hF := fit_of ho hi hV
  simp only [go_sem, Nat.reduceAdd, Nat.reduceSub, Nat.reduceLT, Nat.reduceLeDiff, Nat.reduceEqDiff, ↓reduceIte]
  refine cbs (fun h2 => ?_) (fun h2 => ?_)
  · simp only [decide_eq_true_eq] at h2
    obtain ⟨x, hx⟩ : ∃ x, l[s.1]? = some x := ⟨l[s.1]'(by omega), List.getElem?_eq_getElem _⟩
    obtain ⟨c, hx2⟩ : ∃ c, cs[s.1]? = some c := ⟨cs[s.1]'(by omega), List.getElem?_eq_getElem _⟩
    have need : (0 ≤ (s.1 : Int) ∧ (s.1 : Int) < l.length) = True := eq_true (by omega)
    have need2 : (0 ≤ (s.1 : Int) ∧ (s.1 : Int) < cs.length) = True := eq_true (by omega)
    have hlt : (s.1 < cs.length) = True := eq_true (by omega)
    simp only [go_sem, need, hx, Option.some.injEq, forall_eq', and_true, true_and, Bool.not_true, Bool.not_false, Nat.reduceAdd, Nat.reduceSub, Nat.reduceLT, Nat.reduceLeDiff, Nat.reduceEqDiff, ↓reduceIte]
    have hub := hb c (List.mem_of_getElem? hx2)
    have hux := (ho.good _ x hx).2
    have next : ∀ V', vws l cs (s.1 + 1) = some V' → ∀ j b c', j < s.1 + 1 → l[j]? = some b → cs[j]? = some c' → look b.name (mput x.name (x.at' + c) s.2.1) = some (b.at' + c') := fun V' _ j b c' hj hb' hc' => by
      rw [look_put]
      split
      · next e =>
        have e1 := ho.name _ b hb'
        have e2 := ho.name _ x hx
        rw [e] at e1
        have : j = s.1 := by omega
        subst this
        rw [hx] at hb'; cases hb'; rw [hx2] at hc'; cases hc'; rfl
      · next e =>
        rcases Nat.lt_or_ge j s.1 with q | q
        · exact hk j b c' q hb' hc'
        · have : j = s.1 := by omega
          subst this; rw [hx] at hb'; cases hb'; exact absurd rfl e
    have n1 : ∀ k, (∃ ks, KeyT Try.prog 9 false ks ∧ kindOk false ks [D.str k] ∧ ∀ y ∈ mD sD iD s.2.1, kindOk false ks y.1) = True := fun k => mneed (kD := sD) (vD := iD) Ty.keyT_9 sD_kind k s.2.1
    have n2 : upM [D.str x.name] [D.int .i64 (x.at' + c)] (mD sD iD s.2.1) = mD sD iD (mput x.name (x.at' + c) s.2.1) := upM_mD (kD := sD) (vD := iD) sD_eq _ _ _
    have n3 : ∀ k, lkM [D.str k] (mD sD iD s.2.1) = (look k s.2.1).map iD := fun k => lkM_mD (kD := sD) (vD := iD) sD_eq _ _
    have w1 : IntKind.i64.wrap (x.at' + c) = x.at' + c := i64_in _ (by omega)
    have eV : s.1 = V.length := hVl.symm
    have ap : (∀ (e : List D), e ∈ [[D.int .i64 x.at']] → e.length = 1) ∧ (s.2.2.length + 1) * 8 ≤ 140737488355328 ∧ s.2.2.length ≤ 9223372036854775806 := ⟨by simp, by omega, by omega⟩
    have ap2 : s.2.2.map iD ++ [[D.int .i64 x.at']] = (s.2.2 ++ [x.at']).map iD := by simp [iD]
    rcases Nat.eq_zero_or_pos s.1 with h0 | h0
    · have g0 : decide (0 < (s.1 : Int)) = false := by simp [h0]
      have hv1 : vws l cs (s.1 + 1) = some (V ++ [own V.length c]) := by rw [vws_succ hV]; exact vstep_zero (by omega) (by rw [← eV]; exact hx) (by rw [← eV]; exact hx2)
      simp only [go_sem, g0, Option.some.injEq, forall_eq', and_true, true_and, Bool.not_true, Bool.not_false, Nat.reduceAdd, Nat.reduceSub, Nat.reduceLT, Nat.reduceLeDiff, Nat.reduceEqDiff, ↓reduceIte]
      refine ⟨ap, ?_⟩
      refine DX.plain (.take 0 false (.take 1 false (.take 2 false (.take 3 false (.take 4 false (.take 5 false (.take 6 false (.take 7 false (.take 8 false (.take 9 false (.run [10] (fun _ => []) fun _ => .done))))))))))) (by kernel_rfl) (by kernel_rfl) Ty.mixed ?_
      simp only [go_sem, need, need2, hlt, hx2, n1, n2, w1, Option.some.injEq, forall_eq', and_true, true_and, Bool.not_true, Bool.not_false, Nat.reduceAdd, Nat.reduceSub, Nat.reduceLT, Nat.reduceLeDiff, Nat.reduceEqDiff, ↓reduceIte]
      rw [i64_in _ (by omega)]
      exact .mk (s.1 + 1, mput x.name (x.at' + c) s.2.1, s.2.2 ++ [x.at']) ⟨by simp only; omega, by simp only [List.length_append, List.length_singleton]; omega, ⟨_, hv1⟩, next _ hv1⟩ (by simp only; omega) (by rw [ap2]; exact (Wk.via [0, 4] (by simp only [go_sem, ↓reduceIte]; trivial) (by simp only [go_sem, Nat.reduceAdd, Nat.reduceSub, Nat.reduceLT, Nat.reduceLeDiff, Nat.reduceEqDiff, ↓reduceIte]) (by simp) (by simp) (by (simp only [go_sem, Nat.reduceAdd, Nat.reduceSub, Nat.reduceLT, Nat.reduceLeDiff, Nat.reduceEqDiff, ↓reduceIte]) <;> trivial) (by simp only [go_sem]) (Nat.zero_le _) (fun i h => absurd h (Nat.not_lt_zero i))))
    · have g0 : decide (0 < (s.1 : Int)) = true := by simp; omega
      obtain ⟨j, hj1, hj2⟩ := ho.from' _ x hx h0
      obtain ⟨f, hf⟩ : ∃ f, V[j]? = some f := ⟨V[j]'(by omega), List.getElem?_eq_getElem _⟩
      obtain ⟨cj, hcj⟩ : ∃ c, cs[j]? = some c := ⟨cs[j]'(by omega), List.getElem?_eq_getElem _⟩
      obtain ⟨j', b, k1, k2, k3⟩ := idx_get (p := has x.frm) (l := l) (by omega)
      have : j' = j := by omega
      subst this
      have hbn : b.name = x.frm := by simpa [has] using k3
      have lkf : look x.frm s.2.1 = some (b.at' + cj) := by rw [← hbn]; exact hk j' b cj hj1 k2 hcj
      have hfl := fit_len ho hF k2 hcj hf
      have hbb := (ho.good _ b k2).2
      have hcb := hb cj (List.mem_of_getElem? hcj)
      have hv1 := vws_succ hV
      rw [vstep_pos (by omega) (by rw [← eV]; exact hx) (by rw [← eV]; exact hx2) hj2 hf] at hv1
      rcases Int.lt_or_le (b.at' + cj) x.at' with hA | hA
      · have d1 := decide_eq_true hA
        rw [if_pos (by omega)] at hv1
        simp only [go_sem, g0, n1, n3, lkf, d1, Option.some.injEq, forall_eq', and_true, true_and, Bool.not_true, Bool.not_false, Nat.reduceAdd, Nat.reduceSub, Nat.reduceLT, Nat.reduceLeDiff, Nat.reduceEqDiff, ↓reduceIte]
        rw [fit_none hv1 (by omega)]
        exact wk_tup_any
      · have d1 := decide_eq_false (Int.not_lt.2 hA)
        rw [if_neg (by omega)] at hv1
        simp only [go_sem, g0, n1, n3, lkf, d1, Option.some.injEq, forall_eq', and_true, true_and, Bool.not_true, Bool.not_false, Nat.reduceAdd, Nat.reduceSub, Nat.reduceLT, Nat.reduceLeDiff, Nat.reduceEqDiff, ↓reduceIte]
        refine ⟨ap, ?_⟩
        refine DX.plain (.take 0 false (.take 1 false (.take 2 false (.take 3 false (.take 4 false (.take 5 false (.take 6 false (.take 7 false (.take 8 false (.take 9 false (.run [10] (fun _ => []) fun _ => .done))))))))))) (by kernel_rfl) (by kernel_rfl) Ty.mixed ?_
        simp only [go_sem, need, need2, hlt, hx2, n1, n2, w1, Option.some.injEq, forall_eq', and_true, true_and, Bool.not_true, Bool.not_false, Nat.reduceAdd, Nat.reduceSub, Nat.reduceLT, Nat.reduceLeDiff, Nat.reduceEqDiff, ↓reduceIte]
        rw [i64_in _ (by omega)]
        exact .mk (s.1 + 1, mput x.name (x.at' + c) s.2.1, s.2.2 ++ [x.at']) ⟨by simp only; omega, by simp only [List.length_append, List.length_singleton]; omega, ⟨_, hv1⟩, next _ hv1⟩ (by simp only; omega) (by rw [ap2]; exact (Wk.via [0, 4] (by simp only [go_sem, ↓reduceIte]; trivial) (by simp only [go_sem, Nat.reduceAdd, Nat.reduceSub, Nat.reduceLT, Nat.reduceLeDiff, Nat.reduceEqDiff, ↓reduceIte]) (by simp) (by simp) (by (simp only [go_sem, Nat.reduceAdd, Nat.reduceSub, Nat.reduceLT, Nat.reduceLeDiff, Nat.reduceEqDiff, ↓reduceIte]) <;> trivial) (by simp only [go_sem]) (Nat.zero_le _) (fun i h => absurd h (Nat.not_lt_zero i))))
  · simp only [decide_eq_false_iff_not] at h2
    simp only [go_sem, Nat.reduceAdd, Nat.reduceSub, Nat.reduceLT, Nat.reduceLeDiff, Nat.reduceEqDiff, ↓reduceIte]
    have : fit l cs = true := by
      have : s.1 = l.length := by omega
      rw [this] at hV; simp [fit, hV]
    rw [this]
    exact wk_tup_any
end Go.AX.Br

/- Branches: the program's own view. -/
import Derived.Test.YtebkafjebnjcoaaBh
set_option maxHeartbeats 1000000
set_option linter.unusedVariables false
set_option linter.unusedSimpArgs false
set_option maxRecDepth 20000
namespace Go.AX.Br
open Go.Proofs Go.RowKit Go.IntWalk
/-- the blocks that the view's own function has caught -/
def caps : List AV := [.ptr 2 0, .ptr 0 0, .ptr 1 0]
def hp (l : List Br) (cs : List Int) : List AObj := [.cells [.d (.sl (l.map bD))], .cells [.d (.sl (cs.map iD))], .cells [.fn 43 caps]]
attribute [go_sem] caps hp
theorem view_take (F : List Mk) (i : Nat) (c : Int) (m k : Nat) (hk : k ≤ c.toNat) (hm : (F.take m).length + k ≤ m) (h : k = c.toNat ∨ m ≤ (F.take m).length + k) : F.take m ++ (own i c).take k = (F ++ own i c).take m := by
  rw [List.take_append]
  congr 1
  rw [List.length_take] at hm h
  rcases Nat.lt_or_ge m F.length with q | q
  · have : k = 0 := by omega
    subst this
    have : m - F.length = 0 := by omega
    rw [this]
  · rcases h with h | h
    · rw [List.take_of_length_le (by rw [own_len]; omega), List.take_of_length_le (by rw [own_len]; omega)]
    · congr 1; omega
theorem of_own (l : List Br) (cs : List Int) (V : List (List Mk)) (ho : Ok l) (hF : Fit l cs V) (hV : V.length = l.length) (hc : cs.length = l.length) (hb : ∀ c ∈ cs, 0 ≤ c ∧ c ≤ 40) : ∀ (i : Nat) (m : Int) (v : List Mk), V[i]? = some v → 0 ≤ m → m ≤ 1000 →
    Spec Try.prog 43 (.d (.int .i64 i) :: .d (.int .i64 m) :: caps) (hp l cs) (.own 3) (hp l cs ++ [.row 2 ((v.take m.toNat).map mkD)]) := by
  have hl8 := ho.len
  intro i
  induction i using Nat.strongRecOn with
  | _ i ih =>
  intro m v hv hm0 hm1
  have hil : i < l.length := by have := some_lt hv; omega
  obtain ⟨x, hx⟩ : ∃ x, l[i]? = some x := ⟨l[i]'(by omega), List.getElem?_eq_getElem _⟩
  obtain ⟨c, hx2⟩ : ∃ c, cs[i]? = some c := ⟨cs[i]'(by omega), List.getElem?_eq_getElem _⟩
  have need : (0 ≤ (i : Int) ∧ (i : Int) < l.length) = True := eq_true (by omega)
  have need2 : (0 ≤ (i : Int) ∧ (i : Int) < cs.length) = True := eq_true (by omega)
  have hlt : (i < cs.length) = True := eq_true (by omega)
  have hlt2 : (i < l.length) = True := eq_true (by omega)
  have hub := hb c (List.mem_of_getElem? hx2)
  have hux := (ho.good _ x hx).2
  refine spec_of_ev (fn := Try.f43) DX_ok 3000 Try.func43 rfl rfl (Nat.le_of_ble_eq_true rfl) ?_
  simp only [Try.f43, go_sem]
  rcases Nat.eq_zero_or_pos i with h0 | h0
  case' inl =>
    have g0 : decide (0 < (i : Int)) = false := by simp [h0]
    obtain ⟨F, hFe⟩ : ∃ F : List Mk, F = [] := ⟨_, rfl⟩
    have hvF : v = F ++ own i c := by subst h0; rw [hFe]; exact hF.zero c v hx2 hv
    have hFl : F.length ≤ 320 := by rw [hFe]; simp
    simp only [go_sem, g0, Option.some.injEq, forall_eq', and_true, true_and, Bool.not_true, Bool.not_false, Nat.reduceAdd, Nat.reduceSub, Nat.reduceLT, Nat.reduceLeDiff, Nat.reduceEqDiff, ↓reduceIte]
    refine eloop (S := Nat) (fun k => mkE 49 [(0, .d (.int .i64 i)), (1, .d (.int .i64 m)), (2, .ptr 2 0), (3, .ptr 0 0), (4, .ptr 1 0), (8, .own 3), (9, .d (.int .i64 k))]) (fun k => hp l cs ++ [.row 2 ((F.take m.toNat ++ (own i c).take k).map mkD)]) (fun k => k ≤ c.toNat ∧ (F.take m.toNat).length + k ≤ m.toNat) (fun k => c.toNat - k) 0 ⟨by omega, by rw [List.length_take]; omega⟩ ?_ ?_
    · refine Wk.trans (Wk.nil 8 2 (by simp only [go_sem])) ?_
      have e0 : (F.take m.toNat ++ (own i c).take 0).map mkD = [] := by simp [hFe]
      rw [e0]
      simp only [go_sem, Nat.reduceAdd, Nat.reduceSub, Nat.reduceLT, Nat.reduceLeDiff, Nat.reduceEqDiff, ↓reduceIte]
      exact Wk.sub (by simp only [go_sem]; trivial)
  case' inr =>
    have g0 : decide (0 < (i : Int)) = true := by simp; omega
    obtain ⟨j, f, hj1, hj2, hj3, hj4, hj5⟩ := hF.step i x c v h0 hx hx2 hv
    obtain ⟨F, hFe⟩ : ∃ F : List Mk, F = f.take x.at'.toNat := ⟨_, rfl⟩
    have hvF : v = F ++ own i c := by rw [hFe]; exact hj5
    have hFl : F.length ≤ 320 := by rw [hFe, List.length_take]; omega
    have rc := ih j hj1 (if x.at' < m then x.at' else m) f hj3 (by split <;> omega) (by split <;> omega)
    simp only [go_sem, g0, Option.some.injEq, forall_eq', and_true, true_and, Bool.not_true, Bool.not_false, Nat.reduceAdd, Nat.reduceSub, Nat.reduceLT, Nat.reduceLeDiff, Nat.reduceEqDiff, ↓reduceIte]
    refine DX.plain (.take 0 false (.take 1 false (.take 2 false (.take 3 false (.take 4 false (.take 5 false (.take 6 false (.take 7 false (.take 8 false (.take 9 false (.take 10 false (.take 11 false (.take 12 false (.take 13 false (.take 14 false (.run [15] (fun _ => []) fun _ => (.take 16 false .done))))))))))))))))) (by kernel_rfl) (by kernel_rfl) Ty.mixed ?_
    simp only [go_sem, need, hx, hlt2, Option.some.injEq, forall_eq', and_true, true_and, Bool.not_true, Bool.not_false, Nat.reduceAdd, Nat.reduceSub, Nat.reduceLT, Nat.reduceLeDiff, Nat.reduceEqDiff, ↓reduceIte]
    refine ⟨_, _, (index_own l x.frm (by unfold Sm; omega)).lift0 _ (by simp only [go_sem]) (by simp only [go_sem]), rfl, ?_⟩
    rw [hj2]
    refine ⟨_, _, rc, ?_⟩
    have pe : f.take (if x.at' < m then x.at' else m).toNat = F.take m.toNat := by
      rw [hFe, List.take_take]
      congr 1
      split <;> omega
    rw [pe]
    refine eloop (S := Nat) (fun k => mkE 49 [(0, .d (.int .i64 i)), (1, .d (.int .i64 m)), (2, .ptr 2 0), (3, .ptr 0 0), (4, .ptr 1 0), (8, .own 3), (9, .d (.int .i64 k))]) (fun k => hp l cs ++ [.row 2 ((F.take m.toNat ++ (own i c).take k).map mkD)]) (fun k => k ≤ c.toNat ∧ (F.take m.toNat).length + k ≤ m.toNat) (fun k => c.toNat - k) 0 ⟨by omega, by rw [List.length_take]; omega⟩ ?_ ?_
    · rw [List.take_zero, List.append_nil]
      simp only [go_sem, Nat.reduceAdd, Nat.reduceSub, Nat.reduceLT, Nat.reduceLeDiff, Nat.reduceEqDiff, ↓reduceIte]
      exact Wk.sub (by simp only [go_sem]; trivial)
  all_goals
    rintro k ⟨hk1, hk2⟩
    have hkl : (F.take m.toNat ++ (own i c).take k).length = (F.take m.toNat).length + k := by rw [List.length_append, List.length_take (i := k), own_len]; omega
    have out : (k = c.toNat ∨ m.toNat ≤ (F.take m.toNat).length + k) → F.take m.toNat ++ (own i c).take k = v.take m.toNat := fun h => by rw [hvF]; exact view_take F i c m.toNat k hk1 hk2 h
    rcases Nat.lt_or_ge k c.toNat with h1 | h1
    · have d1 : decide ((k : Int) < c) = true := by simp; omega
      rcases Nat.lt_or_ge ((F.take m.toNat).length + k) m.toNat with h2 | h2
      · have d2 : decide (((F.take m.toNat ++ (own i c).take k).length : Int) < m) = true := by simp only [decide_eq_true_eq]; omega
        simp only [go_sem, need2, hlt, hx2, d1, d2, Option.some.injEq, forall_eq', and_true, true_and, Bool.not_true, Bool.not_false, Nat.reduceAdd, Nat.reduceSub, Nat.reduceLT, Nat.reduceLeDiff, Nat.reduceEqDiff, ↓reduceIte]
        refine ⟨by omega, ⟨by simp, by omega, by omega⟩, ?_⟩
        rw [i64_in _ (by omega)]
        have e : (F.take m.toNat ++ (own i c).take k).map mkD ++ [[D.int .i64 i, D.int .i64 k]] = (F.take m.toNat ++ (own i c).take (k + 1)).map mkD := by rw [own_take h1]; simp [mkD]
        rw [e]
        exact .mk (k + 1) ⟨by omega, by omega⟩ (by omega) (Wk.via [0, 1, 2, 5] (by (simp only [go_sem, ↓reduceIte]) <;> trivial) (by (simp only [go_sem, Nat.reduceAdd, Nat.reduceSub, Nat.reduceLT, Nat.reduceLeDiff, Nat.reduceEqDiff, ↓reduceIte]) <;> omega) (by simp) (by simp) (by (simp only [go_sem, Nat.reduceAdd, Nat.reduceSub, Nat.reduceLT, Nat.reduceLeDiff, Nat.reduceEqDiff, ↓reduceIte]) <;> trivial) (by (simp only [go_sem, Nat.reduceAdd, Nat.reduceSub, Nat.reduceLT, Nat.reduceLeDiff, Nat.reduceEqDiff, ↓reduceIte]) <;> omega) (by decide) (at0_pre (by decide)))
      · have d2 : decide (((F.take m.toNat ++ (own i c).take k).length : Int) < m) = false := by simp only [decide_eq_false_iff_not]; omega
        simp only [go_sem, need2, hlt, hx2, d1, d2, Option.some.injEq, forall_eq', and_true, true_and, Bool.not_true, Bool.not_false, Nat.reduceAdd, Nat.reduceSub, Nat.reduceLT, Nat.reduceLeDiff, Nat.reduceEqDiff, ↓reduceIte]
        rw [out (.inr h2)]
        exact Wk.refl _ _ _
    · have d1 : decide ((k : Int) < c) = false := by simp; omega
      simp only [go_sem, need2, hlt, hx2, d1, Option.some.injEq, forall_eq', and_true, true_and, Bool.not_true, Bool.not_false, Nat.reduceAdd, Nat.reduceSub, Nat.reduceLT, Nat.reduceLeDiff, Nat.reduceEqDiff, ↓reduceIte]
      rw [out (.inl (by omega))]
      exact Wk.refl _ _ _
theorem view_own (l : List Br) (cs : List Int) (V : List (List Mk)) (ho : Ok l) (hF : Fit l cs V) (hV : V.length = l.length) (hc : cs.length = l.length) (hb : ∀ c ∈ cs, 0 ≤ c ∧ c ≤ 40) (i : Nat) (v : List Mk) (hv : V[i]? = some v) :
    Spec Try.prog 32 [.d (.sl (l.map bD)), .d (.sl (cs.map iD)), .d (.int .i64 i)] [] (.own 0) [.row 2 (v.map mkD)] := by
  have hl8 := ho.len
  have hil : i < l.length := by have := some_lt hv; omega
  obtain ⟨x, hx⟩ : ∃ x, l[i]? = some x := ⟨l[i]'(by omega), List.getElem?_eq_getElem _⟩
  obtain ⟨c, hx2⟩ : ∃ c, cs[i]? = some c := ⟨cs[i]'(by omega), List.getElem?_eq_getElem _⟩
  have need : (0 ≤ (i : Int) ∧ (i : Int) < l.length) = True := eq_true (by omega)
  have need2 : (0 ≤ (i : Int) ∧ (i : Int) < cs.length) = True := eq_true (by omega)
  have hlt : (i < cs.length) = True := eq_true (by omega)
  have hlt2 : (i < l.length) = True := eq_true (by omega)
  have hub := hb c (List.mem_of_getElem? hx2)
  have hux := (ho.good _ x hx).2
  have hfl := fit_len ho hF hx hx2 hv
  have w1 : IntKind.i64.wrap (x.at' + c) = x.at' + c := i64_in _ (by omega)
  have rc := of_own l cs V ho hF hV hc hb i (x.at' + c) v hv (by omega) (by omega)
  rw [List.take_of_length_le (by omega)] at rc
  refine spec_of_ev (fn := Try.f32) DX_ok 3000 Try.func32 rfl rfl (Nat.le_of_ble_eq_true rfl) ?_
  simp only [Try.f32, go_sem]
  refine ⟨by omega, ?_⟩
  refine DX.plain (.take 0 false (.take 1 false (.take 2 false (.take 3 false (.take 4 false (.take 5 false (.take 6 false (.take 7 false (.take 8 false (.take 9 false (.take 10 false (.take 11 false (.run [12] (fun _ => []) fun _ => (.take 13 false .done)))))))))))))) (by kernel_rfl) (by kernel_rfl) Ty.mixed ?_
  simp only [go_sem, need, need2, hx, hx2, hlt, hlt2, w1, Option.some.injEq, forall_eq', and_true, true_and, Bool.not_true, Bool.not_false, Nat.reduceAdd, Nat.reduceSub, Nat.reduceLT, Nat.reduceLeDiff, Nat.reduceEqDiff, ↓reduceIte]
  simp only [hp, List.cons_append, List.nil_append] at rc
  refine ⟨_, _, rc, ?_⟩
  exact (Wk.via [3] (by (simp only [go_sem, ↓reduceIte]) <;> trivial) (by simp only [go_sem, Nat.reduceAdd, Nat.reduceSub, Nat.reduceLT, Nat.reduceLeDiff, Nat.reduceEqDiff, ↓reduceIte]) (by simp) (by simp) (by (simp only [go_sem, Nat.reduceAdd, Nat.reduceSub, Nat.reduceLT, Nat.reduceLeDiff, Nat.reduceEqDiff, ↓reduceIte]) <;> trivial) (by simp only [go_sem]) (Nat.zero_le _) (fun i h => absurd h (Nat.not_lt_zero i)))
end Go.AX.Br

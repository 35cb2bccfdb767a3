/- LedgerFolds: whatever the input, the law returns true, and its arguments read as they did. No condition. -/
import Derived.Test.YtcpkcjjhokbmkaaK11
set_option maxHeartbeats 8000000
set_option linter.unusedVariables false
set_option linter.unusedSimpArgs false
set_option maxRecDepth 20000
namespace Go.AX.Lg
open Go.Proofs Go.RowKit Go.IntWalk Go.AX.Br
theorem view_of {l : Lg} (lo : LOk l) {i : Nat} {x : Br} {s : List Ev} {v : List Mk} (a : At l i x s v) : lview l x.name = (v, 0) := by
  unfold lview
  rw [if_neg (by have := lo.chk; omega)]
  exact vname lo.tab a
theorem badL_at {l : Lg} : ∀ {s pre : List Ev} {m : Nat} {y : Ev}, badL l pre s = false → s[m]? = some y → badX l (pre ++ s.take m) y = false
  | [], _, _, _, _, h => by simp at h
  | x :: s, pre, 0, y, hb, h => by
    simp only [badL, Bool.or_eq_false_iff] at hb
    simp at h; subst h; simpa using hb.1
  | x :: s, pre, m + 1, y, hb, h => by
    simp only [badL, Bool.or_eq_false_iff] at hb
    have := badL_at (m := m) hb.2 (by simpa using h)
    simpa using this
/-- every event of a view was allowed -/
theorem all_ok {l : Lg} (lo : LOk l) : ∀ (i : Nat) {x : Br} {s : List Ev} {v : List Mk}, At l i x s v → ∀ (k : Nat) (y : Ev), (preE l i ++ s)[k]? = some y → badX l ((preE l i ++ s).take k) y = false := by
  intro i
  induction i using Nat.strongRecOn with
  | _ i ih =>
    intro x s v a k y hy
    rcases Nat.lt_or_ge k (preE l i).length with q | q
    · have hp := a.prel
      have h0 : 0 < i := by
        rcases Nat.eq_zero_or_pos i with z | z
        · subst z
          have := (lo.tab.g.ok.root x a.hx).2
          omega
        · exact z
      obtain ⟨j, f, j1, j2, j3, j4, j5⟩ := lo.tab.g.fit.step i x _ v h0 a.hx (cnt_get a.hs) a.hv
      obtain ⟨x', s', v', b⟩ := at_of lo.tab (l := l) (i := j) (by have := some_lt a.hx; omega)
      have hf : v' = f := by have := b.hv; rw [j3] at this; exact (Option.some.inj this).symm
      subst hf
      have ha0 := a.at0
      have ht : v.take x.at'.toNat = v'.take x.at'.toNat := by
        rw [j5, List.take_append_of_le_length (by rw [List.length_take]; omega), List.take_take, Nat.min_self]
      have hpre : preE l i = (preE l j ++ s').take x.at'.toNat := by
        rw [← a.tak, ht, seenL_take b.inr, b.seen]
      have e1 : (preE l i ++ s)[k]? = (preE l j ++ s')[k]? := by
        rw [List.getElem?_append_left q, hpre, List.getElem?_take_of_lt (by omega)]
      have e2 : (preE l i ++ s).take k = (preE l j ++ s').take k := by
        rw [List.take_append_of_le_length (by omega), hpre, List.take_take, Nat.min_eq_left (by omega)]
      rw [e1] at hy
      rw [e2]
      exact ih j j1 b k y hy
    · obtain ⟨m, rfl⟩ : ∃ m, k = (preE l i).length + m := ⟨k - (preE l i).length, by omega⟩
      rw [List.getElem?_append_right (by omega), Nat.add_sub_cancel_left] at hy
      have hg := lo.good i (some_lt a.hs)
      rw [badB, a.hs] at hg
      have := badL_at (l := l) (pre := preE l i) (s := s) hg hy
      rw [List.take_append, List.take_of_length_le (by omega), Nat.add_sub_cancel_left]
      exact this
theorem inR_sn (l : Lg) (s : List Ev) (x : Ev) (c : Int) : inR l (s ++ [x]) c = if classR l x.ch = c then (x.kd != 3) else inR l s c := by
  unfold inR
  rw [lastR_snoc]
  unfold isC
  by_cases h : classR l x.ch = c
  · rw [if_pos h, if_pos (decide_eq_true h)]
    have : kdAt (s ++ [x]) (s.length : Int) = x.kd := by
      unfold kdAt
      rw [Int.toNat_natCast, List.getElem?_append_right (Nat.le_refl _), Nat.sub_self]; rfl
    rw [this]; simp
  · rw [if_neg h, if_neg (by simp [h])]
    have hr := lastN_range (p := isC l c) (s := s) s.length
    by_cases h0 : 0 ≤ lastR l s c
    · rw [kdAt_pre (by unfold lastR; omega) h0]
    · rw [decide_eq_false h0]; simp
theorem turn {l : Lg} {S : List Ev} {e : Ev} {c : Nat} (hc : classN l e.ch = some (c : Int)) (ha : allR l S e = 0) : inR l S c = decide (e.kd = 3) ∧ (∀ d : Nat, d ≠ c → inR l (S ++ [e]) d = inR l S d) ∧ inR l (S ++ [e]) c = !inR l S c := by
  have hr := classR_of hc
  have h1 : inR l S c = decide (e.kd = 3) := by
    unfold allR at ha
    simp only [hr] at ha
    split at ha
    · cases ha
    split at ha
    · cases ha
    next h2 =>
    split at ha
    · cases ha
    split at ha
    · cases ha
    next h4 =>
    by_cases q : e.kd = 3
    · rw [decide_eq_true q]
      cases z : inR l S c
      · exact absurd (.inl ⟨q, z⟩) h4
      · rfl
    · rw [decide_eq_false q]
      cases z : inR l S c
      · rfl
      · exact absurd ⟨z, q⟩ h2
  refine ⟨h1, fun d hd => ?_, ?_⟩
  · rw [inR_sn, hr, if_neg (by omega)]
  · rw [inR_sn, hr, if_pos rfl, h1]
    by_cases q : e.kd = 3 <;> simp [q]
theorem fget {α : Type} {p : α → Bool} {l : List α} {k : Nat} {x : α} (h : l[k]? = some x) (hp : p x = true) : (l.filter p)[((l.take k).filter p).length]? = some x ∧ ((l.take k).filter p).length < (l.filter p).length := by
  have hk := some_lt h
  have e : l = l.take k ++ x :: l.drop (k + 1) := by
    have := List.take_append_drop k l
    rw [List.drop_eq_getElem_cons hk, (List.getElem?_eq_some_iff.1 h).2] at this
    exact this.symm
  have e2 : l.filter p = (l.take k).filter p ++ x :: (l.drop (k + 1)).filter p := by
    conv => lhs; rw [e]
    rw [List.filter_append, List.filter_cons_of_pos hp]
  refine ⟨?_, ?_⟩
  · rw [e2, List.getElem?_append_right (Nat.le_refl _), Nat.sub_self]; rfl
  · rw [e2, List.length_append]; simp
theorem effN_at {l : Lg} {s : List Ev} {c : Nat} (hc : c < 30) (h : inR l s c = true) : (effN l s 30)[(effN l s c).length]? = some (c : Int) ∧ (effN l s c).length < (effN l s 30).length := by
  have hg : (List.range 30)[c]? = some c := by rw [List.getElem?_range hc]
  obtain ⟨f1, f2⟩ := fget (p := fun (c : Nat) => inR l s c) hg h
  rw [List.take_range, Nat.min_eq_left (by omega)] at f1 f2
  unfold effN
  rw [List.length_map, List.length_map, List.getElem?_map, f1]
  exact ⟨rfl, f2⟩
def inA (l : Lg) (s : List Ev) : List Bool := (List.range 30).map fun (c : Nat) => inR l s c
theorem inA_len (l : Lg) (s : List Ev) : (inA l s).length = 30 := by simp [inA]
theorem inA_at {l : Lg} {s : List Ev} {c : Nat} (h : c < 30) : bAt (inA l s) c = inR l s c := by
  simp [bAt, inA, h]
theorem inA_nil (l : Lg) : inA l [] = List.replicate 30 false := by
  unfold inA
  rw [show (fun (c : Nat) => inR l [] (c : Int)) = fun _ => false from funext fun c => by simp [inR, lastR, lastN]]
  rfl
theorem spl_bv {W : List Bool} {c : Nat} (hc : c < W.length) (b : Bool) : spl (W.map bv) c [.d (.bool b)] = (W.set c b).map bv := by
  refine List.ext_getElem? fun q => ?_
  rw [spl_get _ _ _ _ (by simp; omega)]
  simp only [List.getElem?_map, List.length_singleton]
  by_cases e : q = c
  · subst e
    rw [if_pos (by omega), Nat.sub_self, List.getElem?_set_self (by omega)]; rfl
  · rw [if_neg (by omega), List.getElem?_set_ne (Ne.symm e)]
theorem inA_step {l : Lg} {S : List Ev} {e : Ev} {c : Nat} (hc30 : c < 30) (hc : classN l e.ch = some (c : Int)) (ha : allR l S e = 0) : inA l (S ++ [e]) = (inA l S).set c (!bAt (inA l S) c) := by
  obtain ⟨t1, t2, t3⟩ := turn hc ha
  rw [inA_at hc30]
  refine List.ext_getElem? fun q => ?_
  rcases Nat.lt_or_ge q 30 with h | h
  · by_cases z : q = c
    · subst z
      rw [List.getElem?_set_self (by rw [inA_len]; omega)]
      simp [inA, h, t3]
    · rw [List.getElem?_set_ne (Ne.symm z)]
      simp [inA, h, t2 q z]
  · rw [List.getElem?_eq_none (by rw [inA_len]; omega), List.getElem?_eq_none (by rw [List.length_set, inA_len]; omega)]
theorem bds_w (k : Nat) (W : List Bool) : bds k (W.map bv) = True := eq_true (bds_bv k W)
theorem rens_w (f : Nat → Nat) (W : List Bool) : rens f (W.map bv) = W.map bv := rens_bv f W
theorem wkE_w (W : List Bool) : wkE (W.map bv) (W.map bv) = True := eq_true (wkE_refl _)
attribute [go_sem] bds_w rens_w wkE_w
end Go.AX.Lg

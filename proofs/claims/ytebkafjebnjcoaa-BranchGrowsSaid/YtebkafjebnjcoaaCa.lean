/- BranchGrows: whatever the input, the law returns true, and its arguments read as they did. No condition. -/
import Derived.Test.YtebkafjebnjcoaaBx
set_option maxHeartbeats 8000000
set_option linter.unusedVariables false
set_option linter.unusedSimpArgs false
set_option maxRecDepth 20000
namespace Go.AX.Br
open Go.Proofs Go.RowKit Go.IntWalk
/-- a count more: the views -/
theorem vws_more {l : List Br} {cs : List Int} {i : Nat} {c : Int} (ho : Ok l) (hc : cs[i]? = some c) (h0 : 0 ≤ c) : ∀ (n : Nat) (V : List (List Mk)), n ≤ l.length → vws l cs n = some V →
    ∃ W, vws l (cs.set i (c + 1)) n = some W ∧ (∀ (k : Nat) (v : List Mk), V[k]? = some v → W[k]? = some (if k = i then v ++ [⟨i, c⟩] else v)) := by
  intro n
  induction n with
  | zero => intro V _ h; simp only [vws, Option.some.injEq] at h; subst h; exact ⟨[], rfl, by simp⟩
  | succ n ih =>
    intro V hn h
    simp only [vws, Option.bind_eq_some_iff] at h
    obtain ⟨o, h1, h2⟩ := h
    obtain ⟨w, w1, w2⟩ := ih o (by omega) h1
    have hol := vws_len h1
    have hwl := vws_len w1
    obtain ⟨x, hx⟩ : ∃ x, l[n]? = some x := ⟨l[n]'(by omega), List.getElem?_eq_getElem _⟩
    have hcn : ∃ d, cs[n]? = some d ∧ (cs.set i (c + 1))[n]? = some (if n = i then d + 1 else d) ∧ (n = i → d = c) := by
      cases q : cs[n]? with
      | none => simp only [vstep, hol, hx, q] at h2; simp at h2
      | some d =>
        refine ⟨d, rfl, ?_, fun e => by subst e; rw [hc] at q; cases q; rfl⟩
        rw [List.getElem?_set]
        by_cases e : i = n
        · subst e
          rw [hc] at q; cases q
          rw [if_pos rfl, if_pos (some_lt hc), if_pos rfl]
        · rw [if_neg e, if_neg (fun h => e h.symm), q]
    obtain ⟨d, d1, d2, d3⟩ := hcn
    have own1 : ∀ k : Nat, k = i → d = c → Br.own k (d + 1) = Br.own k d ++ [⟨i, c⟩] := fun k e ed => by
      subst e; subst ed
      have e2 : (d + 1).toNat = d.toNat + 1 := by omega
      simp only [Br.own, e2, List.range_succ, List.map_append, List.map_cons, List.map_nil]
      congr 2
      simp only [Mk.mk.injEq, true_and]; omega
    have last : ∀ (a b : List Mk), V = o ++ [a] → (b = if n = i then a ++ [⟨i, c⟩] else a) → ∀ (k : Nat) (v : List Mk), V[k]? = some v → (w ++ [b])[k]? = some (if k = i then v ++ [⟨i, c⟩] else v) := fun a b hV hb k v hk => by
      subst hV
      rcases Nat.lt_or_ge k n with q | q
      · rw [List.getElem?_append_left (by omega)] at hk ⊢; exact w2 k v hk
      · have hlt := some_lt hk
        simp at hlt
        have : k = n := by omega
        subst this
        rw [List.getElem?_append_right (by omega), hol] at hk
        rw [List.getElem?_append_right (by omega), hwl]
        simp at hk ⊢
        subst hk; exact hb
    have hw3 := vws_succ w1
    simp only [vstep, hol, hx, d1] at h2
    split at h2
    · next h0' =>
      cases h2
      rw [vstep_zero (by omega) (by rw [hwl]; exact hx) (by rw [hwl]; exact d2)] at hw3
      refine ⟨_, hw3, last _ _ rfl ?_⟩
      rw [hwl]
      split
      · next e => exact own1 n e (d3 e)
      · rfl
    · next h0' =>
      obtain ⟨j, j1, j2⟩ := ho.from' n x hx (by omega)
      rw [j2, Int.toNat_natCast] at h2
      cases q : o[j]? with
      | none => rw [q] at h2; simp at h2
      | some f =>
        rw [q] at h2
        simp only at h2
        split at h2
        · simp at h2
        · next hle =>
          cases h2
          have hwj := w2 j f q
          rw [vstep_pos (by omega) (by rw [hwl]; exact hx) (by rw [hwl]; exact d2) j2 hwj] at hw3
          have hat := (ho.good n x hx).2.1
          have hfl : ((if j = i then f ++ [⟨i, c⟩] else f).length : Int) = f.length + if j = i then 1 else 0 := by split <;> simp
          rw [if_neg (by rw [hfl]; split <;> omega)] at hw3
          refine ⟨_, hw3, last _ _ rfl ?_⟩
          rw [hwl]
          have et : (if j = i then f ++ [⟨i, c⟩] else f).take x.at'.toNat = f.take x.at'.toNat := by
            split
            · rw [List.take_append_of_le_length (by omega)]
            · rfl
          rw [et]
          split
          · next e => rw [own1 n e (d3 e), List.append_assoc]
          · rfl
theorem idx_append {p : Br → Bool} {l : List Br} {y : Br} (h : 0 ≤ idx p l) : idx p (l ++ [y]) = idx p l := by
  obtain ⟨i, x, h1, h2, h3⟩ := idx_get h
  rw [h1]
  refine idx_found (x := x) (by rw [List.getElem?_append_left (some_lt h2)]; exact h2) h3 fun j z hz hlt => ?_
  have := some_lt h2
  rw [List.getElem?_append_left (by omega)] at hz
  cases q : p z
  · rfl
  · have := idx_le hz q; omega
theorem idx_new {p : Br → Bool} {l : List Br} {y : Br} (h : idx p l < 0) (hy : p y = true) : idx p (l ++ [y]) = l.length := by
  refine idx_found (x := y) (by rw [List.getElem?_append_right (Nat.le_refl _)]; simp) hy fun j z hz hlt => ?_
  rw [List.getElem?_append_left hlt] at hz
  cases q : p z
  · rfl
  · have := idx_le hz q; omega
theorem idx_neg {α : Type} {p : α → Bool} {l : List α} (h : idx p l < 0) : idx p l = -1 := by
  unfold idx at *
  cases q : l.findIdx? p <;> rw [q] at h <;> simp at h ⊢
  omega
theorem vws_ext {l : List Br} {cs : List Int} {y : Br} {d : Int} (ho : Ok l) (hc : cs.length = l.length) : ∀ n, n ≤ l.length → vws (l ++ [y]) (cs ++ [d]) n = vws l cs n
  | 0, _ => rfl
  | n + 1, hn => by
    simp only [vws, vws_ext ho hc n (by omega)]
    cases q : vws l cs n with
    | none => rfl
    | some o =>
      have hol := vws_len q
      simp only [Option.bind_some, vstep, hol]
      rw [List.getElem?_append_left (by omega), List.getElem?_append_left (by omega)]
      split
      · next b c e1 e2 =>
        split
        · rfl
        · next h0 =>
          obtain ⟨j, j1, j2⟩ := ho.from' n b e1 (by omega)
          rw [idx_append (by omega)]
      · rfl
/-- a table with a branch more is valid -/
theorem check_more {l : List Br} {y : Br} (hk : check l = 0) (h7 : l.length ≠ 8) (hn : isNm y.name = true) (ha : 0 ≤ y.at' ∧ y.at' ≤ 320) (hno : idx (has y.name) l < 0) (hf : 0 ≤ idx (has y.frm) l) : check (l ++ [y]) = 0 := by
  have ho := ok_of hk
  have hlen := ho.len
  have hll : (l ++ [y]).length = l.length + 1 := by simp
  have ht : twice (l ++ [y]) = false := by
    refine anyI_f fun i b hb => decide_eq_false ?_
    rcases Nat.lt_or_ge i l.length with q | q
    · rw [List.getElem?_append_left q] at hb
      rw [idx_append (by rw [ho.name i b hb]; omega), ho.name i b hb]; omega
    · have := some_lt hb
      have : i = l.length := by omega
      subst this
      rw [List.getElem?_append_right (Nat.le_refl _)] at hb
      simp at hb; subst hb
      rw [idx_new hno (by simp [has])]; omega
  have hb : anyI (badAt (l ++ [y])) (l ++ [y]) = false := by
    refine anyI_f fun i b hb => ?_
    rcases Nat.lt_or_ge i l.length with q | q
    · rw [List.getElem?_append_left q] at hb
      have old : badAt l i b = false := by
        simp only [check] at hk
        rw [if_neg (by omega)] at hk
        split at hk
        · omega
        · split at hk
          · omega
          · next h3 =>
            simp only [Bool.or_eq_true, not_or, Bool.not_eq_true] at h3
            exact anyI_no h3.2 hb
      have e : (l ++ [y]).take i = l.take i := List.take_append_of_le_length (by omega)
      simp only [badAt, e] at old ⊢
      exact old
    · have := some_lt hb
      have : i = l.length := by omega
      subst this
      rw [List.getElem?_append_right (Nat.le_refl _)] at hb
      simp at hb; subst hb
      have e : (l ++ [y]).take l.length = l := List.take_left' rfl
      have p0 : ¬ l.length = 0 := by have := ho.pos; omega
      simp only [badAt, badN, e, hn, decide_eq_false p0, Bool.not_true, Bool.false_or, Bool.false_and, Bool.or_false, Bool.or_eq_false_iff, Bool.and_eq_false_iff, decide_eq_false_iff_not]
      exact ⟨⟨by omega, by omega⟩, .inr (by omega)⟩
  have he : (l ++ [y]).isEmpty = false := by cases l <;> rfl
  simp only [check, ht, hb, he]
  rw [if_neg (by omega)]
  simp
/-- what a branch that is cut sees -/
theorem cut_fits {l : List Br} {cs : List Int} {y : Br} {i : Nat} {v : List Mk} (g : Good l cs) (hk : check (l ++ [y]) = 0) (hi : idx (has y.frm) l = i) (hv : (vw l cs)[i]? = some v) (ha : 0 ≤ y.at' ∧ y.at' ≤ v.length) :
    viewR (l ++ [y]) (cs ++ [0]) y.name = (v.take y.at'.toNat, 0) := by
  have hll : (l ++ [y]).length = l.length + 1 := by simp
  have hcl : (cs ++ [(0 : Int)]).length = l.length + 1 := by simp [g.len]
  have e1 := vws_ext (y := y) (d := 0) g.ok g.len l.length (Nat.le_refl _)
  rw [g.some'] at e1
  have hx : (l ++ [y])[(vw l cs).length]? = some y := by rw [g.vlen, List.getElem?_append_right (Nat.le_refl _)]; simp
  have hc : (cs ++ [(0 : Int)])[(vw l cs).length]? = some 0 := by rw [g.vlen, ← g.len, List.getElem?_append_right (Nat.le_refl _)]; simp
  have e2 := vws_succ e1
  rw [vstep_pos (by rw [g.vlen]; exact g.ok.pos) hx hc (by rw [idx_append (by omega)]; exact hi) hv, if_neg (by omega)] at e2
  have hs : vws (l ++ [y]) (cs ++ [0]) (l ++ [y]).length = some (vw l cs ++ [v.take y.at'.toNat ++ Br.own (vw l cs).length 0]) := by rw [hll]; exact e2
  have hw : vw (l ++ [y]) (cs ++ [0]) = vw l cs ++ [v.take y.at'.toNat] := by
    simp only [vw] at hs ⊢
    rw [hs]
    simp [Br.own]
  have hfit : Br.fit (l ++ [y]) (cs ++ [0]) = true := by simp only [Br.fit, hs]; rfl
  have hany : (cs ++ [(0 : Int)]).any badC = false := by
    rw [List.any_append, Bool.or_eq_false_iff]
    refine ⟨?_, rfl⟩
    rw [List.any_eq_false]
    intro c hc
    have := g.cnt c hc
    simp [badC]; omega
  have hf : fits (l ++ [y]) (cs ++ [0]) = 0 := by
    simp only [fits, hfit, hany]
    rw [if_neg (by omega), if_neg (by rw [hcl, hll]; simp)]
    rfl
  have ht := ok_of hk
  have hname := ht.name l.length y (by rw [List.getElem?_append_right (Nat.le_refl _)]; simp)
  simp only [viewR]
  rw [if_neg (by omega), if_neg (by omega), hname, hw]
  simp [List.getD_eq_getElem?_getD, List.getElem?_append_right, g.vlen]
theorem more_fits {l : List Br} {cs : List Int} {i : Nat} {c : Int} (g : Good l cs) (hc : cs[i]? = some c) (h : c + 1 ≤ 40) : fits l (cs.set i (c + 1)) = 0 ∧ ∀ (k : Nat) (v : List Mk), (vw l cs)[k]? = some v → (vw l (cs.set i (c + 1)))[k]? = some (if k = i then v ++ [⟨i, c⟩] else v) := by
  have hc0 := (g.cnt c (List.mem_of_getElem? hc)).1
  obtain ⟨W, w1, w2⟩ := vws_more g.ok hc hc0 l.length _ (Nat.le_refl _) g.some'
  have hw : vw l (cs.set i (c + 1)) = W := by simp [vw, w1]
  refine ⟨?_, by rw [hw]; exact w2⟩
  have hany : (cs.set i (c + 1)).any badC = false := by
    rw [List.any_eq_false]
    intro d hd
    rcases List.mem_or_eq_of_mem_set hd with hd | hd
    · have := g.cnt d hd; simp [badC]; omega
    · subst hd; simp [badC]; omega
  simp only [fits, hany, Br.fit, w1]
  rw [if_neg (by have := g.chk; omega), if_neg (by rw [List.length_set]; simp [g.len])]
  rfl
end Go.AX.Br

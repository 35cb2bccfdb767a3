/- Branches: views, plain. -/
import Derived.Test.YtebkafjebnjcoaaBd
set_option maxHeartbeats 1000000
set_option linter.unusedVariables false
set_option linter.unusedSimpArgs false
set_option maxRecDepth 20000
namespace Go.AX.Br
structure Mk where
  b : Int
  e : Int
  deriving DecidableEq
def mkD (m : Mk) : List D := [.int .i64 m.b, .int .i64 m.e]
def mkA (m : Mk) : AV := .agg [.d (.int .i64 m.b), .d (.int .i64 m.e)]
def vD (v : List Mk) : List D := [.sl (v.map mkD)]
def own (i : Nat) (c : Int) : List Mk := (List.range c.toNat).map fun (k : Nat) => ⟨i, k⟩
def vstep (l : List Br) (cs : List Int) (out : List (List Mk)) : Option (List (List Mk)) :=
  match l[out.length]?, cs[out.length]? with
  | some b, some c => if out.length = 0 then some (out ++ [own out.length c]) else
    match out[(idx (has b.frm) l).toNat]? with
    | some f => if (f.length : Int) < b.at' then none else some (out ++ [f.take b.at'.toNat ++ own out.length c])
    | none => none
  | _, _ => none
def vws (l : List Br) (cs : List Int) : Nat → Option (List (List Mk))
  | 0 => some []
  | n + 1 => (vws l cs n).bind (vstep l cs)
def fit (l : List Br) (cs : List Int) : Bool := (vws l cs l.length).isSome
def vw (l : List Br) (cs : List Int) : List (List Mk) := (vws l cs l.length).getD []
def badC (c : Int) : Bool := decide (c < 0) || decide (40 < c)
def fits (l : List Br) (cs : List Int) : Int := if check l ≠ 0 then check l else if cs.length ≠ l.length ∨ cs.any badC = true then 2 else if fit l cs then 0 else 16
theorem own_len (i : Nat) (c : Int) : (own i c).length = c.toNat := by simp [own]
theorem vws_len {l : List Br} {cs : List Int} : ∀ {n : Nat} {out : List (List Mk)}, vws l cs n = some out → out.length = n
  | 0, out, h => by simp only [vws, Option.some.injEq] at h; subst h; rfl
  | n + 1, out, h => by
    simp only [vws, Option.bind_eq_some_iff] at h
    obtain ⟨o, h1, h2⟩ := h
    have := vws_len h1
    simp only [vstep] at h2
    split at h2
    · split at h2
      · cases h2; simp [this]
      · split at h2
        · split at h2
          · simp at h2
          · cases h2; simp [this]
        · simp at h2
    · simp at h2
/-- a valid table -/
structure Ok (l : List Br) : Prop where
  len : l.length ≤ 8
  pos : 0 < l.length
  name : ∀ (i : Nat) (x : Br), l[i]? = some x → idx (has x.name) l = i
  good : ∀ (i : Nat) (x : Br), l[i]? = some x → isNm x.name = true ∧ 0 ≤ x.at' ∧ x.at' ≤ 320
  root : ∀ (x : Br), l[0]? = some x → x.frm = ⟨#[]⟩ ∧ x.at' = 0
  from' : ∀ (i : Nat) (x : Br), l[i]? = some x → 0 < i → ∃ j : Nat, j < i ∧ idx (has x.frm) l = j
theorem idx_get {α : Type} {p : α → Bool} {l : List α} (h : 0 ≤ idx p l) : ∃ (i : Nat) (x : α), idx p l = i ∧ l[i]? = some x ∧ p x = true := by
  unfold idx at *
  cases q : l.findIdx? p with
  | none => rw [q] at h; simp at h
  | some k =>
    obtain ⟨hk, hp, _⟩ := List.findIdx?_eq_some_iff_getElem.1 q
    exact ⟨k, _, rfl, List.getElem?_eq_getElem hk, hp⟩
theorem idx_take {α : Type} {p : α → Bool} {l : List α} {i : Nat} (h : 0 ≤ idx p (l.take i)) : ∃ j : Nat, j < i ∧ idx p l = j := by
  obtain ⟨j, x, h1, h2, h3⟩ := idx_get h
  have hj : j < i := by have := some_lt h2; rw [List.length_take] at this; omega
  rw [List.getElem?_take_of_lt hj] at h2
  have := idx_le h2 h3
  refine ⟨(idx p l).toNat, by omega, by omega⟩
theorem ok_of {l : List Br} (h : check l = 0) : Ok l := by
  simp only [check] at h
  split at h
  · omega
  · next h1 =>
    split at h
    · omega
    · next h2 =>
      split at h
      · omega
      · next h3 =>
        simp only [Bool.or_eq_true, not_or, Bool.not_eq_true] at h3
        have hb : ∀ (i : Nat) (x : Br), l[i]? = some x → badAt l i x = false := fun i x hx => anyI_no h3.2 hx
        have ht : ∀ (i : Nat) (x : Br), l[i]? = some x → decide (idx (has x.name) l < (i : Int)) = false := fun i x hx => by
          simp only [Bool.not_eq_true, twice] at h2
          exact anyI_no (p := fun i b => decide (idx (has b.name) l < i)) h2 hx
        refine ⟨by omega, ?_, fun i x hx => ?_, fun i x hx => ?_, fun x hx => ?_, fun i x hx h0 => ?_⟩
        · have := h3.1
          cases l with
          | nil => simp at this
          | cons _ _ => simp
        · have h4 := ht i x hx
          simp only [decide_eq_false_iff_not] at h4
          have := idx_le hx (p := has x.name) (by simp [has])
          omega
        · have h4 := hb i x hx
          simp only [badAt, badN, Bool.or_eq_false_iff, decide_eq_false_iff_not, Bool.not_eq_false'] at h4
          exact ⟨h4.1.1.1.1, by omega, by omega⟩
        · have h4 := hb 0 x hx
          simp only [badAt, Bool.or_eq_false_iff, decide_true, Bool.true_and, Bool.not_eq_false', root, Bool.and_eq_true, decide_eq_true_eq, beq_iff_eq] at h4
          exact h4.1.2
        · have h4 := hb i x hx
          simp only [badAt, Bool.or_eq_false_iff] at h4
          have h5 := h4.2
          simp only [h0, decide_true, Bool.true_and, decide_eq_false_iff_not] at h5
          exact idx_take (by omega)
/-- the views of a valid table whose counts fit -/
structure Fit (l : List Br) (cs : List Int) (V : List (List Mk)) : Prop where
  len : V.length ≤ l.length
  zero : ∀ (c : Int) (v : List Mk), cs[0]? = some c → V[0]? = some v → v = own 0 c
  step : ∀ (i : Nat) (b : Br) (c : Int) (v : List Mk), 0 < i → l[i]? = some b → cs[i]? = some c → V[i]? = some v → ∃ (j : Nat) (f : List Mk), j < i ∧ idx (has b.frm) l = j ∧ V[j]? = some f ∧ b.at' ≤ f.length ∧ v = f.take b.at'.toNat ++ own i c
theorem fit_of {l : List Br} {cs : List Int} (ho : Ok l) : ∀ {n : Nat} {V : List (List Mk)}, n ≤ l.length → vws l cs n = some V → Fit l cs V
  | 0, V, _, h => by
    simp only [vws, Option.some.injEq] at h; subst h
    exact ⟨by simp, by simp, by simp⟩
  | n + 1, V, hn, h => by
    simp only [vws, Option.bind_eq_some_iff] at h
    obtain ⟨o, h1, h2⟩ := h
    have hl := vws_len h1
    have ih := fit_of ho (by omega) h1
    simp only [vstep, hl] at h2
    split at h2
    · next b c e1 e2 =>
      have old : ∀ (w : List Mk) (i : Nat), i < n → (o ++ [w])[i]? = o[i]? := fun w i hi => List.getElem?_append_left (by omega)
      have new : ∀ (w : List Mk), (o ++ [w])[n]? = some w := fun w => by rw [List.getElem?_append_right (by omega), hl]; simp
      split at h2
      · next h0 =>
        cases h2
        subst h0
        refine ⟨by simp; omega, fun c' v k1 k2 => ?_, fun i b' c' v hi k1 k2 k3 => ?_⟩
        · rw [new] at k2; cases k2; rw [e2] at k1; cases k1; rfl
        · have := some_lt k3; simp at this; omega
      · next h0 =>
        split at h2
        · next f e3 =>
          split at h2
          · simp at h2
          · next h4 =>
            cases h2
            refine ⟨by simp; omega, fun c' v k1 k2 => ?_, fun i b' c' v hi k1 k2 k3 => ?_⟩
            · rw [old _ 0 (by omega)] at k2; exact ih.zero c' v k1 k2
            · rcases Nat.lt_or_ge i n with q | q
              · rw [old _ i q] at k3
                obtain ⟨j, f', g1, g2, g3, g4, g5⟩ := ih.step i b' c' v hi k1 k2 k3
                exact ⟨j, f', g1, g2, by rw [old _ j (by omega)]; exact g3, g4, g5⟩
              · have hlt := some_lt k3
                simp at hlt
                have : i = n := by omega
                subst this
                rw [new] at k3; cases k3
                rw [e1] at k1; cases k1
                rw [e2] at k2; cases k2
                obtain ⟨j, g1, g2⟩ := ho.from' i b e1 hi
                have : (idx (has b.frm) l).toNat = j := by omega
                rw [this] at e3
                exact ⟨j, f, g1, g2, by rw [old _ j (by omega)]; exact e3, by omega, rfl⟩
        · simp at h2
    · simp at h2
theorem fit_len {l : List Br} {cs : List Int} {V : List (List Mk)} (ho : Ok l) (hf : Fit l cs V) {i : Nat} {b : Br} {c : Int} {v : List Mk} (h1 : l[i]? = some b) (h2 : cs[i]? = some c) (h3 : V[i]? = some v) : v.length = b.at'.toNat + c.toNat := by
  rcases Nat.eq_zero_or_pos i with q | q
  · subst q
    rw [hf.zero c v h2 h3, own_len, (ho.root b h1).2]; simp
  · obtain ⟨j, f, g1, g2, g3, g4, g5⟩ := hf.step i b c v q h1 h2 h3
    have := (ho.good i b h1).2.1
    rw [g5, List.length_append, own_len, List.length_take]; omega
end Go.AX.Br

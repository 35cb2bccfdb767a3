/- AX, part Q: labels renamed; a call as the caller sees it. -/
import Derived.Test.YtnmgmlmiijljmaaAxP
set_option linter.unusedVariables false
set_option linter.unusedSimpArgs false
namespace Go.AX

def Cf.via (c : Cf) (f : Nat → Nat) (k : Nat) : Cf := { c with n := k, ν := fun l => c.ν (f l), u := fun l => c.u (f l) }
mutual
/-- all labels are less than k -/
def bd (k : Nat) : AV → Prop
  | .agg cs => bds k cs
  | .tup cs => bds k cs
  | .own l => l < k
  | .ptr l _ => l < k
  | .rptr l _ _ _ => l < k
  | .mp l => l < k
  | .fn _ caps => bds k caps
  | _ => True
def bds (k : Nat) : List AV → Prop
  | [] => True
  | x :: xs => bd k x ∧ bds k xs
end
def bdO (k : Nat) : AObj → Prop
  | .cells cs => bds k cs
  | _ => True

mutual
theorem AR_via {c : Cf} {f : Nat → Nat} {k : Nat} : ∀ (x : AV) {v : Value}, bd k x → AR c (ren f x) v → AR (c.via f k) x v
  | .any, _, _, _ => by simp [AR]
  | .d x, _, _, e => by simpa [AR, ren, Cf.via] using e
  | .agg cs, _, b, e => by simp only [AR, ren, bd] at *; obtain ⟨vs, e1, e2⟩ := e; exact ⟨vs, e1, ARs_via cs b e2⟩
  | .tup cs, _, b, e => by simp only [AR, ren, bd] at *; obtain ⟨vs, e1, e2⟩ := e; exact ⟨vs, e1, ARs_via cs b e2⟩
  | .own l, _, b, e => by simp only [AR, ren, bd] at *; exact ⟨b, e.2⟩
  | .ptr l o, _, b, e => by simp only [AR, ren, bd] at *; exact ⟨b, e.2⟩
  | .rptr l s i j, _, b, e => by simp only [AR, ren, bd] at *; exact ⟨b, e.2⟩
  | .eptr cs, _, b, e => by simpa [AR, ren, Cf.via] using e
  | .mp l, _, b, e => by simp only [AR, ren, bd] at *; exact ⟨b, e.2⟩
  | .fn g caps, _, b, e => by simp only [AR, ren, bd] at *; obtain ⟨vs, e1, e2⟩ := e; exact ⟨vs, e1, ARs_via caps b e2⟩
  | .nil, _, _, e => by simpa [AR, ren] using e
  | .raw _, _, _, e => by simpa [AR, ren] using e
theorem ARs_via {c : Cf} {f : Nat → Nat} {k : Nat} : ∀ (xs : List AV) {vs : List Value}, bds k xs → ARs c (rens f xs) vs → ARs (c.via f k) xs vs
  | [], vs, _, e => by simp only [rens] at e; rw [ARs_nil_left e]; simp [ARs]
  | x :: xs, vs, b, e => by
    simp only [rens] at e
    simp only [bds] at b
    obtain ⟨v, r, rfl, h1, h2⟩ := ARs_cons_left e
    exact ARs_cons.2 ⟨AR_via x b.1 h1, ARs_via xs b.2 h2⟩
end
/-- c' sees by f what c sees -/
structure Sees (c c' : Cf) (f : Nat → Nat) : Prop where
  w : c'.w = c.w
  h : c'.h = c.h
  n : ∀ l, l < c.n → f l < c'.n
  ν : ∀ l, l < c.n → c'.ν (f l) = c.ν l
  u : ∀ l, l < c.n → c'.u (f l) = c.u l
mutual
theorem AR_sees {c c' : Cf} {f : Nat → Nat} (S : Sees c c' f) : ∀ (x : AV) {v : Value}, AR c x v → AR c' (ren f x) v
  | .any, _, _ => by simp [AR, ren]
  | .d x, _, e => by simpa [AR, ren, S.h] using e
  | .agg cs, _, e => by simp only [AR, ren] at *; obtain ⟨vs, e1, e2⟩ := e; exact ⟨vs, e1, ARs_sees S cs e2⟩
  | .tup cs, _, e => by simp only [AR, ren] at *; obtain ⟨vs, e1, e2⟩ := e; exact ⟨vs, e1, ARs_sees S cs e2⟩
  | .own l, _, e => by simp only [AR, ren] at *; exact ⟨S.n l e.1, by rw [S.u l e.1]; exact e.2.1, e.2.2⟩
  | .ptr l o, _, e => by simp only [AR, ren] at *; exact ⟨S.n l e.1, by rw [S.ν l e.1]; exact e.2⟩
  | .rptr l s i j, _, e => by simp only [AR, ren] at *; exact ⟨S.n l e.1, by rw [S.ν l e.1]; exact e.2⟩
  | .eptr cs, _, e => by simpa [AR, ren, S.h] using e
  | .mp l, _, e => by simp only [AR, ren] at *; exact ⟨S.n l e.1, by rw [S.ν l e.1]; exact e.2⟩
  | .fn g caps, _, e => by simp only [AR, ren] at *; obtain ⟨vs, e1, e2⟩ := e; exact ⟨vs, e1, ARs_sees S caps e2⟩
  | .nil, _, e => by simpa [AR, ren] using e
  | .raw _, _, e => by simpa [AR, ren] using e
theorem ARs_sees {c c' : Cf} {f : Nat → Nat} (S : Sees c c' f) : ∀ (xs : List AV) {vs : List Value}, ARs c xs vs → ARs c' (rens f xs) vs
  | [], vs, e => by rw [ARs_nil_left e]; simp [ARs, rens]
  | x :: xs, vs, e => by
    obtain ⟨v, r, rfl, h1, h2⟩ := ARs_cons_left e
    simp only [rens]
    exact ARs_cons.2 ⟨AR_sees S x h1, ARs_sees S xs h2⟩
end
mutual
theorem ren_congr {f g : Nat → Nat} {k : Nat} (h : ∀ l, l < k → f l = g l) : ∀ x : AV, bd k x → ren f x = ren g x
  | .any, _ => rfl
  | .d x, _ => rfl
  | .agg cs, b => by simp only [ren, bd] at *; rw [rens_congr h cs b]
  | .tup cs, b => by simp only [ren, bd] at *; rw [rens_congr h cs b]
  | .own l, b => by simp only [ren, bd] at *; rw [h l b]
  | .ptr l o, b => by simp only [ren, bd] at *; rw [h l b]
  | .rptr l s i j, b => by simp only [ren, bd] at *; rw [h l b]
  | .eptr cs, _ => rfl
  | .mp l, b => by simp only [ren, bd] at *; rw [h l b]
  | .fn g' caps, b => by simp only [ren, bd] at *; rw [rens_congr h caps b]
  | .nil, _ => rfl
  | .raw _, _ => rfl
theorem rens_congr {f g : Nat → Nat} {k : Nat} (h : ∀ l, l < k → f l = g l) : ∀ xs : List AV, bds k xs → rens f xs = rens g xs
  | [], _ => rfl
  | x :: xs, b => by simp only [rens, bds] at *; rw [ren_congr h x b.1, rens_congr h xs b.2]
end
theorem dv_ren (f : Nat → Nat) (b : Bool) (ds : List D) : ren f (dv b ds) = dv b ds := by
  cases b with
  | false => simp [dv, ren]
  | true =>
    simp only [dv, if_true, ren]
    congr 1
    induction ds with
    | nil => rfl
    | cons d ds ih => simp [rens, ren, ih]
theorem Ents_sees {c c' : Cf} {f : Nat → Nat} (S : Sees c c' f) {ka va : Bool} : ∀ {es : List (List D × List D)} {ms : List MapEntry}, Ents c ka va es ms → Ents c' ka va es ms
  | [], [], _ => by simp [Ents]
  | (k, v) :: es, m :: ms, r => by
    simp only [Ents] at r ⊢
    refine ⟨?_, ?_, Ents_sees S r.2.2⟩
    · have := AR_sees S _ r.1; rwa [dv_ren] at this
    · have := AR_sees S _ r.2.1; rwa [dv_ren] at this
  | [], _ :: _, r => by simp [Ents] at r
  | _ :: _, [], r => by simp [Ents] at r
theorem ObjOk_sees {c c' : Cf} {f : Nat → Nat} (S : Sees c c' f) {l : Nat} (hl : l < c.n) {o : AObj} (h : ObjOk c l o) : ObjOk c' (f l) (renO f o) := by
  have hν := S.ν l hl
  have hu := S.u l hl
  cases o with
  | gone => trivial
  | cells cs => obtain ⟨vs, ty, e1, e2⟩ := h; exact ⟨vs, ty, by rw [S.w, hν]; exact e1, ARs_sees S cs e2⟩
  | row sz es =>
    rcases h with ⟨e1, A, e2⟩ | ⟨cap, vs, ty, e0, e1, e2, e3, e4, e5, e6⟩
    · exact .inl ⟨e1, A, by rw [hu]; exact e2⟩
    · exact .inr ⟨cap, vs, ty, e0, by rw [hu, hν]; exact e1, e2, by rw [S.w, hν]; exact e3, e4, e5, by rw [S.h]; exact e6⟩
  | map ka va es => obtain ⟨ms, ck, e1, e2⟩ := h; exact ⟨ms, ck, by rw [S.w, hν]; exact e1, Ents_sees S e2⟩
  | iter s pos => simp only [ObjOk, renO] at h ⊢; rw [S.w, hν]; exact h
theorem Has_renO {c c' : Cf} {f : Nat → Nat} {l : Nat} (hu : c'.u (f l) = c.u l) {o : AObj} : Has c' (f l) (renO f o) ↔ Has c l o := by cases o <;> simp [Has, renO, hu]

/-! ### what the caller hands over, and what it gets back -/
def at0 (ls : List Nat) (i : Nat) : Nat := ls.getD i 0
def obs (σ : List AObj) : List Nat → List AObj
  | [] => []
  | l :: ls => ob σ l :: obs σ ls
def setAll (σ : List AObj) : List Nat → List AObj → List AObj
  | l :: ls, o :: os => setAll (so σ l o) ls os
  | _, _ => σ
def mapO (f : Nat → Nat) : List AObj → List AObj
  | [] => []
  | o :: os => renO f o :: mapO f os
def bdOs (k : Nat) : List AObj → Prop
  | [] => True
  | o :: os => bdO k o ∧ bdOs k os
/-- the caller's blocks behind a call that was handed those of ls -/
def back (σ : List AObj) (ls : List Nat) (τ : List AObj) : List AObj :=
  setAll σ ls (mapO (rn ls σ.length) (τ.take ls.length)) ++ mapO (rn ls σ.length) (τ.drop ls.length)
theorem mapO_get (f : Nat → Nat) : ∀ (os : List AObj) (i : Nat), (mapO f os)[i]? = (os[i]?).map (renO f)
  | [], i => by simp [mapO]
  | o :: os, 0 => by simp [mapO]
  | o :: os, i + 1 => by simp [mapO, mapO_get f os i]
theorem mapO_length (f : Nat → Nat) : ∀ (os : List AObj), (mapO f os).length = os.length
  | [] => rfl
  | o :: os => by simp [mapO, mapO_length f os]
theorem setAll_length : ∀ (ls : List Nat) (os : List AObj) (σ : List AObj), (setAll σ ls os).length = σ.length
  | [], _, _ => by simp [setAll]
  | _ :: _, [], _ => by simp [setAll]
  | l :: ls, o :: os, σ => by rw [setAll, setAll_length ls os]; simp [so_eq]
theorem setAll_other : ∀ (ls : List Nat) (os : List AObj) (σ : List AObj) (l : Nat), l ∉ ls → (setAll σ ls os)[l]? = σ[l]?
  | [], _, _, _, _ => by simp [setAll]
  | _ :: _, [], _, _, _ => by simp [setAll]
  | k :: ls, o :: os, σ, l, h => by
    simp only [List.mem_cons, not_or] at h
    rw [setAll, setAll_other ls os _ l h.2, so_eq, List.getElem?_set, if_neg (fun e => h.1 e.symm)]
theorem setAll_at : ∀ (ls : List Nat) (os : List AObj) (σ : List AObj) (i : Nat) (o : AObj), ls.Nodup → (∀ l ∈ ls, l < σ.length) → i < ls.length → os[i]? = some o → (setAll σ ls os)[at0 ls i]? = some o
  | [], _, _, i, _, _, _, h, _ => by simp at h
  | _ :: _, [], _, i, _, _, _, _, h => by simp at h
  | k :: ls, o :: os, σ, 0, o', hn, hl, _, h => by
    simp at h; subst h
    simp only [List.nodup_cons] at hn
    simp only [at0, List.getD_cons_zero]
    rw [setAll, setAll_other ls os _ k hn.1, so_eq, List.getElem?_set, if_pos rfl, if_pos (hl k (by simp))]
  | k :: ls, o :: os, σ, i + 1, o', hn, hl, hi, h => by
    simp only [List.nodup_cons] at hn
    have := setAll_at ls os (so σ k o) i o' hn.2 (fun l hl' => by rw [so_eq]; simpa using hl l (by simp [hl'])) (by simpa using hi) (by simpa using h)
    simpa [setAll, at0] using this
theorem obs_get {σ : List AObj} : ∀ (ls : List Nat) (i : Nat), i < ls.length → (obs σ ls)[i]? = some (ob σ (at0 ls i))
  | [], i, h => by simp at h
  | l :: ls, 0, _ => by simp [obs, at0]
  | l :: ls, i + 1, h => by have := obs_get (σ := σ) ls i (by simpa using h); simpa [obs, at0] using this
theorem obs_length {σ : List AObj} : ∀ (ls : List Nat), (obs σ ls).length = ls.length
  | [] => rfl
  | l :: ls => by simp [obs, obs_length ls]
theorem at0_mem {ls : List Nat} {i : Nat} (h : i < ls.length) : at0 ls i ∈ ls := by simp [at0, h]
theorem at0_inj {ls : List Nat} (hn : ls.Nodup) {i j : Nat} (hi : i < ls.length) (hj : j < ls.length) (h : at0 ls i = at0 ls j) : i = j := by
  simp [at0, hi, hj] at h
  have hp := List.pairwise_iff_getElem.1 hn
  rcases Nat.lt_trichotomy i j with q | q | q
  · exact absurd h (hp i j hi hj q)
  · exact q
  · exact absurd h.symm (hp j i hj hi q)
theorem bdO_via {c : Cf} {f : Nat → Nat} {k : Nat} {l : Nat} {o : AObj} (hb : bdO k o) (h : ObjOk c (f l) (renO f o)) : ObjOk (c.via f k) l o := by
  cases o with
  | gone => trivial
  | cells cs => obtain ⟨vs, ty, e1, e2⟩ := h; exact ⟨vs, ty, e1, ARs_via cs hb e2⟩
  | row sz es => exact h
  | map ka va es =>
    obtain ⟨ms, ck, e1, e2⟩ := h
    refine ⟨ms, ck, e1, ?_⟩
    have : ∀ {es : List (List D × List D)} {ms : List MapEntry}, Ents c ka va es ms → Ents (c.via f k) ka va es ms := by
      intro es
      induction es with
      | nil => intro ms r; cases ms <;> simp_all [Ents]
      | cons x es ih =>
        intro ms r
        obtain ⟨k1, v1⟩ := x
        cases ms with
        | nil => simp [Ents] at r
        | cons m ms =>
          simp only [Ents] at r ⊢
          have bdv : ∀ (b : Bool) (ds : List D), bd k (dv b ds) := fun b ds => by
            cases b with
            | false => simp [dv, bd]
            | true =>
              simp only [dv, if_true, bd]
              induction ds with
              | nil => trivial
              | cons d ds ih => exact ⟨by simp [bd], ih⟩
          exact ⟨AR_via _ (bdv _ _) (by rw [dv_ren]; exact r.1), AR_via _ (bdv _ _) (by rw [dv_ren]; exact r.2.1), ih r.2.2⟩
    exact this e2
  | iter s pos => exact h
theorem bdOs_get {k : Nat} : ∀ {os : List AObj} {i : Nat} {o : AObj}, bdOs k os → os[i]? = some o → bdO k o
  | [], i, o, _, h => by simp at h
  | x :: xs, 0, o, b, h => by simp at h; subst h; exact b.1
  | x :: xs, i + 1, o, b, h => by simp at h; exact bdOs_get b.2 h

/-- THE CALL: in the callee's eyes, and back in the caller's. -/
theorem call_frame {c : Cf} {σ σ0 σ1 : List AObj} {ls : List Nat} (H : Holds c σ) (hn : ls.Nodup) (hl : ∀ l ∈ ls, l < σ.length) (hs : obs σ ls = mapO (at0 ls) σ0) (hb : bdOs ls.length σ0) :
    Holds (c.via (at0 ls) ls.length) σ0 ∧ ∀ c1 : Cf, Nxt (c.via (at0 ls) ls.length) σ0 c1 σ1 →
      ∃ c2 : Cf, c2.w = c1.w ∧ Sees c1 c2 (rn ls σ.length) ∧ Nxt c σ c2 (back σ ls σ1) := by
  have hlen0 : σ0.length = ls.length := by
    have := congrArg List.length hs
    rw [obs_length, mapO_length] at this
    exact this.symm
  have hget : ∀ i o, σ0[i]? = some o → i < ls.length ∧ ob σ (at0 ls i) = renO (at0 ls) o := fun i o h => by
    have hi : i < ls.length := by rw [← hlen0]; exact some_lt h
    refine ⟨hi, ?_⟩
    have h1 := obs_get (σ := σ) ls i hi
    rw [hs, mapO_get, h] at h1
    simpa using h1.symm
  have hlt : ∀ i, i < ls.length → at0 ls i < σ.length := fun i hi => hl _ (at0_mem hi)
  have hsome : ∀ i o, σ0[i]? = some o → σ[at0 ls i]? = some (renO (at0 ls) o) := fun i o h => by
    obtain ⟨hi, e⟩ := hget i o h
    rw [ob_eq] at e
    have := hlt i hi
    rw [List.getElem?_eq_getElem this] at e ⊢
    simpa using e
  have hhas : ∀ i o, Has (c.via (at0 ls) ls.length) i o ↔ Has c (at0 ls i) (renO (at0 ls) o) := fun i o => by
    cases o <;> simp [Has, renO, Cf.via]
  have H0 : Holds (c.via (at0 ls) ls.length) σ0 := by
    refine ⟨hlen0.symm, H.snap, ?_, ?_, ?_, ?_⟩
    · intro i o h
      exact bdO_via (bdOs_get hb h) (H.obj _ _ (hsome i o h))
    · intro i o j o' h h' g g' hne
      exact H.sep _ _ _ _ (hsome i o h) (hsome j o' h') ((hhas i o).1 g) ((hhas j o').1 g') (fun e => hne (at0_inj hn (hget i o h).1 (hget j o' h').1 e))
    · intro i o h g k
      exact H.apart _ _ (hsome i o h) ((hhas i o).1 g) k
    · intro i o h g
      exact H.lt _ _ (hsome i o h) ((hhas i o).1 g)
  refine ⟨H0, fun c1 N => ?_⟩
  have hn1 : c1.n = σ1.length := N.hold.n
  have hk1 : ls.length ≤ σ1.length := by rw [← hn1]; exact N.le.n
  have hcn : c.n = σ.length := H.n
  let c2 : Cf := { w := c1.w, h := c1.h, n := σ.length + (σ1.length - ls.length), ν := fun l => if l < σ.length then c.ν l else c1.ν (l - σ.length + ls.length), u := fun l => if l < σ.length then c.u l else c1.u (l - σ.length + ls.length) }
  have hνlow : ∀ i, i < ls.length → c1.ν i = c.ν (at0 ls i) := fun i hi => N.le.ν i hi
  have hulow : ∀ i, i < ls.length → c1.u i = c.u (at0 ls i) := fun i hi => N.le.u i hi
  have S : Sees c1 c2 (rn ls σ.length) := by
    refine ⟨rfl, rfl, fun l hl1 => ?_, fun l hl1 => ?_, fun l hl1 => ?_⟩
    · rw [hn1] at hl1
      show rn ls σ.length l < σ.length + (σ1.length - ls.length)
      unfold rn
      split
      · next q => have := hlt l q; unfold at0 at this; omega
      · omega
    · rw [hn1] at hl1
      show (if rn ls σ.length l < σ.length then c.ν (rn ls σ.length l) else c1.ν (rn ls σ.length l - σ.length + ls.length)) = c1.ν l
      unfold rn
      by_cases q : l < ls.length
      · have := hlt l q
        unfold at0 at this
        simp only [q, if_true, this]
        exact (hνlow l q).symm
      · simp only [q, if_false]
        rw [if_neg (by omega)]
        congr 1; omega
    · rw [hn1] at hl1
      show (if rn ls σ.length l < σ.length then c.u (rn ls σ.length l) else c1.u (rn ls σ.length l - σ.length + ls.length)) = c1.u l
      unfold rn
      by_cases q : l < ls.length
      · have := hlt l q
        unfold at0 at this
        simp only [q, if_true, this]
        exact (hulow l q).symm
      · simp only [q, if_false]
        rw [if_neg (by omega)]
        congr 1; omega
  have le2 : c.Le c2 := by
    refine ⟨N.le.h, ?_, fun l hl1 => ?_, fun l hl1 => ?_⟩
    · show c.n ≤ σ.length + _; omega
    · show (if l < σ.length then c.ν l else _) = _; rw [if_pos (by omega)]
    · show (if l < σ.length then c.u l else _) = _; rw [if_pos (by omega)]
  -- each block of the caller's, behind the call: untouched, or one of the callee's
  have split : ∀ l o, (back σ ls σ1)[l]? = some o → (l ∉ ls ∧ l < σ.length ∧ σ[l]? = some o) ∨ ∃ i o', i < c1.n ∧ l = rn ls σ.length i ∧ σ1[i]? = some o' ∧ o = renO (rn ls σ.length) o' := fun l o h => by
    unfold back at h
    rcases Nat.lt_or_ge l σ.length with q | q
    · rw [List.getElem?_append_left (by rw [setAll_length]; exact q)] at h
      by_cases hm : l ∈ ls
      · obtain ⟨i, hi, e⟩ := List.getElem_of_mem hm
        have hat : at0 ls i = l := by simp [at0, hi, e]
        have hi1 : i < σ1.length := by omega
        have := setAll_at ls (mapO (rn ls σ.length) (σ1.take ls.length)) σ i (renO (rn ls σ.length) σ1[i]) hn hl hi (by rw [mapO_get, List.getElem?_take, if_pos hi, List.getElem?_eq_getElem hi1]; rfl)
        rw [hat, h] at this
        refine .inr ⟨i, σ1[i], by omega, by simp [rn, hi]; exact e.symm, by simp [hi1], by simpa using this⟩
      · rw [setAll_other _ _ _ _ hm] at h; exact .inl ⟨hm, q, h⟩
    · rw [List.getElem?_append_right (by rw [setAll_length]; exact q), setAll_length, mapO_get, List.getElem?_drop] at h
      cases e : σ1[ls.length + (l - σ.length)]? with
      | none => rw [e] at h; simp at h
      | some o' =>
        rw [e] at h
        simp at h
        have := some_lt e
        exact .inr ⟨ls.length + (l - σ.length), o', by omega, by unfold rn; rw [if_neg (by omega)]; omega, e, h.symm⟩
  have has2 : ∀ i o', i < c1.n → (Has c2 (rn ls σ.length i) (renO (rn ls σ.length) o') ↔ Has c1 i o') := fun i o' hi => Has_renO (S.u i hi)
  have hasU : ∀ l o, l < σ.length → (Has c2 l o ↔ Has c l o) := fun l o hl1 => Has.congr (le2.u l (by omega))
  have fpvia : ∀ b, Fp (c.via (at0 ls) ls.length) σ0 b → ∃ l o, l ∈ ls ∧ σ[l]? = some o ∧ Has c l o ∧ c.ν l = b := fun b ⟨i, o, h, g, e⟩ =>
    ⟨at0 ls i, _, at0_mem (hget i o h).1, hsome i o h, (hhas i o).1 g, e⟩
  have untouched : ∀ l o, l ∉ ls → σ[l]? = some o → Has c l o → ¬ Fp (c.via (at0 ls) ls.length) σ0 (c.ν l) := fun l o hm h g hf => by
    obtain ⟨l', o', hm', h', g', e⟩ := fpvia _ hf
    exact H.sep l o l' o' h h' g g' (fun q => hm (q ▸ hm')) e.symm
  refine ⟨c2, rfl, S, le2, ⟨?_, N.hold.snap, ?_, ?_, ?_, ?_⟩, N.os, N.tape, N.output, N.size, ?_, ?_, ?_⟩
  · show σ.length + (σ1.length - ls.length) = (back σ ls σ1).length
    simp [back, setAll_length, mapO_length]
  · intro l o h
    rcases split l o h with ⟨hm, hl1, e⟩ | ⟨i, o', hi, rfl, e, rfl⟩
    · exact ObjOk.mono le2 (by omega) (fun g => N.kept _ (H.lt l o e g) (untouched l o hm e g)) (H.obj l o e)
    · exact ObjOk_sees S hi (N.hold.obj i o' e)
  · intro l o l' o' h h' g g' hne
    rcases split l o h with ⟨hm, hl1, e⟩ | ⟨i, p, hi, rfl, e, rfl⟩
    · have g1 := (hasU l o hl1).1 g
      rcases split l' o' h' with ⟨hm', hl1', e'⟩ | ⟨i', p', hi', rfl, e', rfl⟩
      · have g1' := (hasU l' o' hl1').1 g'
        rw [le2.ν l (by omega), le2.ν l' (by omega)]; exact H.sep l o l' o' e e' g1 g1' hne
      · rw [le2.ν l (by omega), S.ν i' hi']
        intro q
        rcases N.fp (c1.ν i') ⟨i', p', e', (has2 i' p' hi').1 g', rfl⟩ with r | r
        · rw [← q] at r; exact untouched l o hm e g1 r
        · have := H.lt l o e g1; rw [q] at this; exact absurd r (Nat.not_le_of_lt this)
    · rcases split l' o' h' with ⟨hm', hl1', e'⟩ | ⟨i', p', hi', rfl, e', rfl⟩
      · have g1' := (hasU l' o' hl1').1 g'
        rw [le2.ν l' (by omega), S.ν i hi]
        intro q
        rcases N.fp (c1.ν i) ⟨i, p, e, (has2 i p hi).1 g, rfl⟩ with r | r
        · rw [q] at r; exact untouched l' o' hm' e' g1' r
        · have := H.lt l' o' e' g1'; rw [← q] at this; exact absurd r (Nat.not_le_of_lt this)
      · rw [S.ν i hi, S.ν i' hi']
        exact N.hold.sep i p i' p' e e' ((has2 i p hi).1 g) ((has2 i' p' hi').1 g') (fun q => hne (by rw [q]))
  · intro l o h g k
    rcases split l o h with ⟨hm, hl1, e⟩ | ⟨i, p, hi, rfl, e, rfl⟩
    · have g1 := (hasU l o hl1).1 g
      rw [le2.ν l (by omega)]
      show c1.h (c.ν l) k = none
      by_cases q : c1.h (c.ν l) k = c.h (c.ν l) k
      · rw [q]; exact H.apart l o e g1 k
      · exfalso
        rcases N.hn (c.ν l) k q with r | r
        · exact untouched l o hm e g1 r
        · have := H.lt l o e g1; exact absurd r (Nat.not_le_of_lt this)
    · rw [S.ν i hi]; exact N.hold.apart i p e ((has2 i p hi).1 g) k
  · intro l o h g
    rcases split l o h with ⟨hm, hl1, e⟩ | ⟨i, p, hi, rfl, e, rfl⟩
    · rw [le2.ν l (by omega)]
      exact Nat.lt_of_lt_of_le (H.lt l o e ((hasU l o hl1).1 g)) N.size
    · rw [S.ν i hi]; exact N.hold.lt i p e ((has2 i p hi).1 g)
  · intro b hb1 hf
    refine N.kept b hb1 fun q => hf ?_
    obtain ⟨l, o, _, h, g, e⟩ := fpvia b q
    exact ⟨l, o, h, g, e⟩
  · rintro b ⟨l, o, h, g, rfl⟩
    rcases split l o h with ⟨hm, hl1, e⟩ | ⟨i, p, hi, rfl, e, rfl⟩
    · rw [le2.ν l (by omega)]; exact .inl ⟨l, o, e, (hasU l o hl1).1 g, rfl⟩
    · rw [S.ν i hi]
      rcases N.fp _ ⟨i, p, e, (has2 i p hi).1 g, rfl⟩ with r | r
      · obtain ⟨l, o, _, h, g, e⟩ := fpvia _ r; exact .inl ⟨l, o, h, g, e⟩
      · exact .inr r
  · intro b k hbk
    rcases N.hn b k hbk with r | r
    · obtain ⟨l, o, _, h, g, e⟩ := fpvia b r; exact .inl ⟨l, o, h, g, e⟩
    · exact .inr r
end Go.AX

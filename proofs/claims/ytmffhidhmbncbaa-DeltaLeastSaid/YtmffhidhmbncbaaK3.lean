/- AX, part T: what was known, said with less; loops; calls. -/
import Derived.Test.YtmffhidhmbncbaaK2
import Derived.IntWalk
import Derived.Orders
set_option linter.unusedVariables false
set_option linter.unusedSimpArgs false
namespace Go.AX

def wkE : List AV → List AV → Prop
  | [], [] => True
  | _ :: xs, .any :: ys => wkE xs ys
  | x :: xs, y :: ys => x = y ∧ wkE xs ys
  | _, _ => False
theorem wkE_sound {c : Cf} : ∀ {xs ys : List AV} {vs : List Value}, wkE xs ys → ARs c xs vs → ARs c ys vs
  | [], [], _, _, h => h
  | [], _ :: _, _, h, _ => by simp [wkE] at h
  | _ :: _, [], _, h, _ => by simp [wkE] at h
  | x :: xs, y :: ys, vs, h, r => by
    obtain ⟨v, r', rfl, h1, h2⟩ := ARs_cons_left r
    by_cases e : y = .any
    · subst e
      simp only [wkE] at h
      exact ARs_cons.2 ⟨by simp [AR], wkE_sound h h2⟩
    · have h' : x = y ∧ wkE xs ys := by cases y <;> simp_all [wkE]
      exact ARs_cons.2 ⟨h'.1 ▸ h1, wkE_sound h'.2 h2⟩
theorem Wk.sub {n0 : Nat} {xs ys : List AV} {σ : List AObj} (h : wkE xs ys) : Wk n0 xs σ ys σ :=
  fun c vs H hn r => ⟨c, rfl, hn, fun _ _ => ⟨rfl, rfl⟩, fun _ _ _ h => h, H, wkE_sound h r, fun _ h => h, fun _ _ h => absurd rfl h⟩
/-- what is known of an object, with less -/
def wkO : AObj → AObj → Prop
  | _, .gone => True
  | .cells xs, .cells ys => wkE xs ys
  | x, y => x = y
def wkOs : List AObj → List AObj → Prop
  | [], [] => True
  | x :: xs, y :: ys => wkO x y ∧ wkOs xs ys
  | _, _ => False
theorem wkE_refl : ∀ cs : List AV, wkE cs cs
  | [] => trivial
  | c :: cs => by have := wkE_refl cs; cases c <;> simp_all [wkE]
theorem wkO_refl (x : AObj) : wkO x x := by cases x <;> simp [wkO, wkE_refl]
theorem wkO_ok {c : Cf} {l : Nat} {x y : AObj} (h : wkO x y) (k : ObjOk c l x) : ObjOk c l y := by
  by_cases e : y = .gone
  · subst e; trivial
  by_cases e2 : x = y
  · exact e2 ▸ k
  cases y <;> cases x <;> simp only [wkO] at h <;> first | exact absurd rfl e | exact absurd h e2 | skip
  obtain ⟨vs, ty, e1, e2⟩ := k
  exact ⟨vs, ty, e1, wkE_sound h e2⟩
theorem wkO_has {c : Cf} {l : Nat} {x y : AObj} (h : wkO x y) (k : Has c l y) : Has c l x := by
  cases y <;> cases x <;> simp only [wkO] at h <;> first | (exact k.elim) | trivial | (simp at h; done) | (cases h; exact k)
theorem wkOs_get : ∀ {xs ys : List AObj} {i : Nat} {y : AObj}, wkOs xs ys → ys[i]? = some y → ∃ x, xs[i]? = some x ∧ wkO x y
  | [], [], i, y, _, h => by simp at h
  | [], _ :: _, _, _, h, _ => by simp [wkOs] at h
  | _ :: _, [], _, _, h, _ => by simp [wkOs] at h
  | x :: xs, y :: ys, 0, z, h, e => by simp at e; subst e; exact ⟨x, rfl, h.1⟩
  | x :: xs, y :: ys, i + 1, z, h, e => by simp at e; simpa using wkOs_get h.2 e
theorem wkOs_len : ∀ {xs ys : List AObj}, wkOs xs ys → xs.length = ys.length
  | [], [], _ => rfl
  | [], _ :: _, h => by simp [wkOs] at h
  | _ :: _, [], h => by simp [wkOs] at h
  | x :: xs, y :: ys, h => by simp [wkOs_len h.2]
theorem Wk.subO {n0 : Nat} {xs : List AV} {σ τ : List AObj} (h : wkOs σ τ) : Wk n0 xs σ xs τ := fun c vs H hn r => by
  refine ⟨c, rfl, hn, fun _ _ => ⟨rfl, rfl⟩, fun _ _ _ h => h, ⟨by rw [H.n, wkOs_len h], H.snap, ?_, ?_, ?_, ?_⟩, r, ?_, fun _ _ h => absurd rfl h⟩
  · intro l o e; obtain ⟨x, e1, e2⟩ := wkOs_get h e; exact wkO_ok e2 (H.obj l x e1)
  · intro l o l' o' e e' g g' hne
    obtain ⟨x, e1, e2⟩ := wkOs_get h e
    obtain ⟨x', e1', e2'⟩ := wkOs_get h e'
    exact H.sep _ _ _ _ e1 e1' (wkO_has e2 g) (wkO_has e2' g') hne
  · intro l o e g k; obtain ⟨x, e1, e2⟩ := wkOs_get h e; exact H.apart _ _ e1 (wkO_has e2 g) k
  · intro l o e g; obtain ⟨x, e1, e2⟩ := wkOs_get h e; exact H.lt _ _ e1 (wkO_has e2 g)
  · rintro b ⟨l, o, e, g, q⟩; obtain ⟨x, e1, e2⟩ := wkOs_get h e; exact ⟨l, x, e1, wkO_has e2 g, q⟩
/-- other labels; what has none is forgotten -/
theorem Wk.via {n0 : Nat} {xs ys : List AV} {σ τ : List AObj} (ls : List Nat) (h1 : wkE xs (rens (at0 ls) ys)) (h2 : bds ls.length ys) (h3 : ls.Nodup) (h4 : ∀ l ∈ ls, l < σ.length)
    (h5 : wkOs (obs σ ls) (mapO (at0 ls) τ)) (h6 : bdOs ls.length τ) (h7 : n0 ≤ ls.length) (h8 : ∀ i, i < n0 → at0 ls i = i) : Wk n0 xs σ ys τ := by
  refine Wk.trans (Wk.sub h1) ?_
  have key : ∀ (σ : List AObj), (∀ l ∈ ls, l < σ.length) → obs σ ls = mapO (at0 ls) τ → Wk n0 (rens (at0 ls) ys) σ ys τ := fun σ h4 h5 c vs H hn r => by
    have H0 := (call_frame (σ1 := []) H h3 h4 h5 h6).1
    refine ⟨c.via (at0 ls) ls.length, rfl, h7, fun l hl => ⟨by simp [Cf.via, h8 l hl], by simp [Cf.via, h8 l hl]⟩, fun _ _ _ h => h, H0, ARs_via ys h2 r, ?_, fun _ _ h => absurd rfl h⟩
    rintro b ⟨i, o, e, g, q⟩
    have hi : i < ls.length := by
      have := some_lt e
      have hl := congrArg List.length h5
      rw [obs_length, mapO_length] at hl
      omega
    have e2 := obs_get (σ := σ) ls i hi
    rw [h5, mapO_get, e] at e2
    simp only [Option.map_some, Option.some.injEq] at e2
    have hlt := h4 _ (at0_mem hi)
    refine ⟨at0 ls i, renO (at0 ls) o, ?_, ?_, q⟩
    · rw [ob_eq, List.getElem?_eq_getElem hlt] at e2
      rw [List.getElem?_eq_getElem hlt]
      simpa using e2.symm
    · cases o <;> first | exact g | trivial
  -- the objects with less, at their old labels
  let σ2 : List AObj := (List.range σ.length).map fun l => if l ∈ ls then (mapO (at0 ls) τ).getD (ls.idxOf l) .gone else ob σ l
  have hσ2 : wkOs σ σ2 := by
    have hget : ∀ (l : Nat) (x : AObj), σ[l]? = some x → wkO x (if l ∈ ls then (mapO (at0 ls) τ).getD (ls.idxOf l) .gone else ob σ l) := fun l x hx => by
      have hob : ob σ l = x := by rw [ob_eq, hx]; rfl
      split
      · next hm =>
        have hi : ls.idxOf l < ls.length := List.idxOf_lt_length_iff.2 hm
        have ha : at0 ls (ls.idxOf l) = l := by simp [at0, hi]
        cases q : (mapO (at0 ls) τ)[ls.idxOf l]? with
        | none => simp [List.getD_eq_getElem?_getD, q, wkO]
        | some y =>
          obtain ⟨x', e1, e2⟩ := wkOs_get h5 q
          rw [obs_get ls _ hi, ha, hob] at e1
          simp at e1; subst e1
          simpa [List.getD_eq_getElem?_getD, q] using e2
      · rw [hob]; exact wkO_refl x
    have gen : ∀ (xs : List AObj) (f : Nat → AObj), (∀ l x, xs[l]? = some x → wkO x (f l)) → wkOs xs ((List.range xs.length).map f) := by
      intro xs
      induction xs with
      | nil => intro f _; trivial
      | cons x xs ih =>
        intro f hf
        rw [List.length_cons, List.range_succ_eq_map, List.map_cons, List.map_map]
        exact ⟨hf 0 x rfl, ih (f ∘ Nat.succ) fun l y hy => hf (l + 1) y (by simpa using hy)⟩
    exact gen σ _ hget
  refine Wk.trans (Wk.subO hσ2) (key σ2 (fun l hl => by simpa [σ2] using h4 l hl) ?_)
  have hlen := wkOs_len h5
  rw [obs_length, mapO_length] at hlen
  refine List.ext_getElem? fun i => ?_
  rcases Nat.lt_or_ge i ls.length with hi | hi
  · rw [obs_get ls i hi]
    have hlt := h4 _ (at0_mem hi)
    have hidx : ls.idxOf (at0 ls i) = i := by
      have : at0 ls i = ls[i] := by simp [at0, hi]
      rw [this]; exact List.Nodup.idxOf_getElem h3 i hi
    have : ob σ2 (at0 ls i) = (mapO (at0 ls) τ).getD i .gone := by
      rw [ob_eq]
      simp only [σ2, List.getElem?_map, List.getElem?_range hlt, Option.map_some, Option.getD_some, if_pos (at0_mem hi), hidx]
    rw [this, mapO_get]
    have hi' : i < τ.length := by omega
    simp [List.getD_eq_getElem?_getD, mapO_get, List.getElem?_eq_getElem hi']
  · rw [List.getElem?_eq_none (by rw [obs_length]; exact hi), List.getElem?_eq_none (by rw [mapO_length]; omega)]
-- a row of the call's own, as data
mutual
def sb (l : Nat) (d : D) : AV → AV
  | .own k => if k = l then .d d else .own k
  | .agg cs => .agg (sbs l d cs)
  | .tup cs => .tup (sbs l d cs)
  | .fn g caps => .fn g (sbs l d caps)
  | x => x
def sbs (l : Nat) (d : D) : List AV → List AV
  | [] => []
  | x :: xs => sb l d x :: sbs l d xs
end
mutual
theorem AR_sb {c c' : Cf} {l : Nat} {d : D} (L : c.Le c') (h : ∀ v, AR c (.own l) v → DR c'.h d v) : ∀ (x : AV) {v : Value}, AR c x v → AR c' (sb l d x) v
  | .own k, v, e => by
    simp only [sb]
    split
    · next q => subst q; simp only [AR]; exact h v e
    · exact AR.mono L _ e
  | .agg cs, v, e => by simp only [AR, sb] at e ⊢; obtain ⟨vs, e1, e2⟩ := e; exact ⟨vs, e1, ARs_sb L h cs e2⟩
  | .tup cs, v, e => by simp only [AR, sb] at e ⊢; obtain ⟨vs, e1, e2⟩ := e; exact ⟨vs, e1, ARs_sb L h cs e2⟩
  | .fn g cs, v, e => by simp only [AR, sb] at e ⊢; obtain ⟨vs, e1, e2⟩ := e; exact ⟨vs, e1, ARs_sb L h cs e2⟩
  | .any, _, e => AR.mono L _ e
  | .d _, _, e => AR.mono L _ e
  | .ptr _ _, _, e => AR.mono L _ e
  | .rptr _ _ _ _, _, e => AR.mono L _ e
  | .eptr _, _, e => AR.mono L _ e
  | .mp _, _, e => AR.mono L _ e
  | .nil, _, e => AR.mono L _ e
  | .raw _, _, e => AR.mono L _ e
  | .osl _ _ _ _, _, e => AR.mono L _ e
theorem ARs_sb {c c' : Cf} {l : Nat} {d : D} (L : c.Le c') (h : ∀ v, AR c (.own l) v → DR c'.h d v) : ∀ (xs : List AV) {vs : List Value}, ARs c xs vs → ARs c' (sbs l d xs) vs
  | [], vs, e => by rw [ARs_nil_left e]; simp [sbs, ARs]
  | x :: xs, vs, e => by
    obtain ⟨v, r, rfl, h1, h2⟩ := ARs_cons_left e
    simp only [sbs]
    exact ARs_cons.2 ⟨AR_sb L h x h1, ARs_sb L h xs h2⟩
end
theorem Wk.frz {n0 : Nat} {xs : List AV} {σ : List AObj} (l : Nat) {sz : Nat} {es : List (List D)} (hl : σ[l]? = some (.row sz es)) : Wk n0 xs σ (sbs l (.sl es) xs) (σ.set l .gone) := fun c vs H hn r => by
  have hlt := some_lt hl
  rcases H.obj l _ hl with ⟨rfl, A, e⟩ | hb
  · have N := Nxt.drop H l
    refine ⟨c, rfl, hn, fun _ _ => ⟨rfl, rfl⟩, fun _ _ _ h => h, N.hold, ARs_sb (.refl c) (fun v hv => ?_) xs r, ?_, fun _ _ h => absurd rfl h⟩
    · simp only [AR] at hv
      rw [hv.2.1, e]; simp only [DR]
      exact ⟨A, 0, 0, rfl, Nat.le_refl _, fun h => absurd rfl h, by simp, by simp [DRows]⟩
    · rintro b ⟨k, o, e1, g, q⟩
      rw [List.getElem?_set] at e1
      split at e1
      · next q => subst q; cases e1; exact g.elim
      · exact ⟨k, o, e1, g, q⟩
  · have hb' := hb
    obtain ⟨cap, ws, ty, h0, h1, _⟩ := hb'
    have hh : Has c l (.row sz es) := ⟨_, _, _, h1, h0⟩
    have N := Nxt.froze H hl hh
    have hd := hb.data H.snap
    refine ⟨c.froze (c.ν l), rfl, hn, fun _ _ => ⟨rfl, rfl⟩, N.le.h, N.hold, ARs_sb N.le (fun v hv => ?_) xs r, ?_, fun b o h => ?_⟩
    · simp only [AR] at hv
      rw [hv.2.1]; exact hd
    · rintro b ⟨k, o, e1, g, q⟩
      rw [List.getElem?_set] at e1
      split at e1
      · next q => subst q; cases e1; exact g.elim
      · exact ⟨k, o, e1, (Has.congr rfl).1 g, q⟩
    · by_cases q : b = c.ν l
      · exact ⟨l, _, hl, hh, q.symm⟩
      · exact absurd (by simp [Cf.froze, q]) h
/-- an empty slice, as a row of the call's own -/
theorem Wk.nil {n0 : Nat} {xs : List AV} {σ : List AObj} (i sz : Nat) (hi : xs[i]? = some .nil) : Wk n0 xs σ (st xs i (.own σ.length)) (σ ++ [.row sz []]) := fun c vs H hn r => by
  obtain ⟨v, hv, ha⟩ := ARs_get r i hi
  simp only [AR] at ha
  obtain ⟨A, rfl⟩ := ha
  have hno : ¬ Has (c.put c.w 0 (.slice A 0 0)) c.n (.row sz []) := by
    rintro ⟨a, n, cap, e, h0⟩
    simp [Cf.put] at e
    omega
  have N := Nxt.bare H (.slice A 0 0) (.row sz []) (.inl ⟨rfl, A, by simp [Cf.put]⟩) hno
  refine ⟨c.put c.w 0 (.slice A 0 0), rfl, Nat.le_trans hn N.le.n, fun l hl => ⟨N.le.ν l (Nat.lt_of_lt_of_le hl hn), N.le.u l (Nat.lt_of_lt_of_le hl hn)⟩, N.le.h, N.hold, ?_, ?_, fun b o h => absurd rfl h⟩
  · refine ARs_st_same (ARs.mono N.le _ r) i hv ?_
    simp only [AR]
    rw [← H.n]
    exact ⟨by simp [Cf.put], by simp [Cf.put], _, _, _, rfl⟩
  · rintro b ⟨k, o, e1, g, q⟩
    rcases Nat.lt_or_ge k σ.length with hk | hk
    · rw [List.getElem?_append_left hk] at e1
      have hkn : k < c.n := by rw [H.n]; exact hk
      exact ⟨k, o, e1, (Has.congr (N.le.u k hkn)).1 g, by rw [← q]; exact (N.le.ν k hkn).symm⟩
    · rw [List.getElem?_append_right hk] at e1
      rcases Nat.eq_or_lt_of_le hk with e | e
      · subst e; simp at e1; subst e1; rw [← H.n] at g; exact absurd g hno
      · rw [List.getElem?_eq_none (by simp; omega)] at e1; simp at e1

/-- what is known turns, the world does not -/
theorem Wk.ofNxt {n0 : Nat} {xs ys : List AV} {σ τ : List AObj} (h : ∀ (c : Cf) (vs : List Value), Holds c σ → ARs c xs vs → ∃ c', c'.w = c.w ∧ Nxt c σ c' τ ∧ ARs c' ys vs) : Wk n0 xs σ ys τ := fun c vs H hn r => by
  obtain ⟨c', w, N, a⟩ := h c vs H r
  refine ⟨c', w, Nat.le_trans hn N.le.n, fun l hl => ⟨N.le.ν l (Nat.lt_of_lt_of_le hl hn), N.le.u l (Nat.lt_of_lt_of_le hl hn)⟩, N.le.h, N.hold, a, fun b hb => ?_, fun b o hb => ?_⟩
  · rcases N.fp b hb with q | q
    · exact q
    · obtain ⟨l, o, e, g, rfl⟩ := hb
      have := N.hold.lt l o e g
      rw [w] at this
      omega
  · rcases N.hn b o hb with q | q
    · exact q
    · exfalso
      cases e1 : c.h b o with
      | some v => have := cell_lt (H.snap b o v e1); simp at this; omega
      | none =>
        cases e2 : c'.h b o with
        | some v => have := cell_lt (N.hold.snap b o v e2); simp at this; rw [w] at this; omega
        | none => exact hb (by rw [e1, e2])
/-- an object without a block, said otherwise -/
theorem Nxt.retype {c : Cf} {σ : List AObj} (H : Holds c σ) {l : Nat} {o' : AObj} (hno : ¬ Has c l o') (hok : ObjOk c l o') : Nxt c σ c (σ.set l o') := by
  have key : ∀ (k : Nat) (o : AObj), (σ.set l o')[k]? = some o → (k = l ∧ o = o') ∨ σ[k]? = some o := by
    intro k o hk
    rw [List.getElem?_set] at hk
    split at hk
    · next q =>
      subst q
      split at hk
      · simp at hk; exact .inl ⟨rfl, hk.symm⟩
      · simp at hk
    · exact .inr hk
  refine ⟨.refl c, ⟨by rw [H.n, List.length_set], H.snap, ?_, ?_, ?_, ?_⟩, rfl, rfl, rfl, Nat.le_refl _, fun _ _ _ => rfl, ?_, fun _ _ h => absurd rfl h⟩
  · intro k o hk
    rcases key k o hk with ⟨rfl, rfl⟩ | q
    · exact hok
    · exact H.obj k o q
  · intro k o k' o2 hk hk' g g' hne
    rcases key k o hk with ⟨rfl, rfl⟩ | q
    · exact absurd g hno
    · rcases key k' o2 hk' with ⟨rfl, rfl⟩ | q'
      · exact absurd g' hno
      · exact H.sep k o k' o2 q q' g g' hne
  · intro k o hk g j
    rcases key k o hk with ⟨rfl, rfl⟩ | q
    · exact absurd g hno
    · exact H.apart k o q g j
  · intro k o hk g
    rcases key k o hk with ⟨rfl, rfl⟩ | q
    · exact absurd g hno
    · exact H.lt k o q g
  · rintro b ⟨k, o, hk, g, q⟩
    rcases key k o hk with ⟨rfl, rfl⟩ | q'
    · exact absurd g hno
    · exact .inl ⟨k, o, q', g, q⟩
-- data out of cells; a slice of slices: its own elements first
def asE (σ : List AObj) : AV → Option (D × List AObj)
  | .own l => match ob σ l with
    | .row _ es => some (.sl es, so σ l .gone)
    | _ => none
  | .d x => some (x, σ)
  | .nil => some (.sl [], σ)
  | _ => none
theorem asE_asD {σ : List AObj} {x : AV} : asE σ x = asD σ x := by
  cases x <;> simp only [asE, asD]
  case own l =>
    rw [ob_eq]
    cases h : σ[l]? with
    | none => rfl
    | some o => cases o <;> simp [so_eq]
def asEs (σ : List AObj) : List AV → Option (List D × List AObj)
  | [] => some ([], σ)
  | x :: xs => match asE σ x with
    | some (y, σ1) => match asEs σ1 xs with
      | some (ys, σ2) => some (y :: ys, σ2)
      | none => none
    | none => none
theorem asEs_asDs : ∀ {xs : List AV} {σ : List AObj}, asEs σ xs = asDs σ xs
  | [], _ => rfl
  | x :: xs, σ => by
    simp only [asEs, asDs, asE_asD]
    cases asD σ x with
    | none => rfl
    | some r =>
      obtain ⟨y, σ1⟩ := r
      simp only [asEs_asDs (xs := xs) (σ := σ1)]
      cases asDs σ1 xs <;> rfl
def asEss (σ : List AObj) : List (List AV) → Option (List (List D) × List AObj)
  | [] => some ([], σ)
  | x :: xs => match asEs σ x with
    | some (y, σ1) => match asEss σ1 xs with
      | some (ys, σ2) => some (y :: ys, σ2)
      | none => none
    | none => none
theorem asEss_sound : ∀ {es : List (List AV)} {c : Cf} {σ σ' : List AObj} {ds : List (List D)} {vs : List Value}, Holds c σ → ARs c es.flatten vs → asEss σ es = some (ds, σ') → ∃ c', c'.w = c.w ∧ Nxt c σ c' σ' ∧ DRs c'.h ds.flatten vs ∧ ds.map List.length = es.map List.length
  | [], c, σ, σ', ds, vs, H, r, h => by
    simp [asEss] at h; obtain ⟨rfl, rfl⟩ := h
    rw [ARs_nil_left r]; exact ⟨c, rfl, .refl H, by simp [DRs], rfl⟩
  | e :: es, c, σ, σ', ds, vs, H, r, h => by
    simp only [asEss] at h
    split at h
    · next y σ1 e1 =>
      split at h
      · next ys σ2 e2 =>
        simp at h; obtain ⟨rfl, rfl⟩ := h
        rw [asEs_asDs] at e1
        simp only [List.flatten_cons] at r
        have r1 := ARs_take e.length r
        have r2 := ARs_drop e.length r
        rw [List.take_left] at r1
        rw [List.drop_left] at r2
        obtain ⟨c1, w1, n1, d1⟩ := asDs_sound H r1 e1
        obtain ⟨c2, w2, n2, d2, l2⟩ := asEss_sound n1.hold (ARs.mono n1.le _ r2) e2
        refine ⟨c2, w2.trans w1, n1.trans n2, ?_, ?_⟩
        · simp only [List.flatten_cons]
          have := DRs_append (DRs.mono n2.le.h d1) d2
          rwa [List.take_append_drop] at this
        · have a := ARs_length r1
          have b := DRs_length d1
          simp only [List.map_cons, l2, b, ← a]
      · simp at h
    · simp at h
theorem asE_ob {σ σ1 : List AObj} {x : AV} {y : D} (h : asE σ x = some (y, σ1)) (l : Nat) : ob σ1 l = ob σ l ∨ ob σ1 l = .gone := by
  cases x <;> simp only [asE] at h <;> try (simp at h; done)
  case own k =>
    split at h
    · simp at h; obtain ⟨_, rfl⟩ := h
      rw [so_eq, ob_eq, ob_eq, List.getElem?_set]
      split
      · split <;> simp
      · exact .inl rfl
    · simp at h
  case d x => simp at h; rw [h.2]; exact .inl rfl
  case nil => simp at h; rw [h.2]; exact .inl rfl
theorem asEs_ob : ∀ {xs : List AV} {σ σ1 : List AObj} {ys : List D}, asEs σ xs = some (ys, σ1) → ∀ l, ob σ1 l = ob σ l ∨ ob σ1 l = .gone
  | [], σ, σ1, ys, h, l => by simp [asEs] at h; rw [h.2]; exact .inl rfl
  | x :: xs, σ, σ1, ys, h, l => by
    simp only [asEs] at h
    split at h
    · next y σ2 e1 =>
      split at h
      · next zs σ3 e2 =>
        simp at h; obtain ⟨_, rfl⟩ := h
        rcases asEs_ob e2 l with q | q
        · rcases asE_ob e1 l with p | p
          · exact .inl (q.trans p)
          · exact .inr (q.trans p)
        · exact .inr q
      · simp at h
    · simp at h
theorem asEss_ob' : ∀ {xs : List (List AV)} {σ σ1 : List AObj} {ys : List (List D)}, asEss σ xs = some (ys, σ1) → ∀ l, ob σ1 l = ob σ l ∨ ob σ1 l = .gone
  | [], σ, σ1, ys, h, l => by simp [asEss] at h; rw [h.2]; exact .inl rfl
  | x :: xs, σ, σ1, ys, h, l => by
    simp only [asEss] at h
    split at h
    · next y σ2 e1 =>
      split at h
      · next zs σ3 e2 =>
        simp at h; obtain ⟨_, rfl⟩ := h
        rcases asEss_ob' e2 l with q | q
        · rcases asEs_ob e1 l with p | p
          · exact .inl (q.trans p)
          · exact .inr (q.trans p)
        · exact .inr q
      · simp at h
    · simp at h
theorem asEss_ob {l sz sz' : Nat} {xs es es' : List (List AV)} {σ σ1 : List AObj} {ys : List (List D)} (h0 : ob σ l = .vec sz es) (h : asEss σ xs = some (ys, σ1)) (h1 : ob σ1 l = .vec sz' es') : ob σ1 l = .vec sz es := by
  rcases asEss_ob' h l with q | q
  · rw [q, h0]
  · rw [q] at h1; simp at h1
/-- a slice whose elements can be data, as a row -/
theorem Wk.vrow {n0 : Nat} {xs : List AV} {σ σ1 : List AObj} (l : Nat) {sz : Nat} {es : List (List AV)} {ds : List (List D)} (hl : ob σ l = .vec sz es) (hd : asEss σ es = some (ds, σ1)) (hl1 : ob σ1 l = .vec sz es) : Wk n0 xs σ xs (so σ1 l (.row sz ds)) := Wk.ofNxt fun c vs H r => by
  rw [so_eq]
  have ho := H.obj l _ (ob_some hl (by simp))
  have hs1 := ob_some hl1 (by simp)
  rcases ho with ⟨rfl, A, e⟩ | hB
  · simp [asEss] at hd; obtain ⟨rfl, rfl⟩ := hd
    have hno : ¬ Has c l (.vec sz []) := by rintro ⟨a, n, cap, e', h0⟩; rw [e] at e'; cases e'; omega
    exact ⟨c, rfl, Nxt.retype H hno (.inl ⟨rfl, A, e⟩), r⟩
  · obtain ⟨cap, us, ty, g0, g1, g2, g3, g4, g5, g6⟩ := hB
    obtain ⟨c1, w1, n1, d1, l1⟩ := asEss_sound H g6 hd
    have hlt : l < c.n := by rw [H.n]; exact some_lt (ob_some hl (by simp))
    have eu := n1.le.u l hlt
    have eν := n1.le.ν l hlt
    have hlen : ds.length = es.length := by simpa using congrArg List.length l1
    have N := Nxt.upd n1.hold hs1 ⟨_, _, _, by rw [eu]; exact g1, g0⟩ c1.w (fun _ _ => rfl) rfl rfl rfl rfl (o' := .row sz ds) (.inr ⟨cap, us, ty, g0, by simp only [Cf.at]; rw [eu, eν, g1, hlen], by rw [hlen]; exact g2, by simp only [Cf.at]; rw [eν, w1]; exact g3, g4, ?_, by rw [hlen]; exact d1⟩)
    · exact ⟨_, by simp only [Cf.at]; exact w1, n1.trans N, ARs.mono (n1.trans N).le _ r⟩
    · intro e he
      have : e.length ∈ ds.map List.length := List.mem_map_of_mem he
      rw [l1] at this
      obtain ⟨x, hx, q⟩ := List.mem_map.1 this
      rw [← q]; exact g5 x hx

/-! ### ends -/
-- a value's labels given up: all as data
def datV (l sz : Nat) (es : List (List AV)) (ds : List (List D)) (o : AObj) (σ1 : List AObj) : Option (AV × List AObj) :=
  match o with
  | .vec _ _ => some (.d (.sl ds), so (so σ1 l (.row sz ds)) l .gone)
  | _ => none
mutual
def dat (σ : List AObj) : AV → Option (AV × List AObj)
  | .tup cs => match dats σ cs with
    | some (ys, σ') => some (.tup ys, σ')
    | none => none
  | .agg cs => match dats σ cs with
    | some (ys, σ') => some (.agg ys, σ')
    | none => none
  | .nil => some (.d (.sl []), σ)
  | .own l => match ob σ l with
    | .row _ es => some (.d (.sl es), so σ l .gone)
    | .vec sz es => match asEss σ es with
      | some (ds, σ1) => datV l sz es ds (ob σ1 l) σ1
      | none => none
    | _ => none
  | .d x => some (.d x, σ)
  | _ => none
def dats (σ : List AObj) : List AV → Option (List AV × List AObj)
  | [] => some ([], σ)
  | x :: xs => match dat σ x with
    | some (y, σ1) => match dats σ1 xs with
      | some (ys, σ2) => some (y :: ys, σ2)
      | none => none
    | none => none
end
theorem Wk.tail {xs ys : List AV} {σ τ : List AObj} (h : ∀ n0, Wk n0 xs σ ys τ) (n0 : Nat) (zs : List AV) : Wk n0 (xs ++ zs) σ (ys ++ zs) τ := fun c vs H hn r => by
  have h1 := ARs_take xs.length r
  have h2 := ARs_drop xs.length r
  rw [List.take_left] at h1
  rw [List.drop_left] at h2
  obtain ⟨c', w, n, l, m, H', a, f, g⟩ := h c.n c _ H (Nat.le_refl _) h1
  have L : c.Le c' := ⟨m, n, fun k hk => (l k hk).1, fun k hk => (l k hk).2⟩
  refine ⟨c', w, Nat.le_trans hn n, fun k hk => l k (Nat.lt_of_lt_of_le hk hn), m, H', ?_, f, g⟩
  have := ARs_append a (ARs.mono L _ h2)
  rwa [List.take_append_drop] at this
theorem Wk.head {xs ys : List AV} {σ τ : List AObj} (h : ∀ n0, Wk n0 xs σ ys τ) (n0 : Nat) (y : AV) : Wk n0 (y :: xs) σ (y :: ys) τ := fun c vs H hn r => by
  obtain ⟨v, r', rfl, h1, h2⟩ := ARs_cons_left r
  obtain ⟨c', w, n, l, m, H', a, f, g⟩ := h c.n c _ H (Nat.le_refl _) h2
  have L : c.Le c' := ⟨m, n, fun k hk => (l k hk).1, fun k hk => (l k hk).2⟩
  exact ⟨c', w, Nat.le_trans hn n, fun k hk => l k (Nat.lt_of_lt_of_le hk hn), m, H', ARs_cons.2 ⟨AR.mono L _ h1, a⟩, f, g⟩
theorem Wk.inTup {xs ys : List AV} {σ τ : List AObj} (h : ∀ n0, Wk n0 xs σ ys τ) (n0 : Nat) : Wk n0 [.tup xs] σ [.tup ys] τ := fun c vs H hn r => by
  obtain ⟨v, r', rfl, h1, h2⟩ := ARs_cons_left r
  cases ARs_nil_left h2
  simp only [AR] at h1
  obtain ⟨us, rfl, h1⟩ := h1
  obtain ⟨c', w, n, l, m, H', a, f, g⟩ := h n0 c _ H hn h1
  exact ⟨c', w, n, l, m, H', by simp only [ARs, AR]; exact ⟨⟨us, rfl, a⟩, trivial⟩, f, g⟩
theorem Wk.inAgg {xs ys : List AV} {σ τ : List AObj} (h : ∀ n0, Wk n0 xs σ ys τ) (n0 : Nat) : Wk n0 [.agg xs] σ [.agg ys] τ := fun c vs H hn r => by
  obtain ⟨v, r', rfl, h1, h2⟩ := ARs_cons_left r
  cases ARs_nil_left h2
  simp only [AR] at h1
  obtain ⟨us, rfl, h1⟩ := h1
  obtain ⟨c', w, n, l, m, H', a, f, g⟩ := h n0 c _ H hn h1
  exact ⟨c', w, n, l, m, H', by simp only [ARs, AR]; exact ⟨⟨us, rfl, a⟩, trivial⟩, f, g⟩
theorem Wk.nilD (n0 : Nat) (σ : List AObj) : Wk n0 [.nil] σ [.d (.sl [])] σ := fun c vs H hn r => by
  obtain ⟨v, r', rfl, h1, h2⟩ := ARs_cons_left r
  cases ARs_nil_left h2
  simp only [AR] at h1
  obtain ⟨A, rfl⟩ := h1
  exact ⟨c, rfl, hn, fun _ _ => ⟨rfl, rfl⟩, fun _ _ _ h => h, H, by simp only [ARs, AR, DR]; exact ⟨⟨A, 0, 0, rfl, Nat.le_refl _, fun h => absurd rfl h, by simp, by simp [DRows]⟩, trivial⟩, fun _ h => h, fun _ _ h => absurd rfl h⟩
mutual
theorem dat_sound : ∀ (x : AV) {y : AV} {σ τ : List AObj}, dat σ x = some (y, τ) → ∀ n0, Wk n0 [x] σ [y] τ
  | .tup cs, y, σ, τ, h, n0 => by
    simp only [dat] at h
    split at h
    · next ys σ' e => cases h; exact Wk.inTup (dats_sound cs e) n0
    · simp at h
  | .agg cs, y, σ, τ, h, n0 => by
    simp only [dat] at h
    split at h
    · next ys σ' e => cases h; exact Wk.inAgg (dats_sound cs e) n0
    · simp at h
  | .nil, y, σ, τ, h, n0 => by simp only [dat] at h; cases h; exact Wk.nilD n0 _
  | .own l, y, σ, τ, h, n0 => by
    simp only [dat] at h
    split at h
    · next sz es e =>
      cases h
      have := Wk.frz (n0 := n0) (xs := [.own l]) l (ob_some e (by simp))
      simpa [sbs, sb, so_eq] using this
    · next sz es e =>
      split at h
      · next ds σ1 e1 =>
        have h1 : ∃ sz' es', ob σ1 l = .vec sz' es' ∧ y = .d (.sl ds) ∧ τ = so (so σ1 l (.row sz ds)) l .gone := by
          unfold datV at h
          split at h
          · next a b => cases h; exact ⟨_, _, by assumption, rfl, rfl⟩
          · simp at h
        obtain ⟨sz', es', e2, rfl, rfl⟩ := h1
        have e3 : ob σ1 l = .vec sz es := asEss_ob e e1 e2
        have hl : l < σ1.length := some_lt (ob_some e2 (by simp))
        have w1 := Wk.vrow (n0 := n0) (xs := [.own l]) l e e1 e3
        have w2 := Wk.frz (n0 := n0) (xs := [.own l]) (σ := so σ1 l (.row sz ds)) l (sz := sz) (es := ds) (by rw [so_eq, List.getElem?_set_self hl])
        refine Wk.trans w1 ?_
        simpa [sbs, sb, so_eq] using w2
      · simp at h
    · simp at h
  | .d x, y, σ, τ, h, n0 => by simp only [dat] at h; cases h; exact .refl _ _ _
  | .any, y, σ, τ, h, n0 => by simp [dat] at h
  | .ptr _ _, y, σ, τ, h, n0 => by simp [dat] at h
  | .rptr _ _ _ _, y, σ, τ, h, n0 => by simp [dat] at h
  | .eptr _, y, σ, τ, h, n0 => by simp [dat] at h
  | .mp _, y, σ, τ, h, n0 => by simp [dat] at h
  | .fn _ _, y, σ, τ, h, n0 => by simp [dat] at h
  | .raw _, y, σ, τ, h, n0 => by simp [dat] at h
  | .osl _ _ _ _, y, σ, τ, h, n0 => by simp [dat] at h
theorem dats_sound : ∀ (xs : List AV) {ys : List AV} {σ τ : List AObj}, dats σ xs = some (ys, τ) → ∀ n0, Wk n0 xs σ ys τ
  | [], ys, σ, τ, h, n0 => by simp only [dats] at h; cases h; exact .refl _ _ _
  | x :: xs, ys, σ, τ, h, n0 => by
    simp only [dats] at h
    split at h
    · next y σ1 e1 =>
      split at h
      · next zs σ2 e2 =>
        cases h
        exact Wk.trans (Wk.tail (dat_sound x e1) n0 xs) (Wk.head (dats_sound xs e2) n0 y)
      · simp at h
    · simp at h
end
/-- what has no labels stays when all blocks are forgotten -/
theorem Wk.out {xs : List AV} {σ : List AObj} (hb : bds 0 xs) (hr : rens (at0 []) xs = xs) : Wk 0 xs σ xs [] :=
  Wk.via [] (by rw [hr]; exact wkE_refl _) hb (by simp) (by simp) trivial trivial (Nat.le_refl _) (fun i h => absurd h (Nat.not_lt_zero i))
theorem Wk.data {r r' : AV} {σ τ : List AObj} (h : dat σ r' = some (r, τ)) (hb : bd 0 r) (hr : ren (at0 []) r = r) : Wk 0 [r'] σ [r] [] :=
  Wk.trans (dat_sound r' h 0) (Wk.out ⟨hb, trivial⟩ (by simp [rens, hr]))

/-! ### loops, calls, splits -/
/-- back at the head of a loop, in a state that is nearer to the end -/
def Bk (n0 : Nat) {S : Type} (en : S → List AV) (he : S → List AObj) (ok : S → Prop) (m : S → Nat) (n : Nat) (env : List AV) (σ : List AObj) : Prop :=
  ∃ m', m' < n ∧ ∃ env' σ', Wk n0 env σ env' σ' ∧ ∃ s, ok s ∧ m s = m' ∧ env' = en s ∧ σ' = he s
theorem Bk.mk {n0 : Nat} {S : Type} {en : S → List AV} {he : S → List AObj} {ok : S → Prop} {m : S → Nat} {n : Nat} {env : List AV} {σ : List AObj} (s : S) (h1 : ok s) (h2 : m s < n) (h3 : Wk n0 env σ (en s) (he s)) : Bk n0 en he ok m n env σ :=
  ⟨m s, h2, _, _, h3, s, h1, rfl, rfl, rfl⟩
theorem eloop {Γ : Ctx} {E : List It → List AV → List AObj → Prop} {b : Code} {k : List It} {env : List AV} {σ : List AObj} {S : Type} (en : S → List AV) (he : S → List AObj) (ok : S → Prop) (m : S → Nat) (s0 : S)
    (h0 : ok s0) (hw : Wk Γ.n0 env σ (en s0) (he s0)) (h : ∀ s, ok s → E (.code b :: .back (Bk Γ.n0 en he ok m (m s)) :: k) (en s) (he s)) : ELoop Γ E b k env σ := by
  refine ⟨fun n env σ => ∃ s, ok s ∧ m s = n ∧ env = en s ∧ σ = he s, ⟨m s0, _, _, hw, s0, h0, rfl, rfl, rfl⟩, ?_⟩
  rintro n env σ ⟨s, hs, rfl, rfl, rfl⟩
  exact h s hs
theorem cbs {E : List It → List AV → List AObj → Prop} {x y : Code} {k : List It} {d : Tmp} {env : List AV} {σ : List AObj} {b : Bool} (h1 : b = true → E (.code x :: k) (st env d (.d (.bool true))) σ) (h2 : b = false → E (.code y :: k) (st env d (.d (.bool false))) σ) : evCb E x y k d env σ b := by
  cases b
  · exact h2 rfl
  · exact h1 rfl
theorem gbs {Γ : Ctx} {E : List AV → List AObj → Prop} {o : Oper} {d : Tmp} {env : List AV} {σ : List AObj} {b w : Bool} (h1 : b = true → evGb Γ E o d env σ true w) (h2 : b = false → evGb Γ E o d env σ false w) : evGb Γ E o d env σ b w := by
  cases b
  · exact h2 rfl
  · exact h1 rfl
theorem ren_id {f : Nat → Nat} : ∀ {x : AV}, bd 0 x → ren f x = x := fun {x} h => by
  have key : ∀ x : AV, bd 0 x → ren f x = ren id x := fun x h => ren_congr (fun l hl => absurd hl (Nat.not_lt_zero l)) x h
  rw [key x h]
  have : (∀ x : AV, ren id x = x) := by
    intro x
    induction x using AV.rec (motive_2 := fun xs => rens id xs = xs) with
    | _ => simp_all [ren, rens]
  exact this x
theorem rens_id {f : Nat → Nat} : ∀ {xs : List AV}, bds 0 xs → rens f xs = xs
  | [], _ => rfl
  | x :: xs, h => by rw [rens, ren_id h.1, rens_id h.2]
/-- a call with data, that hands back data -/
theorem ecall0 {Γ : Ctx} {E : List AV → List AObj → Prop} {dst : Option Tmp} {f : FuncId} {args env : List AV} {σ : List AObj} (r : AV) (h7 : Spec Γ.P f args [] r []) (hb : bds 0 args) (hr : bd 0 r) (h8 : E (putO env dst r) σ) : ECall Γ E dst f env args σ := by
  refine .mk [] args [] r [] (by rw [rens_id hb]) hb (by simp) (by simp) rfl trivial h7 ?_
  rw [ren_id hr]
  simpa [back, setAll, mapO] using h8
/-- a spec in a larger heap -/
theorem Spec.frame {P : Program} {f : FuncId} {args' : List AV} {σ σ0 σ1 : List AObj} {r : AV} (ls : List Nat) (h : Spec P f args' σ0 r σ1) (h2 : bds ls.length args') (h3 : ls.Nodup) (h4 : ∀ l ∈ ls, l < σ.length) (h5 : obs σ ls = mapO (at0 ls) σ0) (h6 : bdOs ls.length σ0) :
    Spec P f (rens (at0 ls) args') σ (ren (rn ls σ.length) r) (back σ ls σ1) := by
  obtain ⟨hf, hc⟩ := h
  refine ⟨hf, fun c vs H ha => ?_⟩
  obtain ⟨H0, bk⟩ := call_frame (σ1 := σ1) H h3 h4 h5 h6
  refine (hc _ vs H0 (ARs_via args' h2 ha)).mono ?_
  rintro e w' ⟨c1, v, rfl, rfl, hv, N1⟩
  obtain ⟨c2, w2, S, N2⟩ := bk c1 N1
  exact ⟨c2, v, w2, rfl, AR_sees S _ hv, N2⟩
theorem Spec.lift0 {P : Program} {f : FuncId} {args : List AV} {r : AV} (h : Spec P f args [] r []) (σ : List AObj) (hb : bds 0 args) (hr : bd 0 r) : Spec P f args σ r σ := by
  have := Spec.frame (σ := σ) [] h hb (by simp) (by simp) rfl trivial
  rw [rens_id hb, ren_id hr] at this
  simpa [back, setAll, mapO] using this
/-- what a call hands back, said otherwise -/
theorem Spec.wk {P : Program} {f : FuncId} {args : List AV} {σ σ1 σ2 : List AObj} {r r' : AV} (h : Spec P f args σ r σ1) (k : Wk σ.length [r] σ1 [r'] σ2) : Spec P f args σ r' σ2 := by
  obtain ⟨hf, hc⟩ := h
  refine ⟨hf, fun c vs H ha => (hc c vs H ha).mono ?_⟩
  rintro e w' ⟨c1, v, rfl, rfl, hv, N1⟩
  rw [← H.n] at k
  obtain ⟨c2, w2, N2, hx⟩ := k.nxt N1 (vs := [v]) (by simpa [ARs] using hv)
  exact ⟨c2, v, w2, rfl, by simpa [ARs] using hx, N2⟩
end Go.AX
/- AX, part U: what the evaluator is unfolded with. -/
set_option linter.unusedVariables false
set_option linter.unusedSimpArgs false
namespace Go.AX
def mkE (n : Nat) (l : List (Nat × AV)) : List AV := l.foldl (fun e x => st e x.1 x.2) (List.replicate n .any)
theorem lk_nil (n : Nat) : lk [] n = .any := rfl
theorem lk_0 (x : AV) (xs : List AV) : lk (x :: xs) 0 = x := rfl
theorem lk_S (x : AV) (xs : List AV) (n : Nat) : lk (x :: xs) (n + 1) = lk xs n := rfl
theorem st_nil (n : Nat) (v : AV) : st [] n v = [] := rfl
theorem st_0 (x : AV) (xs : List AV) (v : AV) : st (x :: xs) 0 v = v :: xs := rfl
theorem st_S (x : AV) (xs : List AV) (n : Nat) (v : AV) : st (x :: xs) (n + 1) v = x :: st xs n v := rfl
theorem lk16 (a0 a1 a2 a3 a4 a5 a6 a7 a8 a9 a10 a11 a12 a13 a14 a15 : AV) (xs : List AV) (n : Nat) : lk (a0 :: a1 :: a2 :: a3 :: a4 :: a5 :: a6 :: a7 :: a8 :: a9 :: a10 :: a11 :: a12 :: a13 :: a14 :: a15 :: xs) (n + 16) = lk xs n := rfl
theorem st16 (a0 a1 a2 a3 a4 a5 a6 a7 a8 a9 a10 a11 a12 a13 a14 a15 : AV) (xs : List AV) (n : Nat) (v : AV) : st (a0 :: a1 :: a2 :: a3 :: a4 :: a5 :: a6 :: a7 :: a8 :: a9 :: a10 :: a11 :: a12 :: a13 :: a14 :: a15 :: xs) (n + 16) v = a0 :: a1 :: a2 :: a3 :: a4 :: a5 :: a6 :: a7 :: a8 :: a9 :: a10 :: a11 :: a12 :: a13 :: a14 :: a15 :: st xs n v := rfl
theorem get16 {α : Type} (a0 a1 a2 a3 a4 a5 a6 a7 a8 a9 a10 a11 a12 a13 a14 a15 : α) (xs : List α) (n : Nat) : (a0 :: a1 :: a2 :: a3 :: a4 :: a5 :: a6 :: a7 :: a8 :: a9 :: a10 :: a11 :: a12 :: a13 :: a14 :: a15 :: xs)[n + 16]? = xs[n]? := rfl
attribute [go_sem high] lk16 st16 get16
attribute [go_sem] lk_nil lk_0 lk_S st_nil st_0 st_S mkE List.foldl_cons List.foldl_nil List.replicate
attribute [go_sem] ev_nil ev_ops0 ev_ops ev_code ev_blk ev_back ev_scp
attribute [go_sem] cv1 cv evO isAggD cellsOf oneC ob so spl ldD ldA toO drA drD evLoadO evLoadR evLoad asD asDs evStoreP evStoreR1 evStoreR obind evStore evNew evFill evParts evBuild shiftA evFieldAddr evField evIx evIdxS evIndexAddr evIndex evPick evNilCheck evExtract evAll evMakeFunc evInt evShift isShift evStr deq deqs dk toV dsOf evEqA evBin evUn src evAppend2 evAppend1 evAppend dropL evLen1 evLen2 evLen3 evLen mnA mxA toI evMn evMx evBd bdLo bdHi evSliceS evSliceD evSlice1 isBad evSlice2 bsl evSliceO evSliceP evSlice evMake1 evMake evLits evLit2 evBuildSlice evCall evRange evNext2 evNext evConvB evConvS evConv vv keyOf evMakeMap oEv evLookup2 evLookup evMapUp2 evMapUp evNil isNil evBin2 evBuiltin evCallee evOp ren rens renO bd bds bdO at0 obs setAll mapO bdOs back rn putO evG1 evG gslot evOper resV resVs one endR endP popTo goto retP evYld noJ setPs evC1 evC evCode wkE wkO wkOs sb sbs dat dats isVO evLoadV evStoreV isV srcV evAppV2 evAppV1 evLitV evLitV2 evLit3 renss bdss asE asEs asEss datV dsN
attribute [go_sem] List.set_cons_zero List.set_cons_succ List.length_cons List.length_nil List.nil_append List.cons_append List.append_nil List.map_cons List.map_nil Nat.zero_add
section
variable {Γ : Ctx} {E : List AV → List AObj → Prop} {dst : Option Tmp} {env : List AV} {σ : List AObj}
theorem fin_to {v : AV} {σ' : List AObj} : fin Γ E dst env σ (.to v σ') = E (putO env dst v) σ' := rfl
theorem fin_need {p : Prop} {r : R1} : fin Γ E dst env σ (.need p r) = (p ∧ fin Γ E dst env σ r) := rfl
theorem fin_all {es : List (List D)} {i : Nat} {k : List D → R1} : fin Γ E dst env σ (.all es i k) = ∀ e, es[i]? = some e → fin Γ E dst env σ (k e) := rfl
theorem fin_ite {t : Bool} {x y : R1} : fin Γ E dst env σ (.ite t x y) = ((t = true → fin Γ E dst env σ x) ∧ (t = false → fin Γ E dst env σ y)) := rfl
theorem fin_ite_t {x y : R1} : fin Γ E dst env σ (.ite true x y) = fin Γ E dst env σ x := by simp [fin]
theorem fin_ite_f {x y : R1} : fin Γ E dst env σ (.ite false x y) = fin Γ E dst env σ y := by simp [fin]
theorem fin_call {f : FuncId} {args : List AV} : fin Γ E dst env σ (.call f args) = ECall Γ E dst f env args σ := rfl
theorem fin_yld {b : Nat} {xs : List AV} : fin Γ E dst env σ (.yld b xs) = Γ.Y b xs σ fun r σ' => E (putO env dst r) σ' := rfl
theorem fin_ex {p : Bool → Prop} {k : Bool → R1} : fin Γ E dst env σ (.ex p k) = ∀ b, p b → fin Γ E dst env σ (k b) := rfl
end
section
variable {Γ : Ctx} {E : List It → List AV → List AObj → Prop} {F : List AV → List AObj → Prop} {o : Oper} {x y : Code} {k : List It} {d : Tmp} {env : List AV} {σ : List AObj}
theorem cb_t : evCb E x y k d env σ true = E (.code x :: k) (st env d (.d (.bool true))) σ := rfl
theorem cb_f : evCb E x y k d env σ false = E (.code y :: k) (st env d (.d (.bool false))) σ := rfl
theorem gb_tt : evGb Γ F o d env σ true true = fin Γ F o.dst (st env d (.d (.bool true))) σ (evOp Γ.P (st env d (.d (.bool true))) σ o.op) := rfl
theorem gb_ff : evGb Γ F o d env σ false false = fin Γ F o.dst (st env d (.d (.bool false))) σ (evOp Γ.P (st env d (.d (.bool false))) σ o.op) := rfl
theorem gb_tf : evGb Γ F o d env σ true false = F (putO (st env d (.d (.bool true))) o.dst (.tup [])) σ := rfl
theorem gb_ft : evGb Γ F o d env σ false true = F (putO (st env d (.d (.bool false))) o.dst (.tup [])) σ := rfl
end
attribute [go_sem] cb_t cb_f gb_tt gb_ff gb_tf gb_ft ite_true ite_false Bool.false_eq_true
attribute [go_sem high] fin_ite_t fin_ite_f
theorem renO_rcd (f : Nat → Nat) (L : Nat) (rec : LoopState → Option Code → Loop) (st : LoopState) (j : Option Code) : renO f (rcd L rec st j) = rcd L rec st j := rfl
theorem bdO_rcd (k : Nat) (L : Nat) (rec : LoopState → Option Code → Loop) (st : LoopState) (j : Option Code) : bdO k (rcd L rec st j) = True := rfl
attribute [go_sem ↓] renO_rcd bdO_rcd
attribute [go_sem] fin_to fin_need fin_ite fin_call fin_ex fin_yld
attribute [go_sem low] fin_all
theorem fin_all_map {Γ : Ctx} {E : List AV → List AObj → Prop} {dst : Option Tmp} {env : List AV} {σ : List AObj} {α : Type} {l : List α} {g : α → List D} {i : Nat} {k : List D → R1} :
    fin Γ E dst env σ (.all (l.map g) i k) = ∀ x, l[i]? = some x → fin Γ E dst env σ (k (g x)) := by
  simp only [fin, List.getElem?_map]
  refine propext ⟨fun h x hx => h _ (by simp [hx]), fun h e he => ?_⟩
  cases q : l[i]? with
  | none => simp [q] at he
  | some x => simp [q] at he; subst he; exact h x q
attribute [go_sem] fin_all_map
attribute [go_sem] Int.toNat_natCast List.length_map true_and and_true
theorem Wk.dataZ {r r' : AV} {σ τ : List AObj} (h : dat σ r' = some (r, τ)) (hb : bd 0 r) : Wk 0 [r'] σ [r] [] := Wk.data h hb (ren_id hb)
end Go.AX
/- AX, part V: a region that draws its order. -/
set_option linter.unusedVariables false
set_option linter.unusedSimpArgs false
namespace Go.AX

/-! ### what an operation gives, told once -/
def Ret (P : Program) (σ : List AObj) (v : AV) (σ' : List AObj) : R1 → Prop
  | .to v' τ => v' = v ∧ τ = σ'
  | .need p r => p ∧ Ret P σ v σ' r
  | .all es i k => ∃ e, es[i]? = some e ∧ Ret P σ v σ' (k e)
  | .ite t x y => (t = true → Ret P σ v σ' x) ∧ (t = false → Ret P σ v σ' y)
  | .call f args => Spec P f args σ v σ'
  | _ => False
def finT (P : Program) (σ : List AObj) (F : AV → List AObj → Prop) : R1 → Prop
  | .to v τ => F v τ
  | .need p r => p ∧ finT P σ F r
  | .all es i k => i < es.length ∧ ∀ e, es[i]? = some e → finT P σ F (k e)
  | .ite t x y => (t = true → finT P σ F x) ∧ (t = false → finT P σ F y)
  | .call f args => ∃ r σ', Spec P f args σ r σ' ∧ F r σ'
  | _ => False
theorem finT_ret {P : Program} {σ : List AObj} {F : AV → List AObj → Prop} : ∀ {r : R1}, finT P σ F r → ∃ v σ', Ret P σ v σ' r ∧ F v σ'
  | .to v τ, h => ⟨v, τ, ⟨rfl, rfl⟩, h⟩
  | .need p r, h => by obtain ⟨v, t, h1, h2⟩ := finT_ret h.2; exact ⟨v, t, ⟨h.1, h1⟩, h2⟩
  | .all es i k, h => by
    obtain ⟨v, t, h1, h2⟩ := finT_ret (h.2 (es[i]'h.1) (by simp [h.1]))
    exact ⟨v, t, ⟨es[i]'h.1, by simp [h.1], h1⟩, h2⟩
  | .ite t x y, h => by
    cases t with
    | true => obtain ⟨v, t, h1, h2⟩ := finT_ret (h.1 rfl); exact ⟨v, t, ⟨fun _ => h1, fun e => (Bool.noConfusion e)⟩, h2⟩
    | false => obtain ⟨v, t, h1, h2⟩ := finT_ret (h.2 rfl); exact ⟨v, t, ⟨fun e => (Bool.noConfusion e), fun _ => h1⟩, h2⟩
  | .call f args, h => by obtain ⟨r, s, h1, h2⟩ := h; exact ⟨r, s, h1, h2⟩
  | .ex p k, h => h.elim
  | .yld _ _, h => h.elim
  | .bad, h => h.elim
theorem ret_sound {ro : Option Nat} {P : Program} {o : Oper} {a : Act} {c : Cf} {σ σ' : List AObj} {v : AV} {next : Act → World → Prop} {Q : Exit → Act → World → Prop} (H : Holds c σ)
    (hE : ∀ c' x, Nxt c σ c' σ' → AR c' v x → next (a.put o.dst x) c'.w) : ∀ (r : R1), r.Ok P o a c σ → Ret P σ v σ' r → o.wpIn (FW ro) 0 P a c.w next Q
  | .to v' τ, h, hr => by
    obtain ⟨rfl, rfl⟩ := hr
    obtain ⟨nx, x, c', h1, h2, h3, h4⟩ := h
    refine wpIn_of ?_
    rcases h2 with rfl | ⟨rfl, rfl⟩
    · rw [sem_ok h1 (by simp)]; exact hE c' _ h4 h3
    · rw [sem_ok h1 (by simp)]; exact hE c' _ h4 h3
  | .need p r, h, hr => ret_sound H hE r (h hr.1) hr.2
  | .all es i k, h, hr => by
    obtain ⟨e, h1, h2⟩ := h
    obtain ⟨e', h3, h4⟩ := hr
    rw [h1] at h3; cases h3
    exact ret_sound H hE (k e) h2 h4
  | .ite t x y, h, hr => by
    cases t with
    | true => exact ret_sound H hE x (h.1 rfl) (hr.1 rfl)
    | false => exact ret_sound H hE y (h.2 rfl) (hr.2 rfl)
  | .ex p k, h, hr => hr.elim
  | .yld _ _, h, hr => hr.elim
  | .bad, _, hr => hr.elim
  | .call f args, h, hr => by
    obtain ⟨vs, h1, h2⟩ := h
    obtain ⟨⟨fn, f1, f2, f3⟩, hc⟩ := hr
    refine wpIn_of ?_
    have hcf : (callFunc f vs).run P c.w = .ok (.enter f vs) c.w := by
      simp only [callFunc, Sem.run_bind, run_program, Result.andThen_ok, f1, f2, f3, Bool.false_eq_true, if_false, Sem.run_pure]
    rw [hcf] at h1
    rw [sem_ok h1 (by simp)]
    simp only [Oper.uponIn_enter]
    refine ⟨FW_depth, callsIn_FW ((hc c vs H h2).mono ?_)⟩
    rintro e w' ⟨c', x, rfl, rfl, hx, N⟩
    exact hE c' _ N hx

/-! ### under a guard -/
def guardOf (all : Array Oper) (env : List AV) : Option (Nat × Bool) → Option Bool
  | none => some true
  | some (j, want) => match gslot all j with
    | some d => match lk env d with
      | .d (.bool b) => some (b == want)
      | .tup _ => some false
      | _ => none
    | none => none
def RetG (P : Program) (all : Array Oper) (env : List AV) (σ : List AObj) (o : Oper) (v : AV) (σ' : List AObj) : Prop :=
  match guardOf all env o.guard with
  | some true => Ret P σ v σ' (evOp P env σ o.op)
  | some false => v = .tup [] ∧ σ' = σ
  | none => False
def finG (P : Program) (all : Array Oper) (env : List AV) (σ : List AObj) (o : Oper) (F : AV → List AObj → Prop) : Option Bool → Prop
  | some b => (b = true → finT P σ F (evOp P env σ o.op)) ∧ (b = false → F (.tup []) σ)
  | none => False
theorem finG_ret {P : Program} {all : Array Oper} {env : List AV} {σ : List AObj} {o : Oper} {F : AV → List AObj → Prop} (h : finG P all env σ o F (guardOf all env o.guard)) : ∃ v σ', RetG P all env σ o v σ' ∧ F v σ' := by
  unfold RetG
  generalize guardOf all env o.guard = g at *
  cases g with
  | none => exact h.elim
  | some b =>
    cases b with
    | true => exact finT_ret (h.1 rfl)
    | false => exact ⟨.tup [], σ, ⟨rfl, rfl⟩, h.2 rfl⟩

theorem retG_sound {ro : Option Nat} {P : Program} {all : Array Oper} {env : List AV} {σ σ' : List AObj} {i : Nat} {o : Oper} {v : AV} {c0 c : Cf} {σ0 : List AObj} {a : Act} {K : Act → World → Prop} {Q : Exit → Act → World → Prop} (hi : all[i]? = some o)
    (G : Good c0 σ0 c env σ a) (h : RetG P all env σ o v σ') (hK : ∀ c' a', Good c0 σ0 c' (putO env o.dst v) σ' a' → K a' c'.w) : wpOpIn (FW ro) 0 P all Q i K a c.w := by
  unfold wpOpIn
  simp only [hi]
  have run : Ret P σ v σ' (evOp P env σ o.op) → o.wpIn (FW ro) 0 P a c.w K Q := fun hr =>
    ret_sound G.nxt.hold (fun c' x N hx => hK c' _ (G.put N o.dst hx)) _ (evOp_ok G.nxt.hold G.env o.op rfl) hr
  have skip : v = .tup [] ∧ σ' = σ → K (a.put o.dst undef) c.w := fun ⟨e1, e2⟩ => by
    subst e1 e2
    exact hK c _ (G.put (.refl G.nxt.hold) o.dst (by simp [AR, ARs, undef]))
  unfold RetG at h
  cases hg : o.guard with
  | none =>
    rw [hg] at h
    rw [if_pos (by simp [Region.wanted, hg])]
    exact (run h)
  | some jw =>
    obtain ⟨j, want⟩ := jw
    rw [hg] at h
    simp only [guardOf] at h
    cases hs : gslot all j with
    | none => rw [hs] at h; exact h.elim
    | some d =>
      rw [hs] at h
      simp only at h
      have hy : yielded all a.tmps j = match a.tmps[d]? with | some (.bool b) => some b | _ => none := by
        unfold yielded
        unfold gslot at hs
        rw [hs]
        rfl
      generalize hx : lk env d = x at h
      cases x <;> try exact h.elim
      case d y =>
        cases y <;> try exact h.elim
        case bool b =>
          obtain ⟨u, hv, ha⟩ := lk_val G.env hx (by simp)
          simp only [AR, DR] at ha
          subst ha
          have hv' : a.tmps[d]? = some (.bool b) := by simpa using hv
          rw [hv'] at hy
          simp only at hy
          simp only at h
          cases b <;> cases want
          · rw [if_pos (by simp [Region.wanted, hg, hy])]; exact (run h)
          · rw [if_neg (by simp [Region.wanted, hg, hy])]; exact ⟨fun _ _ => trivial, skip h⟩
          · rw [if_neg (by simp [Region.wanted, hg, hy])]; exact ⟨fun _ _ => trivial, skip h⟩
          · rw [if_pos (by simp [Region.wanted, hg, hy])]; exact (run h)
      case tup cs =>
        obtain ⟨u, hv, ha⟩ := lk_val G.env hx (by simp)
        simp only [AR] at ha
        obtain ⟨vs, rfl, _⟩ := ha
        have hv' : a.tmps[d]? = some (.tuple vs) := by simpa using hv
        rw [hv'] at hy
        simp only at hy
        rw [if_neg (by simp [Region.wanted, hg, hy])]
        exact ⟨fun _ _ => trivial, skip h⟩

/-- the same, what it gives said with less -/
theorem retG_wk {ro : Option Nat} {P : Program} {all : Array Oper} {env : List AV} {σ σ' : List AObj} {i : Nat} {o : Oper} {v v' : AV} {σ2 : List AObj} {c0 c : Cf} {σ0 : List AObj} {a : Act} {K : Act → World → Prop} {Q : Exit → Act → World → Prop} (hi : all[i]? = some o)
    (G : Good c0 σ0 c env σ a) (h : RetG P all env σ o v σ') (hw : Wk σ.length [v] σ' [v'] σ2) (hK : ∀ c' a', Good c0 σ0 c' (putO env o.dst v') σ2 a' → K a' c'.w) : wpOpIn (FW ro) 0 P all Q i K a c.w := by
  unfold wpOpIn
  simp only [hi]
  have run : Ret P σ v σ' (evOp P env σ o.op) → o.wpIn (FW ro) 0 P a c.w K Q := fun hr =>
    ret_sound G.nxt.hold (fun c' x N hx => by
      obtain ⟨c2, w2, N2, h2⟩ := Wk.nxt (by rw [G.nxt.hold.n]; exact hw) N (vs := [x]) (by simpa [ARs] using hx)
      rw [← w2]; exact hK c2 _ (G.put N2 o.dst (by simpa [ARs] using h2))) _ (evOp_ok G.nxt.hold G.env o.op rfl) hr
  have skip : v = .tup [] ∧ σ' = σ → K (a.put o.dst undef) c.w := fun ⟨e1, e2⟩ => by
    subst e1 e2
    obtain ⟨c2, w2, N2, h2⟩ := Wk.nxt (by rw [G.nxt.hold.n]; exact hw) (Nxt.refl G.nxt.hold) (vs := [undef]) (by simp [AR, ARs, undef])
    rw [← w2]; exact hK c2 _ (G.put N2 o.dst (by simpa [ARs] using h2))
  unfold RetG at h
  cases hg : o.guard with
  | none =>
    rw [hg] at h
    rw [if_pos (by simp [Region.wanted, hg])]
    exact (run h)
  | some jw =>
    obtain ⟨j, want⟩ := jw
    rw [hg] at h
    simp only [guardOf] at h
    cases hs : gslot all j with
    | none => rw [hs] at h; exact h.elim
    | some d =>
      rw [hs] at h
      simp only at h
      have hy : yielded all a.tmps j = match a.tmps[d]? with | some (.bool b) => some b | _ => none := by
        unfold yielded
        unfold gslot at hs
        rw [hs]
        rfl
      generalize hx : lk env d = x at h
      cases x <;> try exact h.elim
      case d y =>
        cases y <;> try exact h.elim
        case bool b =>
          obtain ⟨u, hv, ha⟩ := lk_val G.env hx (by simp)
          simp only [AR, DR] at ha
          subst ha
          have hv' : a.tmps[d]? = some (.bool b) := by simpa using hv
          rw [hv'] at hy
          simp only at hy
          simp only at h
          cases b <;> cases want
          · rw [if_pos (by simp [Region.wanted, hg, hy])]; exact (run h)
          · rw [if_neg (by simp [Region.wanted, hg, hy])]; exact ⟨fun _ _ => trivial, skip h⟩
          · rw [if_neg (by simp [Region.wanted, hg, hy])]; exact ⟨fun _ _ => trivial, skip h⟩
          · rw [if_pos (by simp [Region.wanted, hg, hy])]; exact (run h)
      case tup cs =>
        obtain ⟨u, hv, ha⟩ := lk_val G.env hx (by simp)
        simp only [AR] at ha
        obtain ⟨vs, rfl, _⟩ := ha
        have hv' : a.tmps[d]? = some (.tuple vs) := by simpa using hv
        rw [hv'] at hy
        simp only at hy
        rw [if_neg (by simp [Region.wanted, hg, hy])]
        exact ⟨fun _ _ => trivial, skip h⟩

/-! ### an operation looks at its operands alone -/
def Ag (e e' : List AV) (l : List Tmp) : Prop := ∀ t ∈ l, lk e t = lk e' t
def opsT (o : Op) : List Tmp := o.operands.toList.filterMap fun | .tmp t => some t | _ => none
theorem evO_congr {e e' : List AV} (x : Operand) (h : ∀ t, x = .tmp t → lk e t = lk e' t) : evO e x = evO e' x := by
  cases x <;> simp only [evO]
  exact h _ rfl
theorem evAll_congr {e e' : List AV} : ∀ (l : List Operand), (∀ x ∈ l, evO e x = evO e' x) → evAll e l = evAll e' l
  | [], _ => rfl
  | x :: l, h => by simp only [evAll, h x (by simp), evAll_congr l fun y hy => h y (by simp [hy])]
theorem evParts_congr {e e' : List AV} : ∀ (l : List (Nat × Operand)), (∀ x ∈ l, evO e x.2 = evO e' x.2) → evParts e l = evParts e' l
  | [], _ => rfl
  | (i, x) :: l, h => by simp only [evParts, h (i, x) (by simp), evParts_congr l fun y hy => h y (by simp [hy])]
theorem evOp_congr {P : Program} {e e' : List AV} {σ : List AObj} (op : Op) (h : Ag e e' (opsT op)) : evOp P e σ op = evOp P e' σ op := by
  have hx : ∀ x ∈ op.operands.toList, evO e x = evO e' x := fun x hx => evO_congr x fun t ht => h t (by
    subst ht
    exact List.mem_filterMap.2 ⟨.tmp t, hx, rfl⟩)
  clear h
  cases op <;> simp only [Op.operands] at hx <;> simp only [evOp]
  case build t ps => rw [evParts_congr ps.toList fun x h => hx x.2 (by simp only [List.mem_map]; exact ⟨x, h, rfl⟩)]
  case buildSlice t l ps => rw [evParts_congr ps.toList fun x h => hx x.2 (by simp only [List.mem_map]; exact ⟨x, h, rfl⟩)]
  case makeFunc f first caps =>
    simp only [evMakeFunc]
    rw [evAll_congr caps.toList fun x h => hx x (by simp at h ⊢; exact .inr h)]
  case makeMap t r => cases r <;> simp_all [oEv]
  case slice t x lo hi mx => cases lo <;> cases hi <;> cases mx <;> simp_all [evBd]
  case binOp op t x y t2 => simp only [evBin2, hx x (by simp), hx y (by simp)]
  case call c =>
    obtain ⟨callee, args, ts⟩ := c
    cases callee <;> simp only [evCallee]
    case value f => simp only [Call.operands] at hx; rw [hx f (by simp), show evCall e args.toList = evCall e' args.toList from funext fun y => by cases y <;> simp only [evCall, evAll_congr args.toList fun x h => hx x (by simp at h ⊢; exact .inr h)]]
    case builtin b =>
      simp only [Call.operands] at hx
      have := evAll_congr (e := e) (e' := e') args.toList fun x h => hx x (by simpa using h)
      cases b <;> simp only [evBuiltin, this]
  all_goals (first | rfl | (simp_all; done))
theorem guardOf_congr {all : Array Oper} {e e' : List AV} {g : Option (Nat × Bool)} (h : ∀ j w d, g = some (j, w) → gslot all j = some d → lk e d = lk e' d) : guardOf all e g = guardOf all e' g := by
  cases g with
  | none => rfl
  | some jw =>
    obtain ⟨j, w⟩ := jw
    simp only [guardOf]
    cases hs : gslot all j with
    | none => rfl
    | some d => simp only [h j w d rfl hs]
theorem retG_congr {P : Program} {all : Array Oper} {e e' : List AV} {σ σ' : List AObj} {o : Oper} {v : AV} (h : Ag e e' (o.looksAt all)) (r : RetG P all e σ o v σ') : RetG P all e' σ o v σ' := by
  have h1 : evOp P e σ o.op = evOp P e' σ o.op := evOp_congr _ fun t ht => h t (by unfold Oper.looksAt; exact List.mem_append_left _ ht)
  have h2 : guardOf all e o.guard = guardOf all e' o.guard := guardOf_congr fun j w d hg hs => h d (by
    unfold Oper.looksAt
    refine List.mem_append_right _ ?_
    unfold gslot at hs
    rw [hg]; simp [hs])
  unfold RetG at *
  rw [← h1, ← h2]; exact r

/-! ### orders -/
/-- j is behind u -/
def edge (all : Array Oper) (j u : Nat) : Bool := match all[j]? with
  | some o => o.after.any fun e => Region.binds .any e && e.on == u
  | none => false
/-- j is behind u, by way of others -/
def befB (all : Array Oper) : Nat → Nat → Nat → Bool
  | 0, _, _ => false
  | n + 1, j, u => edge all j u || (List.range all.size).any fun m => edge all j m && befB all n m u
def dstOf (all : Array Oper) (i : Nat) : Option Tmp := (all[i]?).bind (·.dst)
def looks (all : Array Oper) (i : Nat) : List Tmp := match all[i]? with
  | some o => o.looksAt all
  | none => []
def tidy (all : Array Oper) : Bool := (List.range all.size).all fun i => (List.range all.size).all fun j => i == j || edge all i j || edge all j i || match all[i]?, all[j]? with
  | some x, some y => x.apart all y
  | _, _ => true
structure Apt (all : Array Oper) (i j : Nat) : Prop where
  a : ∀ d, dstOf all i = some d → d ∉ looks all j
  b : ∀ d, dstOf all i = some d → dstOf all j ≠ some d
  c : ∀ d, dstOf all j = some d → d ∉ looks all i
theorem tidy_apt {all : Array Oper} (h : tidy all = true) {i j : Nat} (hi : i < all.size) (hj : j < all.size) (hne : i ≠ j) (h1 : edge all i j = false) (h2 : edge all j i = false) : Apt all i j := by
  simp only [tidy, List.all_eq_true, List.mem_range] at h
  have := h i hi j hj
  simp only [h1, h2, Bool.or_false, Bool.or_eq_true, beq_iff_eq, hne, false_or] at this
  rw [Array.getElem?_eq_getElem hi, Array.getElem?_eq_getElem hj] at this
  simp only at this
  obtain ⟨k1, k2, k3⟩ := Oper.apart_spec this
  refine ⟨?_, ?_, ?_⟩ <;> simp only [dstOf, looks, Array.getElem?_eq_getElem hi, Array.getElem?_eq_getElem hj, Option.bind_some]
  · exact k1
  · exact k2
  · exact k3
theorem some_ltA {α : Type} {l : Array α} {i : Nat} {x : α} (h : l[i]? = some x) : i < l.size := (Array.getElem?_eq_some_iff.1 h).1
theorem ready_iff {all : Array Oper} {j : Nat} {l : Array Bool} : j ∈ Region.ready .any all l ↔ l.getD j true = false ∧ j < all.size ∧ ∀ t, edge all j t = true → l.getD t false = true := by
  rw [mem_ready]
  constructor
  · rintro ⟨h1, o, ho, h2⟩
    refine ⟨h1, some_ltA ho, fun t ht => ?_⟩
    simp only [edge, ho] at ht
    obtain ⟨e, he, hb⟩ := Array.any_eq_true'.1 ht
    simp only [Bool.and_eq_true, beq_iff_eq] at hb
    rw [← hb.2]; exact h2 e he hb.1
  · rintro ⟨h1, hj, h2⟩
    refine ⟨h1, all[j], Array.getElem?_eq_getElem hj, fun e he hb => h2 e.on ?_⟩
    simp only [edge, Array.getElem?_eq_getElem hj]
    exact Array.any_eq_true'.2 ⟨e, he, by simp [hb]⟩
abbrev Pd := List (Nat × List AV × AV)
def wr (all : Array Oper) : Pd → List AV → List AV
  | [], e => e
  | x :: U, e => wr all U (putO e (dstOf all x.1) x.2.2)
def AG (all : Array Oper) : Pd → List AV → Prop
  | [], _ => True
  | x :: U, e => Ag x.2.1 e (looks all x.1) ∧ AG all U (putO e (dstOf all x.1) x.2.2)
theorem putO_comm {e : List AV} {d d' : Option Tmp} {v v' : AV} (h : ∀ t, d = some t → d' ≠ some t) : putO (putO e d v) d' v' = putO (putO e d' v') d v := by
  cases d with
  | none => rfl
  | some t =>
    cases d' with
    | none => rfl
    | some t' =>
      have hne : t ≠ t' := fun q => h t rfl (by rw [q])
      simp only [putO, st_eq]
      exact List.set_comm _ _ hne
theorem lk_putO {e : List AV} {d : Option Tmp} {v : AV} {t : Nat} (h : ∀ x, d = some x → x ≠ t) : lk (putO e d v) t = lk e t := by
  cases d with
  | none => rfl
  | some x => simp only [putO, st_eq, lk_eq, List.getElem?_set_ne (h x rfl)]
theorem Ag.symm {e e' : List AV} {l : List Tmp} (h : Ag e e' l) : Ag e' e l := fun t ht => (h t ht).symm
theorem Ag.trans {e e' e2 : List AV} {l : List Tmp} (h : Ag e e' l) (k : Ag e' e2 l) : Ag e e2 l := fun t ht => (h t ht).trans (k t ht)
theorem Ag_putO {e : List AV} {d : Option Tmp} {v : AV} {l : List Tmp} (h : ∀ x, d = some x → x ∉ l) : Ag (putO e d v) e l := fun t ht => lk_putO fun x hx q => h x hx (q ▸ ht)
theorem wr_put {all : Array Oper} {d : Option Tmp} {v : AV} : ∀ (U : Pd) {e : List AV}, (∀ u ∈ U, ∀ t, dstOf all u.1 = some t → d ≠ some t) → wr all U (putO e d v) = putO (wr all U e) d v
  | [], _, _ => rfl
  | x :: U, e, h => by
    simp only [wr]
    rw [putO_comm (d := d) fun t ht q => h x (by simp) t q (by rw [ht])]
    exact wr_put U fun u hu => h u (by simp [hu])
theorem wr_append {all : Array Oper} : ∀ (A B : Pd) (e : List AV), wr all (A ++ B) e = wr all B (wr all A e)
  | [], _, _ => rfl
  | x :: A, B, e => by simp only [List.cons_append, wr]; exact wr_append A B _
theorem Ag_wr {all : Array Oper} {l : List Tmp} : ∀ (U : Pd) {e : List AV}, (∀ u ∈ U, ∀ t, dstOf all u.1 = some t → t ∉ l) → Ag (wr all U e) e l
  | [], _, _ => fun _ _ => rfl
  | x :: U, e, h => (Ag_wr U fun u hu => h u (by simp [hu])).trans (Ag_putO (h x (by simp)))
theorem AG_append {all : Array Oper} : ∀ (A B : Pd) (e : List AV), AG all (A ++ B) e ↔ AG all A e ∧ AG all B (wr all A e)
  | [], B, e => by simp [AG, wr]
  | x :: A, B, e => by simp only [List.cons_append, AG, wr, AG_append A B, and_assoc]
theorem AG_put {all : Array Oper} {d : Option Tmp} {v : AV} : ∀ (U : Pd) {e : List AV}, (∀ u ∈ U, (∀ t, dstOf all u.1 = some t → d ≠ some t) ∧ ∀ t, d = some t → t ∉ looks all u.1) → AG all U e → AG all U (putO e d v)
  | [], _, _, _ => trivial
  | x :: U, e, h, k => by
    simp only [AG] at k ⊢
    refine ⟨k.1.trans (Ag_putO (h x (by simp)).2).symm, ?_⟩
    rw [putO_comm (d := d) fun t ht q => (h x (by simp)).1 t q (by rw [ht])]
    exact AG_put U (fun u hu => h u (by simp [hu])) k.2

structure Inv (P : Program) (all : Array Oper) (la lc : Array Bool) (U : Pd) (ec env : List AV) (σ : List AObj) : Prop where
  sa : la.size = all.size
  sc : lc.size = all.size
  listed : ∀ i, i < all.size → (la.getD i true = true ↔ lc.getD i true = true ∨ ∃ u ∈ U, u.1 = i)
  un : ∀ u ∈ U, u.1 < all.size ∧ lc.getD u.1 true = false
  nodup : (U.map (·.1)).Nodup
  env : env = wr all U ec
  rc : ∀ u ∈ U, ∃ o, all[u.1]? = some o ∧ RetG P all u.2.1 σ o u.2.2 σ
  ag : AG all U ec
  free : ∀ j, j < all.size → la.getD j true = false → ∀ u ∈ U, edge all u.1 j = false
  pair : U.Pairwise fun x y => edge all x.1 y.1 = false
  dep : ∀ u ∈ U, ∀ t, edge all u.1 t = true → t < all.size ∧ la.getD t true = true
  self : ∀ u ∈ U, edge all u.1 u.1 = false
  dn : ∀ j t, j < all.size → lc.getD j true = true → edge all j t = true → lc.getD t false = true
theorem Inv.bef {P : Program} {all : Array Oper} {la lc : Array Bool} {U : Pd} {ec env : List AV} {σ : List AObj} (I : Inv P all la lc U ec env σ) : ∀ (n j u : Nat), befB all n j u = true → (∀ t, edge all j t = true → lc.getD t false = true) → lc.getD u false = true
  | 0, _, _, h, _ => by simp [befB] at h
  | n + 1, j, u, h, hj => by
    simp only [befB, Bool.or_eq_true, List.any_eq_true, Bool.and_eq_true, List.mem_range] at h
    rcases h with h | ⟨m, hm, h1, h2⟩
    · exact hj u h
    · refine I.bef n m u h2 fun t ht => I.dn m t hm ?_ ht
      have := hj m h1
      have hs : m < lc.size := by rw [I.sc]; exact hm
      simpa [hs] using this
def cnt (l : Array Bool) : Nat := l.toList.count false
theorem cnt_set {l : Array Bool} {j : Nat} (h : l.getD j true = false) : cnt (l.setIfInBounds j true) + 1 = cnt l := by
  have hj : j < l.size := by
    rcases Nat.lt_or_ge j l.size with q | q
    · exact q
    · simp [Array.getElem?_eq_none q] at h
  have hv : l.toList[j]'(by simpa using hj) = false := by simpa [hj] using h
  have hmem : false ∈ l.toList := by rw [← hv]; exact List.getElem_mem _
  have hpos : 0 < l.toList.count false := List.count_pos_iff.2 hmem
  unfold cnt
  rw [Array.toList_setIfInBounds, List.count_set (by simpa using hj)]
  have e1 : (l.toList[j]'(by simpa using hj) == false) = true := by rw [hv]; rfl
  have e2 : ((true : Bool) == false) = false := rfl
  rw [e1, e2]
  simp only [if_true, Bool.false_eq_true, if_false, Nat.add_zero]
  exact Nat.sub_add_cancel hpos
theorem getD_set {l : Array Bool} {j : Nat} (hj : j < l.size) (i : Nat) (d : Bool) : (l.setIfInBounds j true).getD i d = if i = j then true else l.getD i d := by
  by_cases e : i = j
  · subst e; simp [hj]
  · rw [if_neg e]; exact getD_set_ne d fun q => e q.symm

section
variable {P : Program} {all : Array Oper} {la lc : Array Bool} {U : Pd} {ec env : List AV} {σ : List AObj}
theorem Inv.lt {la lc : Array Bool} (I : Inv P all la lc U ec env σ) {j : Nat} (h : lc.getD j true = false) : j < all.size := by
  rcases Nat.lt_or_ge j all.size with q | q
  · exact q
  · have := I.sc; simp [Array.getElem?_eq_none (show lc.size ≤ j by omega)] at h
/-- nothing can go on: all is done -/
theorem Inv.stop (I : Inv P all la lc U ec env σ) (h : Region.ready .any all lc = []) : U = [] := by
  cases U with
  | nil => rfl
  | cons u U =>
    exfalso
    have hm : u.1 ∈ Region.ready .any all lc := by
      refine ready_iff.2 ⟨(I.un u (by simp)).2, (I.un u (by simp)).1, fun t ht => ?_⟩
      obtain ⟨htl, hla⟩ := I.dep u (by simp) t ht
      rcases (I.listed t htl).1 hla with q | ⟨x, hx, rfl⟩
      · have hts : t < lc.size := by rw [I.sc]; exact htl
        simpa [hts] using q
      · exfalso
        rcases List.mem_cons.1 hx with rfl | hx
        · -- u is behind itself: it was listed when it was not
          have hn := I.nodup
          have := (I.un x (by simp)).1
          have hself := I.self x (by simp)
          rw [hself] at ht; cases ht
        · rw [(List.pairwise_cons.1 I.pair).1 x hx] at ht; cases ht
    rw [h] at hm
    cases hm
/-- an operation that was told ahead is run -/
theorem Inv.run (ht : tidy all = true) (I : Inv P all la lc U ec env σ) {x : Nat × List AV × AV} {A B : Pd} (hU : U = A ++ x :: B) (hr : x.1 ∈ Region.ready .any all lc) :
    (∃ o, all[x.1]? = some o ∧ RetG P all ec σ o x.2.2 σ) ∧ Inv P all la (lc.setIfInBounds x.1 true) (A ++ B) (putO ec (dstOf all x.1) x.2.2) env σ := by
  obtain ⟨hr1, hr2, hr3⟩ := ready_iff.1 hr
  subst hU
  have hxm : x ∈ A ++ x :: B := by simp
  have hpair := List.pairwise_append.1 I.pair
  have hnd := I.nodup
  rw [List.map_append, List.map_cons, List.nodup_append] at hnd
  obtain ⟨hndA, hndB, hdis⟩ := hnd
  have hneA : ∀ u ∈ A, u.1 ≠ x.1 := fun u hu => hdis u.1 (List.mem_map_of_mem hu) x.1 (by simp)
  have hneB : ∀ u ∈ B, u.1 ≠ x.1 := fun u hu q => (List.nodup_cons.1 hndB).1 (q ▸ List.mem_map_of_mem hu)
  have apt : ∀ u ∈ A, Apt all u.1 x.1 := fun u hu => by
    have hum : u ∈ A ++ x :: B := by simp [hu]
    refine tidy_apt ht (I.un u hum).1 hr2 (hneA u hu) (hpair.2.2 u hu x (by simp)) ?_
    cases q : edge all x.1 u.1 with
    | false => rfl
    | true =>
      have := hr3 _ q
      have hu' := (I.un u hum)
      have hs : u.1 < lc.size := by rw [I.sc]; exact hu'.1
      simp [hs] at this hu'
      rw [this] at hu'; simp at hu'
  have hAG := (AG_append A (x :: B) ec).1 I.ag
  have e1 : wr all A (putO ec (dstOf all x.1) x.2.2) = putO (wr all A ec) (dstOf all x.1) x.2.2 := wr_put A fun u hu t h1 h2 => (apt u hu).b t h1 h2
  constructor
  · obtain ⟨o, ho, hret⟩ := I.rc x hxm
    refine ⟨o, ho, retG_congr ?_ hret⟩
    have hl : looks all x.1 = o.looksAt all := by simp [looks, ho]
    rw [← hl]
    exact hAG.2.1.trans (Ag_wr A fun u hu t h1 => (apt u hu).a t h1)
  · have hmem : ∀ u, u ∈ A ++ B → u ∈ A ++ x :: B := fun u hu => by simp at hu ⊢; rcases hu with h | h <;> simp [h]
    have hne : ∀ u ∈ A ++ B, u.1 ≠ x.1 := fun u hu => by
      rcases List.mem_append.1 hu with h | h
      · exact hneA u h
      · exact hneB u h
    refine ⟨I.sa, by simpa using I.sc, fun i hi => ?_, fun u hu => ⟨(I.un u (hmem u hu)).1, ?_⟩, ?_, ?_, fun u hu => I.rc u (hmem u hu), ?_, fun j hj hl u hu => I.free j hj hl u (hmem u hu), ?_, fun u hu => I.dep u (hmem u hu), fun u hu => I.self u (hmem u hu), fun j t hj hl he => ?_⟩
    · rw [I.listed i hi, getD_set (by rw [I.sc]; exact hr2)]
      constructor
      · rintro (h | ⟨u, hu, rfl⟩)
        · left; split <;> simp [h]
        · by_cases q : u.1 = x.1
          · left; simp [q]
          · right; refine ⟨u, ?_, rfl⟩
            simp at hu ⊢
            rcases hu with h | h | h
            · exact .inl h
            · exact absurd (by rw [h]) q
            · exact .inr h
      · rintro (h | ⟨u, hu, rfl⟩)
        · split at h
          · next q => exact .inr ⟨x, hxm, q.symm⟩
          · exact .inl h
        · exact .inr ⟨u, hmem u hu, rfl⟩
    · rw [getD_set (by rw [I.sc]; exact hr2), if_neg (hne u hu)]; exact (I.un u (hmem u hu)).2
    · exact (List.Sublist.nodup · I.nodup) (List.Sublist.map _ (List.Sublist.append_left (List.sublist_cons_self x B) A))
    · rw [I.env, wr_append, wr_append, wr, e1]
    · refine (AG_append A B _).2 ⟨AG_put A (fun u hu => ⟨fun t h1 h2 => (apt u hu).b t h1 h2, fun t h1 => (apt u hu).c t h1⟩) hAG.1, ?_⟩
      rw [e1]; exact hAG.2.2
    · exact I.pair.sublist (List.Sublist.append_left (List.sublist_cons_self x B) A)
    · have sz : x.1 < lc.size := by rw [I.sc]; exact hr2
      rw [getD_set sz] at hl ⊢
      split
      · rfl
      · split at hl
        · next q => subst q; exact hr3 t he
        · exact I.dn j t hj hl he
end
end Go.AX
/- AX, part W: a region that draws its order, run by a plan. -/
set_option linter.unusedVariables false
set_option linter.unusedSimpArgs false
namespace Go.AX
/-- take: told ahead of its turn (it changes nothing; recorded, or not); run: in whatever order -/
inductive Plan where
  | done
  | take (i : Nat) (r : Bool) (p : Plan)
  | run (rs : List Nat) (m : Nat → List Bool) (f : Nat → Plan)
  | runV (rs : List Nat) (m : Nat → List Bool) (f : Nat → Plan)
def allL : List Nat → (Nat → Prop) → Prop
  | [], _ => True
  | i :: is, p => p i ∧ allL is p
theorem allL_get {p : Nat → Prop} : ∀ {l : List Nat}, allL l p → ∀ i ∈ l, p i
  | i :: is, h, j, hj => by
    rcases List.mem_cons.1 hj with rfl | q
    · exact h.1
    · exact allL_get h.2 j q
def sel {α : Type} : List Bool → List α → List α
  | true :: m, x :: xs => x :: sel m xs
  | false :: m, _ :: xs => sel m xs
  | _, _ => []
theorem sel_map {α β : Type} (g : α → β) : ∀ (m : List Bool) (xs : List α), (sel m xs).map g = sel m (xs.map g)
  | [], xs => by simp [sel]
  | true :: m, [] => by simp [sel]
  | false :: m, [] => by simp [sel]
  | true :: m, x :: xs => by simp [sel, sel_map g m xs]
  | false :: m, x :: xs => by simp [sel, sel_map g m xs]
def okM (all : Array Oper) (i : Nat) : List Bool → List Nat → Bool
  | [], [] => true
  | b :: m, u :: us => (b || befB all 12 i u) && okM all i m us
  | _, _ => false
theorem sel_mem {all : Array Oper} {i : Nat} : ∀ {m : List Bool} {pd : Pd} {u : Nat × List AV × AV}, okM all i m (pd.map (·.1)) = true → u ∈ pd → befB all 12 i u.1 = false → u ∈ sel m pd
  | [], [], u, _, h, _ => by cases h
  | [], _ :: _, u, h, _, _ => by simp [okM] at h
  | b :: m, [], u, h, k, _ => by cases k
  | b :: m, x :: xs, u, h, k, e => by
    simp only [List.map_cons, okM, Bool.and_eq_true, Bool.or_eq_true] at h
    rcases List.mem_cons.1 k with rfl | k
    · rcases h.1 with q | q
      · subst q; simp [sel]
      · rw [e] at q; cases q
    · have := sel_mem h.2 k e
      cases b <;> simp [sel, this]
def okP (all : Array Oper) : Plan → Array Bool → List Nat → List Nat → Bool
  | .done, la, _, _ => (Region.ready .any all la).isEmpty
  | .take i r p, la, pi, un => (Region.ready .any all la).contains i && okP all p (la.setIfInBounds i true) (if r then i :: pi else pi) (if r then un else i :: un)
  | .run rs m f, la, pi, un => (Region.ready .any all la) == rs && !rs.isEmpty && rs.all fun i => un.all (fun u => befB all 12 i u) && okM all i (m i) pi && okP all (f i) (la.setIfInBounds i true) (sel (m i) pi) []
  | .runV rs m f, la, pi, un => (Region.ready .any all la) == rs && !rs.isEmpty && rs.all fun i => un.all (fun u => befB all 12 i u) && okM all i (m i) pi && okP all (f i) (la.setIfInBounds i true) (sel (m i) pi) []
def reds (P : Program) (all : Array Oper) (σ : List AObj) : Pd → Prop
  | [] => True
  | x :: r => RetG P all x.2.1 σ (all.getD x.1 ⟨none, .panic (.const (.bool true)), 0, "", #[], none⟩) x.2.2 σ ∧ reds P all σ r
theorem reds_get {P : Program} {all : Array Oper} {σ : List AObj} : ∀ {pd : Pd}, reds P all σ pd → ∀ u ∈ pd, ∀ o, all[u.1]? = some o → RetG P all u.2.1 σ o u.2.2 σ
  | x :: r, h, u, hu, o, ho => by
    rcases List.mem_cons.1 hu with rfl | q
    · have := h.1; rwa [Array.getD_eq_getD_getElem?, ho] at this
    · exact reds_get h.2 u q o ho
def opG (P : Program) (all : Array Oper) (env : List AV) (σ : List AObj) (F : AV → List AObj → Prop) : Option Oper → Prop
  | some o => finG P all env σ o F (guardOf all env o.guard)
  | none => False
def contT (Ev : Pd → List AV → List AObj → Prop) (i : Nat) (r : Bool) (pd : Pd) (env : List AV) (d : Option Tmp) (σ : List AObj) (v : AV) (σ' : List AObj) : Prop :=
  σ' = σ ∧ Ev (if r then (i, env, v) :: pd else pd) (putO env d v) σ
def contR (P : Program) (all : Array Oper) (Ev : Pd → List AV → List AObj → Prop) (pd : Pd) (env : List AV) (d : Option Tmp) (v : AV) (σ' : List AObj) : Prop :=
  reds P all σ' pd ∧ Ev pd (putO env d v) σ'
/-- what the operation gives, said with less -/
def contV (P : Program) (all : Array Oper) (Ev : Pd → List AV → List AObj → Prop) (pd : Pd) (env : List AV) (d : Option Tmp) (n0 : Nat) (v : AV) (σ' : List AObj) : Prop :=
  ∃ v' σ2, Wk n0 [v] σ' [v'] σ2 ∧ reds P all σ2 pd ∧ Ev pd (putO env d v') σ2
def evP (P : Program) (all : Array Oper) (E : List AV → List AObj → Prop) : Plan → Pd → List AV → List AObj → Prop
  | .done, _, env, σ => E env σ
  | .take i r p, pd, env, σ => opG P all env σ (contT (evP P all E p) i r pd env (dstOf all i) σ) all[i]?
  | .run rs m f, pd, env, σ => allL rs fun i => opG P all env σ (contR P all (evP P all E (f i)) (sel (m i) pd) env (dstOf all i)) all[i]?
  | .runV rs m f, pd, env, σ => allL rs fun i => opG P all env σ (contV P all (evP P all E (f i)) (sel (m i) pd) env (dstOf all i) σ.length) all[i]?

section
variable {ro : Option Nat} {P : Program} {all : Array Oper} {c0 : Cf} {σ0 : List AObj} {Q : Exit → Act → World → Prop} {E : List AV → List AObj → Prop}
theorem cnt0 {l : Array Bool} (h : cnt l = 0) {j : Nat} (hj : j < l.size) : l.getD j true = true := by
  cases q : l.getD j true with
  | true => rfl
  | false => have := cnt_set q; omega
/-- one step, whatever the order: those told ahead, or those that are ready -/
theorem step_any (ht : tidy all = true) {la : Array Bool} {pd : Pd} {un : List Nat} {env : List AV} {σ : List AObj}
    (hstop : Region.ready .any all la = [] → ∀ c a, Good c0 σ0 c env σ a → Q .normal a c.w)
    (hrun : ∀ j, j ∈ Region.ready .any all la → ∀ fuel lc U ec c a, Inv P all la lc U ec env σ → (∀ u ∈ U, u ∈ pd ∨ u.1 ∈ un) → (∀ u ∈ U, ∀ n, befB all n j u.1 = false) → Good c0 σ0 c ec σ a → cnt lc ≤ fuel + 1 → lc.getD j true = false → (∀ t, edge all j t = true → lc.getD t false = true) →
      wpOpIn (FW ro) 0 P all Q j (wpAnyIn (FW ro) 0 P .any all Q fuel (lc.setIfInBounds j true)) a c.w) :
    ∀ fuel lc U ec c a, Inv P all la lc U ec env σ → (∀ u ∈ U, u ∈ pd ∨ u.1 ∈ un) → Good c0 σ0 c ec σ a → cnt lc ≤ fuel → wpAnyIn (FW ro) 0 P .any all Q fuel lc a c.w := by
  have stop : ∀ lc U ec c a, Inv P all la lc U ec env σ → Good c0 σ0 c ec σ a → Region.ready .any all lc = [] → Q .normal a c.w := fun lc U ec c a I G h => by
    have hU := I.stop h
    subst hU
    have he : env = ec := I.env
    subst he
    refine hstop ?_ c a G
    rw [List.eq_nil_iff_forall_not_mem]
    intro j hj
    obtain ⟨h1, h2, h3⟩ := ready_iff.1 hj
    have hall : ∀ i, i < all.size → (la.getD i true = true ↔ lc.getD i true = true) := fun i hi => by rw [I.listed i hi]; simp
    have : j ∈ Region.ready .any all lc := ready_iff.2 ⟨by
      have := hall j h2
      rw [h1] at this
      cases q : lc.getD j true with
      | false => rfl
      | true => simp [q] at this, h2, fun t htt => by
      have h4 := h3 t htt
      have hts : t < all.size := by
        rcases Nat.lt_or_ge t all.size with q | q
        · exact q
        · have := I.sa; simp [Array.getElem?_eq_none (show la.size ≤ t by omega)] at h4
      have h5 := (hall t hts).1 (by have hs : t < la.size := by { rw [I.sa]; exact hts }
                                    simpa [hs] using h4)
      have hs : t < lc.size := by rw [I.sc]; exact hts
      simpa [hs] using h5⟩
    rw [h] at this; cases this
  intro fuel
  induction fuel with
  | zero =>
    intro lc U ec c a I hR G hc
    have hr : Region.ready .any all lc = [] := by
      rw [List.eq_nil_iff_forall_not_mem]
      intro j hj
      obtain ⟨h1, h2, _⟩ := ready_iff.1 hj
      have := cnt0 (Nat.le_zero.1 hc) (j := j) (by rw [I.sc]; exact h2)
      rw [h1] at this; cases this
    exact ⟨hr, stop lc U ec c a I G hr⟩
  | succ fuel ih =>
    intro lc U ec c a I hR G hc
    refine ⟨fun hr => stop lc U ec c a I G hr, fun j hj => ?_⟩
    obtain ⟨h1, h2, h3⟩ := ready_iff.1 hj
    have nedge : ∀ u ∈ U, ∀ n, befB all n j u.1 = false := fun u hu n => by
      cases q : befB all n j u.1 with
      | false => rfl
      | true =>
        have h4 := I.bef n j u.1 q h3
        have h5 := I.un u hu
        have hs : u.1 < lc.size := by rw [I.sc]; exact h5.1
        simp [hs] at h4 h5
        rw [h4] at h5; simp at h5
    by_cases hm : ∃ u ∈ U, u.1 = j
    · obtain ⟨x, hx, rfl⟩ := hm
      obtain ⟨A, B, hU⟩ := List.append_of_mem hx
      obtain ⟨⟨o, ho, hret⟩, I'⟩ := I.run ht hU hj
      have hd : dstOf all x.1 = o.dst := by simp [dstOf, ho]
      refine retG_sound ho G hret fun c' a' G' => ?_
      refine ih _ _ _ c' a' I' (fun u hu => hR u (by subst hU; simp at hu ⊢; rcases hu with h | h <;> simp [h])) (by rw [hd]; exact G') ?_
      have := cnt_set h1
      omega
    · refine hrun j (ready_iff.2 ⟨?_, h2, fun t htt => ?_⟩) fuel lc U ec c a I hR nedge G hc h1 h3
      · cases q : la.getD j true with
        | false => rfl
        | true =>
          rcases (I.listed j h2).1 q with k | k
          · rw [h1] at k; cases k
          · exact absurd k hm
      · have h4 := h3 t htt
        have hts : t < all.size := by
          rcases Nat.lt_or_ge t all.size with q | q
          · exact q
          · have := I.sc; simp [Array.getElem?_eq_none (show lc.size ≤ t by omega)] at h4
        have hs : t < lc.size := by rw [I.sc]; exact hts
        have h5 := (I.listed t hts).2 (.inl (by simpa [hs] using h4))
        have hs2 : t < la.size := by rw [I.sa]; exact hts
        simpa [hs2] using h5

theorem evP_sound (ht : tidy all = true) (hE : ∀ env σ, E env σ → ∀ c a, Good c0 σ0 c env σ a → Q .normal a c.w) : ∀ (p : Plan) (la : Array Bool) (un : List Nat) (pd : Pd) (env : List AV) (σ : List AObj), okP all p la (pd.map (·.1)) un = true → evP P all E p pd env σ →
    ∀ fuel lc U ec c a, Inv P all la lc U ec env σ → (∀ u ∈ U, u ∈ pd ∨ u.1 ∈ un) → Good c0 σ0 c ec σ a → cnt lc ≤ fuel → wpAnyIn (FW ro) 0 P .any all Q fuel lc a c.w
  | .done, la, un, pd, env, σ, hok, h => by
    simp only [okP, List.isEmpty_iff] at hok
    exact step_any ht (fun _ c a G => hE env σ h c a G) (fun j hj => by rw [hok] at hj; cases hj)
  | .take i r p, la, un, pd, env, σ, hok, h => by
    intro fuel lc U ec c a I hR G hc
    simp only [okP, Bool.and_eq_true, List.contains_iff_mem] at hok
    obtain ⟨h1, h2, h3⟩ := ready_iff.1 hok.1
    simp only [evP] at h
    cases ho : all[i]? with
    | none => rw [ho] at h; exact h.elim
    | some o =>
      rw [ho] at h
      simp only [opG] at h
      obtain ⟨v, σ', hret, rfl, hev⟩ := finG_ret h
      have sz : i < la.size := by rw [I.sa]; exact h2
      have laT : ∀ t, la.getD t false = true → t < all.size ∧ la.getD t true = true := fun t q => by
        rcases Nat.lt_or_ge t la.size with k | k
        · exact ⟨by rw [← I.sa]; exact k, by simpa [k] using q⟩
        · simp [Array.getElem?_eq_none k] at q
      have hsub : ∀ u ∈ U, la.getD u.1 true = true := fun u hu => (I.listed u.1 (I.un u hu).1).2 (.inr ⟨u, hu, rfl⟩)
      have hni : ∀ u ∈ U, u.1 ≠ i := fun u hu q => by have := hsub u hu; rw [q, h1] at this; cases this
      have hlc : lc.getD i true = false := by
        cases q : lc.getD i true with
        | false => rfl
        | true => have := (I.listed i h2).2 (.inl q); rw [h1] at this; cases this
      have mem : ∀ u, u ∈ U ++ [(i, env, v)] → u ∈ U ∨ u = (i, env, v) := fun u hu => by simpa using hu
      have eself : edge all i i = false := by
        cases q : edge all i i with
        | false => rfl
        | true => have := (laT i (h3 i q)).2; rw [h1] at this; cases this
      refine evP_sound ht hE p (la.setIfInBounds i true) (if r then un else i :: un) (if r then (i, env, v) :: pd else pd) _ _ (by cases r <;> simpa using hok.2) hev fuel lc (U ++ [(i, env, v)]) ec c a ?_ ?_ G hc
      · refine ⟨by simpa using I.sa, I.sc, fun k hk => ?_, fun u hu => ?_, ?_, ?_, fun u hu => ?_, ?_, fun j hj hl u hu => ?_, ?_, fun u hu t htt => ?_, fun u hu => ?_, I.dn⟩
        · rw [getD_set sz]
          constructor
          · intro q
            split at q
            · next e => exact .inr ⟨_, List.mem_append_right _ (List.mem_singleton.2 rfl), e.symm⟩
            · rcases (I.listed k hk).1 q with q | ⟨u, hu, e⟩
              · exact .inl q
              · exact .inr ⟨u, by simp [hu], e⟩
          · intro q
            split
            · rfl
            · next e =>
              refine (I.listed k hk).2 ?_
              rcases q with q | ⟨u, hu, e'⟩
              · exact .inl q
              · rcases mem u hu with hu | rfl
                · exact .inr ⟨u, hu, e'⟩
                · exact absurd e'.symm e
        · rcases mem u hu with hu | rfl
          · exact I.un u hu
          · exact ⟨h2, hlc⟩
        · rw [List.map_append, List.nodup_append]
          refine ⟨I.nodup, by simp, fun x hx y hy => ?_⟩
          simp at hy
          subst hy
          obtain ⟨u, hu, rfl⟩ := List.mem_map.1 hx
          exact hni u hu
        · rw [wr_append, ← I.env]; rfl
        · rcases mem u hu with hu | rfl
          · exact I.rc u hu
          · exact ⟨o, ho, hret⟩
        · refine (AG_append U _ ec).2 ⟨I.ag, ?_, trivial⟩
          rw [← I.env]; exact fun _ _ => rfl
        · have hji : j ≠ i := fun e => by subst e; simp [getD_set sz] at hl
          rw [getD_set sz, if_neg hji] at hl
          rcases mem u hu with hu | rfl
          · exact I.free j hj hl u hu
          · cases q : edge all i j with
            | false => rfl
            | true => have := (laT j (h3 j q)).2; rw [hl] at this; cases this
        · rw [List.pairwise_append]
          refine ⟨I.pair, by simp, fun x hx y hy => ?_⟩
          simp at hy; subst hy
          exact I.free i h2 h1 x hx
        · have up : ∀ t, la.getD t true = true → (la.setIfInBounds i true).getD t true = true := fun t q => by rw [getD_set sz]; split <;> simp [q]
          rcases mem u hu with hu | rfl
          · exact ⟨(I.dep u hu t htt).1, up t (I.dep u hu t htt).2⟩
          · exact ⟨(laT t (h3 t htt)).1, up t (laT t (h3 t htt)).2⟩
        · rcases mem u hu with hu | rfl
          · exact I.self u hu
          · exact eself
      · intro u hu
        rcases mem u hu with hu | rfl
        · cases r
          · rcases hR u hu with q | q
            · exact .inl (by simpa using q)
            · exact .inr (by simp [q])
          · rcases hR u hu with q | q
            · exact .inl (by simp [q])
            · exact .inr (by simpa using q)
        · cases r <;> simp
  | .run rs m f, la, un, pd, env, σ, hok, h => by
    simp only [okP, Bool.and_eq_true, beq_iff_eq, Bool.not_eq_true', List.isEmpty_eq_false_iff, List.all_eq_true] at hok
    obtain ⟨⟨hrs, hne⟩, hall⟩ := hok
    refine step_any ht (fun hr => absurd (by rw [← hrs]; exact hr) hne) fun j hj fuel lc U ec c a I hR hno G hc hlj hready => ?_
    obtain ⟨h1, h2, h3⟩ := ready_iff.1 hj
    rw [hrs] at hj
    obtain ⟨⟨hun, hm⟩, hok'⟩ := hall j hj
    simp only [evP] at h
    have hj' := allL_get h j hj
    have hno1 : ∀ u ∈ U, edge all j u.1 = false := fun u hu => by
      have := hno u hu 1
      simp only [befB, Bool.or_eq_false_iff] at this
      exact this.1
    cases ho : all[j]? with
    | none => rw [ho] at hj'; exact hj'.elim
    | some o =>
      rw [ho] at hj'
      simp only [opG] at hj'
      obtain ⟨v, σ', hret, hreds, hev⟩ := finG_ret hj'
      have sz : j < la.size := by rw [I.sa]; exact h2
      have szc : j < lc.size := by rw [I.sc]; exact h2
      have hsub : ∀ u ∈ U, la.getD u.1 true = true := fun u hu => (I.listed u.1 (I.un u hu).1).2 (.inr ⟨u, hu, rfl⟩)
      have hni : ∀ u ∈ U, u.1 ≠ j := fun u hu q => by have := hsub u hu; rw [q, h1] at this; cases this
      have apt : ∀ u ∈ U, Apt all u.1 j := fun u hu => tidy_apt ht (I.un u hu).1 h2 (hni u hu) (I.free j h2 h1 u hu) (hno1 u hu)
      have hl : looks all j = o.looksAt all := by simp [looks, ho]
      have hd : dstOf all j = o.dst := by simp [dstOf, ho]
      have hret' : RetG P all ec σ o v σ' := retG_congr (by rw [← hl, I.env]; exact Ag_wr U fun u hu t q => (apt u hu).a t q) hret
      have hin : ∀ u ∈ U, u ∈ sel (m j) pd := fun u hu => by
        rcases hR u hu with q | q
        · exact sel_mem hm q (hno u hu 12)
        · have := hun u.1 q; rw [hno u hu 12] at this; cases this
      refine retG_sound ho G hret' fun c' a' G' => ?_
      have hokf : okP all (f j) (la.setIfInBounds j true) ((sel (m j) pd).map (·.1)) [] = true := by rw [sel_map]; exact hok'
      refine evP_sound ht hE (f j) _ [] (sel (m j) pd) _ _ hokf hev fuel (lc.setIfInBounds j true) U (putO ec (dstOf all j) v) c' a' ?_ (fun u hu => .inl (hin u hu)) (by rw [hd]; exact G') ?_
      · have up : ∀ t, la.getD t true = true → (la.setIfInBounds j true).getD t true = true := fun t q => by rw [getD_set sz]; split <;> simp [q]
        refine ⟨by simpa using I.sa, by simpa using I.sc, fun k hk => ?_, fun u hu => ⟨(I.un u hu).1, ?_⟩, I.nodup, ?_, fun u hu => ?_, ?_, fun k hk hlk u hu => ?_, I.pair, fun u hu t htt => ⟨(I.dep u hu t htt).1, up t (I.dep u hu t htt).2⟩, I.self, fun k t hk hlk he => ?_⟩
        · rw [getD_set sz, getD_set szc]
          by_cases e : k = j
          · simp [e]
          · simp only [if_neg e]; exact I.listed k hk
        · rw [getD_set szc, if_neg (hni u hu)]; exact (I.un u hu).2
        · rw [I.env]; exact (wr_put U fun u hu t q1 q2 => (apt u hu).b t q1 q2).symm
        · obtain ⟨o', ho', _⟩ := I.rc u hu
          exact ⟨o', ho', reds_get hreds u (hin u hu) o' ho'⟩
        · exact AG_put U (fun u hu => ⟨fun t q1 q2 => (apt u hu).b t q1 q2, fun t q => (apt u hu).c t q⟩) I.ag
        · refine I.free k hk ?_ u hu
          rw [getD_set sz] at hlk
          split at hlk
          · cases hlk
          · exact hlk
        · rw [getD_set szc] at hlk ⊢
          split
          · rfl
          · split at hlk
            · next q => subst q; exact hready t he
            · exact I.dn k t hk hlk he
      · have := cnt_set hlj
        omega
  | .runV rs m f, la, un, pd, env, σ, hok, h => by
    simp only [okP, Bool.and_eq_true, beq_iff_eq, Bool.not_eq_true', List.isEmpty_eq_false_iff, List.all_eq_true] at hok
    obtain ⟨⟨hrs, hne⟩, hall⟩ := hok
    refine step_any ht (fun hr => absurd (by rw [← hrs]; exact hr) hne) fun j hj fuel lc U ec c a I hR hno G hc hlj hready => ?_
    obtain ⟨h1, h2, h3⟩ := ready_iff.1 hj
    rw [hrs] at hj
    obtain ⟨⟨hun, hm⟩, hok'⟩ := hall j hj
    simp only [evP] at h
    have hj' := allL_get h j hj
    have hno1 : ∀ u ∈ U, edge all j u.1 = false := fun u hu => by
      have := hno u hu 1
      simp only [befB, Bool.or_eq_false_iff] at this
      exact this.1
    cases ho : all[j]? with
    | none => rw [ho] at hj'; exact hj'.elim
    | some o =>
      rw [ho] at hj'
      simp only [opG] at hj'
      obtain ⟨v, σ', hret, v', σ2, hw, hreds, hev⟩ := finG_ret hj'
      have sz : j < la.size := by rw [I.sa]; exact h2
      have szc : j < lc.size := by rw [I.sc]; exact h2
      have hsub : ∀ u ∈ U, la.getD u.1 true = true := fun u hu => (I.listed u.1 (I.un u hu).1).2 (.inr ⟨u, hu, rfl⟩)
      have hni : ∀ u ∈ U, u.1 ≠ j := fun u hu q => by have := hsub u hu; rw [q, h1] at this; cases this
      have apt : ∀ u ∈ U, Apt all u.1 j := fun u hu => tidy_apt ht (I.un u hu).1 h2 (hni u hu) (I.free j h2 h1 u hu) (hno1 u hu)
      have hl : looks all j = o.looksAt all := by simp [looks, ho]
      have hd : dstOf all j = o.dst := by simp [dstOf, ho]
      have hret' : RetG P all ec σ o v σ' := retG_congr (by rw [← hl, I.env]; exact Ag_wr U fun u hu t q => (apt u hu).a t q) hret
      have hin : ∀ u ∈ U, u ∈ sel (m j) pd := fun u hu => by
        rcases hR u hu with q | q
        · exact sel_mem hm q (hno u hu 12)
        · have := hun u.1 q; rw [hno u hu 12] at this; cases this
      refine retG_wk ho G hret' hw fun c' a' G' => ?_
      have hokf : okP all (f j) (la.setIfInBounds j true) ((sel (m j) pd).map (·.1)) [] = true := by rw [sel_map]; exact hok'
      refine evP_sound ht hE (f j) _ [] (sel (m j) pd) _ _ hokf hev fuel (lc.setIfInBounds j true) U (putO ec (dstOf all j) v') c' a' ?_ (fun u hu => .inl (hin u hu)) (by rw [hd]; exact G') ?_
      · have up : ∀ t, la.getD t true = true → (la.setIfInBounds j true).getD t true = true := fun t q => by rw [getD_set sz]; split <;> simp [q]
        refine ⟨by simpa using I.sa, by simpa using I.sc, fun k hk => ?_, fun u hu => ⟨(I.un u hu).1, ?_⟩, I.nodup, ?_, fun u hu => ?_, ?_, fun k hk hlk u hu => ?_, I.pair, fun u hu t htt => ⟨(I.dep u hu t htt).1, up t (I.dep u hu t htt).2⟩, I.self, fun k t hk hlk he => ?_⟩
        · rw [getD_set sz, getD_set szc]
          by_cases e : k = j
          · simp [e]
          · simp only [if_neg e]; exact I.listed k hk
        · rw [getD_set szc, if_neg (hni u hu)]; exact (I.un u hu).2
        · rw [I.env]; exact (wr_put U fun u hu t q1 q2 => (apt u hu).b t q1 q2).symm
        · obtain ⟨o', ho', _⟩ := I.rc u hu
          exact ⟨o', ho', reds_get hreds u (hin u hu) o' ho'⟩
        · exact AG_put U (fun u hu => ⟨fun t q1 q2 => (apt u hu).b t q1 q2, fun t q => (apt u hu).c t q⟩) I.ag
        · refine I.free k hk ?_ u hu
          rw [getD_set sz] at hlk
          split at hlk
          · cases hlk
          · exact hlk
        · rw [getD_set szc] at hlk ⊢
          split
          · rfl
          · split at hlk
            · next q => subst q; exact hready t he
            · exact I.dn k t hk hlk he
      · have := cnt_set hlj
        omega
end

/-! ### the draw -/
inductive DXi (Γ : Ctx) (E : List AV → List AObj → Prop) (all : Array Oper) : List AV → List AObj → Prop where
  | wk {env env' : List AV} {σ σ' : List AObj} (h : Wk Γ.n0 env σ env' σ') (k : DXi Γ E all env' σ') : DXi Γ E all env σ
  | mk {env : List AV} {σ : List AObj} (p : Plan) (h1 : okP all p (Array.replicate all.size false) [] [] = true) (h2 : tidy all = true) (h3 : Γ.P.follows .mixedOrders = true)
      (h4 : evP Γ.P all (fun env σ => ∃ env' σ', Wk Γ.n0 env σ env' σ' ∧ E env' σ') p [] env σ) : DXi Γ E all env σ
def DX : Draw := fun Γ E k _ all env σ => DXi Γ (E k) all env σ
theorem Inv.first (P : Program) (all : Array Oper) (env : List AV) (σ : List AObj) : Inv P all (Array.replicate all.size false) (Array.replicate all.size false) [] env env σ where
  sa := by simp
  sc := by simp
  listed i hi := by simp
  un u hu := by cases hu
  nodup := by simp
  env := rfl
  rc u hu := by cases hu
  ag := trivial
  free j hj h u hu := by cases hu
  pair := .nil
  dep u hu := by cases hu
  self u hu := by cases hu
  dn j t hj h he := by simp [hj] at h
theorem DX_ok : DrawOk DX := by
  intro Γ c0 σ0 Q0 hn E hE id k ops env σ h c a G
  have h' : DXi Γ (E k) ops env σ := h
  clear h
  induction h' generalizing c with
  | wk h _ ih =>
    rw [← hn] at h
    obtain ⟨c', w1, G1⟩ := G.wk h
    rw [← w1]
    exact ih c' G1
  | @mk env σ p h1 h2 h3 h4 =>
    refine wpIn_region_any h3 ?_
    have G' : Good c0 σ0 (c.at c.w.drew) env σ a := G.nx (Nxt.drew G.nxt.hold)
    refine evP_sound h2 (fun env σ he c a G => ?_) p _ [] [] env σ h1 h4 _ _ [] env (c.at c.w.drew) a (Inv.first Γ.P ops env σ) (fun u hu => by cases hu) G' ?_
    · obtain ⟨env', σ', hw, he'⟩ := he
      rw [← hn] at hw
      obtain ⟨c', w1, G1⟩ := G.wk hw
      rw [← w1]
      exact hE k env' σ' he' c' a G1
    · unfold cnt
      simp
/-- a draw whose end needs no turning -/
theorem evP_mono {P : Program} {all : Array Oper} {E E' : List AV → List AObj → Prop} (hE : ∀ env σ, E env σ → E' env σ) : ∀ (p : Plan) (pd : Pd) (env : List AV) (σ : List AObj), evP P all E p pd env σ → evP P all E' p pd env σ := by
  have tm : ∀ {F F' : AV → List AObj → Prop} {σ : List AObj}, (∀ v s, F v s → F' v s) → ∀ (r : R1), finT P σ F r → finT P σ F' r := by
    intro F F' σ hF r
    induction r with
    | to v s => exact hF v s
    | need p r ih => exact fun h => ⟨h.1, ih h.2⟩
    | all es i k ih => exact fun h => ⟨h.1, fun e he => ih e (h.2 e he)⟩
    | ite t x y ih1 ih2 => exact fun h => ⟨fun q => ih1 (h.1 q), fun q => ih2 (h.2 q)⟩
    | call f args => exact fun ⟨r, s, h1, h2⟩ => ⟨r, s, h1, hF r s h2⟩
    | ex p k ih => exact fun h => h
    | yld b xs => exact fun h => h
    | bad => exact fun h => h
  have om : ∀ {F F' : AV → List AObj → Prop} {env : List AV} {σ : List AObj}, (∀ v s, F v s → F' v s) → ∀ (o : Option Oper), opG P all env σ F o → opG P all env σ F' o := by
    intro F F' env σ hF o h
    cases o with
    | none => exact h
    | some o =>
      simp only [opG] at h ⊢
      generalize guardOf all env o.guard = g at *
      cases g with
      | none => exact h
      | some b => exact ⟨fun q => tm hF _ (h.1 q), fun q => hF _ _ (h.2 q)⟩
  intro p
  induction p with
  | done => exact fun pd env σ h => hE env σ h
  | take i r p ih => exact fun pd env σ h => om (fun v s q => ⟨q.1, ih _ _ _ q.2⟩) _ h
  | run rs m f ih =>
    intro pd env σ h
    simp only [evP] at h ⊢
    have : ∀ l : List Nat, allL l (fun i => opG P all env σ (contR P all (evP P all E (f i)) (sel (m i) pd) env (dstOf all i)) all[i]?) →
        allL l (fun i => opG P all env σ (contR P all (evP P all E' (f i)) (sel (m i) pd) env (dstOf all i)) all[i]?) := by
      intro l
      induction l with
      | nil => exact fun h => h
      | cons i l ihl => exact fun h => ⟨om (fun v s q => ⟨q.1, ih i _ _ _ q.2⟩) _ h.1, ihl h.2⟩
    exact this rs h
  | runV rs m f ih =>
    intro pd env σ h
    simp only [evP] at h ⊢
    have : ∀ l : List Nat, allL l (fun i => opG P all env σ (contV P all (evP P all E (f i)) (sel (m i) pd) env (dstOf all i) σ.length) all[i]?) →
        allL l (fun i => opG P all env σ (contV P all (evP P all E' (f i)) (sel (m i) pd) env (dstOf all i) σ.length) all[i]?) := by
      intro l
      induction l with
      | nil => exact fun h => h
      | cons i l ihl => exact fun h => ⟨om (fun v s ⟨v', s', q1, q2, q3⟩ => ⟨v', s', q1, q2, ih i _ _ _ q3⟩) _ h.1, ihl h.2⟩
    exact this rs h
theorem DX.plain {Γ : Ctx} {E : List It → List AV → List AObj → Prop} {k : List It} {l : List Oper} {all : Array Oper} {env : List AV} {σ : List AObj} (p : Plan) (h1 : okP all p (Array.replicate all.size false) [] [] = true) (h2 : tidy all = true)
    (h3 : Γ.P.follows .mixedOrders = true) (h4 : evP Γ.P all (E k) p [] env σ) : DX Γ E k l all env σ :=
  .mk p h1 h2 h3 (evP_mono (fun env σ h => ⟨env, σ, .refl _ _ _, h⟩) p [] env σ h4)
theorem DX.pre {Γ : Ctx} {E : List It → List AV → List AObj → Prop} {k : List It} {l : List Oper} {all : Array Oper} {env env' : List AV} {σ σ' : List AObj} (h : Wk Γ.n0 env σ env' σ') (h4 : DX Γ E k l all env' σ') : DX Γ E k l all env σ := .wk h h4
end Go.AX

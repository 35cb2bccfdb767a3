/- AX, part T: what was known, said with less; loops; calls. -/
import Derived.Test.YtnmgmlmiijljmaaAxS
set_option linter.unusedVariables false
set_option linter.unusedSimpArgs false
namespace Go.AX

def wkE : List AV → List AV → Prop
  | [], [] => True
  | _ :: xs, .any :: ys => wkE xs ys
  | x :: xs, y :: ys => x = y ∧ wkE xs ys
  | _, _ => False
theorem wkE_sound {c : Cf} : ∀ {xs ys : List AV} {vs : List Value}, wkE xs ys → ARs c xs vs → ARs c ys vs
  | [], [], _, _, h => h
  | [], _ :: _, _, h, _ => by simp [wkE] at h
  | _ :: _, [], _, h, _ => by simp [wkE] at h
  | x :: xs, y :: ys, vs, h, r => by
    obtain ⟨v, r', rfl, h1, h2⟩ := ARs_cons_left r
    by_cases e : y = .any
    · subst e
      simp only [wkE] at h
      exact ARs_cons.2 ⟨by simp [AR], wkE_sound h h2⟩
    · have h' : x = y ∧ wkE xs ys := by cases y <;> simp_all [wkE]
      exact ARs_cons.2 ⟨h'.1 ▸ h1, wkE_sound h'.2 h2⟩
theorem Wk.sub {n0 : Nat} {xs ys : List AV} {σ : List AObj} (h : wkE xs ys) : Wk n0 xs σ ys σ :=
  fun c vs H hn r => ⟨c, rfl, hn, fun _ _ => ⟨rfl, rfl⟩, fun _ _ _ h => h, H, wkE_sound h r, fun _ h => h, fun _ _ h => absurd rfl h⟩
/-- what is known of an object, with less -/
def wkO : AObj → AObj → Prop
  | _, .gone => True
  | .cells xs, .cells ys => wkE xs ys
  | x, y => x = y
def wkOs : List AObj → List AObj → Prop
  | [], [] => True
  | x :: xs, y :: ys => wkO x y ∧ wkOs xs ys
  | _, _ => False
theorem wkE_refl : ∀ cs : List AV, wkE cs cs
  | [] => trivial
  | c :: cs => by have := wkE_refl cs; cases c <;> simp_all [wkE]
theorem wkO_refl (x : AObj) : wkO x x := by cases x <;> simp [wkO, wkE_refl]
theorem wkO_ok {c : Cf} {l : Nat} {x y : AObj} (h : wkO x y) (k : ObjOk c l x) : ObjOk c l y := by
  by_cases e : y = .gone
  · subst e; trivial
  by_cases e2 : x = y
  · exact e2 ▸ k
  cases y <;> cases x <;> simp only [wkO] at h <;> first | exact absurd rfl e | exact absurd h e2 | skip
  obtain ⟨vs, ty, e1, e2⟩ := k
  exact ⟨vs, ty, e1, wkE_sound h e2⟩
theorem wkO_has {c : Cf} {l : Nat} {x y : AObj} (h : wkO x y) (k : Has c l y) : Has c l x := by
  cases y <;> cases x <;> simp only [wkO] at h <;> first | (exact k.elim) | trivial | (simp at h; done) | (cases h; exact k)
theorem wkOs_get : ∀ {xs ys : List AObj} {i : Nat} {y : AObj}, wkOs xs ys → ys[i]? = some y → ∃ x, xs[i]? = some x ∧ wkO x y
  | [], [], i, y, _, h => by simp at h
  | [], _ :: _, _, _, h, _ => by simp [wkOs] at h
  | _ :: _, [], _, _, h, _ => by simp [wkOs] at h
  | x :: xs, y :: ys, 0, z, h, e => by simp at e; subst e; exact ⟨x, rfl, h.1⟩
  | x :: xs, y :: ys, i + 1, z, h, e => by simp at e; simpa using wkOs_get h.2 e
theorem wkOs_len : ∀ {xs ys : List AObj}, wkOs xs ys → xs.length = ys.length
  | [], [], _ => rfl
  | [], _ :: _, h => by simp [wkOs] at h
  | _ :: _, [], h => by simp [wkOs] at h
  | x :: xs, y :: ys, h => by simp [wkOs_len h.2]
theorem Wk.subO {n0 : Nat} {xs : List AV} {σ τ : List AObj} (h : wkOs σ τ) : Wk n0 xs σ xs τ := fun c vs H hn r => by
  refine ⟨c, rfl, hn, fun _ _ => ⟨rfl, rfl⟩, fun _ _ _ h => h, ⟨by rw [H.n, wkOs_len h], H.snap, ?_, ?_, ?_, ?_⟩, r, ?_, fun _ _ h => absurd rfl h⟩
  · intro l o e; obtain ⟨x, e1, e2⟩ := wkOs_get h e; exact wkO_ok e2 (H.obj l x e1)
  · intro l o l' o' e e' g g' hne
    obtain ⟨x, e1, e2⟩ := wkOs_get h e
    obtain ⟨x', e1', e2'⟩ := wkOs_get h e'
    exact H.sep _ _ _ _ e1 e1' (wkO_has e2 g) (wkO_has e2' g') hne
  · intro l o e g k; obtain ⟨x, e1, e2⟩ := wkOs_get h e; exact H.apart _ _ e1 (wkO_has e2 g) k
  · intro l o e g; obtain ⟨x, e1, e2⟩ := wkOs_get h e; exact H.lt _ _ e1 (wkO_has e2 g)
  · rintro b ⟨l, o, e, g, q⟩; obtain ⟨x, e1, e2⟩ := wkOs_get h e; exact ⟨l, x, e1, wkO_has e2 g, q⟩
/-- other labels; what has none is forgotten -/
theorem Wk.via {n0 : Nat} {xs ys : List AV} {σ τ : List AObj} (ls : List Nat) (h1 : wkE xs (rens (at0 ls) ys)) (h2 : bds ls.length ys) (h3 : ls.Nodup) (h4 : ∀ l ∈ ls, l < σ.length)
    (h5 : wkOs (obs σ ls) (mapO (at0 ls) τ)) (h6 : bdOs ls.length τ) (h7 : n0 ≤ ls.length) (h8 : ∀ i, i < n0 → at0 ls i = i) : Wk n0 xs σ ys τ := by
  refine Wk.trans (Wk.sub h1) ?_
  have key : ∀ (σ : List AObj), (∀ l ∈ ls, l < σ.length) → obs σ ls = mapO (at0 ls) τ → Wk n0 (rens (at0 ls) ys) σ ys τ := fun σ h4 h5 c vs H hn r => by
    have H0 := (call_frame (σ1 := []) H h3 h4 h5 h6).1
    refine ⟨c.via (at0 ls) ls.length, rfl, h7, fun l hl => ⟨by simp [Cf.via, h8 l hl], by simp [Cf.via, h8 l hl]⟩, fun _ _ _ h => h, H0, ARs_via ys h2 r, ?_, fun _ _ h => absurd rfl h⟩
    rintro b ⟨i, o, e, g, q⟩
    have hi : i < ls.length := by
      have := some_lt e
      have hl := congrArg List.length h5
      rw [obs_length, mapO_length] at hl
      omega
    have e2 := obs_get (σ := σ) ls i hi
    rw [h5, mapO_get, e] at e2
    simp only [Option.map_some, Option.some.injEq] at e2
    have hlt := h4 _ (at0_mem hi)
    refine ⟨at0 ls i, renO (at0 ls) o, ?_, ?_, q⟩
    · rw [ob_eq, List.getElem?_eq_getElem hlt] at e2
      rw [List.getElem?_eq_getElem hlt]
      simpa using e2.symm
    · cases o <;> first | exact g | trivial
  -- the objects with less, at their old labels
  let σ2 : List AObj := (List.range σ.length).map fun l => if l ∈ ls then (mapO (at0 ls) τ).getD (ls.idxOf l) .gone else ob σ l
  have hσ2 : wkOs σ σ2 := by
    have hget : ∀ (l : Nat) (x : AObj), σ[l]? = some x → wkO x (if l ∈ ls then (mapO (at0 ls) τ).getD (ls.idxOf l) .gone else ob σ l) := fun l x hx => by
      have hob : ob σ l = x := by rw [ob_eq, hx]; rfl
      split
      · next hm =>
        have hi : ls.idxOf l < ls.length := List.idxOf_lt_length_iff.2 hm
        have ha : at0 ls (ls.idxOf l) = l := by simp [at0, hi]
        cases q : (mapO (at0 ls) τ)[ls.idxOf l]? with
        | none => simp [List.getD_eq_getElem?_getD, q, wkO]
        | some y =>
          obtain ⟨x', e1, e2⟩ := wkOs_get h5 q
          rw [obs_get ls _ hi, ha, hob] at e1
          simp at e1; subst e1
          simpa [List.getD_eq_getElem?_getD, q] using e2
      · rw [hob]; exact wkO_refl x
    have gen : ∀ (xs : List AObj) (f : Nat → AObj), (∀ l x, xs[l]? = some x → wkO x (f l)) → wkOs xs ((List.range xs.length).map f) := by
      intro xs
      induction xs with
      | nil => intro f _; trivial
      | cons x xs ih =>
        intro f hf
        rw [List.length_cons, List.range_succ_eq_map, List.map_cons, List.map_map]
        exact ⟨hf 0 x rfl, ih (f ∘ Nat.succ) fun l y hy => hf (l + 1) y (by simpa using hy)⟩
    exact gen σ _ hget
  refine Wk.trans (Wk.subO hσ2) (key σ2 (fun l hl => by simpa [σ2] using h4 l hl) ?_)
  have hlen := wkOs_len h5
  rw [obs_length, mapO_length] at hlen
  refine List.ext_getElem? fun i => ?_
  rcases Nat.lt_or_ge i ls.length with hi | hi
  · rw [obs_get ls i hi]
    have hlt := h4 _ (at0_mem hi)
    have hidx : ls.idxOf (at0 ls i) = i := by
      have : at0 ls i = ls[i] := by simp [at0, hi]
      rw [this]; exact List.Nodup.idxOf_getElem h3 i hi
    have : ob σ2 (at0 ls i) = (mapO (at0 ls) τ).getD i .gone := by
      rw [ob_eq]
      simp only [σ2, List.getElem?_map, List.getElem?_range hlt, Option.map_some, Option.getD_some, if_pos (at0_mem hi), hidx]
    rw [this, mapO_get]
    have hi' : i < τ.length := by omega
    simp [List.getD_eq_getElem?_getD, mapO_get, List.getElem?_eq_getElem hi']
  · rw [List.getElem?_eq_none (by rw [obs_length]; exact hi), List.getElem?_eq_none (by rw [mapO_length]; omega)]
-- a row of the call's own, as data
mutual
def sb (l : Nat) (d : D) : AV → AV
  | .own k => if k = l then .d d else .own k
  | .agg cs => .agg (sbs l d cs)
  | .tup cs => .tup (sbs l d cs)
  | .fn g caps => .fn g (sbs l d caps)
  | x => x
def sbs (l : Nat) (d : D) : List AV → List AV
  | [] => []
  | x :: xs => sb l d x :: sbs l d xs
end
mutual
theorem AR_sb {c c' : Cf} {l : Nat} {d : D} (L : c.Le c') (h : ∀ v, AR c (.own l) v → DR c'.h d v) : ∀ (x : AV) {v : Value}, AR c x v → AR c' (sb l d x) v
  | .own k, v, e => by
    simp only [sb]
    split
    · next q => subst q; simp only [AR]; exact h v e
    · exact AR.mono L _ e
  | .agg cs, v, e => by simp only [AR, sb] at e ⊢; obtain ⟨vs, e1, e2⟩ := e; exact ⟨vs, e1, ARs_sb L h cs e2⟩
  | .tup cs, v, e => by simp only [AR, sb] at e ⊢; obtain ⟨vs, e1, e2⟩ := e; exact ⟨vs, e1, ARs_sb L h cs e2⟩
  | .fn g cs, v, e => by simp only [AR, sb] at e ⊢; obtain ⟨vs, e1, e2⟩ := e; exact ⟨vs, e1, ARs_sb L h cs e2⟩
  | .any, _, e => AR.mono L _ e
  | .d _, _, e => AR.mono L _ e
  | .ptr _ _, _, e => AR.mono L _ e
  | .rptr _ _ _ _, _, e => AR.mono L _ e
  | .eptr _, _, e => AR.mono L _ e
  | .mp _, _, e => AR.mono L _ e
  | .nil, _, e => AR.mono L _ e
  | .raw _, _, e => AR.mono L _ e
theorem ARs_sb {c c' : Cf} {l : Nat} {d : D} (L : c.Le c') (h : ∀ v, AR c (.own l) v → DR c'.h d v) : ∀ (xs : List AV) {vs : List Value}, ARs c xs vs → ARs c' (sbs l d xs) vs
  | [], vs, e => by rw [ARs_nil_left e]; simp [sbs, ARs]
  | x :: xs, vs, e => by
    obtain ⟨v, r, rfl, h1, h2⟩ := ARs_cons_left e
    simp only [sbs]
    exact ARs_cons.2 ⟨AR_sb L h x h1, ARs_sb L h xs h2⟩
end
theorem Nxt.wkz {c : Cf} {σ σ' : List AObj} {c' : Cf} (N : Nxt c σ c' σ') (hw : c'.w = c.w) (hf : ∀ b, Fp c' σ' b → Fp c σ b) (hh : ∀ b o, c'.h b o ≠ c.h b o → Fp c σ b) {n0 : Nat} (hn : n0 ≤ c.n) :
    n0 ≤ c'.n ∧ (∀ l, l < n0 → c'.ν l = c.ν l ∧ c'.u l = c.u l) ∧ (∀ b o v, c.h b o = some v → c'.h b o = some v) :=
  ⟨Nat.le_trans hn N.le.n, fun l hl => ⟨N.le.ν l (Nat.lt_of_lt_of_le hl hn), N.le.u l (Nat.lt_of_lt_of_le hl hn)⟩, N.le.h⟩
theorem Wk.frz {n0 : Nat} {xs : List AV} {σ : List AObj} (l : Nat) {sz : Nat} {es : List (List D)} (hl : σ[l]? = some (.row sz es)) : Wk n0 xs σ (sbs l (.sl es) xs) (σ.set l .gone) := fun c vs H hn r => by
  have hlt := some_lt hl
  rcases H.obj l _ hl with ⟨rfl, A, e⟩ | hb
  · have N := Nxt.drop H l
    refine ⟨c, rfl, hn, fun _ _ => ⟨rfl, rfl⟩, fun _ _ _ h => h, N.hold, ARs_sb (.refl c) (fun v hv => ?_) xs r, ?_, fun _ _ h => absurd rfl h⟩
    · simp only [AR] at hv
      rw [hv.2.1, e]; simp only [DR]
      exact ⟨A, 0, 0, rfl, Nat.le_refl _, fun h => absurd rfl h, by simp, by simp [DRows]⟩
    · rintro b ⟨k, o, e1, g, q⟩
      rw [List.getElem?_set] at e1
      split at e1
      · next q => subst q; cases e1; exact g.elim
      · exact ⟨k, o, e1, g, q⟩
  · have hb' := hb
    obtain ⟨cap, ws, ty, h0, h1, _⟩ := hb'
    have hh : Has c l (.row sz es) := ⟨_, _, _, h1, h0⟩
    have N := Nxt.froze H hl hh
    have hd := hb.data H.snap
    refine ⟨c.froze (c.ν l), rfl, hn, fun _ _ => ⟨rfl, rfl⟩, N.le.h, N.hold, ARs_sb N.le (fun v hv => ?_) xs r, ?_, fun b o h => ?_⟩
    · simp only [AR] at hv
      rw [hv.2.1]; exact hd
    · rintro b ⟨k, o, e1, g, q⟩
      rw [List.getElem?_set] at e1
      split at e1
      · next q => subst q; cases e1; exact g.elim
      · exact ⟨k, o, e1, (Has.congr rfl).1 g, q⟩
    · by_cases q : b = c.ν l
      · exact ⟨l, _, hl, hh, q.symm⟩
      · exact absurd (by simp [Cf.froze, q]) h
/-- an empty slice, as a row of the call's own -/
theorem Wk.nil {n0 : Nat} {xs : List AV} {σ : List AObj} (i sz : Nat) (hi : xs[i]? = some .nil) : Wk n0 xs σ (st xs i (.own σ.length)) (σ ++ [.row sz []]) := fun c vs H hn r => by
  obtain ⟨v, hv, ha⟩ := ARs_get r i hi
  simp only [AR] at ha
  obtain ⟨A, rfl⟩ := ha
  have hno : ¬ Has (c.put c.w 0 (.slice A 0 0)) c.n (.row sz []) := by
    rintro ⟨a, n, cap, e, h0⟩
    simp [Cf.put] at e
    omega
  have N := Nxt.bare H (.slice A 0 0) (.row sz []) (.inl ⟨rfl, A, by simp [Cf.put]⟩) hno
  refine ⟨c.put c.w 0 (.slice A 0 0), rfl, Nat.le_trans hn N.le.n, fun l hl => ⟨N.le.ν l (Nat.lt_of_lt_of_le hl hn), N.le.u l (Nat.lt_of_lt_of_le hl hn)⟩, N.le.h, N.hold, ?_, ?_, fun b o h => absurd rfl h⟩
  · refine ARs_st_same (ARs.mono N.le _ r) i hv ?_
    simp only [AR]
    rw [← H.n]
    exact ⟨by simp [Cf.put], by simp [Cf.put], _, _, _, rfl⟩
  · rintro b ⟨k, o, e1, g, q⟩
    rcases Nat.lt_or_ge k σ.length with hk | hk
    · rw [List.getElem?_append_left hk] at e1
      have hkn : k < c.n := by rw [H.n]; exact hk
      exact ⟨k, o, e1, (Has.congr (N.le.u k hkn)).1 g, by rw [← q]; exact (N.le.ν k hkn).symm⟩
    · rw [List.getElem?_append_right hk] at e1
      rcases Nat.eq_or_lt_of_le hk with e | e
      · subst e; simp at e1; subst e1; rw [← H.n] at g; exact absurd g hno
      · rw [List.getElem?_eq_none (by simp; omega)] at e1; simp at e1

/-! ### ends -/
-- a value's labels given up: all as data
mutual
def dat (σ : List AObj) : AV → Option (AV × List AObj)
  | .tup cs => match dats σ cs with
    | some (ys, σ') => some (.tup ys, σ')
    | none => none
  | .agg cs => match dats σ cs with
    | some (ys, σ') => some (.agg ys, σ')
    | none => none
  | .nil => some (.d (.sl []), σ)
  | .own l => match ob σ l with
    | .row _ es => some (.d (.sl es), so σ l .gone)
    | _ => none
  | .d x => some (.d x, σ)
  | _ => none
def dats (σ : List AObj) : List AV → Option (List AV × List AObj)
  | [] => some ([], σ)
  | x :: xs => match dat σ x with
    | some (y, σ1) => match dats σ1 xs with
      | some (ys, σ2) => some (y :: ys, σ2)
      | none => none
    | none => none
end
theorem Wk.tail {xs ys : List AV} {σ τ : List AObj} (h : ∀ n0, Wk n0 xs σ ys τ) (n0 : Nat) (zs : List AV) : Wk n0 (xs ++ zs) σ (ys ++ zs) τ := fun c vs H hn r => by
  have h1 := ARs_take xs.length r
  have h2 := ARs_drop xs.length r
  rw [List.take_left] at h1
  rw [List.drop_left] at h2
  obtain ⟨c', w, n, l, m, H', a, f, g⟩ := h c.n c _ H (Nat.le_refl _) h1
  have L : c.Le c' := ⟨m, n, fun k hk => (l k hk).1, fun k hk => (l k hk).2⟩
  refine ⟨c', w, Nat.le_trans hn n, fun k hk => l k (Nat.lt_of_lt_of_le hk hn), m, H', ?_, f, g⟩
  have := ARs_append a (ARs.mono L _ h2)
  rwa [List.take_append_drop] at this
theorem Wk.head {xs ys : List AV} {σ τ : List AObj} (h : ∀ n0, Wk n0 xs σ ys τ) (n0 : Nat) (y : AV) : Wk n0 (y :: xs) σ (y :: ys) τ := fun c vs H hn r => by
  obtain ⟨v, r', rfl, h1, h2⟩ := ARs_cons_left r
  obtain ⟨c', w, n, l, m, H', a, f, g⟩ := h c.n c _ H (Nat.le_refl _) h2
  have L : c.Le c' := ⟨m, n, fun k hk => (l k hk).1, fun k hk => (l k hk).2⟩
  exact ⟨c', w, Nat.le_trans hn n, fun k hk => l k (Nat.lt_of_lt_of_le hk hn), m, H', ARs_cons.2 ⟨AR.mono L _ h1, a⟩, f, g⟩
theorem Wk.inTup {xs ys : List AV} {σ τ : List AObj} (h : ∀ n0, Wk n0 xs σ ys τ) (n0 : Nat) : Wk n0 [.tup xs] σ [.tup ys] τ := fun c vs H hn r => by
  obtain ⟨v, r', rfl, h1, h2⟩ := ARs_cons_left r
  cases ARs_nil_left h2
  simp only [AR] at h1
  obtain ⟨us, rfl, h1⟩ := h1
  obtain ⟨c', w, n, l, m, H', a, f, g⟩ := h n0 c _ H hn h1
  exact ⟨c', w, n, l, m, H', by simp only [ARs, AR]; exact ⟨⟨us, rfl, a⟩, trivial⟩, f, g⟩
theorem Wk.inAgg {xs ys : List AV} {σ τ : List AObj} (h : ∀ n0, Wk n0 xs σ ys τ) (n0 : Nat) : Wk n0 [.agg xs] σ [.agg ys] τ := fun c vs H hn r => by
  obtain ⟨v, r', rfl, h1, h2⟩ := ARs_cons_left r
  cases ARs_nil_left h2
  simp only [AR] at h1
  obtain ⟨us, rfl, h1⟩ := h1
  obtain ⟨c', w, n, l, m, H', a, f, g⟩ := h n0 c _ H hn h1
  exact ⟨c', w, n, l, m, H', by simp only [ARs, AR]; exact ⟨⟨us, rfl, a⟩, trivial⟩, f, g⟩
theorem Wk.nilD (n0 : Nat) (σ : List AObj) : Wk n0 [.nil] σ [.d (.sl [])] σ := fun c vs H hn r => by
  obtain ⟨v, r', rfl, h1, h2⟩ := ARs_cons_left r
  cases ARs_nil_left h2
  simp only [AR] at h1
  obtain ⟨A, rfl⟩ := h1
  exact ⟨c, rfl, hn, fun _ _ => ⟨rfl, rfl⟩, fun _ _ _ h => h, H, by simp only [ARs, AR, DR]; exact ⟨⟨A, 0, 0, rfl, Nat.le_refl _, fun h => absurd rfl h, by simp, by simp [DRows]⟩, trivial⟩, fun _ h => h, fun _ _ h => absurd rfl h⟩
mutual
theorem dat_sound : ∀ (x : AV) {y : AV} {σ τ : List AObj}, dat σ x = some (y, τ) → ∀ n0, Wk n0 [x] σ [y] τ
  | .tup cs, y, σ, τ, h, n0 => by
    simp only [dat] at h
    split at h
    · next ys σ' e => cases h; exact Wk.inTup (dats_sound cs e) n0
    · simp at h
  | .agg cs, y, σ, τ, h, n0 => by
    simp only [dat] at h
    split at h
    · next ys σ' e => cases h; exact Wk.inAgg (dats_sound cs e) n0
    · simp at h
  | .nil, y, σ, τ, h, n0 => by simp only [dat] at h; cases h; exact Wk.nilD n0 _
  | .own l, y, σ, τ, h, n0 => by
    simp only [dat] at h
    split at h
    · next sz es e =>
      cases h
      have := Wk.frz (n0 := n0) (xs := [.own l]) l (ob_some e (by simp))
      simpa [sbs, sb, so_eq] using this
    · simp at h
  | .d x, y, σ, τ, h, n0 => by simp only [dat] at h; cases h; exact .refl _ _ _
  | .any, y, σ, τ, h, n0 => by simp [dat] at h
  | .ptr _ _, y, σ, τ, h, n0 => by simp [dat] at h
  | .rptr _ _ _ _, y, σ, τ, h, n0 => by simp [dat] at h
  | .eptr _, y, σ, τ, h, n0 => by simp [dat] at h
  | .mp _, y, σ, τ, h, n0 => by simp [dat] at h
  | .fn _ _, y, σ, τ, h, n0 => by simp [dat] at h
  | .raw _, y, σ, τ, h, n0 => by simp [dat] at h
theorem dats_sound : ∀ (xs : List AV) {ys : List AV} {σ τ : List AObj}, dats σ xs = some (ys, τ) → ∀ n0, Wk n0 xs σ ys τ
  | [], ys, σ, τ, h, n0 => by simp only [dats] at h; cases h; exact .refl _ _ _
  | x :: xs, ys, σ, τ, h, n0 => by
    simp only [dats] at h
    split at h
    · next y σ1 e1 =>
      split at h
      · next zs σ2 e2 =>
        cases h
        exact Wk.trans (Wk.tail (dat_sound x e1) n0 xs) (Wk.head (dats_sound xs e2) n0 y)
      · simp at h
    · simp at h
end
/-- what has no labels stays when all blocks are forgotten -/
theorem Wk.out {xs : List AV} {σ : List AObj} (hb : bds 0 xs) (hr : rens (at0 []) xs = xs) : Wk 0 xs σ xs [] :=
  Wk.via [] (by rw [hr]; exact wkE_refl _) hb (by simp) (by simp) trivial trivial (Nat.le_refl _) (fun i h => absurd h (Nat.not_lt_zero i))
theorem Wk.data {r r' : AV} {σ τ : List AObj} (h : dat σ r' = some (r, τ)) (hb : bd 0 r) (hr : ren (at0 []) r = r) : Wk 0 [r'] σ [r] [] :=
  Wk.trans (dat_sound r' h 0) (Wk.out ⟨hb, trivial⟩ (by simp [rens, hr]))

/-! ### loops, calls, splits -/
/-- back at the head of a loop, in a state that is nearer to the end -/
def Bk (n0 : Nat) {S : Type} (en : S → List AV) (he : S → List AObj) (ok : S → Prop) (m : S → Nat) (n : Nat) (env : List AV) (σ : List AObj) : Prop :=
  ∃ m', m' < n ∧ ∃ env' σ', Wk n0 env σ env' σ' ∧ ∃ s, ok s ∧ m s = m' ∧ env' = en s ∧ σ' = he s
theorem Bk.mk {n0 : Nat} {S : Type} {en : S → List AV} {he : S → List AObj} {ok : S → Prop} {m : S → Nat} {n : Nat} {env : List AV} {σ : List AObj} (s : S) (h1 : ok s) (h2 : m s < n) (h3 : Wk n0 env σ (en s) (he s)) : Bk n0 en he ok m n env σ :=
  ⟨m s, h2, _, _, h3, s, h1, rfl, rfl, rfl⟩
theorem eloop {Γ : Ctx} {E : List It → List AV → List AObj → Prop} {b : Code} {k : List It} {env : List AV} {σ : List AObj} {S : Type} (en : S → List AV) (he : S → List AObj) (ok : S → Prop) (m : S → Nat) (s0 : S)
    (h0 : ok s0) (hw : Wk Γ.n0 env σ (en s0) (he s0)) (h : ∀ s, ok s → E (.code b :: .back (Bk Γ.n0 en he ok m (m s)) :: k) (en s) (he s)) : ELoop Γ E b k env σ := by
  refine ⟨fun n env σ => ∃ s, ok s ∧ m s = n ∧ env = en s ∧ σ = he s, ⟨m s0, _, _, hw, s0, h0, rfl, rfl, rfl⟩, ?_⟩
  rintro n env σ ⟨s, hs, rfl, rfl, rfl⟩
  exact h s hs
theorem cbs {E : List It → List AV → List AObj → Prop} {x y : Code} {k : List It} {d : Tmp} {env : List AV} {σ : List AObj} {b : Bool} (h1 : b = true → E (.code x :: k) (st env d (.d (.bool true))) σ) (h2 : b = false → E (.code y :: k) (st env d (.d (.bool false))) σ) : evCb E x y k d env σ b := by
  cases b
  · exact h2 rfl
  · exact h1 rfl
theorem gbs {Γ : Ctx} {E : List AV → List AObj → Prop} {o : Oper} {d : Tmp} {env : List AV} {σ : List AObj} {b w : Bool} (h1 : b = true → evGb Γ E o d env σ true w) (h2 : b = false → evGb Γ E o d env σ false w) : evGb Γ E o d env σ b w := by
  cases b
  · exact h2 rfl
  · exact h1 rfl
theorem ren_id {f : Nat → Nat} : ∀ {x : AV}, bd 0 x → ren f x = x := fun {x} h => by
  have key : ∀ x : AV, bd 0 x → ren f x = ren id x := fun x h => ren_congr (fun l hl => absurd hl (Nat.not_lt_zero l)) x h
  rw [key x h]
  have : (∀ x : AV, ren id x = x) := by
    intro x
    induction x using AV.rec (motive_2 := fun xs => rens id xs = xs) with
    | _ => simp_all [ren, rens]
  exact this x
theorem rens_id {f : Nat → Nat} : ∀ {xs : List AV}, bds 0 xs → rens f xs = xs
  | [], _ => rfl
  | x :: xs, h => by rw [rens, ren_id h.1, rens_id h.2]
/-- a call with data, that hands back data -/
theorem ecall0 {Γ : Ctx} {E : List AV → List AObj → Prop} {dst : Option Tmp} {f : FuncId} {args env : List AV} {σ : List AObj} (r : AV) (h7 : Spec Γ.P f args [] r []) (hb : bds 0 args) (hr : bd 0 r) (h8 : E (putO env dst r) σ) : ECall Γ E dst f env args σ := by
  refine .mk [] args [] r [] (by rw [rens_id hb]) hb (by simp) (by simp) rfl trivial h7 ?_
  rw [ren_id hr]
  simpa [back, setAll, mapO] using h8
/-- a spec in a larger heap -/
theorem Spec.frame {P : Program} {f : FuncId} {args' : List AV} {σ σ0 σ1 : List AObj} {r : AV} (ls : List Nat) (h : Spec P f args' σ0 r σ1) (h2 : bds ls.length args') (h3 : ls.Nodup) (h4 : ∀ l ∈ ls, l < σ.length) (h5 : obs σ ls = mapO (at0 ls) σ0) (h6 : bdOs ls.length σ0) :
    Spec P f (rens (at0 ls) args') σ (ren (rn ls σ.length) r) (back σ ls σ1) := by
  obtain ⟨hf, hc⟩ := h
  refine ⟨hf, fun c vs H ha => ?_⟩
  obtain ⟨H0, bk⟩ := call_frame (σ1 := σ1) H h3 h4 h5 h6
  refine (hc _ vs H0 (ARs_via args' h2 ha)).mono ?_
  rintro e w' ⟨c1, v, rfl, rfl, hv, N1⟩
  obtain ⟨c2, w2, S, N2⟩ := bk c1 N1
  exact ⟨c2, v, w2, rfl, AR_sees S _ hv, N2⟩
theorem Spec.lift0 {P : Program} {f : FuncId} {args : List AV} {r : AV} (h : Spec P f args [] r []) (σ : List AObj) (hb : bds 0 args) (hr : bd 0 r) : Spec P f args σ r σ := by
  have := Spec.frame (σ := σ) [] h hb (by simp) (by simp) rfl trivial
  rw [rens_id hb, ren_id hr] at this
  simpa [back, setAll, mapO] using this
/-- what a call hands back, said otherwise -/
theorem Spec.wk {P : Program} {f : FuncId} {args : List AV} {σ σ1 σ2 : List AObj} {r r' : AV} (h : Spec P f args σ r σ1) (k : Wk σ.length [r] σ1 [r'] σ2) : Spec P f args σ r' σ2 := by
  obtain ⟨hf, hc⟩ := h
  refine ⟨hf, fun c vs H ha => (hc c vs H ha).mono ?_⟩
  rintro e w' ⟨c1, v, rfl, rfl, hv, N1⟩
  rw [← H.n] at k
  obtain ⟨c2, w2, N2, hx⟩ := k.nxt N1 (vs := [v]) (by simpa [ARs] using hv)
  exact ⟨c2, v, w2, rfl, by simpa [ARs] using hx, N2⟩
end Go.AX

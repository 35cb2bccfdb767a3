/- AX, part C: freezing a row; data out of values. -/
import Derived.Test.YtnmgmlmiijljmaaAxB
namespace Go.AX

def Cf.froze (c : Cf) (b : Nat) : Cf := { c with h := fun x o => if x = b then c.w.cell? ⟨x, o, none⟩ else c.h x o }

/-- A block is given up: nobody will write it any more. -/
theorem Nxt.froze {c : Cf} {σ : List AObj} (H : Holds c σ) {l : Nat} {o : AObj} (hl : σ[l]? = some o) (hh : Has c l o) : Nxt c σ (c.froze (c.ν l)) (σ.set l .gone) := by
  have le : c.Le (c.froze (c.ν l)) := by
    refine ⟨fun b k v h => ?_, Nat.le_refl _, fun _ _ => rfl, fun _ _ => rfl⟩
    show (if b = c.ν l then c.w.cell? ⟨b, k, none⟩ else c.h b k) = some v
    split
    · exact H.snap b k v h
    · exact h
  have old : ∀ k x, (σ.set l .gone)[k]? = some x → (k ≠ l ∧ σ[k]? = some x) ∨ x = AObj.gone := fun k x h => by
    rw [List.getElem?_set] at h
    by_cases e : l = k
    · subst e
      rw [if_pos rfl, if_pos (some_lt hl)] at h
      exact .inr (by simpa using h.symm)
    · rw [if_neg e] at h; exact .inl ⟨fun q => e q.symm, h⟩
  have was : ∀ k x, (σ.set l .gone)[k]? = some x → Has (c.froze (c.ν l)) k x → k ≠ l ∧ σ[k]? = some x ∧ Has c k x := fun k x a h => by
    rcases old k x a with ⟨e, q⟩ | rfl
    · exact ⟨e, q, (Has.congr rfl).1 h⟩
    · exact h.elim
  refine ⟨le, ⟨by simp [Cf.froze, H.n], ?_, ?_, ?_, ?_, ?_⟩, rfl, rfl, rfl, Nat.le_refl _, fun _ _ _ => rfl, ?_, ?_⟩
  · intro b k v h
    have h' : (if b = c.ν l then c.w.cell? ⟨b, k, none⟩ else c.h b k) = some v := h
    split at h'
    · exact h'
    · exact H.snap b k v h'
  · intro k x h
    rcases old k x h with ⟨_, e⟩ | rfl
    · exact ObjOk.mono le (by rw [H.n]; exact some_lt e) (fun _ => rfl) (H.obj k x e)
    · trivial
  · intro k x k' x' a a' h h' hne
    obtain ⟨_, e, g⟩ := was k x a h
    obtain ⟨_, e', g'⟩ := was k' x' a' h'
    exact H.sep k x k' x' e e' g g' hne
  · intro k x a h j
    obtain ⟨hkl, e, g⟩ := was k x a h
    have hne : c.ν k ≠ c.ν l := H.sep k x l o e hl g hh hkl
    show (if c.ν k = c.ν l then c.w.cell? ⟨c.ν k, j, none⟩ else c.h (c.ν k) j) = none
    rw [if_neg hne]; exact H.apart k x e g j
  · intro k x a h
    obtain ⟨_, e, g⟩ := was k x a h
    exact H.lt k x e g
  · rintro b ⟨k, x, a, h, rfl⟩
    obtain ⟨_, e, g⟩ := was k x a h
    exact .inl ⟨k, x, e, g, rfl⟩
  · intro b j h
    by_cases e : b = c.ν l
    · subst e; exact .inl ⟨l, o, hl, hh, rfl⟩
    · refine absurd ?_ h
      show (if b = c.ν l then c.w.cell? ⟨b, j, none⟩ else c.h b j) = c.h b j
      rw [if_neg e]

theorem DRs_get {h : Snap} : ∀ {xs : List D} {vs : List Value} (_ : DRs h xs vs) (i : Nat) {x : D}, xs[i]? = some x → ∃ v, vs[i]? = some v ∧ DR h x v
  | [], _, _, i, x, e => by simp at e
  | _ :: _, [], r, _, _, _ => by simp [DRs] at r
  | y :: ys, v :: vs, r, i, x, e => by
    simp only [DRs] at r
    cases i with
    | zero => simp at e; subst e; exact ⟨v, rfl, r.1⟩
    | succ i => simp at e; simpa using DRs_get r.2 i e
theorem DRs_length {h : Snap} : ∀ {xs : List D} {vs : List Value}, DRs h xs vs → xs.length = vs.length
  | [], [], _ => rfl
  | _ :: _, [], r => by simp [DRs] at r
  | [], _ :: _, r => by simp [DRs] at r
  | x :: xs, v :: vs, r => by simp only [DRs] at r; simp [DRs_length r.2]
theorem DRs_append {h : Snap} : ∀ {xs ys : List D} {vs us : List Value}, DRs h xs vs → DRs h ys us → DRs h (xs ++ ys) (vs ++ us)
  | [], _, [], _, _, k => by simpa using k
  | x :: xs, _, v :: vs, _, r, k => by simp only [DRs] at r; simp only [List.cons_append, DRs]; exact ⟨r.1, DRs_append r.2 k⟩
  | [], _, _ :: _, _, r, _ => by simp [DRs] at r
  | _ :: _, _, [], _, r, _ => by simp [DRs] at r
theorem DRs_drop {h : Snap} : ∀ (n : Nat) {xs : List D} {vs : List Value}, DRs h xs vs → DRs h (xs.drop n) (vs.drop n)
  | 0, _, _, r => by simpa using r
  | n + 1, [], [], _ => by simp [DRs]
  | n + 1, x :: xs, v :: vs, r => by simp only [DRs] at r; simpa using DRs_drop n r.2
  | _ + 1, [], _ :: _, r => by simp [DRs] at r
  | _ + 1, _ :: _, [], r => by simp [DRs] at r
theorem DRs_take {h : Snap} : ∀ (n : Nat) {xs : List D} {vs : List Value}, DRs h xs vs → DRs h (xs.take n) (vs.take n)
  | 0, _, _, _ => by simp [DRs]
  | n + 1, [], [], _ => by simp [DRs]
  | n + 1, x :: xs, v :: vs, r => by simp only [DRs] at r; simp only [List.take_succ_cons, DRs]; exact ⟨r.1, DRs_take n r.2⟩
  | _ + 1, [], _ :: _, r => by simp [DRs] at r
  | _ + 1, _ :: _, [], r => by simp [DRs] at r
/-- cells that a snapshot holds, as they are read -/
theorem DCells_of {h : Snap} {b o : Nat} : ∀ {xs : List D} {vs : List Value} {k : Nat}, DRs h xs vs → (∀ i v, vs[i]? = some v → h b (o + (k + i)) = some v) → DCells h xs (some ⟨b, o, none⟩) k
  | [], _, _, _, _ => by simp [DCells]
  | x :: xs, [], _, r, _ => by simp [DRs] at r
  | x :: xs, v :: vs, k, r, hc => by
    simp only [DRs] at r
    simp only [DCells]
    refine ⟨⟨_, v, rfl, rfl, by simpa using hc 0 v rfl, r.1⟩, DCells_of r.2 fun i u hu => ?_⟩
    have := hc (i + 1) u (by simpa using hu)
    rw [← this]; congr 1; omega
theorem DRows_of {h : Snap} {b o sz : Nat} : ∀ {es : List (List D)} {vs : List Value} {k : Nat}, (∀ e ∈ es, e.length = sz) → DRs h es.flatten vs → (∀ i v, vs[i]? = some v → h b (o + (k + i)) = some v) →
    DRows h es (some ⟨b, o, none⟩) sz k
  | [], _, _, _, _, _ => by simp [DRows]
  | e :: es, vs, k, hsz, r, hc => by
    have he := hsz e (by simp)
    simp only [List.flatten_cons] at r
    have r1 : DRs h e (vs.take sz) := by have := DRs_take sz r; rwa [← he, List.take_left, he] at this
    have r2 : DRs h es.flatten (vs.drop sz) := by have := DRs_drop sz r; rwa [← he, List.drop_left, he] at this
    simp only [DRows]
    refine ⟨he, DCells_of r1 fun i v hv => hc i v ?_, DRows_of (fun x hx => hsz x (by simp [hx])) r2 fun i v hv => ?_⟩
    · rw [List.getElem?_take] at hv; split at hv <;> simp_all
    · have := hc (sz + i) v (by simpa [List.getElem?_drop] using hv)
      rw [← this]; congr 1; omega
theorem DCells_at {h : Snap} {A : Option Addr} : ∀ {xs : List D} {k : Nat}, DCells h xs A k → ∀ (i : Nat) {x : D}, xs[i]? = some x → ∃ a v, A = some a ∧ a.spot = none ∧ h a.block (a.off + (k + i)) = some v ∧ DR h x v
  | [], _, _, _, _, e => by simp at e
  | y :: ys, k, r, i, x, e => by
    simp only [DCells] at r
    cases i with
    | zero => simp at e; subst e; simpa using r.1
    | succ i =>
      simp at e
      obtain ⟨a, v, h1, h2, h3, h4⟩ := DCells_at r.2 i e
      exact ⟨a, v, h1, h2, by rw [← h3]; congr 1; omega, h4⟩
theorem DCells_drop {h : Snap} {A : Option Addr} : ∀ (n : Nat) {xs : List D} {k : Nat}, DCells h xs A k → DCells h (xs.drop n) A (k + n)
  | 0, _, _, r => by simpa using r
  | n + 1, [], _, _ => by simp [DCells]
  | n + 1, _ :: xs, k, r => by
    simp only [DCells] at r
    have := DCells_drop n r.2
    simp only [List.drop_succ_cons]
    rw [show k + (n + 1) = k + 1 + n by omega]; exact this
theorem DCells_take {h : Snap} {A : Option Addr} : ∀ (n : Nat) {xs : List D} {k : Nat}, DCells h xs A k → DCells h (xs.take n) A k
  | 0, _, _, _ => by simp [DCells]
  | n + 1, [], _, _ => by simp [DCells]
  | n + 1, x :: xs, k, r => by simp only [DCells] at r; simp only [List.take_succ_cons, DCells]; exact ⟨r.1, DCells_take n r.2⟩
/-- the same cells from another address -/
theorem DCells_shift {h : Snap} {a : Addr} (ha : a.spot = none) (n : Nat) : ∀ {xs : List D} {k : Nat}, DCells h xs (some a) (k + n) → DCells h xs (some (a.add n)) k
  | [], _, _ => by simp [DCells]
  | x :: xs, k, r => by
    simp only [DCells] at r ⊢
    obtain ⟨⟨a', v, e1, e2, e3, e4⟩, r2⟩ := r
    obtain rfl := Option.some.inj e1
    refine ⟨⟨_, v, rfl, ?_, ?_, e4⟩, DCells_shift ha n (by rwa [show k + 1 + n = k + n + 1 by omega])⟩
    · unfold Addr.add; split <;> simp [ha]
    · rw [← e3]; unfold Addr.add; split
      · next q => subst q; simp
      · show h a.block (a.off + n + k) = _; congr 1; omega
theorem DRows_at {h : Snap} {A : Option Addr} {sz : Nat} : ∀ {es : List (List D)} {k : Nat}, DRows h es A sz k → ∀ (i : Nat) {e : List D}, es[i]? = some e → e.length = sz ∧ DCells h e A (k + i * sz)
  | [], _, _, _, _, e => by simp at e
  | x :: xs, k, r, i, e, he => by
    simp only [DRows] at r
    cases i with
    | zero => simp at he; subst he; simpa using ⟨r.1, r.2.1⟩
    | succ i =>
      simp at he
      have := DRows_at r.2.2 i he
      rw [show k + (i + 1) * sz = k + sz + i * sz by rw [Nat.add_mul]; omega]; exact this
theorem DRows_drop {h : Snap} {A : Option Addr} {sz : Nat} : ∀ (n : Nat) {es : List (List D)} {k : Nat}, DRows h es A sz k → DRows h (es.drop n) A sz (k + n * sz)
  | 0, _, _, r => by simpa using r
  | n + 1, [], _, _ => by simp [DRows]
  | n + 1, _ :: xs, k, r => by
    simp only [DRows] at r
    have := DRows_drop n r.2.2
    simp only [List.drop_succ_cons]
    rw [show k + (n + 1) * sz = k + sz + n * sz by rw [Nat.add_mul]; omega]; exact this
theorem DRows_take {h : Snap} {A : Option Addr} {sz : Nat} : ∀ (n : Nat) {es : List (List D)} {k : Nat}, DRows h es A sz k → DRows h (es.take n) A sz k
  | 0, _, _, _ => by simp [DRows]
  | n + 1, [], _, _ => by simp [DRows]
  | n + 1, x :: xs, k, r => by simp only [DRows] at r; simp only [List.take_succ_cons, DRows]; exact ⟨r.1, r.2.1, DRows_take n r.2.2⟩
theorem DRows_shift {h : Snap} {a : Addr} (ha : a.spot = none) (n : Nat) {sz : Nat} : ∀ {es : List (List D)} {k : Nat}, DRows h es (some a) sz (k + n) → DRows h es (some (a.add n)) sz k
  | [], _, _ => by simp [DRows]
  | x :: xs, k, r => by
    simp only [DRows] at r ⊢
    exact ⟨r.1, DCells_shift ha n r.2.1, DRows_shift ha n (by rw [show k + sz + n = k + n + sz by omega]; exact r.2.2)⟩

theorem RowB.data {c : Cf} {l sz : Nat} {es : List (List D)} (h : RowB c l sz es) (hs : ∀ b o v, c.h b o = some v → c.w.cell? ⟨b, o, none⟩ = some v) : DR (c.froze (c.ν l)).h (.sl es) (c.u l) := by
  obtain ⟨cap, vs, ty, h0, h1, h2, h3, h4, h5, h6⟩ := h
  simp only [DR]
  refine ⟨_, cap, sz, h1, h2, fun _ a e => by cases e; rfl, fun e => by simp at e, ?_⟩
  have hm : ∀ b o v, c.h b o = some v → (c.froze (c.ν l)).h b o = some v := fun b o v e => by
    show (if b = c.ν l then c.w.cell? ⟨b, o, none⟩ else c.h b o) = some v
    split
    · exact hs b o v e
    · exact e
  refine DRows_of h5 (DRs.mono hm h6) fun i v hv => ?_
  show (if c.ν l = c.ν l then c.w.cell? ⟨c.ν l, 0 + (0 + i), none⟩ else _) = some v
  rw [if_pos rfl]
  rw [List.getElem?_take] at hv
  split at hv
  · simp [World.cell?, h3]
    simpa using hv
  · simp at hv

/-! ### data out of values -/
def asD (σ : List AObj) : AV → Option (D × List AObj)
  | .d x => some (x, σ)
  | .nil => some (.sl [], σ)
  | .own l => match σ[l]? with
    | some (.row _ es) => some (.sl es, σ.set l .gone)
    | _ => none
  | _ => none
theorem asD_sound {c : Cf} {σ σ' : List AObj} {x : AV} {y : D} {v : Value} (H : Holds c σ) (hx : AR c x v) (h : asD σ x = some (y, σ')) :
    ∃ c', c'.w = c.w ∧ Nxt c σ c' σ' ∧ DR c'.h y v := by
  cases x <;> simp only [asD] at h <;> try (simp at h; done)
  case d x => simp only [Option.some.injEq, Prod.mk.injEq] at h; obtain ⟨rfl, rfl⟩ := h; exact ⟨c, rfl, .refl H, by simpa [AR] using hx⟩
  case nil =>
    simp only [Option.some.injEq, Prod.mk.injEq] at h; obtain ⟨rfl, rfl⟩ := h
    refine ⟨c, rfl, .refl H, ?_⟩
    simp only [AR] at hx
    obtain ⟨A, rfl⟩ := hx
    simp only [DR]
    exact ⟨A, 0, 0, rfl, Nat.le_refl _, fun h => absurd rfl h, by simp, by simp [DRows]⟩
  case own l =>
    split at h
    · next sz es q =>
      simp only [Option.some.injEq, Prod.mk.injEq] at h; obtain ⟨rfl, rfl⟩ := h
      simp only [AR] at hx
      obtain ⟨_, rfl, _⟩ := hx
      rcases H.obj l _ q with ⟨rfl, A, e⟩ | hb
      · refine ⟨c, rfl, Nxt.drop H l, ?_⟩
        rw [e]; simp only [DR]
        exact ⟨A, 0, 0, rfl, Nat.le_refl _, fun h => absurd rfl h, by simp, by simp [DRows]⟩
      · have hb' := hb
        obtain ⟨cap, vs, ty, h0, h1, _⟩ := hb'
        exact ⟨c.froze (c.ν l), rfl, Nxt.froze H q ⟨_, _, _, h1, h0⟩, hb.data H.snap⟩
    · simp at h
end Go.AX

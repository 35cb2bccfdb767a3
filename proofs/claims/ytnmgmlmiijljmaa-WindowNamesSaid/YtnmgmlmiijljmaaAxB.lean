/- AX, part B: the ways in which the world goes on. -/
import Derived.Test.YtnmgmlmiijljmaaAxA
namespace Go.AX

def Cf.at (c : Cf) (w : World) : Cf := { c with w := w }
def Cf.put (c : Cf) (w : World) (b : Nat) (v : Value) : Cf :=
  { c with w := w, n := c.n + 1, ν := fun l => if l = c.n then b else c.ν l, u := fun l => if l = c.n then v else c.u l }
theorem Cf.le_at (c : Cf) (w : World) : c.Le (c.at w) := ⟨fun _ _ _ h => h, Nat.le_refl _, fun _ _ => rfl, fun _ _ => rfl⟩
theorem Cf.le_put (c : Cf) (w : World) (b : Nat) (v : Value) : c.Le (c.put w b v) :=
  ⟨fun _ _ _ h => h, Nat.le_succ _, fun l hl => by simp [Cf.put, Nat.ne_of_lt hl], fun l hl => by simp [Cf.put, Nat.ne_of_lt hl]⟩

theorem some_lt {α : Type} {l : List α} {i : Nat} {x : α} (h : l[i]? = some x) : i < l.length := (List.getElem?_eq_some_iff.1 h).1

/-- Only counts of the world turn. -/
theorem Nxt.quiet {c : Cf} {σ : List AObj} (H : Holds c σ) (w' : World) (hh : w'.heap = c.w.heap) (ho : w'.os = c.w.os) (ht : w'.tape = c.w.tape) (hp : w'.output = c.w.output) :
    Nxt c σ (c.at w') σ where
  le := c.le_at w'
  hold :=
    { n := H.n
      snap := fun b o v h => by have := H.snap b o v h; rw [← this]; exact heap_cell (by simp [Cf.at, hh])
      obj := fun l o h => ObjOk.mono (c.le_at w') (by rw [H.n]; exact some_lt h) (fun _ => by simp [Cf.at, hh]) (H.obj l o h)
      sep := fun l o l' o' a b h h' => H.sep l o l' o' a b ((Has.congr rfl).1 h) ((Has.congr rfl).1 h')
      apart := fun l o a h => H.apart l o a ((Has.congr rfl).1 h)
      lt := fun l o a h => by simpa [Cf.at, hh] using H.lt l o a ((Has.congr rfl).1 h) }
  os := ho
  tape := ht
  output := hp
  size := by simp [Cf.at, hh]
  kept := fun b _ _ => by simp [Cf.at, hh]
  fp := fun b ⟨l, o, a, h, e⟩ => .inl ⟨l, o, a, (Has.congr rfl).1 h, e⟩
  hn := fun b o h => absurd rfl h

theorem Nxt.drew {c : Cf} {σ : List AObj} (H : Holds c σ) : Nxt c σ (c.at c.w.drew) σ := Nxt.quiet H _ rfl rfl rfl rfl

/-- A new block. -/
theorem Nxt.new {c : Cf} {σ : List AObj} (H : Holds c σ) (ob : Obj) (uv : Value) (o : AObj)
    (ho : ObjOk (c.put (c.w.alloc ob) c.w.heap.size uv) c.n o) : Nxt c σ (c.put (c.w.alloc ob) c.w.heap.size uv) (σ ++ [o]) := by
  have le := c.le_put (c.w.alloc ob) c.w.heap.size uv
  have hold : ∀ k, k < c.w.heap.size → (c.w.alloc ob).heap[k]? = c.w.heap[k]? := fun k hk => by
    show (c.w.heap.push ob)[k]? = _
    rw [Array.getElem?_push, if_neg (by omega)]
  have hsz : (c.w.alloc ob).heap.size = c.w.heap.size + 1 := by show (c.w.heap.push ob).size = _; simp
  have old : ∀ l x, (σ ++ [o])[l]? = some x → (l < c.n ∧ σ[l]? = some x) ∨ (l = c.n ∧ x = o) := fun l x h => by
    rw [H.n]
    rcases Nat.lt_or_ge l σ.length with q | q
    · rw [List.getElem?_append_left q] at h; exact .inl ⟨q, h⟩
    · rw [List.getElem?_append_right q] at h
      rcases Nat.eq_or_lt_of_le q with e | e
      · subst e; simp at h; exact .inr ⟨rfl, h.symm⟩
      · rw [List.getElem?_eq_none (by simp; omega)] at h; simp at h
  have hasOld : ∀ l x, l < c.n → (Has (c.put (c.w.alloc ob) c.w.heap.size uv) l x ↔ Has c l x) := fun l x hl => Has.congr (le.u l hl)
  have νnew : (c.put (c.w.alloc ob) c.w.heap.size uv).ν c.n = c.w.heap.size := by simp [Cf.put]
  refine ⟨le, ⟨by simp [Cf.put, H.n], ?_, ?_, ?_, ?_, ?_⟩, rfl, rfl, rfl, by simp only [Cf.put]; omega, fun b hb _ => hold b hb, ?_, fun b o' h => absurd rfl h⟩
  · intro b k v h
    have h1 := H.snap b k v h
    rw [← h1]
    exact heap_cell (hold b (cell_lt h1))
  · intro l x h
    rcases old l x h with ⟨hl, e⟩ | ⟨rfl, rfl⟩
    · exact ObjOk.mono le hl (fun hh => hold _ (H.lt l x e hh)) (H.obj l x e)
    · exact ho
  · intro l x l' x' a a' h h' hne
    rcases old l x a with ⟨hl, e⟩ | ⟨rfl, rfl⟩
    · rcases old l' x' a' with ⟨hl', e'⟩ | ⟨rfl, rfl⟩
      · rw [le.ν l hl, le.ν l' hl']; exact H.sep l x l' x' e e' ((hasOld l x hl).1 h) ((hasOld l' x' hl').1 h') hne
      · rw [le.ν l hl, νnew]; have := H.lt l x e ((hasOld l x hl).1 h); omega
    · rcases old l' x' a' with ⟨hl', e'⟩ | ⟨rfl, rfl⟩
      · rw [le.ν l' hl', νnew]; have := H.lt l' x' e' ((hasOld l' x' hl').1 h'); omega
      · exact absurd rfl hne
  · intro l x a h k
    rcases old l x a with ⟨hl, e⟩ | ⟨rfl, rfl⟩
    · rw [le.ν l hl]; exact H.apart l x e ((hasOld l x hl).1 h) k
    · rw [νnew]
      show c.h c.w.heap.size k = none
      cases e : c.h c.w.heap.size k with
      | none => rfl
      | some v => have := cell_lt (H.snap _ _ _ e); simp at this
  · intro l x a h
    show (c.put (c.w.alloc ob) c.w.heap.size uv).ν l < (c.w.alloc ob).heap.size
    rcases old l x a with ⟨hl, e⟩ | ⟨rfl, rfl⟩
    · rw [le.ν l hl]; have := H.lt l x e ((hasOld l x hl).1 h); omega
    · rw [νnew]; omega
  · rintro b ⟨l, x, a, h, rfl⟩
    rcases old l x a with ⟨hl, e⟩ | ⟨rfl, rfl⟩
    · rw [le.ν l hl]; exact .inl ⟨l, x, e, (hasOld l x hl).1 h, rfl⟩
    · rw [νnew]; exact .inr (Nat.le_refl _)

/-- A block of the call's own is written. -/
theorem Nxt.upd {c : Cf} {σ : List AObj} (H : Holds c σ) {l : Nat} {o o' : AObj} (hl : σ[l]? = some o) (hh : Has c l o) (w' : World)
    (same : ∀ b, b ≠ c.ν l → w'.heap[b]? = c.w.heap[b]?) (hsz : w'.heap.size = c.w.heap.size) (hos : w'.os = c.w.os) (ht : w'.tape = c.w.tape) (hp : w'.output = c.w.output)
    (ho : ObjOk (c.at w') l o') : Nxt c σ (c.at w') (σ.set l o') := by
  have hlt := some_lt hl
  have old : ∀ k x, (σ.set l o')[k]? = some x → (k ≠ l ∧ σ[k]? = some x) ∨ (k = l ∧ x = o') := fun k x h => by
    rw [List.getElem?_set] at h
    by_cases e : l = k
    · subst e; simp [hlt] at h; exact .inr ⟨rfl, h.symm⟩
    · rw [if_neg e] at h; exact .inl ⟨fun e' => e e'.symm, h⟩
  have was : ∀ k x, (σ.set l o')[k]? = some x → Has (c.at w') k x → ∃ y, σ[k]? = some y ∧ Has c k y := fun k x a h => by
    rcases old k x a with ⟨_, e⟩ | ⟨rfl, rfl⟩
    · exact ⟨x, e, (Has.congr rfl).1 h⟩
    · exact ⟨o, hl, hh⟩
  refine ⟨c.le_at w', ⟨by simp [Cf.at, H.n], ?_, ?_, ?_, ?_, ?_⟩, hos, ht, hp, by simp [Cf.at, hsz], ?_, ?_, fun b o' h => absurd rfl h⟩
  · intro b k v h
    have h1 := H.snap b k v h
    rw [← h1]
    exact heap_cell (same b (fun e => by subst e; have h' : c.h (c.ν l) k = some v := h; rw [H.apart l o hl hh k] at h'; simp at h'))
  · intro k x h
    rcases old k x h with ⟨hne, e⟩ | ⟨rfl, rfl⟩
    · exact ObjOk.mono (c.le_at w') (by rw [H.n]; exact some_lt e) (fun hx => same _ (H.sep k x l o e hl hx hh hne)) (H.obj k x e)
    · exact ho
  · intro k x k' x' a a' h h' hne
    obtain ⟨y, e, g⟩ := was k x a h
    obtain ⟨y', e', g'⟩ := was k' x' a' h'
    exact H.sep k y k' y' e e' g g' hne
  · intro k x a h j
    obtain ⟨y, e, g⟩ := was k x a h
    exact H.apart k y e g j
  · intro k x a h
    obtain ⟨y, e, g⟩ := was k x a h
    simpa [Cf.at, hsz] using H.lt k y e g
  · intro b hb hf
    exact same b (fun e => hf ⟨l, o, hl, hh, e.symm⟩)
  · rintro b ⟨k, x, a, h, rfl⟩
    obtain ⟨y, e, g⟩ := was k x a h
    exact .inl ⟨k, y, e, g, rfl⟩

/-- What is known of a block is forgotten. -/
theorem Nxt.drop {c : Cf} {σ : List AObj} (H : Holds c σ) (l : Nat) : Nxt c σ c (σ.set l .gone) := by
  have old : ∀ k x, (σ.set l .gone)[k]? = some x → σ[k]? = some x ∨ x = AObj.gone := fun k x h => by
    rw [List.getElem?_set] at h
    by_cases e : l = k
    · subst e
      rw [if_pos rfl] at h
      by_cases q : l < σ.length
      · rw [if_pos q] at h; exact .inr (by simpa using h.symm)
      · rw [if_neg q] at h; simp at h
    · rw [if_neg e] at h; exact .inl h
  have was : ∀ k x, (σ.set l .gone)[k]? = some x → Has c k x → σ[k]? = some x := fun k x a h => by
    rcases old k x a with e | rfl
    · exact e
    · exact h.elim
  refine ⟨.refl _, ⟨by simp [H.n], H.snap, ?_, ?_, ?_, ?_⟩, rfl, rfl, rfl, Nat.le_refl _, fun _ _ _ => rfl, ?_, fun b o' h => absurd rfl h⟩
  · intro k x h
    rcases old k x h with e | rfl
    · exact H.obj k x e
    · trivial
  · intro k x k' x' a a' h h' hne
    exact H.sep k x k' x' (was k x a h) (was k' x' a' h') h h' hne
  · intro k x a h j
    exact H.apart k x (was k x a h) h j
  · intro k x a h
    exact H.lt k x (was k x a h) h
  · rintro b ⟨k, x, a, h, rfl⟩
    exact .inl ⟨k, x, was k x a h, h, rfl⟩

/-- A label more for a block that nobody has (its old label is gone), or for none. -/
theorem Nxt.take {c : Cf} {σ : List AObj} (H : Holds c σ) {l : Nat} {o o' : AObj} (hl : σ[l]? = some o) (hh : Has c l o) (uv : Value)
    (ho : ObjOk (c.put c.w (c.ν l) uv) c.n o') : Nxt c σ (c.put c.w (c.ν l) uv) ((σ.set l .gone) ++ [o']) := by
  have le := c.le_put c.w (c.ν l) uv
  have hlt := some_lt hl
  have hln : l < c.n := by rw [H.n]; exact hlt
  have old : ∀ k x, ((σ.set l .gone) ++ [o'])[k]? = some x → (k < c.n ∧ k ≠ l ∧ σ[k]? = some x) ∨ x = AObj.gone ∨ (k = c.n ∧ x = o') := fun k x h => by
    rcases Nat.lt_or_ge k σ.length with q | q
    · rw [List.getElem?_append_left (by simpa using q), List.getElem?_set] at h
      by_cases e : l = k
      · subst e; simp [q] at h; exact .inr (.inl h.symm)
      · rw [if_neg e] at h; exact .inl ⟨by rw [H.n]; exact q, fun e' => e e'.symm, h⟩
    · rw [List.getElem?_append_right (by simpa using q)] at h
      simp only [List.length_set] at h
      rcases Nat.eq_or_lt_of_le q with e | e
      · subst e; simp at h; exact .inr (.inr ⟨H.n.symm, h.symm⟩)
      · rw [List.getElem?_eq_none (by simp; omega)] at h; simp at h
  have hasOld : ∀ k x, k < c.n → (Has (c.put c.w (c.ν l) uv) k x ↔ Has c k x) := fun k x hk => Has.congr (le.u k hk)
  have νnew : (c.put c.w (c.ν l) uv).ν c.n = c.ν l := by simp [Cf.put]
  refine ⟨le, ⟨by simp [Cf.put, H.n], H.snap, ?_, ?_, ?_, ?_⟩, rfl, rfl, rfl, Nat.le_refl _, fun _ _ _ => rfl, ?_, fun b o' h => absurd rfl h⟩
  · intro k x h
    rcases old k x h with ⟨hk, _, e⟩ | rfl | ⟨rfl, rfl⟩
    · exact ObjOk.mono le hk (fun _ => rfl) (H.obj k x e)
    · trivial
    · exact ho
  · intro k x k' x' a a' h h' hne
    rcases old k x a with ⟨hk, hkl, e⟩ | rfl | ⟨rfl, rfl⟩
    · rcases old k' x' a' with ⟨hk', _, e'⟩ | rfl | ⟨rfl, rfl⟩
      · rw [le.ν k hk, le.ν k' hk']; exact H.sep k x k' x' e e' ((hasOld k x hk).1 h) ((hasOld k' x' hk').1 h') hne
      · exact h'.elim
      · rw [le.ν k hk, νnew]; exact H.sep k x l o e hl ((hasOld k x hk).1 h) hh hkl
    · exact h.elim
    · rcases old k' x' a' with ⟨hk', hkl', e'⟩ | rfl | ⟨rfl, rfl⟩
      · rw [le.ν k' hk', νnew]; exact fun q => H.sep k' x' l o e' hl ((hasOld k' x' hk').1 h') hh hkl' q.symm
      · exact h'.elim
      · exact absurd rfl hne
  · intro k x a h j
    rcases old k x a with ⟨hk, _, e⟩ | rfl | ⟨rfl, rfl⟩
    · rw [le.ν k hk]; exact H.apart k x e ((hasOld k x hk).1 h) j
    · exact h.elim
    · rw [νnew]; exact H.apart l o hl hh j
  · intro k x a h
    show (c.put c.w (c.ν l) uv).ν k < c.w.heap.size
    rcases old k x a with ⟨hk, _, e⟩ | rfl | ⟨rfl, rfl⟩
    · rw [le.ν k hk]; exact H.lt k x e ((hasOld k x hk).1 h)
    · exact h.elim
    · rw [νnew]; exact H.lt l o hl hh
  · rintro b ⟨k, x, a, h, rfl⟩
    rcases old k x a with ⟨hk, _, e⟩ | rfl | ⟨rfl, rfl⟩
    · rw [le.ν k hk]; exact .inl ⟨k, x, e, (hasOld k x hk).1 h, rfl⟩
    · exact h.elim
    · rw [νnew]; exact .inl ⟨l, o, hl, hh, rfl⟩

/-- A label more without a block. -/
theorem Nxt.bare {c : Cf} {σ : List AObj} (H : Holds c σ) (uv : Value) (o : AObj) (ho : ObjOk (c.put c.w 0 uv) c.n o) (hh : ¬ Has (c.put c.w 0 uv) c.n o) :
    Nxt c σ (c.put c.w 0 uv) (σ ++ [o]) := by
  have le := c.le_put c.w 0 uv
  have old : ∀ l x, (σ ++ [o])[l]? = some x → (l < c.n ∧ σ[l]? = some x) ∨ (l = c.n ∧ x = o) := fun l x h => by
    rw [H.n]
    rcases Nat.lt_or_ge l σ.length with q | q
    · rw [List.getElem?_append_left q] at h; exact .inl ⟨q, h⟩
    · rw [List.getElem?_append_right q] at h
      rcases Nat.eq_or_lt_of_le q with e | e
      · subst e; simp at h; exact .inr ⟨rfl, h.symm⟩
      · rw [List.getElem?_eq_none (by simp; omega)] at h; simp at h
  have was : ∀ l x, (σ ++ [o])[l]? = some x → Has (c.put c.w 0 uv) l x → l < c.n ∧ σ[l]? = some x ∧ Has c l x := fun l x a h => by
    rcases old l x a with ⟨hl, e⟩ | ⟨rfl, rfl⟩
    · exact ⟨hl, e, (Has.congr (le.u l hl)).1 h⟩
    · exact absurd h hh
  refine ⟨le, ⟨by simp [Cf.put, H.n], H.snap, ?_, ?_, ?_, ?_⟩, rfl, rfl, rfl, Nat.le_refl _, fun _ _ _ => rfl, ?_, fun b o' h => absurd rfl h⟩
  · intro l x h
    rcases old l x h with ⟨hl, e⟩ | ⟨rfl, rfl⟩
    · exact ObjOk.mono le hl (fun _ => rfl) (H.obj l x e)
    · exact ho
  · intro l x l' x' a a' h h' hne
    obtain ⟨q, e, g⟩ := was l x a h
    obtain ⟨q', e', g'⟩ := was l' x' a' h'
    rw [le.ν l q, le.ν l' q']; exact H.sep l x l' x' e e' g g' hne
  · intro l x a h k
    obtain ⟨q, e, g⟩ := was l x a h
    rw [le.ν l q]; exact H.apart l x e g k
  · intro l x a h
    obtain ⟨q, e, g⟩ := was l x a h
    show (c.put c.w 0 uv).ν l < c.w.heap.size
    rw [le.ν l q]; exact H.lt l x e g
  · rintro b ⟨l, x, a, h, rfl⟩
    obtain ⟨q, e, g⟩ := was l x a h
    rw [le.ν l q]; exact .inl ⟨l, x, e, g, rfl⟩

end Go.AX

/- AX, part A: abstract values, what they mean in a world, and how a world may go on. -/
import Derived.Below
import Derived.Tactics
import Derived.Laws.Sem
import Derived.Laws.World
namespace Go.AX

/-- Pure data of one cell. -/
inductive D where
  | int (k : IntKind) (n : Int)
  | bool (b : Bool)
  | str (s : ByteArray)
  | sl (es : List (List D))

/-- What is known of a value. -/
inductive AV where
  | any
  | d (x : D)
  | agg (cs : List AV)
  | tup (vs : List AV)
  | own (l : Nat)
  | ptr (l off : Nat)
  | rptr (l sz i j : Nat)
  | eptr (cs : List D)
  | mp (l : Nat)
  | fn (f : FuncId) (caps : List AV)
  | nil
  | raw (v : Value)

/-- What is known of a block of the call's own. -/
inductive AObj where
  | gone
  | cells (cs : List AV)
  | row (sz : Nat) (es : List (List D))
  | map (ka va : Bool) (es : List (List D × List D))
  | iter (s : ByteArray) (pos : Nat)

abbrev Snap := Nat → Nat → Option Value

structure Cf where
  w : World
  h : Snap
  n : Nat
  ν : Nat → Nat
  u : Nat → Value

/-! ### what data and values mean -/
mutual
def DR (h : Snap) : D → Value → Prop
  | .int k n, v => v = .int k n
  | .bool b, v => v = .bool b
  | .str s, v => v = .string s
  | .sl es, v => ∃ A c sz, v = .slice A es.length c ∧ es.length ≤ c ∧ (es ≠ [] → ∀ a, A = some a → a.spot = none) ∧ (A = none → es = []) ∧ DRows h es A sz 0
def DRows (h : Snap) : List (List D) → Option Addr → Nat → Nat → Prop
  | [], _, _, _ => True
  | e :: es, A, sz, k => e.length = sz ∧ DCells h e A k ∧ DRows h es A sz (k + sz)
def DCells (h : Snap) : List D → Option Addr → Nat → Prop
  | [], _, _ => True
  | x :: xs, A, k => (∃ a v, A = some a ∧ a.spot = none ∧ h a.block (a.off + k) = some v ∧ DR h x v) ∧ DCells h xs A (k + 1)
end

mutual
def AR (c : Cf) : AV → Value → Prop
  | .any, _ => True
  | .d x, v => DR c.h x v
  | .agg cs, v => ∃ vs, v = .agg vs ∧ ARs c cs vs.toList
  | .tup cs, v => ∃ vs, v = .tuple vs ∧ ARs c cs vs.toList
  | .own l, v => l < c.n ∧ v = c.u l ∧ ∃ a k p, v = .slice a k p
  | .ptr l off, v => l < c.n ∧ v = .pointer (some ⟨c.ν l, off, none⟩)
  | .rptr l sz i j, v => l < c.n ∧ v = .pointer (some ⟨c.ν l, i * sz + j, none⟩)
  | .eptr cs, v => ∃ a, v = .pointer (some a) ∧ a.spot = none ∧ DCells c.h cs (some a) 0
  | .mp l, v => l < c.n ∧ v = .map (some (c.ν l))
  | .fn f caps, v => ∃ vs, v = .func (.func f) #[] vs ∧ ARs c caps vs.toList
  | .nil, v => ∃ A : Option Addr, v = .slice A 0 0
  | .raw v', v => v = v'
def ARs (c : Cf) : List AV → List Value → Prop
  | [], [] => True
  | x :: xs, v :: vs => AR c x v ∧ ARs c xs vs
  | _, _ => False
end

theorem ARs_nil {c : Cf} : ARs c [] [] := by simp [ARs]
theorem ARs_cons {c : Cf} {x : AV} {xs : List AV} {v : Value} {vs : List Value} : ARs c (x :: xs) (v :: vs) ↔ AR c x v ∧ ARs c xs vs := by simp [ARs]
theorem ARs_nil_left {c : Cf} {vs : List Value} (h : ARs c [] vs) : vs = [] := by cases vs <;> simp_all [ARs]
theorem ARs_cons_left {c : Cf} {x : AV} {xs : List AV} {vs : List Value} (h : ARs c (x :: xs) vs) : ∃ v r, vs = v :: r ∧ AR c x v ∧ ARs c xs r := by
  cases vs with
  | nil => simp [ARs] at h
  | cons v r => exact ⟨v, r, rfl, by simpa [ARs] using h⟩
theorem ARs_length {c : Cf} : ∀ {xs : List AV} {vs : List Value}, ARs c xs vs → xs.length = vs.length
  | [], _, h => by rw [ARs_nil_left h]; rfl
  | x :: xs, _, h => by obtain ⟨v, r, rfl, _, h2⟩ := ARs_cons_left h; simp [ARs_length h2]
theorem ARs_get {c : Cf} : ∀ {xs : List AV} {vs : List Value} (_ : ARs c xs vs) (i : Nat) {x : AV}, xs[i]? = some x → ∃ v, vs[i]? = some v ∧ AR c x v
  | [], _, _, i, x, e => by simp at e
  | y :: ys, _, h, i, x, e => by
    obtain ⟨v, r, rfl, h1, h2⟩ := ARs_cons_left h
    cases i with
    | zero => simp at e; subst e; exact ⟨v, rfl, h1⟩
    | succ i => simp at e; simpa using ARs_get h2 i e
theorem ARs_mk {c : Cf} : ∀ {xs : List AV} {vs : List Value}, xs.length = vs.length → (∀ (i : Nat) (x : AV) (v : Value), xs[i]? = some x → vs[i]? = some v → AR c x v) → ARs c xs vs
  | [], [], _, _ => ARs_nil
  | x :: xs, v :: vs, hl, h => ARs_cons.2 ⟨h 0 x v rfl rfl, ARs_mk (by simpa using hl) fun i y u hy hu => h (i + 1) y u (by simpa using hy) (by simpa using hu)⟩
  | [], _ :: _, hl, _ => by simp at hl
  | _ :: _, [], hl, _ => by simp at hl
theorem ARs_append {c : Cf} {xs ys : List AV} {vs us : List Value} (h1 : ARs c xs vs) (h2 : ARs c ys us) : ARs c (xs ++ ys) (vs ++ us) := by
  induction xs generalizing vs with
  | nil => rw [ARs_nil_left h1]; simpa using h2
  | cons x xs ih => obtain ⟨v, r, rfl, a, b⟩ := ARs_cons_left h1; exact ARs_cons.2 ⟨a, ih b⟩

/-! ### a slot of the frame -/
def lk : List AV → Nat → AV
  | [], _ => .any
  | x :: _, 0 => x
  | _ :: xs, n + 1 => lk xs n
def st : List AV → Nat → AV → List AV
  | [], _, _ => []
  | _ :: xs, 0, v => v :: xs
  | x :: xs, n + 1, v => x :: st xs n v
theorem lk_eq : ∀ (xs : List AV) (i : Nat), lk xs i = (xs[i]?).getD .any
  | [], _ => by simp [lk]
  | x :: xs, 0 => by simp [lk]
  | x :: xs, n + 1 => by simp [lk, lk_eq xs n]
theorem st_eq : ∀ (xs : List AV) (i : Nat) (v : AV), st xs i v = xs.set i v
  | [], _, _ => by simp [st]
  | x :: xs, 0, _ => by simp [st]
  | x :: xs, n + 1, v => by simp [st, st_eq xs n v]
theorem ARs_lk {c : Cf} {xs : List AV} {vs : List Value} (h : ARs c xs vs) (i : Nat) (d : Value) : AR c (lk xs i) ((vs[i]?).getD d) := by
  rw [lk_eq]
  cases hx : xs[i]? with
  | none => simp [AR]
  | some x => obtain ⟨v, hv, hr⟩ := ARs_get h i hx; simpa [hv] using hr
theorem ARs_st {c : Cf} : ∀ {xs : List AV} {vs : List Value} (_ : ARs c xs vs) (i : Nat) {x : AV} {v : Value}, AR c x v → ARs c (st xs i x) (vs.set i v)
  | [], _, h, i, x, v, _ => by rw [ARs_nil_left h]; simp [st, ARs]
  | y :: ys, _, h, i, x, v, hx => by
    obtain ⟨u, r, rfl, h1, h2⟩ := ARs_cons_left h
    cases i with
    | zero => simpa [st, ARs_cons] using ⟨hx, h2⟩
    | succ i => simpa [st, ARs_cons] using ⟨h1, ARs_st h2 i hx⟩

/-! ### what stays -/
structure Cf.Le (c c' : Cf) : Prop where
  h : ∀ b o v, c.h b o = some v → c'.h b o = some v
  n : c.n ≤ c'.n
  ν : ∀ l, l < c.n → c'.ν l = c.ν l
  u : ∀ l, l < c.n → c'.u l = c.u l
theorem Cf.Le.refl (c : Cf) : c.Le c := ⟨fun _ _ _ h => h, Nat.le_refl _, fun _ _ => rfl, fun _ _ => rfl⟩
theorem Cf.Le.trans {a b c : Cf} (h : a.Le b) (k : b.Le c) : a.Le c :=
  ⟨fun _ _ _ e => k.h _ _ _ (h.h _ _ _ e), Nat.le_trans h.n k.n, fun l hl => (k.ν l (Nat.lt_of_lt_of_le hl h.n)).trans (h.ν l hl), fun l hl => (k.u l (Nat.lt_of_lt_of_le hl h.n)).trans (h.u l hl)⟩

mutual
theorem DR.mono {h h' : Snap} (H : ∀ b o v, h b o = some v → h' b o = some v) : ∀ (x : D) {v : Value}, DR h x v → DR h' x v
  | .int _ _, _, e => by simpa [DR] using e
  | .bool _, _, e => by simpa [DR] using e
  | .str _, _, e => by simpa [DR] using e
  | .sl es, _, e => by
    simp only [DR] at e ⊢
    obtain ⟨A, c, sz, e1, e2, e3, e5, e4⟩ := e
    exact ⟨A, c, sz, e1, e2, e3, e5, DRows.mono H es e4⟩
theorem DRows.mono {h h' : Snap} (H : ∀ b o v, h b o = some v → h' b o = some v) : ∀ (es : List (List D)) {A : Option Addr} {sz k : Nat}, DRows h es A sz k → DRows h' es A sz k
  | [], _, _, _, _ => by simp [DRows]
  | e :: es, _, _, _, r => by
    simp only [DRows] at r ⊢
    exact ⟨r.1, DCells.mono H e r.2.1, DRows.mono H es r.2.2⟩
theorem DCells.mono {h h' : Snap} (H : ∀ b o v, h b o = some v → h' b o = some v) : ∀ (xs : List D) {A : Option Addr} {k : Nat}, DCells h xs A k → DCells h' xs A k
  | [], _, _, _ => by simp [DCells]
  | x :: xs, _, _, r => by
    simp only [DCells] at r ⊢
    obtain ⟨⟨a, v, e1, e2, e3, e4⟩, r2⟩ := r
    exact ⟨⟨a, v, e1, e2, H _ _ _ e3, DR.mono H x e4⟩, DCells.mono H xs r2⟩
end
mutual
theorem AR.mono {c c' : Cf} (H : c.Le c') : ∀ (x : AV) {v : Value}, AR c x v → AR c' x v
  | .any, _, _ => by simp [AR]
  | .d x, _, e => by simp only [AR] at e ⊢; exact DR.mono H.h x e
  | .agg cs, _, e => by simp only [AR] at e ⊢; obtain ⟨vs, e1, e2⟩ := e; exact ⟨vs, e1, ARs.mono H cs e2⟩
  | .tup cs, _, e => by simp only [AR] at e ⊢; obtain ⟨vs, e1, e2⟩ := e; exact ⟨vs, e1, ARs.mono H cs e2⟩
  | .own l, _, e => by simp only [AR] at e ⊢; exact ⟨Nat.lt_of_lt_of_le e.1 H.n, by rw [H.u l e.1]; exact e.2.1, e.2.2⟩
  | .ptr l off, _, e => by simp only [AR] at e ⊢; exact ⟨Nat.lt_of_lt_of_le e.1 H.n, by rw [H.ν l e.1]; exact e.2⟩
  | .rptr l sz i j, _, e => by simp only [AR] at e ⊢; exact ⟨Nat.lt_of_lt_of_le e.1 H.n, by rw [H.ν l e.1]; exact e.2⟩
  | .eptr cs, _, e => by simp only [AR] at e ⊢; obtain ⟨a, e1, e3, e2⟩ := e; exact ⟨a, e1, e3, DCells.mono H.h cs e2⟩
  | .mp l, _, e => by simp only [AR] at e ⊢; exact ⟨Nat.lt_of_lt_of_le e.1 H.n, by rw [H.ν l e.1]; exact e.2⟩
  | .fn f caps, _, e => by simp only [AR] at e ⊢; obtain ⟨vs, e1, e2⟩ := e; exact ⟨vs, e1, ARs.mono H caps e2⟩
  | .nil, _, e => by simpa [AR] using e
  | .raw _, _, e => by simpa [AR] using e
theorem ARs.mono {c c' : Cf} (H : c.Le c') : ∀ (xs : List AV) {vs : List Value}, ARs c xs vs → ARs c' xs vs
  | [], vs, r => by rw [ARs_nil_left r]; simp [ARs]
  | x :: xs, vs, r => by
    obtain ⟨v, r', rfl, h1, h2⟩ := ARs_cons_left r
    exact ARs_cons.2 ⟨AR.mono H x h1, ARs.mono H xs h2⟩
end

/-! ### blocks of the call's own -/
/-- cells of a row, flat. -/
def flat (es : List (List D)) : List D := es.flatten
/-- data by its cells: one cell as it is, several as a struct. -/
def dv (a : Bool) (cs : List D) : AV := if a then .agg (cs.map .d) else .d (cs.headD (.bool false))
def Ents (c : Cf) (ka va : Bool) : List (List D × List D) → List MapEntry → Prop
  | [], [] => True
  | (k, v) :: es, m :: ms => AR c (dv ka k) m.key ∧ AR c (dv va v) m.val ∧ Ents c ka va es ms
  | _, _ => False
def DRs (h : Snap) : List D → List Value → Prop
  | [], [] => True
  | x :: xs, v :: vs => DR h x v ∧ DRs h xs vs
  | _, _ => False
/-- the row's slice has a block -/
def RowB (c : Cf) (l sz : Nat) (es : List (List D)) : Prop :=
  ∃ cap vs ty, 0 < cap ∧ c.u l = .slice (some ⟨c.ν l, 0, none⟩) es.length cap ∧ es.length ≤ cap ∧ c.w.heap[c.ν l]? = some (.cells vs ty (0, 0)) ∧ vs.size = cap * sz ∧
    (∀ e ∈ es, e.length = sz) ∧ DRs c.h es.flatten (vs.toList.take (es.length * sz))
def ObjOk (c : Cf) (l : Nat) : AObj → Prop
  | .gone => True
  | .cells cs => ∃ vs ty, c.w.heap[c.ν l]? = some (.cells vs ty (0, 0)) ∧ ARs c cs vs.toList
  | .row sz es => (es = [] ∧ ∃ A : Option Addr, c.u l = .slice A 0 0) ∨ RowB c l sz es
  | .map ka va es => ∃ ms ck, c.w.heap[c.ν l]? = some (.map ms ck) ∧ Ents c ka va es ms.toList
  | .iter s pos => c.w.heap[c.ν l]? = some (.stringIter s pos)
/-- does the object have a block? -/
def Has (c : Cf) (l : Nat) : AObj → Prop
  | .gone => False
  | .row _ _ => ∃ a n cap, c.u l = .slice a n cap ∧ 0 < cap
  | _ => True

structure Holds (c : Cf) (σ : List AObj) : Prop where
  n : c.n = σ.length
  snap : ∀ b o v, c.h b o = some v → c.w.cell? ⟨b, o, none⟩ = some v
  obj : ∀ l o, σ[l]? = some o → ObjOk c l o
  sep : ∀ l o l' o', σ[l]? = some o → σ[l']? = some o' → Has c l o → Has c l' o' → l ≠ l' → c.ν l ≠ c.ν l'
  apart : ∀ l o, σ[l]? = some o → Has c l o → ∀ k, c.h (c.ν l) k = none
  lt : ∀ l o, σ[l]? = some o → Has c l o → c.ν l < c.w.heap.size

def Fp (c : Cf) (σ : List AObj) (b : Nat) : Prop := ∃ l o, σ[l]? = some o ∧ Has c l o ∧ c.ν l = b

/-- the world goes on: what it may have turned -/
structure Nxt (c : Cf) (σ : List AObj) (c' : Cf) (σ' : List AObj) : Prop where
  le : c.Le c'
  hold : Holds c' σ'
  os : c'.w.os = c.w.os
  tape : c'.w.tape = c.w.tape
  output : c'.w.output = c.w.output
  size : c.w.heap.size ≤ c'.w.heap.size
  kept : ∀ b, b < c.w.heap.size → ¬ Fp c σ b → c'.w.heap[b]? = c.w.heap[b]?
  fp : ∀ b, Fp c' σ' b → Fp c σ b ∨ c.w.heap.size ≤ b
  hn : ∀ b o, c'.h b o ≠ c.h b o → Fp c σ b ∨ c.w.heap.size ≤ b
theorem Nxt.refl {c : Cf} {σ : List AObj} (h : Holds c σ) : Nxt c σ c σ :=
  ⟨.refl _, h, rfl, rfl, rfl, Nat.le_refl _, fun _ _ _ => rfl, fun _ h => .inl h, fun _ _ h => absurd rfl h⟩
theorem Nxt.trans {a b c : Cf} {σ τ ρ : List AObj} (h : Nxt a σ b τ) (k : Nxt b τ c ρ) : Nxt a σ c ρ where
  le := h.le.trans k.le
  hold := k.hold
  os := k.os.trans h.os
  tape := k.tape.trans h.tape
  output := k.output.trans h.output
  size := Nat.le_trans h.size k.size
  kept x hx hf := by
    rw [k.kept x (Nat.lt_of_lt_of_le hx h.size), h.kept x hx hf]
    intro hx'
    rcases h.fp x hx' with q | q
    · exact hf q
    · omega
  fp x hx := by
    rcases k.fp x hx with q | q
    · exact h.fp x q
    · exact .inr (Nat.le_trans h.size q)
  hn x o hx := by
    by_cases e : b.h x o = a.h x o
    · rcases k.hn x o (by rw [e]; exact hx) with q | q
      · exact h.fp x q
      · exact .inr (Nat.le_trans h.size q)
    · exact h.hn x o e

theorem heap_cell {w w' : World} {a : Addr} (h : w'.heap[a.block]? = w.heap[a.block]?) : w'.cell? a = w.cell? a := by simp [World.cell?, h]
theorem cell_lt {w : World} {a : Addr} {v : Value} (h : w.cell? a = some v) : a.block < w.heap.size := by
  unfold World.cell? at h
  rcases Nat.lt_or_ge a.block w.heap.size with q | q
  · exact q
  · rw [Array.getElem?_eq_none q] at h; simp at h

theorem DRs.mono {h h' : Snap} (H : ∀ b o v, h b o = some v → h' b o = some v) : ∀ {xs : List D} {vs : List Value}, DRs h xs vs → DRs h' xs vs
  | [], [], _ => by simp [DRs]
  | x :: xs, v :: vs, r => by simp only [DRs] at r ⊢; exact ⟨DR.mono H x r.1, DRs.mono H r.2⟩
  | [], _ :: _, r => by simp [DRs] at r
  | _ :: _, [], r => by simp [DRs] at r
theorem Ents.mono {c c' : Cf} (H : c.Le c') {ka va : Bool} : ∀ {es : List (List D × List D)} {ms : List MapEntry}, Ents c ka va es ms → Ents c' ka va es ms
  | [], [], _ => by simp [Ents]
  | (k, v) :: es, m :: ms, r => by simp only [Ents] at r ⊢; exact ⟨AR.mono H _ r.1, AR.mono H _ r.2.1, Ents.mono H r.2.2⟩
  | [], _ :: _, r => by simp [Ents] at r
  | _ :: _, [], r => by simp [Ents] at r
theorem Has.congr {c c' : Cf} {l : Nat} (hu : c'.u l = c.u l) {o : AObj} : Has c' l o ↔ Has c l o := by cases o <;> simp [Has, hu]
theorem ObjOk.mono {c c' : Cf} (H : c.Le c') {l : Nat} (hl : l < c.n) {o : AObj} (hb : Has c l o → c'.w.heap[c.ν l]? = c.w.heap[c.ν l]?) (h : ObjOk c l o) : ObjOk c' l o := by
  have hν := H.ν l hl
  have hu := H.u l hl
  cases o with
  | gone => simp [ObjOk]
  | cells cs =>
    obtain ⟨vs, ty, e1, e2⟩ := h
    exact ⟨vs, ty, by rw [hν, hb trivial]; exact e1, ARs.mono H cs e2⟩
  | row sz es =>
    rcases h with ⟨e1, A, e2⟩ | ⟨cap, vs, ty, e0, e1, e2, e3, e4, e5, e6⟩
    · exact .inl ⟨e1, A, by rw [hu]; exact e2⟩
    · exact .inr ⟨cap, vs, ty, e0, by rw [hu, hν]; exact e1, e2, by rw [hν, hb ⟨_, _, _, e1, e0⟩]; exact e3, e4, e5, DRs.mono H.h e6⟩
  | map ka va es =>
    obtain ⟨ms, ck, e1, e2⟩ := h
    exact ⟨ms, ck, by rw [hν, hb trivial]; exact e1, Ents.mono H e2⟩
  | iter s pos =>
    simp only [ObjOk] at h ⊢
    rw [hν, hb trivial]; exact h
end Go.AX

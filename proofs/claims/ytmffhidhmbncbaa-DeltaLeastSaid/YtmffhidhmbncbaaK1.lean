/- AX, part A: abstract values, what they mean in a world, and how a world may go on. -/
import Derived.Below
import Derived.Tactics
import Derived.Laws.Sem
import Derived.Laws.World
import Derived.Laws.CopyRow
import Derived.Laws.StructEq
import Derived.Great.BuildSlice
import Derived.Laws.Append
import Derived.Laws.BytesString
namespace Go.AX

/-- Pure data of one cell. -/
inductive D where
  | int (k : IntKind) (n : Int)
  | bool (b : Bool)
  | str (s : ByteArray)
  | sl (es : List (List D))

/-- What is known of a value. -/
inductive AV where
  | any
  | d (x : D)
  | agg (cs : List AV)
  | tup (vs : List AV)
  | own (l : Nat)
  | ptr (l off : Nat)
  | rptr (l sz i j : Nat)
  | eptr (cs : List D)
  | mp (l : Nat)
  | fn (f : FuncId) (caps : List AV)
  | nil
  | raw (v : Value)
  | osl (l sz lo n : Nat)

/-- What is known of a block of the call's own. -/
inductive AObj where
  | gone
  | cells (cs : List AV)
  | row (sz : Nat) (es : List (List D))
  | map (ka va : Bool) (es : List (List D × List D))
  | iter (s : ByteArray) (pos : Nat)
  | vec (sz : Nat) (es : List (List AV))
  | obj (b : Nat) (o : Obj)

abbrev Snap := Nat → Nat → Option Value

structure Cf where
  w : World
  h : Snap
  n : Nat
  ν : Nat → Nat
  u : Nat → Value

/-! ### what data and values mean -/
mutual
def DR (h : Snap) : D → Value → Prop
  | .int k n, v => v = .int k n
  | .bool b, v => v = .bool b
  | .str s, v => v = .string s
  | .sl es, v => ∃ A c sz, v = .slice A es.length c ∧ es.length ≤ c ∧ (es ≠ [] → ∀ a, A = some a → a.spot = none) ∧ (A = none → es = []) ∧ DRows h es A sz 0
def DRows (h : Snap) : List (List D) → Option Addr → Nat → Nat → Prop
  | [], _, _, _ => True
  | e :: es, A, sz, k => e.length = sz ∧ DCells h e A k ∧ DRows h es A sz (k + sz)
def DCells (h : Snap) : List D → Option Addr → Nat → Prop
  | [], _, _ => True
  | x :: xs, A, k => (∃ a v, A = some a ∧ a.spot = none ∧ h a.block (a.off + k) = some v ∧ DR h x v) ∧ DCells h xs A (k + 1)
end

mutual
def AR (c : Cf) : AV → Value → Prop
  | .any, _ => True
  | .d x, v => DR c.h x v
  | .agg cs, v => ∃ vs, v = .agg vs ∧ ARs c cs vs.toList
  | .tup cs, v => ∃ vs, v = .tuple vs ∧ ARs c cs vs.toList
  | .own l, v => l < c.n ∧ v = c.u l ∧ ∃ a k p, v = .slice a k p
  | .ptr l off, v => l < c.n ∧ v = .pointer (some ⟨c.ν l, off, none⟩)
  | .rptr l sz i j, v => l < c.n ∧ v = .pointer (some ⟨c.ν l, i * sz + j, none⟩)
  | .eptr cs, v => ∃ a, v = .pointer (some a) ∧ a.spot = none ∧ DCells c.h cs (some a) 0
  | .mp l, v => l < c.n ∧ v = .map (some (c.ν l))
  | .fn f caps, v => ∃ vs, v = .func (.func f) #[] vs ∧ ARs c caps vs.toList
  | .nil, v => ∃ A : Option Addr, v = .slice A 0 0
  | .raw v', v => v = v'
  | .osl l sz lo n, v => l < c.n ∧ ∃ A cap, v = .slice A n cap ∧ n ≤ cap ∧ (0 < n → A = some ⟨c.ν l, lo * sz, none⟩)
def ARs (c : Cf) : List AV → List Value → Prop
  | [], [] => True
  | x :: xs, v :: vs => AR c x v ∧ ARs c xs vs
  | _, _ => False
end

theorem ARs_nil {c : Cf} : ARs c [] [] := by simp [ARs]
theorem ARs_cons {c : Cf} {x : AV} {xs : List AV} {v : Value} {vs : List Value} : ARs c (x :: xs) (v :: vs) ↔ AR c x v ∧ ARs c xs vs := by simp [ARs]
theorem ARs_nil_left {c : Cf} {vs : List Value} (h : ARs c [] vs) : vs = [] := by cases vs <;> simp_all [ARs]
theorem ARs_cons_left {c : Cf} {x : AV} {xs : List AV} {vs : List Value} (h : ARs c (x :: xs) vs) : ∃ v r, vs = v :: r ∧ AR c x v ∧ ARs c xs r := by
  cases vs with
  | nil => simp [ARs] at h
  | cons v r => exact ⟨v, r, rfl, by simpa [ARs] using h⟩
theorem ARs_length {c : Cf} : ∀ {xs : List AV} {vs : List Value}, ARs c xs vs → xs.length = vs.length
  | [], _, h => by rw [ARs_nil_left h]; rfl
  | x :: xs, _, h => by obtain ⟨v, r, rfl, _, h2⟩ := ARs_cons_left h; simp [ARs_length h2]
theorem ARs_get {c : Cf} : ∀ {xs : List AV} {vs : List Value} (_ : ARs c xs vs) (i : Nat) {x : AV}, xs[i]? = some x → ∃ v, vs[i]? = some v ∧ AR c x v
  | [], _, _, i, x, e => by simp at e
  | y :: ys, _, h, i, x, e => by
    obtain ⟨v, r, rfl, h1, h2⟩ := ARs_cons_left h
    cases i with
    | zero => simp at e; subst e; exact ⟨v, rfl, h1⟩
    | succ i => simp at e; simpa using ARs_get h2 i e
theorem ARs_mk {c : Cf} : ∀ {xs : List AV} {vs : List Value}, xs.length = vs.length → (∀ (i : Nat) (x : AV) (v : Value), xs[i]? = some x → vs[i]? = some v → AR c x v) → ARs c xs vs
  | [], [], _, _ => ARs_nil
  | x :: xs, v :: vs, hl, h => ARs_cons.2 ⟨h 0 x v rfl rfl, ARs_mk (by simpa using hl) fun i y u hy hu => h (i + 1) y u (by simpa using hy) (by simpa using hu)⟩
  | [], _ :: _, hl, _ => by simp at hl
  | _ :: _, [], hl, _ => by simp at hl
theorem ARs_append {c : Cf} {xs ys : List AV} {vs us : List Value} (h1 : ARs c xs vs) (h2 : ARs c ys us) : ARs c (xs ++ ys) (vs ++ us) := by
  induction xs generalizing vs with
  | nil => rw [ARs_nil_left h1]; simpa using h2
  | cons x xs ih => obtain ⟨v, r, rfl, a, b⟩ := ARs_cons_left h1; exact ARs_cons.2 ⟨a, ih b⟩

/-! ### a slot of the frame -/
def lk : List AV → Nat → AV
  | [], _ => .any
  | x :: _, 0 => x
  | _ :: xs, n + 1 => lk xs n
def st : List AV → Nat → AV → List AV
  | [], _, _ => []
  | _ :: xs, 0, v => v :: xs
  | x :: xs, n + 1, v => x :: st xs n v
theorem lk_eq : ∀ (xs : List AV) (i : Nat), lk xs i = (xs[i]?).getD .any
  | [], _ => by simp [lk]
  | x :: xs, 0 => by simp [lk]
  | x :: xs, n + 1 => by simp [lk, lk_eq xs n]
theorem st_eq : ∀ (xs : List AV) (i : Nat) (v : AV), st xs i v = xs.set i v
  | [], _, _ => by simp [st]
  | x :: xs, 0, _ => by simp [st]
  | x :: xs, n + 1, v => by simp [st, st_eq xs n v]
theorem ARs_lk {c : Cf} {xs : List AV} {vs : List Value} (h : ARs c xs vs) (i : Nat) (d : Value) : AR c (lk xs i) ((vs[i]?).getD d) := by
  rw [lk_eq]
  cases hx : xs[i]? with
  | none => simp [AR]
  | some x => obtain ⟨v, hv, hr⟩ := ARs_get h i hx; simpa [hv] using hr
theorem ARs_st {c : Cf} : ∀ {xs : List AV} {vs : List Value} (_ : ARs c xs vs) (i : Nat) {x : AV} {v : Value}, AR c x v → ARs c (st xs i x) (vs.set i v)
  | [], _, h, i, x, v, _ => by rw [ARs_nil_left h]; simp [st, ARs]
  | y :: ys, _, h, i, x, v, hx => by
    obtain ⟨u, r, rfl, h1, h2⟩ := ARs_cons_left h
    cases i with
    | zero => simpa [st, ARs_cons] using ⟨hx, h2⟩
    | succ i => simpa [st, ARs_cons] using ⟨h1, ARs_st h2 i hx⟩

/-! ### what stays -/
structure Cf.Le (c c' : Cf) : Prop where
  h : ∀ b o v, c.h b o = some v → c'.h b o = some v
  n : c.n ≤ c'.n
  ν : ∀ l, l < c.n → c'.ν l = c.ν l
  u : ∀ l, l < c.n → c'.u l = c.u l
theorem Cf.Le.refl (c : Cf) : c.Le c := ⟨fun _ _ _ h => h, Nat.le_refl _, fun _ _ => rfl, fun _ _ => rfl⟩
theorem Cf.Le.trans {a b c : Cf} (h : a.Le b) (k : b.Le c) : a.Le c :=
  ⟨fun _ _ _ e => k.h _ _ _ (h.h _ _ _ e), Nat.le_trans h.n k.n, fun l hl => (k.ν l (Nat.lt_of_lt_of_le hl h.n)).trans (h.ν l hl), fun l hl => (k.u l (Nat.lt_of_lt_of_le hl h.n)).trans (h.u l hl)⟩

mutual
theorem DR.mono {h h' : Snap} (H : ∀ b o v, h b o = some v → h' b o = some v) : ∀ (x : D) {v : Value}, DR h x v → DR h' x v
  | .int _ _, _, e => by simpa [DR] using e
  | .bool _, _, e => by simpa [DR] using e
  | .str _, _, e => by simpa [DR] using e
  | .sl es, _, e => by
    simp only [DR] at e ⊢
    obtain ⟨A, c, sz, e1, e2, e3, e5, e4⟩ := e
    exact ⟨A, c, sz, e1, e2, e3, e5, DRows.mono H es e4⟩
theorem DRows.mono {h h' : Snap} (H : ∀ b o v, h b o = some v → h' b o = some v) : ∀ (es : List (List D)) {A : Option Addr} {sz k : Nat}, DRows h es A sz k → DRows h' es A sz k
  | [], _, _, _, _ => by simp [DRows]
  | e :: es, _, _, _, r => by
    simp only [DRows] at r ⊢
    exact ⟨r.1, DCells.mono H e r.2.1, DRows.mono H es r.2.2⟩
theorem DCells.mono {h h' : Snap} (H : ∀ b o v, h b o = some v → h' b o = some v) : ∀ (xs : List D) {A : Option Addr} {k : Nat}, DCells h xs A k → DCells h' xs A k
  | [], _, _, _ => by simp [DCells]
  | x :: xs, _, _, r => by
    simp only [DCells] at r ⊢
    obtain ⟨⟨a, v, e1, e2, e3, e4⟩, r2⟩ := r
    exact ⟨⟨a, v, e1, e2, H _ _ _ e3, DR.mono H x e4⟩, DCells.mono H xs r2⟩
end
mutual
theorem AR.mono {c c' : Cf} (H : c.Le c') : ∀ (x : AV) {v : Value}, AR c x v → AR c' x v
  | .any, _, _ => by simp [AR]
  | .d x, _, e => by simp only [AR] at e ⊢; exact DR.mono H.h x e
  | .agg cs, _, e => by simp only [AR] at e ⊢; obtain ⟨vs, e1, e2⟩ := e; exact ⟨vs, e1, ARs.mono H cs e2⟩
  | .tup cs, _, e => by simp only [AR] at e ⊢; obtain ⟨vs, e1, e2⟩ := e; exact ⟨vs, e1, ARs.mono H cs e2⟩
  | .own l, _, e => by simp only [AR] at e ⊢; exact ⟨Nat.lt_of_lt_of_le e.1 H.n, by rw [H.u l e.1]; exact e.2.1, e.2.2⟩
  | .ptr l off, _, e => by simp only [AR] at e ⊢; exact ⟨Nat.lt_of_lt_of_le e.1 H.n, by rw [H.ν l e.1]; exact e.2⟩
  | .rptr l sz i j, _, e => by simp only [AR] at e ⊢; exact ⟨Nat.lt_of_lt_of_le e.1 H.n, by rw [H.ν l e.1]; exact e.2⟩
  | .eptr cs, _, e => by simp only [AR] at e ⊢; obtain ⟨a, e1, e3, e2⟩ := e; exact ⟨a, e1, e3, DCells.mono H.h cs e2⟩
  | .mp l, _, e => by simp only [AR] at e ⊢; exact ⟨Nat.lt_of_lt_of_le e.1 H.n, by rw [H.ν l e.1]; exact e.2⟩
  | .fn f caps, _, e => by simp only [AR] at e ⊢; obtain ⟨vs, e1, e2⟩ := e; exact ⟨vs, e1, ARs.mono H caps e2⟩
  | .nil, _, e => by simpa [AR] using e
  | .raw _, _, e => by simpa [AR] using e
  | .osl l sz lo n, _, e => by simp only [AR] at e ⊢; exact ⟨Nat.lt_of_lt_of_le e.1 H.n, by rw [H.ν l e.1]; exact e.2⟩
theorem ARs.mono {c c' : Cf} (H : c.Le c') : ∀ (xs : List AV) {vs : List Value}, ARs c xs vs → ARs c' xs vs
  | [], vs, r => by rw [ARs_nil_left r]; simp [ARs]
  | x :: xs, vs, r => by
    obtain ⟨v, r', rfl, h1, h2⟩ := ARs_cons_left r
    exact ARs_cons.2 ⟨AR.mono H x h1, ARs.mono H xs h2⟩
end

/-! ### blocks of the call's own -/
/-- cells of a row, flat. -/
def flat (es : List (List D)) : List D := es.flatten
/-- data by its cells: one cell as it is, several as a struct. -/
def dv (a : Bool) (cs : List D) : AV := if a then .agg (cs.map .d) else .d (cs.headD (.bool false))
def Ents (c : Cf) (ka va : Bool) : List (List D × List D) → List MapEntry → Prop
  | [], [] => True
  | (k, v) :: es, m :: ms => AR c (dv ka k) m.key ∧ AR c (dv va v) m.val ∧ Ents c ka va es ms
  | _, _ => False
def DRs (h : Snap) : List D → List Value → Prop
  | [], [] => True
  | x :: xs, v :: vs => DR h x v ∧ DRs h xs vs
  | _, _ => False
/-- the row's slice has a block -/
def RowB (c : Cf) (l sz : Nat) (es : List (List D)) : Prop :=
  ∃ cap vs ty, 0 < cap ∧ c.u l = .slice (some ⟨c.ν l, 0, none⟩) es.length cap ∧ es.length ≤ cap ∧ c.w.heap[c.ν l]? = some (.cells vs ty (0, 0)) ∧ vs.size = cap * sz ∧
    (∀ e ∈ es, e.length = sz) ∧ DRs c.h es.flatten (vs.toList.take (es.length * sz))
/-- the same, of what is known by AVs -/
def VecB (c : Cf) (l sz : Nat) (es : List (List AV)) : Prop :=
  ∃ cap vs ty, 0 < cap ∧ c.u l = .slice (some ⟨c.ν l, 0, none⟩) es.length cap ∧ es.length ≤ cap ∧ c.w.heap[c.ν l]? = some (.cells vs ty (0, 0)) ∧ vs.size = cap * sz ∧
    (∀ e ∈ es, e.length = sz) ∧ ARs c es.flatten (vs.toList.take (es.length * sz))
def ObjOk (c : Cf) (l : Nat) : AObj → Prop
  | .gone => True
  | .cells cs => ∃ vs ty, c.w.heap[c.ν l]? = some (.cells vs ty (0, 0)) ∧ ARs c cs vs.toList
  | .row sz es => (es = [] ∧ ∃ A : Option Addr, c.u l = .slice A 0 0) ∨ RowB c l sz es
  | .map ka va es => ∃ ms ck, c.w.heap[c.ν l]? = some (.map ms ck) ∧ Ents c ka va es ms.toList
  | .iter s pos => c.w.heap[c.ν l]? = some (.stringIter s pos)
  | .vec sz es => (es = [] ∧ ∃ A : Option Addr, c.u l = .slice A 0 0) ∨ VecB c l sz es
  | .obj b o => c.ν l = b ∧ c.w.heap[b]? = some o
/-- does the object have a block? -/
def Has (c : Cf) (l : Nat) : AObj → Prop
  | .gone => False
  | .row _ _ => ∃ a n cap, c.u l = .slice a n cap ∧ 0 < cap
  | .vec _ _ => ∃ a n cap, c.u l = .slice a n cap ∧ 0 < cap
  | _ => True

structure Holds (c : Cf) (σ : List AObj) : Prop where
  n : c.n = σ.length
  snap : ∀ b o v, c.h b o = some v → c.w.cell? ⟨b, o, none⟩ = some v
  obj : ∀ l o, σ[l]? = some o → ObjOk c l o
  sep : ∀ l o l' o', σ[l]? = some o → σ[l']? = some o' → Has c l o → Has c l' o' → l ≠ l' → c.ν l ≠ c.ν l'
  apart : ∀ l o, σ[l]? = some o → Has c l o → ∀ k, c.h (c.ν l) k = none
  lt : ∀ l o, σ[l]? = some o → Has c l o → c.ν l < c.w.heap.size

def Fp (c : Cf) (σ : List AObj) (b : Nat) : Prop := ∃ l o, σ[l]? = some o ∧ Has c l o ∧ c.ν l = b

/-- the world goes on: what it may have turned -/
structure Nxt (c : Cf) (σ : List AObj) (c' : Cf) (σ' : List AObj) : Prop where
  le : c.Le c'
  hold : Holds c' σ'
  os : c'.w.os = c.w.os
  tape : c'.w.tape = c.w.tape
  output : c'.w.output = c.w.output
  size : c.w.heap.size ≤ c'.w.heap.size
  kept : ∀ b, b < c.w.heap.size → ¬ Fp c σ b → c'.w.heap[b]? = c.w.heap[b]?
  fp : ∀ b, Fp c' σ' b → Fp c σ b ∨ c.w.heap.size ≤ b
  hn : ∀ b o, c'.h b o ≠ c.h b o → Fp c σ b ∨ c.w.heap.size ≤ b
theorem Nxt.refl {c : Cf} {σ : List AObj} (h : Holds c σ) : Nxt c σ c σ :=
  ⟨.refl _, h, rfl, rfl, rfl, Nat.le_refl _, fun _ _ _ => rfl, fun _ h => .inl h, fun _ _ h => absurd rfl h⟩
theorem Nxt.trans {a b c : Cf} {σ τ ρ : List AObj} (h : Nxt a σ b τ) (k : Nxt b τ c ρ) : Nxt a σ c ρ where
  le := h.le.trans k.le
  hold := k.hold
  os := k.os.trans h.os
  tape := k.tape.trans h.tape
  output := k.output.trans h.output
  size := Nat.le_trans h.size k.size
  kept x hx hf := by
    rw [k.kept x (Nat.lt_of_lt_of_le hx h.size), h.kept x hx hf]
    intro hx'
    rcases h.fp x hx' with q | q
    · exact hf q
    · omega
  fp x hx := by
    rcases k.fp x hx with q | q
    · exact h.fp x q
    · exact .inr (Nat.le_trans h.size q)
  hn x o hx := by
    by_cases e : b.h x o = a.h x o
    · rcases k.hn x o (by rw [e]; exact hx) with q | q
      · exact h.fp x q
      · exact .inr (Nat.le_trans h.size q)
    · exact h.hn x o e

theorem heap_cell {w w' : World} {a : Addr} (h : w'.heap[a.block]? = w.heap[a.block]?) : w'.cell? a = w.cell? a := by simp [World.cell?, h]
theorem cell_lt {w : World} {a : Addr} {v : Value} (h : w.cell? a = some v) : a.block < w.heap.size := by
  unfold World.cell? at h
  rcases Nat.lt_or_ge a.block w.heap.size with q | q
  · exact q
  · rw [Array.getElem?_eq_none q] at h; simp at h

theorem DRs.mono {h h' : Snap} (H : ∀ b o v, h b o = some v → h' b o = some v) : ∀ {xs : List D} {vs : List Value}, DRs h xs vs → DRs h' xs vs
  | [], [], _ => by simp [DRs]
  | x :: xs, v :: vs, r => by simp only [DRs] at r ⊢; exact ⟨DR.mono H x r.1, DRs.mono H r.2⟩
  | [], _ :: _, r => by simp [DRs] at r
  | _ :: _, [], r => by simp [DRs] at r
theorem Ents.mono {c c' : Cf} (H : c.Le c') {ka va : Bool} : ∀ {es : List (List D × List D)} {ms : List MapEntry}, Ents c ka va es ms → Ents c' ka va es ms
  | [], [], _ => by simp [Ents]
  | (k, v) :: es, m :: ms, r => by simp only [Ents] at r ⊢; exact ⟨AR.mono H _ r.1, AR.mono H _ r.2.1, Ents.mono H r.2.2⟩
  | [], _ :: _, r => by simp [Ents] at r
  | _ :: _, [], r => by simp [Ents] at r
theorem Has.congr {c c' : Cf} {l : Nat} (hu : c'.u l = c.u l) {o : AObj} : Has c' l o ↔ Has c l o := by cases o <;> simp [Has, hu]
theorem ObjOk.mono {c c' : Cf} (H : c.Le c') {l : Nat} (hl : l < c.n) {o : AObj} (hb : Has c l o → c'.w.heap[c.ν l]? = c.w.heap[c.ν l]?) (h : ObjOk c l o) : ObjOk c' l o := by
  have hν := H.ν l hl
  have hu := H.u l hl
  cases o with
  | gone => simp [ObjOk]
  | cells cs =>
    obtain ⟨vs, ty, e1, e2⟩ := h
    exact ⟨vs, ty, by rw [hν, hb trivial]; exact e1, ARs.mono H cs e2⟩
  | row sz es =>
    rcases h with ⟨e1, A, e2⟩ | ⟨cap, vs, ty, e0, e1, e2, e3, e4, e5, e6⟩
    · exact .inl ⟨e1, A, by rw [hu]; exact e2⟩
    · exact .inr ⟨cap, vs, ty, e0, by rw [hu, hν]; exact e1, e2, by rw [hν, hb ⟨_, _, _, e1, e0⟩]; exact e3, e4, e5, DRs.mono H.h e6⟩
  | map ka va es =>
    obtain ⟨ms, ck, e1, e2⟩ := h
    exact ⟨ms, ck, by rw [hν, hb trivial]; exact e1, Ents.mono H e2⟩
  | iter s pos =>
    simp only [ObjOk] at h ⊢
    rw [hν, hb trivial]; exact h
  | vec sz es =>
    rcases h with ⟨e1, A, e2⟩ | ⟨cap, vs, ty, e0, e1, e2, e3, e4, e5, e6⟩
    · exact .inl ⟨e1, A, by rw [hu]; exact e2⟩
    · exact .inr ⟨cap, vs, ty, e0, by rw [hu, hν]; exact e1, e2, by rw [hν, hb ⟨_, _, _, e1, e0⟩]; exact e3, e4, e5, ARs.mono H _ e6⟩
  | obj b o =>
    obtain ⟨e1, e2⟩ := h
    subst e1
    exact ⟨hν, (hb trivial).trans e2⟩
end Go.AX
/- AX, part B: the ways in which the world goes on. -/
namespace Go.AX

def Cf.at (c : Cf) (w : World) : Cf := { c with w := w }
def Cf.put (c : Cf) (w : World) (b : Nat) (v : Value) : Cf :=
  { c with w := w, n := c.n + 1, ν := fun l => if l = c.n then b else c.ν l, u := fun l => if l = c.n then v else c.u l }
theorem Cf.le_at (c : Cf) (w : World) : c.Le (c.at w) := ⟨fun _ _ _ h => h, Nat.le_refl _, fun _ _ => rfl, fun _ _ => rfl⟩
theorem Cf.le_put (c : Cf) (w : World) (b : Nat) (v : Value) : c.Le (c.put w b v) :=
  ⟨fun _ _ _ h => h, Nat.le_succ _, fun l hl => by simp [Cf.put, Nat.ne_of_lt hl], fun l hl => by simp [Cf.put, Nat.ne_of_lt hl]⟩

theorem some_lt {α : Type} {l : List α} {i : Nat} {x : α} (h : l[i]? = some x) : i < l.length := (List.getElem?_eq_some_iff.1 h).1

/-- Only counts of the world turn. -/
theorem Nxt.quiet {c : Cf} {σ : List AObj} (H : Holds c σ) (w' : World) (hh : w'.heap = c.w.heap) (ho : w'.os = c.w.os) (ht : w'.tape = c.w.tape) (hp : w'.output = c.w.output) :
    Nxt c σ (c.at w') σ where
  le := c.le_at w'
  hold :=
    { n := H.n
      snap := fun b o v h => by have := H.snap b o v h; rw [← this]; exact heap_cell (by simp [Cf.at, hh])
      obj := fun l o h => ObjOk.mono (c.le_at w') (by rw [H.n]; exact some_lt h) (fun _ => by simp [Cf.at, hh]) (H.obj l o h)
      sep := fun l o l' o' a b h h' => H.sep l o l' o' a b ((Has.congr rfl).1 h) ((Has.congr rfl).1 h')
      apart := fun l o a h => H.apart l o a ((Has.congr rfl).1 h)
      lt := fun l o a h => by simpa [Cf.at, hh] using H.lt l o a ((Has.congr rfl).1 h) }
  os := ho
  tape := ht
  output := hp
  size := by simp [Cf.at, hh]
  kept := fun b _ _ => by simp [Cf.at, hh]
  fp := fun b ⟨l, o, a, h, e⟩ => .inl ⟨l, o, a, (Has.congr rfl).1 h, e⟩
  hn := fun b o h => absurd rfl h

theorem Nxt.drew {c : Cf} {σ : List AObj} (H : Holds c σ) : Nxt c σ (c.at c.w.drew) σ := Nxt.quiet H _ rfl rfl rfl rfl

/-- A new block. -/
theorem Nxt.new {c : Cf} {σ : List AObj} (H : Holds c σ) (ob : Obj) (uv : Value) (o : AObj)
    (ho : ObjOk (c.put (c.w.alloc ob) c.w.heap.size uv) c.n o) : Nxt c σ (c.put (c.w.alloc ob) c.w.heap.size uv) (σ ++ [o]) := by
  have le := c.le_put (c.w.alloc ob) c.w.heap.size uv
  have hold : ∀ k, k < c.w.heap.size → (c.w.alloc ob).heap[k]? = c.w.heap[k]? := fun k hk => by
    show (c.w.heap.push ob)[k]? = _
    rw [Array.getElem?_push, if_neg (by omega)]
  have hsz : (c.w.alloc ob).heap.size = c.w.heap.size + 1 := by show (c.w.heap.push ob).size = _; simp
  have old : ∀ l x, (σ ++ [o])[l]? = some x → (l < c.n ∧ σ[l]? = some x) ∨ (l = c.n ∧ x = o) := fun l x h => by
    rw [H.n]
    rcases Nat.lt_or_ge l σ.length with q | q
    · rw [List.getElem?_append_left q] at h; exact .inl ⟨q, h⟩
    · rw [List.getElem?_append_right q] at h
      rcases Nat.eq_or_lt_of_le q with e | e
      · subst e; simp at h; exact .inr ⟨rfl, h.symm⟩
      · rw [List.getElem?_eq_none (by simp; omega)] at h; simp at h
  have hasOld : ∀ l x, l < c.n → (Has (c.put (c.w.alloc ob) c.w.heap.size uv) l x ↔ Has c l x) := fun l x hl => Has.congr (le.u l hl)
  have νnew : (c.put (c.w.alloc ob) c.w.heap.size uv).ν c.n = c.w.heap.size := by simp [Cf.put]
  refine ⟨le, ⟨by simp [Cf.put, H.n], ?_, ?_, ?_, ?_, ?_⟩, rfl, rfl, rfl, by simp only [Cf.put]; omega, fun b hb _ => hold b hb, ?_, fun b o' h => absurd rfl h⟩
  · intro b k v h
    have h1 := H.snap b k v h
    rw [← h1]
    exact heap_cell (hold b (cell_lt h1))
  · intro l x h
    rcases old l x h with ⟨hl, e⟩ | ⟨rfl, rfl⟩
    · exact ObjOk.mono le hl (fun hh => hold _ (H.lt l x e hh)) (H.obj l x e)
    · exact ho
  · intro l x l' x' a a' h h' hne
    rcases old l x a with ⟨hl, e⟩ | ⟨rfl, rfl⟩
    · rcases old l' x' a' with ⟨hl', e'⟩ | ⟨rfl, rfl⟩
      · rw [le.ν l hl, le.ν l' hl']; exact H.sep l x l' x' e e' ((hasOld l x hl).1 h) ((hasOld l' x' hl').1 h') hne
      · rw [le.ν l hl, νnew]; have := H.lt l x e ((hasOld l x hl).1 h); omega
    · rcases old l' x' a' with ⟨hl', e'⟩ | ⟨rfl, rfl⟩
      · rw [le.ν l' hl', νnew]; have := H.lt l' x' e' ((hasOld l' x' hl').1 h'); omega
      · exact absurd rfl hne
  · intro l x a h k
    rcases old l x a with ⟨hl, e⟩ | ⟨rfl, rfl⟩
    · rw [le.ν l hl]; exact H.apart l x e ((hasOld l x hl).1 h) k
    · rw [νnew]
      show c.h c.w.heap.size k = none
      cases e : c.h c.w.heap.size k with
      | none => rfl
      | some v => have := cell_lt (H.snap _ _ _ e); simp at this
  · intro l x a h
    show (c.put (c.w.alloc ob) c.w.heap.size uv).ν l < (c.w.alloc ob).heap.size
    rcases old l x a with ⟨hl, e⟩ | ⟨rfl, rfl⟩
    · rw [le.ν l hl]; have := H.lt l x e ((hasOld l x hl).1 h); omega
    · rw [νnew]; omega
  · rintro b ⟨l, x, a, h, rfl⟩
    rcases old l x a with ⟨hl, e⟩ | ⟨rfl, rfl⟩
    · rw [le.ν l hl]; exact .inl ⟨l, x, e, (hasOld l x hl).1 h, rfl⟩
    · rw [νnew]; exact .inr (Nat.le_refl _)

/-- A block of the call's own is written. -/
theorem Nxt.upd {c : Cf} {σ : List AObj} (H : Holds c σ) {l : Nat} {o o' : AObj} (hl : σ[l]? = some o) (hh : Has c l o) (w' : World)
    (same : ∀ b, b ≠ c.ν l → w'.heap[b]? = c.w.heap[b]?) (hsz : w'.heap.size = c.w.heap.size) (hos : w'.os = c.w.os) (ht : w'.tape = c.w.tape) (hp : w'.output = c.w.output)
    (ho : ObjOk (c.at w') l o') : Nxt c σ (c.at w') (σ.set l o') := by
  have hlt := some_lt hl
  have old : ∀ k x, (σ.set l o')[k]? = some x → (k ≠ l ∧ σ[k]? = some x) ∨ (k = l ∧ x = o') := fun k x h => by
    rw [List.getElem?_set] at h
    by_cases e : l = k
    · subst e; simp [hlt] at h; exact .inr ⟨rfl, h.symm⟩
    · rw [if_neg e] at h; exact .inl ⟨fun e' => e e'.symm, h⟩
  have was : ∀ k x, (σ.set l o')[k]? = some x → Has (c.at w') k x → ∃ y, σ[k]? = some y ∧ Has c k y := fun k x a h => by
    rcases old k x a with ⟨_, e⟩ | ⟨rfl, rfl⟩
    · exact ⟨x, e, (Has.congr rfl).1 h⟩
    · exact ⟨o, hl, hh⟩
  refine ⟨c.le_at w', ⟨by simp [Cf.at, H.n], ?_, ?_, ?_, ?_, ?_⟩, hos, ht, hp, by simp [Cf.at, hsz], ?_, ?_, fun b o' h => absurd rfl h⟩
  · intro b k v h
    have h1 := H.snap b k v h
    rw [← h1]
    exact heap_cell (same b (fun e => by subst e; have h' : c.h (c.ν l) k = some v := h; rw [H.apart l o hl hh k] at h'; simp at h'))
  · intro k x h
    rcases old k x h with ⟨hne, e⟩ | ⟨rfl, rfl⟩
    · exact ObjOk.mono (c.le_at w') (by rw [H.n]; exact some_lt e) (fun hx => same _ (H.sep k x l o e hl hx hh hne)) (H.obj k x e)
    · exact ho
  · intro k x k' x' a a' h h' hne
    obtain ⟨y, e, g⟩ := was k x a h
    obtain ⟨y', e', g'⟩ := was k' x' a' h'
    exact H.sep k y k' y' e e' g g' hne
  · intro k x a h j
    obtain ⟨y, e, g⟩ := was k x a h
    exact H.apart k y e g j
  · intro k x a h
    obtain ⟨y, e, g⟩ := was k x a h
    simpa [Cf.at, hsz] using H.lt k y e g
  · intro b hb hf
    exact same b (fun e => hf ⟨l, o, hl, hh, e.symm⟩)
  · rintro b ⟨k, x, a, h, rfl⟩
    obtain ⟨y, e, g⟩ := was k x a h
    exact .inl ⟨k, y, e, g, rfl⟩

/-- What is known of a block is forgotten. -/
theorem Nxt.drop {c : Cf} {σ : List AObj} (H : Holds c σ) (l : Nat) : Nxt c σ c (σ.set l .gone) := by
  have old : ∀ k x, (σ.set l .gone)[k]? = some x → σ[k]? = some x ∨ x = AObj.gone := fun k x h => by
    rw [List.getElem?_set] at h
    by_cases e : l = k
    · subst e
      rw [if_pos rfl] at h
      by_cases q : l < σ.length
      · rw [if_pos q] at h; exact .inr (by simpa using h.symm)
      · rw [if_neg q] at h; simp at h
    · rw [if_neg e] at h; exact .inl h
  have was : ∀ k x, (σ.set l .gone)[k]? = some x → Has c k x → σ[k]? = some x := fun k x a h => by
    rcases old k x a with e | rfl
    · exact e
    · exact h.elim
  refine ⟨.refl _, ⟨by simp [H.n], H.snap, ?_, ?_, ?_, ?_⟩, rfl, rfl, rfl, Nat.le_refl _, fun _ _ _ => rfl, ?_, fun b o' h => absurd rfl h⟩
  · intro k x h
    rcases old k x h with e | rfl
    · exact H.obj k x e
    · trivial
  · intro k x k' x' a a' h h' hne
    exact H.sep k x k' x' (was k x a h) (was k' x' a' h') h h' hne
  · intro k x a h j
    exact H.apart k x (was k x a h) h j
  · intro k x a h
    exact H.lt k x (was k x a h) h
  · rintro b ⟨k, x, a, h, rfl⟩
    exact .inl ⟨k, x, was k x a h, h, rfl⟩

/-- A label more for a block that nobody has (its old label is gone), or for none. -/
theorem Nxt.take {c : Cf} {σ : List AObj} (H : Holds c σ) {l : Nat} {o o' : AObj} (hl : σ[l]? = some o) (hh : Has c l o) (uv : Value)
    (ho : ObjOk (c.put c.w (c.ν l) uv) c.n o') : Nxt c σ (c.put c.w (c.ν l) uv) ((σ.set l .gone) ++ [o']) := by
  have le := c.le_put c.w (c.ν l) uv
  have hlt := some_lt hl
  have hln : l < c.n := by rw [H.n]; exact hlt
  have old : ∀ k x, ((σ.set l .gone) ++ [o'])[k]? = some x → (k < c.n ∧ k ≠ l ∧ σ[k]? = some x) ∨ x = AObj.gone ∨ (k = c.n ∧ x = o') := fun k x h => by
    rcases Nat.lt_or_ge k σ.length with q | q
    · rw [List.getElem?_append_left (by simpa using q), List.getElem?_set] at h
      by_cases e : l = k
      · subst e; simp [q] at h; exact .inr (.inl h.symm)
      · rw [if_neg e] at h; exact .inl ⟨by rw [H.n]; exact q, fun e' => e e'.symm, h⟩
    · rw [List.getElem?_append_right (by simpa using q)] at h
      simp only [List.length_set] at h
      rcases Nat.eq_or_lt_of_le q with e | e
      · subst e; simp at h; exact .inr (.inr ⟨H.n.symm, h.symm⟩)
      · rw [List.getElem?_eq_none (by simp; omega)] at h; simp at h
  have hasOld : ∀ k x, k < c.n → (Has (c.put c.w (c.ν l) uv) k x ↔ Has c k x) := fun k x hk => Has.congr (le.u k hk)
  have νnew : (c.put c.w (c.ν l) uv).ν c.n = c.ν l := by simp [Cf.put]
  refine ⟨le, ⟨by simp [Cf.put, H.n], H.snap, ?_, ?_, ?_, ?_⟩, rfl, rfl, rfl, Nat.le_refl _, fun _ _ _ => rfl, ?_, fun b o' h => absurd rfl h⟩
  · intro k x h
    rcases old k x h with ⟨hk, _, e⟩ | rfl | ⟨rfl, rfl⟩
    · exact ObjOk.mono le hk (fun _ => rfl) (H.obj k x e)
    · trivial
    · exact ho
  · intro k x k' x' a a' h h' hne
    rcases old k x a with ⟨hk, hkl, e⟩ | rfl | ⟨rfl, rfl⟩
    · rcases old k' x' a' with ⟨hk', _, e'⟩ | rfl | ⟨rfl, rfl⟩
      · rw [le.ν k hk, le.ν k' hk']; exact H.sep k x k' x' e e' ((hasOld k x hk).1 h) ((hasOld k' x' hk').1 h') hne
      · exact h'.elim
      · rw [le.ν k hk, νnew]; exact H.sep k x l o e hl ((hasOld k x hk).1 h) hh hkl
    · exact h.elim
    · rcases old k' x' a' with ⟨hk', hkl', e'⟩ | rfl | ⟨rfl, rfl⟩
      · rw [le.ν k' hk', νnew]; exact fun q => H.sep k' x' l o e' hl ((hasOld k' x' hk').1 h') hh hkl' q.symm
      · exact h'.elim
      · exact absurd rfl hne
  · intro k x a h j
    rcases old k x a with ⟨hk, _, e⟩ | rfl | ⟨rfl, rfl⟩
    · rw [le.ν k hk]; exact H.apart k x e ((hasOld k x hk).1 h) j
    · exact h.elim
    · rw [νnew]; exact H.apart l o hl hh j
  · intro k x a h
    show (c.put c.w (c.ν l) uv).ν k < c.w.heap.size
    rcases old k x a with ⟨hk, _, e⟩ | rfl | ⟨rfl, rfl⟩
    · rw [le.ν k hk]; exact H.lt k x e ((hasOld k x hk).1 h)
    · exact h.elim
    · rw [νnew]; exact H.lt l o hl hh
  · rintro b ⟨k, x, a, h, rfl⟩
    rcases old k x a with ⟨hk, _, e⟩ | rfl | ⟨rfl, rfl⟩
    · rw [le.ν k hk]; exact .inl ⟨k, x, e, (hasOld k x hk).1 h, rfl⟩
    · exact h.elim
    · rw [νnew]; exact .inl ⟨l, o, hl, hh, rfl⟩

/-- A label more without a block. -/
theorem Nxt.bare {c : Cf} {σ : List AObj} (H : Holds c σ) (uv : Value) (o : AObj) (ho : ObjOk (c.put c.w 0 uv) c.n o) (hh : ¬ Has (c.put c.w 0 uv) c.n o) :
    Nxt c σ (c.put c.w 0 uv) (σ ++ [o]) := by
  have le := c.le_put c.w 0 uv
  have old : ∀ l x, (σ ++ [o])[l]? = some x → (l < c.n ∧ σ[l]? = some x) ∨ (l = c.n ∧ x = o) := fun l x h => by
    rw [H.n]
    rcases Nat.lt_or_ge l σ.length with q | q
    · rw [List.getElem?_append_left q] at h; exact .inl ⟨q, h⟩
    · rw [List.getElem?_append_right q] at h
      rcases Nat.eq_or_lt_of_le q with e | e
      · subst e; simp at h; exact .inr ⟨rfl, h.symm⟩
      · rw [List.getElem?_eq_none (by simp; omega)] at h; simp at h
  have was : ∀ l x, (σ ++ [o])[l]? = some x → Has (c.put c.w 0 uv) l x → l < c.n ∧ σ[l]? = some x ∧ Has c l x := fun l x a h => by
    rcases old l x a with ⟨hl, e⟩ | ⟨rfl, rfl⟩
    · exact ⟨hl, e, (Has.congr (le.u l hl)).1 h⟩
    · exact absurd h hh
  refine ⟨le, ⟨by simp [Cf.put, H.n], H.snap, ?_, ?_, ?_, ?_⟩, rfl, rfl, rfl, Nat.le_refl _, fun _ _ _ => rfl, ?_, fun b o' h => absurd rfl h⟩
  · intro l x h
    rcases old l x h with ⟨hl, e⟩ | ⟨rfl, rfl⟩
    · exact ObjOk.mono le hl (fun _ => rfl) (H.obj l x e)
    · exact ho
  · intro l x l' x' a a' h h' hne
    obtain ⟨q, e, g⟩ := was l x a h
    obtain ⟨q', e', g'⟩ := was l' x' a' h'
    rw [le.ν l q, le.ν l' q']; exact H.sep l x l' x' e e' g g' hne
  · intro l x a h k
    obtain ⟨q, e, g⟩ := was l x a h
    rw [le.ν l q]; exact H.apart l x e g k
  · intro l x a h
    obtain ⟨q, e, g⟩ := was l x a h
    show (c.put c.w 0 uv).ν l < c.w.heap.size
    rw [le.ν l q]; exact H.lt l x e g
  · rintro b ⟨l, x, a, h, rfl⟩
    obtain ⟨q, e, g⟩ := was l x a h
    rw [le.ν l q]; exact .inl ⟨l, x, e, g, rfl⟩

end Go.AX
/- AX, part C: freezing a row; data out of values. -/
namespace Go.AX

def Cf.froze (c : Cf) (b : Nat) : Cf := { c with h := fun x o => if x = b then c.w.cell? ⟨x, o, none⟩ else c.h x o }

/-- A block is given up: nobody will write it any more. -/
theorem Nxt.froze {c : Cf} {σ : List AObj} (H : Holds c σ) {l : Nat} {o : AObj} (hl : σ[l]? = some o) (hh : Has c l o) : Nxt c σ (c.froze (c.ν l)) (σ.set l .gone) := by
  have le : c.Le (c.froze (c.ν l)) := by
    refine ⟨fun b k v h => ?_, Nat.le_refl _, fun _ _ => rfl, fun _ _ => rfl⟩
    show (if b = c.ν l then c.w.cell? ⟨b, k, none⟩ else c.h b k) = some v
    split
    · exact H.snap b k v h
    · exact h
  have old : ∀ k x, (σ.set l .gone)[k]? = some x → (k ≠ l ∧ σ[k]? = some x) ∨ x = AObj.gone := fun k x h => by
    rw [List.getElem?_set] at h
    by_cases e : l = k
    · subst e
      rw [if_pos rfl, if_pos (some_lt hl)] at h
      exact .inr (by simpa using h.symm)
    · rw [if_neg e] at h; exact .inl ⟨fun q => e q.symm, h⟩
  have was : ∀ k x, (σ.set l .gone)[k]? = some x → Has (c.froze (c.ν l)) k x → k ≠ l ∧ σ[k]? = some x ∧ Has c k x := fun k x a h => by
    rcases old k x a with ⟨e, q⟩ | rfl
    · exact ⟨e, q, (Has.congr rfl).1 h⟩
    · exact h.elim
  refine ⟨le, ⟨by simp [Cf.froze, H.n], ?_, ?_, ?_, ?_, ?_⟩, rfl, rfl, rfl, Nat.le_refl _, fun _ _ _ => rfl, ?_, ?_⟩
  · intro b k v h
    have h' : (if b = c.ν l then c.w.cell? ⟨b, k, none⟩ else c.h b k) = some v := h
    split at h'
    · exact h'
    · exact H.snap b k v h'
  · intro k x h
    rcases old k x h with ⟨_, e⟩ | rfl
    · exact ObjOk.mono le (by rw [H.n]; exact some_lt e) (fun _ => rfl) (H.obj k x e)
    · trivial
  · intro k x k' x' a a' h h' hne
    obtain ⟨_, e, g⟩ := was k x a h
    obtain ⟨_, e', g'⟩ := was k' x' a' h'
    exact H.sep k x k' x' e e' g g' hne
  · intro k x a h j
    obtain ⟨hkl, e, g⟩ := was k x a h
    have hne : c.ν k ≠ c.ν l := H.sep k x l o e hl g hh hkl
    show (if c.ν k = c.ν l then c.w.cell? ⟨c.ν k, j, none⟩ else c.h (c.ν k) j) = none
    rw [if_neg hne]; exact H.apart k x e g j
  · intro k x a h
    obtain ⟨_, e, g⟩ := was k x a h
    exact H.lt k x e g
  · rintro b ⟨k, x, a, h, rfl⟩
    obtain ⟨_, e, g⟩ := was k x a h
    exact .inl ⟨k, x, e, g, rfl⟩
  · intro b j h
    by_cases e : b = c.ν l
    · subst e; exact .inl ⟨l, o, hl, hh, rfl⟩
    · refine absurd ?_ h
      show (if b = c.ν l then c.w.cell? ⟨b, j, none⟩ else c.h b j) = c.h b j
      rw [if_neg e]

theorem DRs_length {h : Snap} : ∀ {xs : List D} {vs : List Value}, DRs h xs vs → xs.length = vs.length
  | [], [], _ => rfl
  | _ :: _, [], r => by simp [DRs] at r
  | [], _ :: _, r => by simp [DRs] at r
  | x :: xs, v :: vs, r => by simp only [DRs] at r; simp [DRs_length r.2]
theorem DRs_append {h : Snap} : ∀ {xs ys : List D} {vs us : List Value}, DRs h xs vs → DRs h ys us → DRs h (xs ++ ys) (vs ++ us)
  | [], _, [], _, _, k => by simpa using k
  | x :: xs, _, v :: vs, _, r, k => by simp only [DRs] at r; simp only [List.cons_append, DRs]; exact ⟨r.1, DRs_append r.2 k⟩
  | [], _, _ :: _, _, r, _ => by simp [DRs] at r
  | _ :: _, _, [], _, r, _ => by simp [DRs] at r
theorem DRs_drop {h : Snap} : ∀ (n : Nat) {xs : List D} {vs : List Value}, DRs h xs vs → DRs h (xs.drop n) (vs.drop n)
  | 0, _, _, r => by simpa using r
  | n + 1, [], [], _ => by simp [DRs]
  | n + 1, x :: xs, v :: vs, r => by simp only [DRs] at r; simpa using DRs_drop n r.2
  | _ + 1, [], _ :: _, r => by simp [DRs] at r
  | _ + 1, _ :: _, [], r => by simp [DRs] at r
theorem DRs_take {h : Snap} : ∀ (n : Nat) {xs : List D} {vs : List Value}, DRs h xs vs → DRs h (xs.take n) (vs.take n)
  | 0, _, _, _ => by simp [DRs]
  | n + 1, [], [], _ => by simp [DRs]
  | n + 1, x :: xs, v :: vs, r => by simp only [DRs] at r; simp only [List.take_succ_cons, DRs]; exact ⟨r.1, DRs_take n r.2⟩
  | _ + 1, [], _ :: _, r => by simp [DRs] at r
  | _ + 1, _ :: _, [], r => by simp [DRs] at r
/-- cells that a snapshot holds, as they are read -/
theorem DCells_of {h : Snap} {b o : Nat} : ∀ {xs : List D} {vs : List Value} {k : Nat}, DRs h xs vs → (∀ i v, vs[i]? = some v → h b (o + (k + i)) = some v) → DCells h xs (some ⟨b, o, none⟩) k
  | [], _, _, _, _ => by simp [DCells]
  | x :: xs, [], _, r, _ => by simp [DRs] at r
  | x :: xs, v :: vs, k, r, hc => by
    simp only [DRs] at r
    simp only [DCells]
    refine ⟨⟨_, v, rfl, rfl, by simpa using hc 0 v rfl, r.1⟩, DCells_of r.2 fun i u hu => ?_⟩
    have := hc (i + 1) u (by simpa using hu)
    rw [← this]; congr 1; omega
theorem DRows_of {h : Snap} {b o sz : Nat} : ∀ {es : List (List D)} {vs : List Value} {k : Nat}, (∀ e ∈ es, e.length = sz) → DRs h es.flatten vs → (∀ i v, vs[i]? = some v → h b (o + (k + i)) = some v) →
    DRows h es (some ⟨b, o, none⟩) sz k
  | [], _, _, _, _, _ => by simp [DRows]
  | e :: es, vs, k, hsz, r, hc => by
    have he := hsz e (by simp)
    simp only [List.flatten_cons] at r
    have r1 : DRs h e (vs.take sz) := by have := DRs_take sz r; rwa [← he, List.take_left, he] at this
    have r2 : DRs h es.flatten (vs.drop sz) := by have := DRs_drop sz r; rwa [← he, List.drop_left, he] at this
    simp only [DRows]
    refine ⟨he, DCells_of r1 fun i v hv => hc i v ?_, DRows_of (fun x hx => hsz x (by simp [hx])) r2 fun i v hv => ?_⟩
    · rw [List.getElem?_take] at hv; split at hv <;> simp_all
    · have := hc (sz + i) v (by simpa [List.getElem?_drop] using hv)
      rw [← this]; congr 1; omega
theorem DCells_drop {h : Snap} {A : Option Addr} : ∀ (n : Nat) {xs : List D} {k : Nat}, DCells h xs A k → DCells h (xs.drop n) A (k + n)
  | 0, _, _, r => by simpa using r
  | n + 1, [], _, _ => by simp [DCells]
  | n + 1, _ :: xs, k, r => by
    simp only [DCells] at r
    have := DCells_drop n r.2
    simp only [List.drop_succ_cons]
    rw [show k + (n + 1) = k + 1 + n by omega]; exact this
/-- the same cells from another address -/
theorem DCells_shift {h : Snap} {a : Addr} (ha : a.spot = none) (n : Nat) : ∀ {xs : List D} {k : Nat}, DCells h xs (some a) (k + n) → DCells h xs (some (a.add n)) k
  | [], _, _ => by simp [DCells]
  | x :: xs, k, r => by
    simp only [DCells] at r ⊢
    obtain ⟨⟨a', v, e1, e2, e3, e4⟩, r2⟩ := r
    obtain rfl := Option.some.inj e1
    refine ⟨⟨_, v, rfl, ?_, ?_, e4⟩, DCells_shift ha n (by rwa [show k + 1 + n = k + n + 1 by omega])⟩
    · unfold Addr.add; split <;> simp [ha]
    · rw [← e3]; unfold Addr.add; split
      · next q => subst q; simp
      · show h a.block (a.off + n + k) = _; congr 1; omega
theorem DRows_at {h : Snap} {A : Option Addr} {sz : Nat} : ∀ {es : List (List D)} {k : Nat}, DRows h es A sz k → ∀ (i : Nat) {e : List D}, es[i]? = some e → e.length = sz ∧ DCells h e A (k + i * sz)
  | [], _, _, _, _, e => by simp at e
  | x :: xs, k, r, i, e, he => by
    simp only [DRows] at r
    cases i with
    | zero => simp at he; subst he; simpa using ⟨r.1, r.2.1⟩
    | succ i =>
      simp at he
      have := DRows_at r.2.2 i he
      rw [show k + (i + 1) * sz = k + sz + i * sz by rw [Nat.add_mul]; omega]; exact this
theorem DRows_drop {h : Snap} {A : Option Addr} {sz : Nat} : ∀ (n : Nat) {es : List (List D)} {k : Nat}, DRows h es A sz k → DRows h (es.drop n) A sz (k + n * sz)
  | 0, _, _, r => by simpa using r
  | n + 1, [], _, _ => by simp [DRows]
  | n + 1, _ :: xs, k, r => by
    simp only [DRows] at r
    have := DRows_drop n r.2.2
    simp only [List.drop_succ_cons]
    rw [show k + (n + 1) * sz = k + sz + n * sz by rw [Nat.add_mul]; omega]; exact this
theorem DRows_take {h : Snap} {A : Option Addr} {sz : Nat} : ∀ (n : Nat) {es : List (List D)} {k : Nat}, DRows h es A sz k → DRows h (es.take n) A sz k
  | 0, _, _, _ => by simp [DRows]
  | n + 1, [], _, _ => by simp [DRows]
  | n + 1, x :: xs, k, r => by simp only [DRows] at r; simp only [List.take_succ_cons, DRows]; exact ⟨r.1, r.2.1, DRows_take n r.2.2⟩
theorem DRows_shift {h : Snap} {a : Addr} (ha : a.spot = none) (n : Nat) {sz : Nat} : ∀ {es : List (List D)} {k : Nat}, DRows h es (some a) sz (k + n) → DRows h es (some (a.add n)) sz k
  | [], _, _ => by simp [DRows]
  | x :: xs, k, r => by
    simp only [DRows] at r ⊢
    exact ⟨r.1, DCells_shift ha n r.2.1, DRows_shift ha n (by rw [show k + sz + n = k + n + sz by omega]; exact r.2.2)⟩

theorem RowB.data {c : Cf} {l sz : Nat} {es : List (List D)} (h : RowB c l sz es) (hs : ∀ b o v, c.h b o = some v → c.w.cell? ⟨b, o, none⟩ = some v) : DR (c.froze (c.ν l)).h (.sl es) (c.u l) := by
  obtain ⟨cap, vs, ty, h0, h1, h2, h3, h4, h5, h6⟩ := h
  simp only [DR]
  refine ⟨_, cap, sz, h1, h2, fun _ a e => by cases e; rfl, fun e => by simp at e, ?_⟩
  have hm : ∀ b o v, c.h b o = some v → (c.froze (c.ν l)).h b o = some v := fun b o v e => by
    show (if b = c.ν l then c.w.cell? ⟨b, o, none⟩ else c.h b o) = some v
    split
    · exact hs b o v e
    · exact e
  refine DRows_of h5 (DRs.mono hm h6) fun i v hv => ?_
  show (if c.ν l = c.ν l then c.w.cell? ⟨c.ν l, 0 + (0 + i), none⟩ else _) = some v
  rw [if_pos rfl]
  rw [List.getElem?_take] at hv
  split at hv
  · simp [World.cell?, h3]
    simpa using hv
  · simp at hv

/-! ### data out of values -/
def asD (σ : List AObj) : AV → Option (D × List AObj)
  | .d x => some (x, σ)
  | .nil => some (.sl [], σ)
  | .own l => match σ[l]? with
    | some (.row _ es) => some (.sl es, σ.set l .gone)
    | _ => none
  | _ => none
theorem asD_sound {c : Cf} {σ σ' : List AObj} {x : AV} {y : D} {v : Value} (H : Holds c σ) (hx : AR c x v) (h : asD σ x = some (y, σ')) :
    ∃ c', c'.w = c.w ∧ Nxt c σ c' σ' ∧ DR c'.h y v := by
  cases x <;> simp only [asD] at h <;> try (simp at h; done)
  case d x => simp only [Option.some.injEq, Prod.mk.injEq] at h; obtain ⟨rfl, rfl⟩ := h; exact ⟨c, rfl, .refl H, by simpa [AR] using hx⟩
  case nil =>
    simp only [Option.some.injEq, Prod.mk.injEq] at h; obtain ⟨rfl, rfl⟩ := h
    refine ⟨c, rfl, .refl H, ?_⟩
    simp only [AR] at hx
    obtain ⟨A, rfl⟩ := hx
    simp only [DR]
    exact ⟨A, 0, 0, rfl, Nat.le_refl _, fun h => absurd rfl h, by simp, by simp [DRows]⟩
  case own l =>
    split at h
    · next sz es q =>
      simp only [Option.some.injEq, Prod.mk.injEq] at h; obtain ⟨rfl, rfl⟩ := h
      simp only [AR] at hx
      obtain ⟨_, rfl, _⟩ := hx
      rcases H.obj l _ q with ⟨rfl, A, e⟩ | hb
      · refine ⟨c, rfl, Nxt.drop H l, ?_⟩
        rw [e]; simp only [DR]
        exact ⟨A, 0, 0, rfl, Nat.le_refl _, fun h => absurd rfl h, by simp, by simp [DRows]⟩
      · have hb' := hb
        obtain ⟨cap, vs, ty, h0, h1, _⟩ := hb'
        exact ⟨c.froze (c.ν l), rfl, Nxt.froze H q ⟨_, _, _, h1, h0⟩, hb.data H.snap⟩
    · simp at h
end Go.AX
/- AX, part D: what an operation gives. -/
set_option linter.unusedVariables false
namespace Go.AX

inductive R1 where
  | to (v : AV) (σ : List AObj)
  | need (p : Prop) (r : R1)
  | all (es : List (List D)) (i : Nat) (k : List D → R1)
  | ite (t : Bool) (a b : R1)
  | call (f : FuncId) (args : List AV)
  | ex (p : Bool → Prop) (k : Bool → R1)
  | yld (b : Nat) (args : List AV)
  | bad

def R1.Ok (P : Program) (o : Oper) (a : Act) (c : Cf) (σ : List AObj) : R1 → Prop
  | .to v σ' => ∃ nx x c', (execOp a.eval o).run P c.w = .ok nx c'.w ∧ (nx = .value x ∨ (nx = .skip ∧ x = undef)) ∧ AR c' v x ∧ Nxt c σ c' σ'
  | .need p r => p → r.Ok P o a c σ
  | .all es i k => ∃ e, es[i]? = some e ∧ (k e).Ok P o a c σ
  | .ite t x y => (t = true → x.Ok P o a c σ) ∧ (t = false → y.Ok P o a c σ)
  | .call f args => ∃ vs, (execOp a.eval o).run P c.w = (callFunc f vs).run P c.w ∧ ARs c args vs.toList
  | .ex p k => ∃ b, p b ∧ (k b).Ok P o a c σ
  | .yld b args => ∃ vs, (execOp a.eval o).run P c.w = (Instr.yield b vs).run P c.w ∧ ARs c args vs.toList
  | .bad => True

/-! ### operands -/
def cv1 : Value → AV
  | .int k n => .d (.int k n)
  | .bool b => .d (.bool b)
  | .string s => .d (.str s)
  | .slice none 0 0 => .nil
  | v => .raw v
def cv : Value → AV
  | .agg cs => .agg (cs.toList.map cv1)
  | v => cv1 v
theorem AR_cv1 (c : Cf) (v : Value) : AR c (cv1 v) v := by
  unfold cv1
  split <;> simp [AR, DR]
theorem ARs_map_cv1 (c : Cf) : ∀ vs : List Value, ARs c (vs.map cv1) vs
  | [] => by simp [ARs]
  | v :: vs => ARs_cons.2 ⟨AR_cv1 c v, ARs_map_cv1 c vs⟩
theorem AR_cv (c : Cf) (v : Value) : AR c (cv v) v := by
  unfold cv
  split
  · simp only [AR]; exact ⟨_, rfl, ARs_map_cv1 c _⟩
  · exact AR_cv1 c _

def evO (env : List AV) : Operand → AV
  | .tmp t => lk env t
  | .const v => cv v
  | .func f => .fn f []
  | .global g => .raw (.pointer (some ⟨g, 0, none⟩))
theorem evO_sound {c : Cf} {env : List AV} {a : Act} (h : ARs c env a.tmps.toList) (x : Operand) : AR c (evO env x) (a.eval x) := by
  cases x with
  | tmp t =>
    have := ARs_lk h t undef
    simpa [evO, Act.eval, Array.getD_eq_getD_getElem?] using this
  | const v => exact AR_cv c v
  | global g => simp [evO, Act.eval, AR]
  | func f => simp [evO, Act.eval, AR, ARs]

theorem R1.Ok_to {P : Program} {o : Oper} {a : Act} {c : Cf} {σ : List AObj} (H : Holds c σ) {v : AV} {x : Value} (hr : (execOp a.eval o).run P c.w = .ok (.value x) c.w) (hx : AR c v x) :
    (R1.to v σ).Ok P o a c σ := ⟨_, x, c, hr, .inl rfl, hx, .refl H⟩

/-! ### types -/
def isAggD : TypeDesc → Bool
  | .struct _ => true
  | .array _ _ => true
  | _ => false
def tk (P : Program) (t : TypeId) : Option (Bool × Nat) :=
  match P.underlying t, P.info? t with
  | some d, some i => some (isAggD d, i.size)
  | _, _ => none
section
variable {P : Program} {w : World} {t : TypeId} {b : Bool} {n : Nat}
theorem run_underlying' {d : TypeDesc} (h : P.underlying t = some d) : (underlying t).run P w = .ok d w := by
  simp [underlying, h]
theorem tk_spec (h : tk P t = some (b, n)) : ∃ d i, P.underlying t = some d ∧ P.info? t = some i ∧ isAggD d = b ∧ i.size = n := by
  unfold tk at h
  split at h
  · next d i h1 h2 => simp at h; exact ⟨d, i, h1, h2, h.1, h.2⟩
  · simp at h
theorem run_isAgg (h : tk P t = some (b, n)) : (isAgg t).run P w = .ok b w := by
  obtain ⟨d, i, h1, _, h3, _⟩ := tk_spec h
  subst h3
  simp only [isAgg, Sem.run_bind, run_underlying' h1, Result.andThen_ok]
  cases d <;> rfl
theorem run_sizeOf' (h : tk P t = some (b, n)) : (sizeOf t).run P w = .ok n w := by
  obtain ⟨d, i, _, h2, _, h4⟩ := tk_spec h
  subst h4
  simp [sizeOf, typeInfo, h2]
end

/-! ### cells of a value -/
def cellsOf : AV → Option (List AV)
  | .agg cs => some cs
  | .any => none
  | .tup _ => none
  | .raw v => match v with
    | .agg _ => none
    | .tuple _ => none
    | v => some [.raw v]
  | x => some [x]
/-- surely a value of one cell -/
def oneC : AV → Bool
  | .d _ | .own _ | .ptr .. | .rptr .. | .eptr _ | .mp _ | .fn .. | .nil | .osl .. => true
  | .raw v => match v with
    | .agg _ => false
    | .tuple _ => false
    | _ => true
  | _ => false
theorem DR_cells {h : Snap} {x : D} {v : Value} (e : DR h x v) : v.cells = #[v] ∧ v.oneCell' = true := by
  cases x <;> simp only [DR] at e
  case sl es => obtain ⟨A, c, sz, rfl, _⟩ := e; exact ⟨rfl, rfl⟩
  all_goals (subst e; exact ⟨rfl, rfl⟩)
theorem oneC_sound {c : Cf} {x : AV} {v : Value} (h : oneC x = true) (e : AR c x v) : v.cells = #[v] ∧ v.oneCell' = true := by
  cases x <;> simp only [oneC] at h <;> simp only [AR] at e <;> try (simp at h; done)
  case d x => exact DR_cells e
  case own l => obtain ⟨_, _, a, k, p, rfl⟩ := e; exact ⟨rfl, rfl⟩
  case osl l s lo n => obtain ⟨_, A, cap, rfl, _⟩ := e; exact ⟨rfl, rfl⟩
  case ptr l o => obtain ⟨_, rfl⟩ := e; exact ⟨rfl, rfl⟩
  case rptr l s i j => obtain ⟨_, rfl⟩ := e; exact ⟨rfl, rfl⟩
  case eptr cs => obtain ⟨a, rfl, _⟩ := e; exact ⟨rfl, rfl⟩
  case mp l => obtain ⟨_, rfl⟩ := e; exact ⟨rfl, rfl⟩
  case fn f caps => obtain ⟨vs, rfl, _⟩ := e; exact ⟨rfl, rfl⟩
  case nil => obtain ⟨A, rfl, _⟩ := e; exact ⟨rfl, rfl⟩
  case raw v' => subst e; cases v <;> first | (simp at h; done) | exact ⟨rfl, rfl⟩
theorem cellsOf_sound {c : Cf} {x : AV} {v : Value} {cs : List AV} (h : cellsOf x = some cs) (e : AR c x v) : ARs c cs v.cells.toList := by
  by_cases h1 : oneC x = true
  · have hc := (oneC_sound h1 e).1
    rw [hc]
    have : cs = [x] := by
      cases x <;> simp only [cellsOf, oneC] at h h1 <;> try (simp at h1; done)
      case raw v' => cases v' <;> simp_all
      all_goals (simpa using h.symm)
    subst this
    simpa [ARs] using e
  · cases x <;> simp only [cellsOf, oneC] at h h1 <;> try (simp at h; done)
    case agg cs' =>
      simp at h; subst h
      simp only [AR] at e
      obtain ⟨vs, rfl, e2⟩ := e
      exact e2
    case raw v' => cases v' <;> simp_all
    all_goals (simp at h1)

/-! ### objects -/
def ob : List AObj → Nat → AObj
  | [], _ => .gone
  | o :: _, 0 => o
  | _ :: os, n + 1 => ob os n
def so : List AObj → Nat → AObj → List AObj
  | [], _, _ => []
  | _ :: os, 0, x => x :: os
  | o :: os, n + 1, x => o :: so os n x
theorem ob_eq : ∀ (σ : List AObj) (l : Nat), ob σ l = (σ[l]?).getD .gone
  | [], _ => by simp [ob]
  | o :: os, 0 => by simp [ob]
  | o :: os, n + 1 => by simp [ob, ob_eq os n]
theorem so_eq : ∀ (σ : List AObj) (l : Nat) (x : AObj), so σ l x = σ.set l x
  | [], _, _ => by simp [so]
  | o :: os, 0, _ => by simp [so]
  | o :: os, n + 1, x => by simp [so, so_eq os n x]
theorem ob_some {σ : List AObj} {l : Nat} {o : AObj} (h : ob σ l = o) (hg : o ≠ .gone) : σ[l]? = some o := by
  rw [ob_eq] at h
  cases e : σ[l]? with
  | none => simp [e] at h; exact absurd h.symm hg
  | some x => simp [e] at h; rw [h]

/-- some cells, written over from a place on -/
def spl {α : Type} : List α → Nat → List α → List α
  | cs, 0, [] => cs
  | _ :: cs, 0, v :: vs => v :: spl cs 0 vs
  | c :: cs, n + 1, vs => c :: spl cs n vs
  | [], _, _ => []
theorem spl_eq {α : Type} : ∀ (cs : List α) (n : Nat) (vs : List α), n + vs.length ≤ cs.length → spl cs n vs = cs.take n ++ vs ++ cs.drop (n + vs.length)
  | cs, 0, [], _ => by cases cs <;> simp [spl]
  | _ :: cs, 0, v :: vs, h => by
    have := spl_eq cs 0 vs (by simp at h ⊢; omega)
    simp [spl, this]
  | c :: cs, n + 1, vs, h => by
    have := spl_eq cs n vs (by simp at h ⊢; omega)
    simp [spl, this, show n + 1 + vs.length = n + vs.length + 1 by omega]
  | [], 0, v :: vs, h => by simp at h
  | [], n + 1, vs, h => by simp at h

theorem ARs_take {c : Cf} (n : Nat) : ∀ {xs : List AV} {vs : List Value}, ARs c xs vs → ARs c (xs.take n) (vs.take n) := by
  induction n with
  | zero => intro xs vs _; simp [ARs]
  | succ n ih =>
    intro xs vs h
    cases xs with
    | nil => rw [ARs_nil_left h]; simp [ARs]
    | cons x xs => obtain ⟨v, r, rfl, h1, h2⟩ := ARs_cons_left h; simpa [ARs_cons] using ⟨h1, ih h2⟩
theorem ARs_drop {c : Cf} (n : Nat) : ∀ {xs : List AV} {vs : List Value}, ARs c xs vs → ARs c (xs.drop n) (vs.drop n) := by
  induction n with
  | zero => intro xs vs h; simpa using h
  | succ n ih =>
    intro xs vs h
    cases xs with
    | nil => rw [ARs_nil_left h]; simp [ARs]
    | cons x xs => obtain ⟨v, r, rfl, h1, h2⟩ := ARs_cons_left h; simpa using ih h2
theorem ARs_dcells {c : Cf} : ∀ {xs : List D} {vs : List Value}, DRs c.h xs vs → ARs c (xs.map .d) vs
  | [], [], _ => by simp [ARs]
  | x :: xs, v :: vs, h => by simp only [DRs] at h; simp only [List.map_cons]; exact ARs_cons.2 ⟨by simpa [AR] using h.1, ARs_dcells h.2⟩
  | [], _ :: _, r => by simp [DRs] at r
  | _ :: _, [], r => by simp [DRs] at r

/-! ### load -/
theorem addr_add (b o n : Nat) : (⟨b, o, none⟩ : Addr).add n = ⟨b, o + n, none⟩ := by
  unfold Addr.add; split
  · next h => subst h; simp
  · rfl
theorem addr_add' {a : Addr} (h : a.spot = none) (n : Nat) : a.add n = ⟨a.block, a.off + n, none⟩ := by
  cases a with
  | mk b o s => simp at h; subst h; exact addr_add b o n
theorem run_loadVar_one {P : Program} {t : TypeId} {n : Nat} (h : tk P t = some (false, n)) {w : World} {a : Addr} {v : Value} (hv : w.cell? a = some v) : (loadVar t a).run P w = .ok v w := by
  simp [loadVar, run_isAgg h, hv, run_load]
theorem run_loadVar_agg {P : Program} {t : TypeId} {n : Nat} (h : tk P t = some (true, n)) {w : World} {a : Addr} {vs : List Value} (hn : vs.length = n) (hv : ∀ j v, vs[j]? = some v → w.cell? (a.add j) = some v) :
    (loadVar t a).run P w = .ok (.agg vs.toArray) w := by
  have := run_loadCells_list (P := P) w a vs hv
  rw [hn] at this
  simp [loadVar, run_isAgg h, run_sizeOf' h, this]

def ldD (cs : List D) : Bool × Nat → Option AV
  | (true, n) => if n ≤ cs.length then some (.agg ((cs.take n).map .d)) else none
  | (false, _) => match cs with
    | x :: _ => some (.d x)
    | [] => none
def ldA (cs : List AV) : Bool × Nat → Option AV
  | (true, n) => if n ≤ cs.length then some (.agg (cs.take n)) else none
  | (false, _) => match cs with
    | x :: _ => some x
    | [] => none
def toO (σ : List AObj) : Option AV → R1
  | some v => .to v σ
  | none => .bad
def drA : List AV → Nat → List AV
  | cs, 0 => cs
  | [], _ => []
  | _ :: cs, n + 1 => drA cs n
theorem drA_eq : ∀ (cs : List AV) (n : Nat), drA cs n = cs.drop n
  | cs, 0 => by cases cs <;> simp [drA]
  | [], n + 1 => by simp [drA]
  | _ :: cs, n + 1 => by simp [drA, drA_eq cs n]
def drD : List D → Nat → List D
  | cs, 0 => cs
  | [], _ => []
  | _ :: cs, n + 1 => drD cs n
theorem drD_eq : ∀ (cs : List D) (n : Nat), drD cs n = cs.drop n
  | cs, 0 => by cases cs <;> simp [drD]
  | [], n + 1 => by simp [drD]
  | _ :: cs, n + 1 => by simp [drD, drD_eq cs n]
def evLoadO (σ : List AObj) (k : Option (Bool × Nat)) (off : Nat) : AObj → R1
  | .cells cs => match k with
    | some k => toO σ (ldA (drA cs off) k)
    | none => .bad
  | _ => .bad
def evLoadR (σ : List AObj) (k : Option (Bool × Nat)) (i j : Nat) : AObj → R1
  | .row _ es => match k with
    | some k => .need (i < es.length) (.all es i fun e => toO σ (ldD (drD e j) k))
    | none => .bad
  | _ => .bad
def evLoadV (σ : List AObj) (k : Option (Bool × Nat)) (sz i j : Nat) : AObj → R1
  | .vec sz' es => match k with
    | some k => .need (sz' = sz ∧ i < es.length) (toO σ (ldA (drA (es.getD i []) j) k))
    | none => .bad
  | _ => .bad
def isVO : AObj → Bool
  | .vec _ _ => true
  | _ => false
def evLoad (P : Program) (σ : List AObj) (t : TypeId) : AV → R1
  | .ptr l off => evLoadO σ (tk P t) off (ob σ l)
  | .rptr l sz i j => match isVO (ob σ l) with
    | true => evLoadV σ (tk P t) sz i j (ob σ l)
    | false => .need (∃ es, ob σ l = .row sz es) (evLoadR σ (tk P t) i j (ob σ l))
  | .eptr cs => match tk P t with
    | some k => toO σ (ldD cs k)
    | none => .bad
  | _ => .bad

theorem DCells_vals {h : Snap} {A : Option Addr} : ∀ {xs : List D} {k : Nat}, DCells h xs A k → ∃ vs, DRs h xs vs ∧ ∀ j v, vs[j]? = some v → ∃ a, A = some a ∧ a.spot = none ∧ h a.block (a.off + (k + j)) = some v
  | [], _, _ => ⟨[], by simp [DRs], by simp⟩
  | x :: xs, k, r => by
    simp only [DCells] at r
    obtain ⟨⟨a, v, e1, e2, e3, e4⟩, r2⟩ := r
    obtain ⟨vs, h1, h2⟩ := DCells_vals r2
    refine ⟨v :: vs, by simpa [DRs] using ⟨e4, h1⟩, fun j u hu => ?_⟩
    cases j with
    | zero => simp at hu; subst hu; exact ⟨a, e1, e2, by simpa using e3⟩
    | succ j =>
      obtain ⟨a', q1, q2, q3⟩ := h2 j u (by simpa using hu)
      exact ⟨a', q1, q2, by rw [← q3]; congr 1; omega⟩

theorem flatten_len {α : Type} {sz : Nat} : ∀ {es : List (List α)}, (∀ e ∈ es, e.length = sz) → es.flatten.length = es.length * sz
  | [], _ => by simp
  | e :: es, h => by
    have := flatten_len (es := es) fun x hx => h x (by simp [hx])
    simp [this, h e (by simp), Nat.add_mul, Nat.add_comm]
/-- the cells of an element -/
theorem vec_seg {c : Cf} {es : List (List AV)} {i sz : Nat} {vs : List Value} (hi : i < es.length) (h5 : ∀ e ∈ es, e.length = sz) (h6 : ARs c es.flatten (vs.take (es.length * sz))) : ARs c es[i] ((vs.drop (i * sz)).take sz) := by
  have hlen : es[i].length = sz := h5 _ (List.getElem_mem hi)
  have hsplit : es.flatten = (es.take i).flatten ++ (es[i] ++ (es.drop (i + 1)).flatten) := by
    have e1 : es = es.take i ++ es[i] :: es.drop (i + 1) := by simp
    exact (congrArg List.flatten e1).trans (by rw [List.flatten_append, List.flatten_cons])
  have hpre : (es.take i).flatten.length = i * sz := by
    rw [flatten_len fun e he => h5 e (List.mem_of_mem_take he), List.length_take, Nat.min_eq_left (Nat.le_of_lt hi)]
  rw [hsplit] at h6
  have h7 := ARs_drop (i * sz) h6
  rw [← hpre, List.drop_left, hpre] at h7
  have h8 := ARs_take sz h7
  rw [← hlen, List.take_left, hlen] at h8
  have hmul : i * sz + sz ≤ es.length * sz := by rw [← Nat.succ_mul]; exact Nat.mul_le_mul_right _ hi
  have : ((vs.take (es.length * sz)).drop (i * sz)).take sz = (vs.drop (i * sz)).take sz := by
    rw [List.drop_take, List.take_take, Nat.min_eq_left (by omega)]
  rwa [this] at h8
section
variable {P : Program} {o : Oper} {a : Act} {c : Cf} {σ : List AObj} {env : List AV}

theorem run_loadAt {t : TypeId} {ad : Addr} {v : Value} {w : World} (h : (loadVar t ad).run P w = .ok v w) : (Instr.loadAt t (.pointer (some ad))).run P w = .ok v w := by
  simp [Instr.loadAt, Instr.sureAddr, h]

theorem load_cells (H : Holds c σ) {t : TypeId} {ad : Addr} {k : Bool × Nat} {v : AV} {cs : List AV} {vs : List Value} (hk : tk P t = some k) (hl : ldA cs k = some v) (hr : ARs c cs vs)
    (hv : ∀ j u, vs[j]? = some u → c.w.cell? (ad.add j) = some u) : ∃ x, (loadVar t ad).run P c.w = .ok x c.w ∧ AR c v x := by
  obtain ⟨b, n⟩ := k
  cases b with
  | true =>
    simp only [ldA] at hl
    split at hl
    · next hle =>
      simp at hl; subst hl
      have h1 := ARs_take n hr
      have hlen := ARs_length h1
      simp only [List.length_take] at hlen
      refine ⟨_, run_loadVar_agg hk (vs := vs.take n) (by rw [List.length_take]; omega) fun j u hu => hv j u ?_, by simp only [AR]; exact ⟨_, rfl, by simpa using h1⟩⟩
      rw [List.getElem?_take] at hu
      split at hu
      · exact hu
      · simp at hu
    · simp at hl
  | false =>
    cases cs with
    | nil => simp [ldA] at hl
    | cons x xs =>
      simp [ldA] at hl; subst hl
      obtain ⟨u, r, rfl, h1, _⟩ := ARs_cons_left hr
      exact ⟨u, run_loadVar_one hk (by have := hv 0 u rfl; rwa [show ad.add 0 = ad from rfl] at this), h1⟩

theorem ldD_ldA {cs : List D} {k : Bool × Nat} {v : AV} (h : ldD cs k = some v) : ldA (cs.map .d) k = some v := by
  obtain ⟨b, n⟩ := k
  cases b with
  | true => simp only [ldD] at h; simp only [ldA, List.length_map]; split at h <;> simp_all [List.map_take]
  | false => cases cs <;> simp_all [ldD, ldA]

theorem toO_ok {r : Option AV} (h : ∀ v, r = some v → (R1.to v σ).Ok P o a c σ) : (toO σ r).Ok P o a c σ := by
  cases r with
  | none => trivial
  | some v => exact h v rfl

theorem exec_load {t : TypeId} {x : Operand} {ad : Addr} {v : Value} (ho : o.op = .load t x) (hx : a.eval x = .pointer (some ad)) (h : (loadVar t ad).run P c.w = .ok v c.w) :
    (execOp a.eval o).run P c.w = .ok (.value v) c.w := by
  simp [execOp, ho, hx, run_loadAt h]

theorem evLoad_ok (H : Holds c σ) (he : ARs c env a.tmps.toList) {t : TypeId} {x : Operand} (ho : o.op = .load t x) : (evLoad P σ t (evO env x)).Ok P o a c σ := by
  have hx := evO_sound he x
  generalize evO env x = y at hx
  cases y <;> simp only [evLoad] <;> try trivial
  case ptr l off =>
    simp only [AR] at hx
    obtain ⟨_, hx⟩ := hx
    generalize hO : ob σ l = O
    cases O <;> simp only [evLoadO] <;> try trivial
    case cells cs =>
      generalize hk : tk P t = k
      cases k with
      | none => trivial
      | some k =>
        refine toO_ok fun v hv => ?_
        obtain ⟨vs, ty, e1, e2⟩ := H.obj l _ (ob_some hO (by simp))
        rw [drA_eq] at hv
        obtain ⟨u, h1, h2⟩ := load_cells (P := P) H (ad := ⟨c.ν l, off, none⟩) hk hv (ARs_drop off e2) (fun j u hu => by
          rw [addr_add]; simp only [World.cell?, e1]; simpa [List.getElem?_drop] using hu)
        exact R1.Ok_to H (exec_load ho hx h1) h2
  case rptr l sz i j =>
    simp only [AR] at hx
    obtain ⟨_, hx⟩ := hx
    cases hV : isVO (ob σ l) with
    | true =>
      simp only []
      generalize hO : ob σ l = O at hV
      cases O <;> simp only [isVO, Bool.false_eq_true] at hV
      case vec sz' es =>
      simp only [evLoadV]
      generalize hk : tk P t = k
      cases k with
      | none => trivial
      | some k =>
        rintro ⟨rfl, hi⟩
        refine toO_ok fun v hv => ?_
        rcases H.obj l _ (ob_some hO (by simp)) with ⟨rfl, _⟩ | ⟨cap, vs, ty, h0, h1, h2, h3, h4, h5, h6⟩
        · simp at hi
        · have hd := vec_seg hi h5 h6
          rw [drA_eq, List.getD_eq_getElem?_getD, List.getElem?_eq_getElem hi, Option.getD_some] at hv
          obtain ⟨u, g1, g2⟩ := load_cells (P := P) H (ad := ⟨c.ν l, i * sz' + j, none⟩) hk hv (ARs_drop j hd) (fun q u hu => by
            rw [addr_add]; simp only [World.cell?, h3]
            rw [List.getElem?_drop, List.getElem?_take] at hu
            split at hu
            · rw [List.getElem?_drop] at hu; simpa [Nat.add_assoc] using hu
            · simp at hu)
          exact R1.Ok_to H (exec_load ho hx g1) g2
    | false =>
    simp only []
    rintro ⟨es, hO⟩
    rw [hO]
    simp only [evLoadR]
    generalize hk : tk P t = k
    cases k with
    | none => trivial
    | some k =>
      intro hi
      refine ⟨es[i], by simp [hi], ?_⟩
      refine toO_ok fun v hv => ?_
      rcases H.obj l _ (ob_some hO (by simp)) with ⟨rfl, _⟩ | ⟨cap, vs, ty, h0, h1, h2, h3, h4, h5, h6⟩
      · simp at hi
      · have hes : es[i]? = some es[i] := by simp [hi]
        have hlen : es[i].length = sz := h5 _ (List.getElem_mem hi)
        have hd : DRs c.h es[i] ((vs.toList.drop (i * sz)).take sz) := by
          have hsplit : es.flatten = (es.take i).flatten ++ (es[i] ++ (es.drop (i + 1)).flatten) := by
            have e1 : es = es.take i ++ es[i] :: es.drop (i + 1) := by simp
            exact (congrArg List.flatten e1).trans (by rw [List.flatten_append, List.flatten_cons])
          have hpre : (es.take i).flatten.length = i * sz := by
            rw [flatten_len fun e he => h5 e (List.mem_of_mem_take he), List.length_take, Nat.min_eq_left (Nat.le_of_lt hi)]
          rw [hsplit] at h6
          have h7 := DRs_drop (i * sz) h6
          rw [← hpre, List.drop_left, hpre] at h7
          have h8 := DRs_take sz h7
          rw [← hlen, List.take_left, hlen] at h8
          have hmul : i * sz + sz ≤ es.length * sz := by rw [← Nat.succ_mul]; exact Nat.mul_le_mul_right _ hi
          have : ((vs.toList.take (es.length * sz)).drop (i * sz)).take sz = (vs.toList.drop (i * sz)).take sz := by
            rw [List.drop_take, List.take_take, Nat.min_eq_left (by omega)]
          rwa [this] at h8
        rw [drD_eq] at hv
        obtain ⟨u, g1, g2⟩ := load_cells (P := P) H (ad := ⟨c.ν l, i * sz + j, none⟩) hk (ldD_ldA hv) (ARs_dcells (DRs_drop j hd)) (fun q u hu => by
          rw [addr_add]; simp only [World.cell?, h3]
          rw [List.getElem?_drop, List.getElem?_take] at hu
          split at hu
          · rw [List.getElem?_drop] at hu; simpa [Nat.add_assoc] using hu
          · simp at hu)
        exact R1.Ok_to H (exec_load ho hx g1) g2
  case eptr cs =>
    simp only [AR] at hx
    obtain ⟨ad, hx, _, hc⟩ := hx
    generalize hk : tk P t = k
    cases k with
    | none => trivial
    | some k =>
      refine toO_ok fun v hv => ?_
      obtain ⟨vs, h1, h2⟩ := DCells_vals hc
      obtain ⟨u, g1, g2⟩ := load_cells (P := P) H (ad := ad) hk (ldD_ldA hv) (ARs_dcells h1) (fun q u hu => by
        obtain ⟨a', e1, e2, e3⟩ := h2 q u hu
        obtain rfl := Option.some.inj e1
        have := H.snap _ _ _ e3
        rw [addr_add' e2]; simpa using this)
      exact R1.Ok_to H (exec_load ho hx g1) g2
end
end Go.AX
/- AX, part E: stores, new variables, values that are built, fields, elements. -/
set_option linter.unusedVariables false
namespace Go.AX

section
variable {P : Program} {o : Oper} {a : Act} {c : Cf} {σ : List AObj} {env : List AV}

def asDs (σ : List AObj) : List AV → Option (List D × List AObj)
  | [] => some ([], σ)
  | x :: xs => match asD σ x with
    | some (y, σ1) => match asDs σ1 xs with
      | some (ys, σ2) => some (y :: ys, σ2)
      | none => none
    | none => none
theorem asDs_sound : ∀ {xs : List AV} {c : Cf} {σ σ' : List AObj} {ys : List D} {vs : List Value} (_ : Holds c σ) (_ : ARs c xs vs) (_ : asDs σ xs = some (ys, σ')),
    ∃ c', c'.w = c.w ∧ Nxt c σ c' σ' ∧ DRs c'.h ys vs
  | [], c, σ, σ', ys, vs, H, hx, h => by
    simp [asDs] at h; obtain ⟨rfl, rfl⟩ := h
    rw [ARs_nil_left hx]; exact ⟨c, rfl, .refl H, by simp [DRs]⟩
  | x :: xs, c, σ, σ', ys, vs, H, hx, h => by
    obtain ⟨v, r, rfl, h1, h2⟩ := ARs_cons_left hx
    simp only [asDs] at h
    split at h
    · next y σ1 e1 =>
      split at h
      · next ys' σ2 e2 =>
        simp at h; obtain ⟨rfl, rfl⟩ := h
        obtain ⟨c1, w1, n1, d1⟩ := asD_sound H h1 e1
        obtain ⟨c2, w2, n2, d2⟩ := asDs_sound n1.hold (ARs.mono n1.le _ h2) e2
        exact ⟨c2, w2.trans w1, n1.trans n2, by simp only [DRs]; exact ⟨DR.mono n2.le.h _ d1, d2⟩⟩
      · simp at h
    · simp at h

theorem DRs_one {h : Snap} : ∀ {xs : List D} {vs : List Value}, DRs h xs vs → ∀ v ∈ vs, v.oneCell' = true
  | [], [], _, v, hv => by simp at hv
  | x :: xs, u :: vs, r, v, hv => by
    simp only [DRs] at r
    rcases List.mem_cons.1 hv with rfl | q
    · exact (DR_cells r.1).2
    · exact DRs_one r.2 v q
  | [], _ :: _, r, _, _ => by simp [DRs] at r
  | _ :: _, [], r, _, _ => by simp [DRs] at r
theorem ARs_one {c : Cf} : ∀ {xs : List AV} {vs : List Value}, ARs c xs vs → xs.all oneC = true → ∀ v ∈ vs, v.oneCell' = true
  | [], vs, h, _, v, hv => by rw [ARs_nil_left h] at hv; simp at hv
  | x :: xs, vs, h, ha, v, hv => by
    obtain ⟨u, r, rfl, h1, h2⟩ := ARs_cons_left h
    simp at ha
    rcases List.mem_cons.1 hv with rfl | q
    · exact (oneC_sound ha.1 h1).2
    · exact ARs_one h2 (by simpa using ha.2) v q
theorem ARs_spl {c : Cf} : ∀ {cs : List AV} {us : List Value} (n : Nat) {xs : List AV} {vs : List Value}, ARs c cs us → ARs c xs vs → n + vs.length ≤ us.length → ARs c (spl cs n xs) (spl us n vs)
  | cs, us, 0, [], vs, h, k, _ => by rw [ARs_nil_left k]; cases cs <;> cases us <;> simp_all [spl, ARs]
  | cs, us, 0, x :: xs, vs, h, k, hl => by
    obtain ⟨v, r, rfl, k1, k2⟩ := ARs_cons_left k
    cases us with
    | nil => simp at hl
    | cons u us =>
      cases cs with
      | nil => simp [ARs] at h
      | cons y ys => simp only [ARs_cons] at h; simp only [spl, ARs_cons]; exact ⟨k1, ARs_spl 0 h.2 k2 (by simp at hl ⊢; omega)⟩
  | cs, us, n + 1, xs, vs, h, k, hl => by
    cases us with
    | nil => simp at hl
    | cons u us =>
      cases cs with
      | nil => simp [ARs] at h
      | cons y ys =>
        simp only [ARs_cons] at h
        cases vs <;> simp only [spl, ARs_cons] <;> exact ⟨h.1, ARs_spl n h.2 k (by simp at hl ⊢; omega)⟩
theorem DRs_spl {h : Snap} : ∀ {cs : List D} {us : List Value} (n : Nat) {xs : List D} {vs : List Value}, DRs h cs us → DRs h xs vs → n + vs.length ≤ us.length → DRs h (spl cs n xs) (spl us n vs)
  | cs, us, 0, [], [], r, k, _ => by cases cs <;> cases us <;> simp_all [spl, DRs]
  | _, _, _, [], _ :: _, _, k, _ => by simp [DRs] at k
  | _, _, _, _ :: _, [], _, k, _ => by simp [DRs] at k
  | cs, us, 0, x :: xs, v :: vs, r, k, hl => by
    simp only [DRs] at k
    cases us with
    | nil => simp at hl
    | cons u us =>
      cases cs with
      | nil => simp [DRs] at r
      | cons y ys => simp only [DRs] at r; simp only [spl, DRs]; exact ⟨k.1, DRs_spl 0 r.2 k.2 (by simp at hl ⊢; omega)⟩
  | cs, us, n + 1, [], [], r, k, hl => by
    cases us with
    | nil => simp at hl
    | cons u us =>
      cases cs with
      | nil => simp [DRs] at r
      | cons y ys => simp only [DRs] at r; simp only [spl, DRs]; exact ⟨r.1, DRs_spl n r.2 k (by simp at hl ⊢; omega)⟩
  | cs, us, n + 1, x :: xs, v :: vs, r, k, hl => by
    cases us with
    | nil => simp at hl
    | cons u us =>
      cases cs with
      | nil => simp [DRs] at r
      | cons y ys => simp only [DRs] at r; simp only [spl, DRs]; exact ⟨r.1, DRs_spl n r.2 k (by simp at hl ⊢; omega)⟩
theorem spl_length {α : Type} : ∀ (cs : List α) (n : Nat) (vs : List α), n + vs.length ≤ cs.length → (spl cs n vs).length = cs.length
  | cs, 0, [], _ => by cases cs <;> simp [spl]
  | _ :: cs, 0, v :: vs, h => by simp [spl, spl_length cs 0 vs (by simp at h ⊢; omega)]
  | c :: cs, n + 1, vs, h => by simp [spl, spl_length cs n vs (by simp at h ⊢; omega)]
  | [], 0, v :: vs, h => by simp at h
  | [], n + 1, vs, h => by simp at h

theorem spl_get {α : Type} : ∀ (cs : List α) (n : Nat) (vs : List α) (q : Nat), n + vs.length ≤ cs.length → (spl cs n vs)[q]? = if n ≤ q ∧ q < n + vs.length then vs[q - n]? else cs[q]?
  | cs, 0, [], q, _ => by cases cs <;> simp [spl]
  | _ :: cs, 0, v :: vs, q, h => by
    cases q with
    | zero => simp [spl]
    | succ q =>
      have := spl_get cs 0 vs q (by simp at h ⊢; omega)
      simp only [spl, List.getElem?_cons_succ, this, List.length_cons]
      split <;> split <;> first | omega | simp
  | c :: cs, n + 1, vs, q, h => by
    cases q with
    | zero => simp [spl]
    | succ q =>
      have := spl_get cs n vs q (by simp at h ⊢; omega)
      cases vs <;> simp only [spl, List.getElem?_cons_succ, this] <;> (split <;> split <;> first | omega | rfl | (congr 1; omega))
  | [], 0, v :: vs, _, h => by simp at h
  | [], n + 1, vs, _, h => by simp at h
theorem spl_seg {α : Type} (L v : List α) (A sz E j : Nat) (h1 : A + sz ≤ E) (h2 : E ≤ L.length) (h3 : j + v.length ≤ sz) :
    (L.take E).take A ++ spl ((L.drop A).take sz) j v ++ (L.take E).drop (A + sz) = (spl L (A + j) v).take E := by
  have hl : (spl ((L.drop A).take sz) j v).length = sz := by rw [spl_length _ _ _ (by simp; omega)]; simp; omega
  apply List.ext_getElem?
  intro q
  rw [List.getElem?_take, spl_get _ _ _ _ (by omega), List.getElem?_append, List.getElem?_append, spl_get _ _ _ _ (by simp; omega)]
  simp only [List.length_append, hl, List.length_take, List.getElem?_take, List.getElem?_drop]
  have e1 : min A (min E L.length) = A := by omega
  simp only [e1]
  by_cases q1 : q < A
  · simp [show q < A + sz by omega, q1, show q < E by omega, show ¬ (A + j ≤ q) by omega]
  · by_cases q2 : q < A + sz
    · simp only [q2, q1, if_true, if_false, show q < E by omega]
      by_cases q3 : A + j ≤ q ∧ q < A + j + v.length
      · rw [if_pos q3, if_pos (by omega)]; congr 1; omega
      · rw [if_neg q3, if_neg (by omega), if_pos (by omega)]; congr 1; omega
    · simp only [q2, if_false]
      rw [if_neg (by omega : ¬ (A + j ≤ q ∧ q < A + j + v.length))]
      by_cases q4 : q < E
      · rw [if_pos q4, if_pos (by omega)]; congr 1; omega
      · rw [if_neg q4, if_neg (by omega)]

/-! ### store -/
theorem run_storeVar {t : TypeId} {b : Bool} {n : Nat} (hk : tk P t = some (b, n)) {w : World} {g off : Nat} {ty : TypeId} {cur : Array Value} {v : Value} (hg : w.heap[g]? = some (.cells cur ty (0, 0)))
    (hn : v.cells.size = n) (hl : off + n ≤ cur.size) (h1 : ∀ u ∈ v.cells.toList, u.oneCell' = true) :
    (storeVar t ⟨g, off, none⟩ v).run P w = .ok () (w.setRow g (spl cur.toList off v.cells.toList).toArray) := by
  have := run_storeCells_at P g off ty v.cells.toList 0 cur w hg (by simp [hn]; omega) h1
  rw [spl_eq _ _ _ (by simp [hn]; omega)]
  simp only [Nat.add_zero] at this
  simp only [storeVar, Sem.run_bind, run_sizeOf' hk, Result.andThen_ok, hn, ne_eq, not_true_eq_false, if_false]
  simpa using this
theorem exec_store {t : TypeId} {x y : Operand} {ad : Addr} {w' : World} (ho : o.op = .store t x y) (hx : a.eval x = .pointer (some ad)) (h : (storeVar t ad (a.eval y)).run P c.w = .ok () w') :
    (execOp a.eval o).run P c.w = .ok .skip w' := by
  simp [execOp, ho, hx, Instr.storeAt, Instr.sureAddr, h]

def evStoreP (σ : List AObj) (k : Option (Bool × Nat)) (l off : Nat) (vs : Option (List AV)) : AObj → R1
  | .cells cs => match k, vs with
    | some (_, n), some vs => .need (vs.length = n ∧ off + n ≤ cs.length ∧ vs.all oneC = true) (.to .any (so σ l (.cells (spl cs off vs))))
    | _, _ => .bad
  | _ => .bad
def evStoreR1 (σ1 : List AObj) (n l i j : Nat) (ds : List D) : AObj → R1
  | .row sz es => .need (i < es.length ∧ ds.length = n ∧ j + n ≤ sz) (.all es i fun e => .to .any (so σ1 l (.row sz (es.set i (spl e j ds)))))
  | _ => .bad
def evStoreR (k : Option (Bool × Nat)) (l sz i j : Nat) : Option (List D × List AObj) → R1
  | some (ds, σ1) => match k with
    | some (_, n) => .need (∃ es, ob σ1 l = .row sz es) (evStoreR1 σ1 n l i j ds (ob σ1 l))
    | none => .bad
  | none => .bad
def obind (σ : List AObj) : Option (List AV) → Option (List D × List AObj)
  | some vs => asDs σ vs
  | none => none
def evStoreV (σ : List AObj) (k : Option (Bool × Nat)) (l sz i j : Nat) (vs : Option (List AV)) : AObj → R1
  | .vec sz' es => match k, vs with
    | some (_, n), some vs => .need (sz' = sz ∧ i < es.length ∧ vs.length = n ∧ j + n ≤ sz ∧ vs.all oneC = true) (.to .any (so σ l (.vec sz (es.set i (spl (es.getD i []) j vs)))))
    | _, _ => .bad
  | _ => .bad
def evStore (P : Program) (σ : List AObj) (t : TypeId) (v : AV) : AV → R1
  | .ptr l off => evStoreP σ (tk P t) l off (cellsOf v) (ob σ l)
  | .rptr l sz i j => match isVO (ob σ l) with
    | true => evStoreV σ (tk P t) l sz i j (cellsOf v) (ob σ l)
    | false => evStoreR (tk P t) l sz i j (obind σ (cellsOf v))
  | _ => .bad

theorem DRs_set {h : Snap} {sz : Nat} : ∀ {es : List (List D)} {i : Nat} {e' : List D} {vs us : List Value}, (∀ e ∈ es, e.length = sz) → i < es.length → e'.length = sz → DRs h es.flatten vs → DRs h e' us →
    DRs h (es.set i e').flatten (vs.take (i * sz) ++ us ++ vs.drop (i * sz + sz))
  | [], _, _, _, _, _, hi, _, _, _ => by simp at hi
  | e :: es, 0, e', vs, us, hs, _, he, r, k => by
    simp only [List.flatten_cons] at r
    have r2 := DRs_drop sz r
    rw [← hs e (by simp), List.drop_left, hs e (by simp)] at r2
    simp only [List.set_cons_zero, List.flatten_cons, Nat.zero_mul, List.take_zero, List.nil_append, Nat.zero_add]
    exact DRs_append k r2
  | e :: es, i + 1, e', vs, us, hs, hi, he, r, k => by
    simp only [List.flatten_cons] at r
    have hes := hs e (by simp)
    have r1 := DRs_take sz r
    rw [← hes, List.take_left, hes] at r1
    have r2 := DRs_drop sz r
    rw [← hes, List.drop_left, hes] at r2
    have ih := DRs_set (i := i) (fun x hx => hs x (by simp [hx])) (by simpa using hi) he r2 k
    simp only [List.set_cons_succ, List.flatten_cons]
    have := DRs_append r1 ih
    have e1 : vs.take sz ++ ((vs.drop sz).take (i * sz) ++ us ++ (vs.drop sz).drop (i * sz + sz)) = vs.take ((i + 1) * sz) ++ us ++ vs.drop ((i + 1) * sz + sz) := by
      rw [List.drop_drop, show (i + 1) * sz = sz + i * sz by rw [Nat.add_mul]; omega, show sz + (i * sz + sz) = sz + i * sz + sz by omega, List.take_add]
      simp
    rwa [e1] at this

theorem ARs_set {c : Cf} {sz : Nat} : ∀ {es : List (List AV)} {i : Nat} {e' : List AV} {vs us : List Value}, (∀ e ∈ es, e.length = sz) → i < es.length → e'.length = sz → ARs c es.flatten vs → ARs c e' us →
    ARs c (es.set i e').flatten (vs.take (i * sz) ++ us ++ vs.drop (i * sz + sz))
  | [], _, _, _, _, _, hi, _, _, _ => by simp at hi
  | e :: es, 0, e', vs, us, hs, _, he, r, k => by
    simp only [List.flatten_cons] at r
    have r2 := ARs_drop sz r
    rw [← hs e (by simp), List.drop_left, hs e (by simp)] at r2
    simp only [List.set_cons_zero, List.flatten_cons, Nat.zero_mul, List.take_zero, List.nil_append, Nat.zero_add]
    exact ARs_append k r2
  | e :: es, i + 1, e', vs, us, hs, hi, he, r, k => by
    simp only [List.flatten_cons] at r
    have hes := hs e (by simp)
    have r1 := ARs_take sz r
    rw [← hes, List.take_left, hes] at r1
    have r2 := ARs_drop sz r
    rw [← hes, List.drop_left, hes] at r2
    have ih := ARs_set (i := i) (fun x hx => hs x (by simp [hx])) (by simpa using hi) he r2 k
    simp only [List.set_cons_succ, List.flatten_cons]
    have := ARs_append r1 ih
    have e1 : vs.take sz ++ ((vs.drop sz).take (i * sz) ++ us ++ (vs.drop sz).drop (i * sz + sz)) = vs.take ((i + 1) * sz) ++ us ++ vs.drop ((i + 1) * sz + sz) := by
      rw [List.drop_drop, show (i + 1) * sz = sz + i * sz by rw [Nat.add_mul]; omega, show sz + (i * sz + sz) = sz + i * sz + sz by omega, List.take_add]
      simp
    rwa [e1] at this

theorem heap_same {w : World} {g : Nat} {cs : Array Value} : ∀ b, b ≠ g → (w.setRow g cs).heap[b]? = w.heap[b]? := fun b hb => setRow_other w g b cs hb

theorem evStore_ok (H : Holds c σ) (he : ARs c env a.tmps.toList) {t : TypeId} {x y : Operand} (ho : o.op = .store t x y) : (evStore P σ t (evO env y) (evO env x)).Ok P o a c σ := by
  have hx := evO_sound he x
  have hy := evO_sound he y
  generalize evO env x = p at hx
  generalize evO env y = q at hy
  cases p <;> simp only [evStore] <;> try trivial
  case ptr l off =>
    simp only [AR] at hx
    obtain ⟨_, hx⟩ := hx
    generalize hO : ob σ l = O
    cases O <;> simp only [evStoreP] <;> try trivial
    case cells cs =>
      generalize hk : tk P t = k
      generalize hv : cellsOf q = vs
      split
      · next b n vs =>
        rintro ⟨h1, h2, h3⟩
        have hl := ob_some hO (by simp)
        obtain ⟨us, ty, e1, e2⟩ := H.obj l _ hl
        have hc := cellsOf_sound hv hy
        have hlen := ARs_length hc
        have hlen2 := ARs_length e2
        have hone := ARs_one hc h3
        have hsz : (a.eval y).cells.size = n := by simp at hlen; omega
        have hrun := run_storeVar (P := P) hk (off := off) (v := a.eval y) e1 hsz (by simp at hlen2; omega) hone
        refine ⟨.skip, undef, c.at (c.w.setRow (c.ν l) (spl us.toList off (a.eval y).cells.toList).toArray), exec_store ho hx hrun, .inr ⟨rfl, rfl⟩, by simp [AR], ?_⟩
        rw [so_eq]
        refine Nxt.upd H hl (by trivial) _ heap_same (by simp) rfl rfl rfl ?_
        refine ⟨_, ty, setRow_heap _ _ _ _ _ _ e1, ?_⟩
        have := ARs.mono (c.le_at (c.w.setRow (c.ν l) (spl us.toList off (a.eval y).cells.toList).toArray)) _ (ARs_spl off e2 hc (by omega))
        simpa using this
      · trivial
  case rptr l sz i j =>
    simp only [AR] at hx
    obtain ⟨_, hx⟩ := hx
    generalize hv : cellsOf q = vs
    cases hV : isVO (ob σ l) with
    | true =>
      simp only []
      generalize hO : ob σ l = O at hV
      cases O <;> simp only [isVO, Bool.false_eq_true] at hV
      case vec sz' es =>
      simp only [evStoreV]
      generalize hk : tk P t = k
      split
      · next b n vs =>
        rintro ⟨rfl, hi, hn, hj, h3'⟩
        have hc := cellsOf_sound hv hy
        have hlen := ARs_length hc
        have hl := ob_some hO (by simp)
        rcases H.obj l _ hl with ⟨rfl, _⟩ | hB
        · simp at hi
        · obtain ⟨cap, us, ty, h0, g1, g2, g3, g4, g5, g6⟩ := hB
          have hone := ARs_one hc h3'
          have hsz : (a.eval y).cells.size = n := by simp at hlen; omega
          have hmul : i * sz' + sz' ≤ es.length * sz' := by rw [← Nat.succ_mul]; exact Nat.mul_le_mul_right _ hi
          have hmul2 : es.length * sz' ≤ cap * sz' := Nat.mul_le_mul_right _ g2
          have hrun := run_storeVar (P := P) hk (off := i * sz' + j) (v := a.eval y) (w := c.w) g3 hsz (by omega) hone
          have hei : es[i].length = sz' := g5 _ (List.getElem_mem hi)
          rw [List.getD_eq_getElem?_getD, List.getElem?_eq_getElem hi, Option.getD_some]
          refine ⟨.skip, undef, c.at (c.w.setRow (c.ν l) (spl us.toList (i * sz' + j) (a.eval y).cells.toList).toArray), exec_store ho hx hrun, .inr ⟨rfl, rfl⟩, by simp [AR], ?_⟩
          rw [so_eq]
          refine Nxt.upd H hl ⟨_, _, _, g1, h0⟩ _ heap_same (by simp) rfl rfl rfl ?_
          have hlu : us.toList.length = cap * sz' := by simpa using g4
          have hcl : (a.eval y).cells.toList.length = n := by simpa using hsz
          refine .inr ⟨cap, _, ty, h0, by simpa [Cf.at] using g1, by simpa using g2, setRow_heap _ _ _ _ _ _ g3, ?_, ?_, ?_⟩
          · simp [spl_length us.toList (i * sz' + j) (a.eval y).cells.toList (by omega)]; exact g4
          · intro e he
            rcases List.mem_or_eq_of_mem_set he with q | q
            · exact g5 e q
            · subst q; rw [spl_length _ _ _ (by omega)]; exact hei
          · refine ARs.mono (c.le_at _) _ ?_
            have hd2 := ARs_spl j (vec_seg hi g5 g6) hc (by simp; omega)
            have := ARs_set (i := i) g5 hi (e' := spl es[i] j vs) (by rw [spl_length _ _ _ (by omega)]; exact hei) g6 hd2
            have e2 : (us.toList.take (es.length * sz')).take (i * sz') ++ spl ((us.toList.drop (i * sz')).take sz') j (a.eval y).cells.toList ++ (us.toList.take (es.length * sz')).drop (i * sz' + sz') =
                (spl us.toList (i * sz' + j) (a.eval y).cells.toList).toArray.toList.take ((es.set i (spl es[i] j vs)).length * sz') := by
              simp only [List.length_set]
              exact spl_seg us.toList (a.eval y).cells.toList (i * sz') sz' (es.length * sz') j hmul (by omega) (by omega)
            rw [e2] at this
            exact this
      · trivial
    | false =>
    simp only []
    cases vs with
    | none => simp only [obind, evStoreR]; trivial
    | some vs =>
    generalize hd : obind σ (some vs) = r
    cases r with
    | none => simp only [evStoreR]; trivial
    | some r =>
      obtain ⟨ds, σ1⟩ := r
      simp only [evStoreR]
      generalize hk : tk P t = k
      cases k with
      | none => trivial
      | some k =>
        obtain ⟨b, n⟩ := k
        rintro ⟨es, hO⟩
        rw [hO]
        simp only [evStoreR1]
        rintro ⟨hi, hn, hj⟩
        refine ⟨es[i], by simp [hi], ?_⟩
        have hc := cellsOf_sound hv hy
        obtain ⟨c1, w1, n1, d1⟩ := asDs_sound H hc hd
        have hl := ob_some hO (by simp)
        have hlen := DRs_length d1
        have hvl := n1.le.ν l (by assumption)
        rcases n1.hold.obj l _ hl with ⟨rfl, _⟩ | hB
        · simp at hi
        · obtain ⟨cap, us, ty, h0, g1, g2, g3, g4, g5, g6⟩ := hB
          have hone := DRs_one d1
          have hsz : (a.eval y).cells.size = n := by simp at hlen; omega
          have hmul : i * sz + sz ≤ es.length * sz := by rw [← Nat.succ_mul]; exact Nat.mul_le_mul_right _ hi
          have hmul2 : es.length * sz ≤ cap * sz := Nat.mul_le_mul_right _ g2
          rw [← hvl] at hx
          have hrun := run_storeVar (P := P) hk (off := i * sz + j) (v := a.eval y) (w := c.w) (by rw [← w1]; exact g3) hsz (by omega) hone
          have hfin : Nxt c1 σ1 (c1.at (c1.w.setRow (c1.ν l) (spl us.toList (i * sz + j) (a.eval y).cells.toList).toArray)) (σ1.set l (.row sz (es.set i (spl es[i] j ds)))) := by
            refine Nxt.upd n1.hold hl ⟨_, _, _, g1, h0⟩ _ heap_same (by simp) rfl rfl rfl ?_
            have hlu : us.toList.length = cap * sz := by simpa using g4
            have hei : es[i].length = sz := g5 _ (List.getElem_mem hi)
            have hcl : (a.eval y).cells.toList.length = n := by simpa using hsz
            refine .inr ⟨cap, _, ty, h0, by simpa [Cf.at] using g1, by simpa using g2, setRow_heap _ _ _ _ _ _ g3, ?_, ?_, ?_⟩
            · simp [spl_length us.toList (i * sz + j) (a.eval y).cells.toList (by omega)]; exact g4
            · intro e he
              rcases List.mem_or_eq_of_mem_set he with q | q
              · exact g5 e q
              · subst q; rw [spl_length _ _ _ (by omega)]; exact hei
            · have hd : DRs c1.h es[i] ((us.toList.drop (i * sz)).take sz) := by
                have hsplit : es.flatten = (es.take i).flatten ++ (es[i] ++ (es.drop (i + 1)).flatten) := by
                  have e1 : es = es.take i ++ es[i] :: es.drop (i + 1) := by simp
                  exact (congrArg List.flatten e1).trans (by rw [List.flatten_append, List.flatten_cons])
                have hpre : (es.take i).flatten.length = i * sz := by
                  rw [flatten_len fun e he => g5 e (List.mem_of_mem_take he), List.length_take, Nat.min_eq_left (Nat.le_of_lt hi)]
                have h6 := g6
                rw [hsplit] at h6
                have h7 := DRs_drop (i * sz) h6
                rw [← hpre, List.drop_left, hpre] at h7
                have h8 := DRs_take sz h7
                rw [← hei, List.take_left, hei] at h8
                have : ((us.toList.take (es.length * sz)).drop (i * sz)).take sz = (us.toList.drop (i * sz)).take sz := by
                  rw [List.drop_take, List.take_take, Nat.min_eq_left (by omega)]
                rwa [this] at h8
              have hd2 := DRs_spl j hd d1 (by simp; omega)
              have := DRs_set (i := i) g5 hi (e' := spl es[i] j ds) (by rw [spl_length _ _ _ (by omega)]; exact hei) g6 hd2
              have e2 : (us.toList.take (es.length * sz)).take (i * sz) ++ spl ((us.toList.drop (i * sz)).take sz) j (a.eval y).cells.toList ++ (us.toList.take (es.length * sz)).drop (i * sz + sz) =
                  (spl us.toList (i * sz + j) (a.eval y).cells.toList).toArray.toList.take ((es.set i (spl es[i] j ds)).length * sz) := by
                simp only [List.length_set]
                exact spl_seg us.toList (a.eval y).cells.toList (i * sz) sz (es.length * sz) j hmul (by omega) (by omega)
              rw [e2] at this
              exact this
          refine ⟨.skip, undef, c1.at (c1.w.setRow (c1.ν l) (spl us.toList (i * sz + j) (a.eval y).cells.toList).toArray), exec_store ho hx (by rw [hrun]; simp [Cf.at, w1]), .inr ⟨rfl, rfl⟩, by simp [AR], ?_⟩
          rw [so_eq]
          exact n1.trans hfin
end
end Go.AX
/- AX, part F: new variables, built values, fields, elements, plain operations. -/
set_option linter.unusedVariables false
namespace Go.AX

section
variable {P : Program} {o : Oper} {a : Act} {c : Cf} {σ : List AObj} {env : List AV}

/-! ### alloc, box -/
def zc (P : Program) (t : TypeId) : Option (List AV) :=
  match P.info? t with
  | some i => i.zero.map fun z => z.cells.toList.map cv1
  | none => none
def evNew (σ : List AObj) : Option (List AV) → R1
  | some cs => .to (.ptr σ.length 0) (σ ++ [.cells cs])
  | none => .bad
theorem new_cells (H : Holds c σ) {cs : List AV} {vs : Array Value} (ty : TypeId) (h : ARs c cs vs.toList) :
    ∃ c', c'.w = c.w.alloc (.cells vs ty) ∧ c'.ν σ.length = c.w.heap.size ∧ c'.n = σ.length + 1 ∧ Nxt c σ c' (σ ++ [.cells cs]) := by
  refine ⟨c.put (c.w.alloc (.cells vs ty)) c.w.heap.size undef, rfl, by simp [Cf.put, H.n], by simp [Cf.put, H.n], Nxt.new H _ _ _ ?_⟩
  refine ⟨vs, ty, ?_, ARs.mono (c.le_put _ _ _) _ h⟩
  show (c.w.alloc (.cells vs ty)).heap[(c.put (c.w.alloc (.cells vs ty)) c.w.heap.size undef).ν c.n]? = _
  have : (c.put (c.w.alloc (.cells vs ty)) c.w.heap.size undef).ν c.n = c.w.heap.size := by simp [Cf.put]
  rw [this]
  show (c.w.heap.push _)[c.w.heap.size]? = _
  simp
theorem evBox_ok (H : Holds c σ) (he : ARs c env a.tmps.toList) {t : TypeId} {x : Operand} (ho : o.op = .box t x) : (evNew σ (cellsOf (evO env x))).Ok P o a c σ := by
  have hx := evO_sound he x
  cases hc : cellsOf (evO env x) with
  | none => trivial
  | some cs =>
    obtain ⟨c', h1, h2, h3, h4⟩ := new_cells H t (cellsOf_sound hc hx)
    refine ⟨.value (.pointer (some ⟨c.w.heap.size, 0, none⟩)), _, c', ?_, .inl rfl, ?_, h4⟩
    rotate_left
    · simp only [AR]; exact ⟨by rw [h3]; omega, by rw [h2]⟩
    · rw [h1]; simp [execOp, ho, Instr.box, newVar, newRow]
theorem evAlloc_ok (H : Holds c σ) (he : ARs c env a.tmps.toList) {t : TypeId} (ho : o.op = .alloc t) : (evNew σ (zc P t)).Ok P o a c σ := by
  cases hi : P.info? t with
  | none => simp [zc, hi, evNew, R1.Ok]
  | some i =>
    cases hz : i.zero with
    | none => simp [zc, hi, hz, evNew, R1.Ok]
    | some z =>
      have e : zc P t = some (z.cells.toList.map cv1) := by simp [zc, hi, hz]
      rw [e]
      obtain ⟨c', h1, h2, h3, h4⟩ := new_cells H t (ARs_map_cv1 c z.cells.toList)
      refine ⟨.value (.pointer (some ⟨c.w.heap.size, 0, none⟩)), _, c', ?_, .inl rfl, ?_, h4⟩
      rotate_left
      · simp only [AR]; exact ⟨by rw [h3]; omega, by rw [h2]⟩
      · rw [h1]; simp [execOp, ho, Instr.alloc, zeroValue, typeInfo, hi, hz, newVar, newRow]

/-! ### build -/
def placeAt (P : Program) (t : TypeId) (i : Nat) : Option (Nat × Nat) :=
  match P.underlying t with
  | some (.struct fs) => match fs.toList[i]? with
    | some f => match P.info? f.type with
      | some k => some (f.offset, k.size)
      | none => none
    | none => none
  | some (.array _ e) => match P.info? e with
    | some k => some (i * k.size, k.size)
    | none => none
  | _ => none
/-- all parts of the type are known -/
def partsOk (P : Program) (t : TypeId) : Bool :=
  match P.underlying t with
  | some (.struct fs) => fs.toList.all fun f => (P.info? f.type).isSome
  | some (.array _ e) => (P.info? e).isSome
  | _ => false
def evFill (P : Program) (t : TypeId) : List AV → List (Nat × AV) → Option (List AV)
  | cs, [] => some cs
  | cs, (i, x) :: r => match placeAt P t i with
    | some (off, n) => match cellsOf x with
      | some vs => if vs.length = n ∧ off + n ≤ cs.length then evFill P t (spl cs off vs) r else none
      | none => none
    | none => none
def evParts (env : List AV) : List (Nat × Operand) → List (Nat × AV)
  | [] => []
  | (i, x) :: r => (i, evO env x) :: evParts env r
def evBuild (P : Program) (σ : List AObj) (t : TypeId) (ps : List (Nat × AV)) : R1 :=
  match partsOk P t with
  | true => match zc P t with
    | some cs => match evFill P t cs ps with
      | some vs => .to (.agg vs) σ
      | none => .bad
    | none => .bad
  | false => .bad

theorem fold_set {α : Type} : ∀ (vs : List α) (k : Nat) (cs : Array α) (off : Nat), off + k + vs.length ≤ cs.size →
    ((vs.zipIdx k).foldl (fun cs (c, j) => cs.setIfInBounds (off + j) c) cs).toList = spl cs.toList (off + k) vs
  | [], k, cs, off, _ => by
    have := spl_eq cs.toList (off + k) [] (by simp at *; omega)
    rw [this]; simp
  | v :: vs, k, cs, off, h => by
    simp only [List.zipIdx_cons, List.foldl_cons]
    rw [fold_set vs (k + 1) _ off (by simp at h ⊢; omega)]
    have h1 : off + k < cs.size := by simp at h; omega
    apply List.ext_getElem?
    intro q
    rw [spl_get _ _ _ _ (by simp at h ⊢; omega), spl_get _ _ _ _ (by simp at h ⊢; omega)]
    simp only [Array.toList_setIfInBounds, List.getElem?_set, List.length_cons]
    by_cases q1 : q = off + k
    · subst q1; simp [h1, show ¬ (off + (k + 1) ≤ off + k) by omega]
    · by_cases q2 : off + (k + 1) ≤ q ∧ q < off + (k + 1) + vs.length
      · rw [if_pos q2, if_pos (by omega), show q - (off + k) = (q - (off + (k + 1))) + 1 by omega]; simp
      · rw [if_neg q2, if_neg (by omega), if_neg (by omega)]
theorem fill_ok {P : Program} {t : TypeId} {place : Nat → Option (Nat × Nat)} (hp : ∀ i off n, placeAt P t i = some (off, n) → place i = some (off, n)) : ∀ {ps : List (Nat × AV)} {us : List (Nat × Value)} {cs : List AV} {vs : Array Value} {rs : List AV},
    ARs c cs vs.toList → ps.map (·.1) = us.map (·.1) → ARs c (ps.map (·.2)) (us.map (·.2)) → evFill P t cs ps = some rs → ∃ r, Instr.fill place vs us = some r ∧ ARs c rs r.toList
  | [], [], cs, vs, rs, h, _, _, e => by simp [evFill] at e; subst e; exact ⟨vs, rfl, h⟩
  | [], _ :: _, _, _, _, _, e, _, _ => by simp at e
  | _ :: _, [], _, _, _, _, e, _, _ => by simp at e
  | (i, x) :: ps, (j, v) :: us, cs, vs, rs, h, e1, e2, e => by
    simp at e1
    obtain ⟨rfl, e1⟩ := e1
    simp only [List.map_cons, ARs_cons] at e2
    simp only [evFill] at e
    split at e
    · next off n hpl =>
      split at e
      · next xs hc =>
        split at e
        · next hh =>
          have hcs := cellsOf_sound hc e2.1
          have hl := ARs_length hcs
          have hl2 := ARs_length h
          have hsz : v.cells.size = n := by simp at hl; omega
          have hoff : off + v.cells.size ≤ vs.size := by simp at hl2; omega
          have h3 := ARs_spl off h hcs (by simp at hl2 ⊢; omega)
          have hf := fold_set v.cells.toList 0 vs off (by simp; omega)
          simp only [Nat.add_zero] at hf
          rw [← hf] at h3
          obtain ⟨r, g1, g2⟩ := fill_ok hp h3 e1 e2.2 e
          refine ⟨r, ?_, g2⟩
          simp only [Instr.fill, hp _ _ _ hpl, hsz]
          have hc1 : (n != n || decide (off + n > vs.size)) = false := by simp; omega
          simp only [ne_eq, not_true_eq_false, decide_false, Bool.false_or, decide_eq_true_eq]
          rw [if_neg (by omega)]
          rw [← g1]
          congr 1
          rw [← Array.foldl_toList]
          simp [Array.toList_zipIdx]
        · simp at e
      · simp at e
    · simp at e
theorem evParts_fst (env : List AV) : ∀ ps : List (Nat × Operand), (evParts env ps).map (·.1) = ps.map (·.1)
  | [] => rfl
  | (i, x) :: r => by simp [evParts, evParts_fst env r]
theorem evParts_snd {c : Cf} {env : List AV} {a : Act} (h : ARs c env a.tmps.toList) : ∀ ps : List (Nat × Operand), ARs c ((evParts env ps).map (·.2)) (ps.map fun x => a.eval x.2)
  | [] => by simp [evParts, ARs]
  | (i, x) :: r => by simp only [evParts, List.map_cons, ARs_cons]; exact ⟨evO_sound h x, evParts_snd h r⟩
theorem mapM_info {P : Program} : ∀ (fs : List Field), (fs.all fun f => (P.info? f.type).isSome) = true → ∃ ps, fs.mapM (fun f => (P.info? f.type).map fun i => (f.offset, i.size)) = some ps ∧
    ∀ (i : Nat) (f : Field) (k : TypeInfo), fs[i]? = some f → P.info? f.type = some k → ps[i]? = some (f.offset, k.size)
  | [], _ => ⟨[], by simp, by simp⟩
  | f :: fs, h => by
    simp only [List.all_cons, Bool.and_eq_true] at h
    obtain ⟨ps, h1, h2⟩ := mapM_info fs h.2
    obtain ⟨k, hk⟩ := Option.isSome_iff_exists.1 h.1
    refine ⟨(f.offset, k.size) :: ps, by simp [List.mapM_cons, hk, h1], fun i g k' hi hk' => ?_⟩
    cases i with
    | zero => simp at hi; subst hi; rw [hk] at hk'; cases hk'; simp
    | succ i => simp at hi ⊢; exact h2 i g k' hi hk'
theorem evBuild_ok (H : Holds c σ) (he : ARs c env a.tmps.toList) {t : TypeId} {ps : Array (Nat × Operand)} (ho : o.op = .build t ps) : (evBuild P σ t (evParts env ps.toList)).Ok P o a c σ := by
  unfold evBuild
  cases hpo : partsOk P t with
  | false => trivial
  | true =>
    cases hi : P.info? t with
    | none => simp [zc, hi, R1.Ok]
    | some it =>
      cases hz : it.zero with
      | none => simp [zc, hi, hz, R1.Ok]
      | some z =>
        have e : zc P t = some (z.cells.toList.map cv1) := by simp [zc, hi, hz]
        simp only [e]
        cases hf : evFill P t (z.cells.toList.map cv1) (evParts env ps.toList) with
        | none => trivial
        | some vs =>
          have hargs : (ps.map fun (i, x) => (i, a.eval x)).toList.map (·.2) = ps.toList.map fun x => a.eval x.2 := by simp
          have hargs1 : (ps.map fun (i, x) => (i, a.eval x)).toList.map (·.1) = ps.toList.map (·.1) := by simp
          have hb : ∃ r, P.built t (ps.map fun (i, x) => (i, a.eval x)).toList = some r ∧ ARs c vs r.toList := by
            unfold partsOk at hpo
            split at hpo
            · next fs hu =>
              obtain ⟨pl, q1, q2⟩ := mapM_info _ hpo
              have hp : ∀ i off n, placeAt P t i = some (off, n) → (fun x => pl.toArray[x]?) i = some (off, n) := fun i off n h => by
                simp only [placeAt, hu] at h
                split at h
                · next f hf =>
                  split at h
                  · next k hk => simp at h; have := q2 i f k hf hk; simpa [h] using this
                  · simp at h
                · simp at h
              obtain ⟨r, g1, g2⟩ := fill_ok hp (ARs_map_cv1 c z.cells.toList) (by rw [evParts_fst, hargs1]) (by rw [hargs]; exact evParts_snd he _) hf
              exact ⟨r, by simp only [Program.built, hi, hu, hz, q1]; exact g1, g2⟩
            · next n e' hu =>
              obtain ⟨k, hk⟩ := Option.isSome_iff_exists.1 hpo
              have hp : ∀ i off n, placeAt P t i = some (off, n) → (fun i => some (i * k.size, k.size)) i = some (off, n) := fun i off n h => by
                simp only [placeAt, hu, hk] at h; exact h
              obtain ⟨r, g1, g2⟩ := fill_ok hp (ARs_map_cv1 c z.cells.toList) (by rw [evParts_fst, hargs1]) (by rw [hargs]; exact evParts_snd he _) hf
              exact ⟨r, by simp only [Program.built, hi, hu, hz, hk]; exact g1, g2⟩
            · simp at hpo
          obtain ⟨r, h1, h2⟩ := hb
          refine R1.Ok_to H (x := .agg r) ?_ (by simp only [AR]; exact ⟨r, rfl, h2⟩)
          have := run_build c.w t _ r h1
          simp [execOp, ho, this]

/-! ### fields -/
def fo (P : Program) (s : TypeId) (f : Nat) : Option (Nat × Bool × Nat) :=
  match P.underlying s with
  | some (.struct fs) => match fs[f]? with
    | some fl => match tk P fl.type with
      | some (b, n) => some (fl.offset, b, n)
      | none => none
    | none => none
  | _ => none
theorem fo_spec {s : TypeId} {f off n : Nat} {b : Bool} (h : fo P s f = some (off, b, n)) : ∃ fs fl, P.underlying s = some (.struct fs) ∧ fs[f]? = some fl ∧ fl.offset = off ∧ tk P fl.type = some (b, n) := by
  unfold fo at h
  split at h
  · next fs hu =>
    split at h
    · next fl hf =>
      split at h
      · next b' n' ht => simp at h; obtain ⟨rfl, rfl, rfl⟩ := h; exact ⟨fs, fl, hu, hf, rfl, ht⟩
      · simp at h
    · simp at h
  · simp at h
def shiftA (σ : List AObj) (k : Nat) : AV → R1
  | .ptr l off => .to (.ptr l (off + k)) σ
  | .rptr l sz i j => .to (.rptr l sz i (j + k)) σ
  | .eptr cs => .to (.eptr (drD cs k)) σ
  | _ => .bad
def evFieldAddr (P : Program) (σ : List AObj) (s f : Nat) (x : AV) : R1 :=
  match fo P s f with
  | some (off, _, _ + 1) => shiftA σ off x
  | _ => .bad
theorem shiftA_ok (H : Holds c σ) {k : Nat} {y : AV} {v : Value} (hy : AR c y v) (hr : ∀ ad : Addr, v = .pointer (some ad) → ad.spot = none → (execOp a.eval o).run P c.w = .ok (.value (.pointer (some (ad.add k)))) c.w) :
    (shiftA σ k y).Ok P o a c σ := by
  cases y <;> simp only [shiftA] <;> try trivial
  case ptr l off => simp only [AR] at hy; obtain ⟨h1, rfl⟩ := hy; exact R1.Ok_to H (hr _ rfl rfl) (by simp [AR, h1, addr_add])
  case rptr l sz i j => simp only [AR] at hy; obtain ⟨h1, rfl⟩ := hy; exact R1.Ok_to H (hr _ rfl rfl) (by simp [AR, h1, addr_add, Nat.add_assoc])
  case eptr cs =>
    simp only [AR] at hy
    obtain ⟨ad, rfl, hs, h2⟩ := hy
    exact R1.Ok_to H (hr _ rfl hs) (by
      simp only [AR]
      exact ⟨_, rfl, by rw [addr_add' hs], DCells_shift hs k (by rw [drD_eq]; exact DCells_drop k h2)⟩)
end
end Go.AX
/- AX, part G: fields, elements, plain operations. -/
set_option linter.unusedVariables false
namespace Go.AX
section
variable {P : Program} {o : Oper} {a : Act} {c : Cf} {σ : List AObj} {env : List AV}

theorem evFieldAddr_ok (H : Holds c σ) (he : ARs c env a.tmps.toList) {s f : Nat} {x : Operand} (ho : o.op = .fieldAddr s x f) : (evFieldAddr P σ s f (evO env x)).Ok P o a c σ := by
  have hx := evO_sound he x
  unfold evFieldAddr
  split
  · next off b n h =>
    obtain ⟨fs, fl, h1, h2, h3, h4⟩ := fo_spec h
    refine shiftA_ok H hx fun ad e hs => ?_
    subst h3
    simp [execOp, ho, e, Instr.fieldAt, run_underlying' h1, h2, Instr.sureAddr, fieldPlace, run_sizeOf' h4]
  · trivial

/-! ### a part of a struct by value -/
def evField (P : Program) (σ : List AObj) (s f : Nat) : AV → R1
  | .agg cs => match fo P s f with
    | some (off, b, n) => toO σ (ldA (drA cs off) (b, n))
    | none => .bad
  | _ => .bad
theorem part_ok {t : TypeId} {b : Bool} {n off : Nat} {cs : List AV} {vs : Array Value} {v : AV} {w : World} (hk : tk P t = some (b, n)) (hr : ARs c cs vs.toList) (h : ldA (drA cs off) (b, n) = some v) :
    ∃ x, (part t vs off).run P w = .ok x w ∧ AR c v x := by
  rw [drA_eq] at h
  have hd := ARs_drop off hr
  cases b with
  | true =>
    simp only [ldA] at h
    split at h
    · simp at h; subst h
      refine ⟨.agg (vs.extract off (off + n)), by simp [part, run_isAgg hk, run_sizeOf' hk], ?_⟩
      simp only [AR]
      refine ⟨_, rfl, ?_⟩
      have := ARs_take n hd
      rw [Array.toList_extract]
      simpa [List.extract_eq_take_drop] using this
    · simp at h
  | false =>
    cases hq : cs.drop off with
    | nil => simp [hq, ldA] at h
    | cons y ys =>
      simp [hq, ldA] at h; subst h
      rw [hq] at hd
      obtain ⟨u, r, e, h1, _⟩ := ARs_cons_left hd
      have : vs[off]? = some u := by
        have : (vs.toList.drop off)[0]? = some u := by rw [e]; rfl
        simpa using this
      exact ⟨u, by simp [part, run_isAgg hk, this], h1⟩
theorem evField_ok (H : Holds c σ) (he : ARs c env a.tmps.toList) {s f : Nat} {x : Operand} (ho : o.op = .field s x f) : (evField P σ s f (evO env x)).Ok P o a c σ := by
  have hx := evO_sound he x
  generalize evO env x = y at hx
  cases y <;> simp only [evField] <;> try trivial
  case agg cs =>
    cases h : fo P s f with
    | none => trivial
    | some r =>
      obtain ⟨off, b, n⟩ := r
      obtain ⟨fs, fl, h1, h2, h3, h4⟩ := fo_spec h
      refine toO_ok fun v hv => ?_
      simp only [AR] at hx
      obtain ⟨vs, e, hr⟩ := hx
      subst h3
      obtain ⟨u, g1, g2⟩ := part_ok (P := P) (w := c.w) h4 hr hv
      refine R1.Ok_to H (x := u) ?_ g2
      simp [execOp, ho, e, Instr.field, run_underlying' h1, h2, asAgg, g1]

/-! ### elements -/
def it (P : Program) (t : TypeId) : Option (Option Nat × Bool × Nat) :=
  match P.underlying t with
  | some (.slice e) => match tk P e with
    | some k => some (none, k)
    | none => none
  | some (.array n e) => match tk P e with
    | some k => some (some n, k)
    | none => none
  | _ => none
theorem it_slice {t : TypeId} {k : Bool × Nat} (h : it P t = some (none, k)) : ∃ e, P.underlying t = some (.slice e) ∧ tk P e = some k := by
  unfold it at h
  split at h
  · next e hu => split at h <;> simp at h; subst h; exact ⟨e, hu, by assumption⟩
  · next n e hu => split at h <;> simp at h
  · simp at h
theorem it_array {t : TypeId} {n : Nat} {k : Bool × Nat} (h : it P t = some (some n, k)) : ∃ e, P.underlying t = some (.array n e) ∧ tk P e = some k := by
  unfold it at h
  split at h
  · next e hu => split at h <;> simp at h
  · next n' e hu => split at h <;> simp at h; obtain ⟨rfl, rfl⟩ := h; exact ⟨e, hu, by assumption⟩
  · simp at h

def evIx : AV → Option (IntKind × Int)
  | .d (.int k i) => some (k, i)
  | _ => none
theorem evIx_sound {y : AV} {v : Value} {k : IntKind} {i : Int} (h : evIx y = some (k, i)) (hy : AR c y v) : v = .int k i := by
  cases y <;> simp only [evIx] at h <;> try (simp at h; done)
  case d x => cases x <;> simp only [evIx] at h <;> try (simp at h; done)
              case int k' i' => simp at h; obtain ⟨rfl, rfl⟩ := h; simpa [AR, DR] using hy
def evIdxS (σ : List AObj) (sz : Nat) (i : Int) : AV → R1
  | .d (.sl es) => .need (0 ≤ i ∧ i < es.length) (.all es i.toNat fun e => .need (e.length = sz) (.to (.eptr e) σ))
  | .own l => match ob σ l with
    | .row sz' es => .need (sz' = sz ∧ 0 ≤ i ∧ i < es.length) (.to (.rptr l sz i.toNat 0) σ)
    | .vec sz' es => .need (sz' = sz ∧ 0 ≤ i ∧ i < es.length) (.to (.rptr l sz i.toNat 0) σ)
    | _ => .bad
  | .osl l sz' lo n => .need (sz' = sz ∧ 0 ≤ i ∧ i < n) (.to (.rptr l sz (lo + i.toNat) 0) σ)
  | _ => .bad
def evIndexAddr (P : Program) (σ : List AObj) (t : TypeId) (x : AV) : Option (IntKind × Int) → R1
  | some (_, i) => match it P t with
    | some (none, _, sz) => evIdxS σ sz i x
    | some (some n, _, sz) => .need (0 ≤ i ∧ i < n) (shiftA σ (i.toNat * sz) x)
    | none => .bad
  | none => .bad

theorem evIndexAddr_ok (H : Holds c σ) (he : ARs c env a.tmps.toList) {t : TypeId} {x y : Operand} (ho : o.op = .indexAddr t x y) : (evIndexAddr P σ t (evO env x) (evIx (evO env y))).Ok P o a c σ := by
  have hx := evO_sound he x
  have hy := evO_sound he y
  cases hi : evIx (evO env y) with
  | none => trivial
  | some r =>
    obtain ⟨k, i⟩ := r
    have hiv := evIx_sound hi hy
    simp only [evIndexAddr]
    split
    · next ag sz hit =>
      obtain ⟨e, hu, ht⟩ := it_slice hit
      generalize hz : evO env x = z at hx
      cases z <;> simp only [evIdxS] <;> try trivial
      case d z =>
        cases z <;> simp only [evIdxS] <;> try trivial
        case sl es =>
          simp only [AR, DR] at hx
          obtain ⟨A, cap, sz', hv, hcap, hsp, hne, hrows⟩ := hx
          rintro ⟨h0, h1⟩
          have hlt : i.toNat < es.length := by omega
          have hes : es[i.toNat]? = some es[i.toNat] := by simp [hlt]
          refine ⟨es[i.toNat], hes, fun hlen => ?_⟩
          obtain ⟨q1, q2⟩ := DRows_at hrows i.toNat hes
          cases A with
          | none =>
            have := hne rfl
            subst this
            simp at hlt
          | some ad =>
            have hs := hsp (fun q => by rw [q] at hlt; simp at hlt) ad rfl
            refine R1.Ok_to H (x := .pointer (some (ad.add (i.toNat * sz)))) ?_ ?_
            · simp [execOp, ho, hv, hiv, Instr.indexAt, asIntOf, run_underlying' hu, h0, h1, run_sizeOf' ht]
            · simp only [AR]
              refine ⟨_, rfl, by rw [addr_add' hs], DCells_shift hs _ ?_⟩
              rw [q1] at hlen; subst hlen; exact q2
      case own l =>
        generalize hO : ob σ l = O
        cases O <;> simp only [] <;> try trivial
        case row sz' es =>
          rintro ⟨rfl, h0, h1⟩
          simp only [AR] at hx
          obtain ⟨hl, hv, _⟩ := hx
          rcases H.obj l _ (ob_some hO (by simp)) with ⟨rfl, _⟩ | ⟨cap, vs, ty, g0, g1, _⟩
          · simp at h1; omega
          · refine R1.Ok_to H (x := .pointer (some ⟨c.ν l, i.toNat * sz', none⟩)) ?_ (by simp [AR, hl])
            rw [g1] at hv
            simp [execOp, ho, hv, hiv, Instr.indexAt, asIntOf, run_underlying' hu, h0, h1, run_sizeOf' ht, addr_add]
        case vec sz' es =>
          rintro ⟨rfl, h0, h1⟩
          simp only [AR] at hx
          obtain ⟨hl, hv, _⟩ := hx
          rcases H.obj l _ (ob_some hO (by simp)) with ⟨rfl, _⟩ | ⟨cap, vs, ty, g0, g1, _⟩
          · simp at h1; omega
          · refine R1.Ok_to H (x := .pointer (some ⟨c.ν l, i.toNat * sz', none⟩)) ?_ (by simp [AR, hl])
            rw [g1] at hv
            simp [execOp, ho, hv, hiv, Instr.indexAt, asIntOf, run_underlying' hu, h0, h1, run_sizeOf' ht, addr_add]
      case osl l sz' lo n =>
        rintro ⟨rfl, h0, h1⟩
        simp only [AR] at hx
        obtain ⟨hl, A, cap, hv, _, hA⟩ := hx
        have hA := hA (by omega)
        subst hA
        refine R1.Ok_to H (x := .pointer (some ⟨c.ν l, (lo + i.toNat) * sz', none⟩)) ?_ (by simp [AR, hl])
        simp [execOp, ho, hv, hiv, Instr.indexAt, asIntOf, run_underlying' hu, h0, h1, run_sizeOf' ht, addr_add', Nat.add_mul]
    · next n ag sz hit =>
      obtain ⟨e, hu, ht⟩ := it_array hit
      rintro ⟨h0, h1⟩
      refine shiftA_ok H hx fun ad e' hs => ?_
      simp [execOp, ho, e', hiv, Instr.indexAt, asIntOf, run_underlying' hu, h0, h1, run_sizeOf' ht, Instr.sureAddr]
    · trivial

def bt (s : ByteArray) (i : Nat) : Int := ((s[i]?).map fun b => (b.toNat : Int)).getD 0
def evIndex (P : Program) (σ : List AObj) (t : TypeId) (x : AV) : Option (IntKind × Int) → R1
  | some (_, i) => match x with
    | .d (.str s) => match P.underlying t with
      | some .string => .need (0 ≤ i ∧ i < s.size) (.to (.d (.int .u8 (bt s i.toNat))) σ)
      | _ => .bad
    | .agg cs => match it P t with
      | some (some n, b, sz) => .need (0 ≤ i ∧ i < n) (toO σ (ldA (drA cs (i.toNat * sz)) (b, sz)))
      | _ => .bad
    | _ => .bad
  | none => .bad
theorem evIndex_ok (H : Holds c σ) (he : ARs c env a.tmps.toList) {t : TypeId} {x y : Operand} (ho : o.op = .index t x y) : (evIndex P σ t (evO env x) (evIx (evO env y))).Ok P o a c σ := by
  have hx := evO_sound he x
  have hy := evO_sound he y
  cases hi : evIx (evO env y) with
  | none => trivial
  | some r =>
    obtain ⟨k, i⟩ := r
    have hiv := evIx_sound hi hy
    simp only [evIndex]
    split
    · next s hs =>
      rw [hs] at hx
      simp only [AR, DR] at hx
      split
      · next hu =>
        rintro ⟨h0, h1⟩
        have hlt : i.toNat < s.size := by omega
        refine R1.Ok_to H (x := .int .u8 (bt s i.toNat)) ?_ (by simp [AR, DR])
        have e : s[i.toNat]? = some (s[i.toNat]'hlt) := by simp [hlt]
        simp [execOp, ho, hx, hiv, Instr.index, asIntOf, run_underlying' hu, h0, e, bt]
      · trivial
    · next cs hs =>
      rw [hs] at hx
      simp only [AR] at hx
      obtain ⟨vs, hv, hr⟩ := hx
      split
      · next n b sz hit =>
        obtain ⟨e, hu, ht⟩ := it_array hit
        rintro ⟨h0, h1⟩
        refine toO_ok fun v hv' => ?_
        obtain ⟨u, g1, g2⟩ := part_ok (P := P) (w := c.w) ht hr hv'
        refine R1.Ok_to H (x := u) ?_ g2
        simp [execOp, ho, hv, hiv, Instr.index, asIntOf, run_underlying' hu, h0, h1, run_sizeOf' ht, g1]
      · trivial
    · trivial

/-! ### operands handed on -/
theorem evMove_ok (H : Holds c σ) (he : ARs c env a.tmps.toList) {x : Operand} (ho : o.op = .move x ∨ o.op = .assign x) : (R1.to (evO env x) σ).Ok P o a c σ :=
  R1.Ok_to H (by rcases ho with ho | ho <;> simp [execOp, ho]) (evO_sound he x)
def evPick (σ : List AObj) (x y : AV) : AV → R1
  | .d (.bool t) => .ite t (.to x σ) (.to y σ)
  | _ => .bad
theorem evPick_ok (H : Holds c σ) (he : ARs c env a.tmps.toList) {q x y : Operand} (ho : o.op = .pick q x y) : (evPick σ (evO env x) (evO env y) (evO env q)).Ok P o a c σ := by
  have hq := evO_sound he q
  generalize evO env q = z at hq
  cases z <;> simp only [evPick] <;> try trivial
  case d z =>
    cases z <;> simp only [evPick] <;> try trivial
    case bool t =>
      simp only [AR, DR] at hq
      refine ⟨fun ht => ?_, fun ht => ?_⟩
      · subst ht; exact R1.Ok_to H (by simp [execOp, ho, hq, asBool]) (evO_sound he x)
      · subst ht; exact R1.Ok_to H (by simp [execOp, ho, hq, asBool]) (evO_sound he y)
def evNilCheck (σ : List AObj) (x : AV) : R1 :=
  match x with
  | .ptr .. | .rptr .. | .eptr _ | .fn .. => .to x σ
  | _ => .bad
theorem evNilCheck_ok (H : Holds c σ) (he : ARs c env a.tmps.toList) {x : Operand} (ho : o.op = .nilCheck x) : (evNilCheck σ (evO env x)).Ok P o a c σ := by
  have hx := evO_sound he x
  generalize evO env x = z at hx
  cases z <;> simp only [evNilCheck] <;> try trivial
  case ptr l off => have hx' := hx; simp only [AR] at hx; exact R1.Ok_to H (by simp [execOp, ho, hx.2]) hx'
  case rptr l s i j => have hx' := hx; simp only [AR] at hx; exact R1.Ok_to H (by simp [execOp, ho, hx.2]) hx'
  case eptr cs => have hx' := hx; simp only [AR] at hx; obtain ⟨ad, e, _⟩ := hx; rw [e] at hx'; exact R1.Ok_to H (by simp [execOp, ho, e]) hx'
  case fn f caps => have hx' := hx; simp only [AR] at hx; obtain ⟨vs, e, _⟩ := hx; rw [e] at hx'; exact R1.Ok_to H (by simp [execOp, ho, e]) hx'
def evExtract (σ : List AObj) (i : Nat) : AV → R1
  | .tup vs => .need (i < vs.length) (.to (lk vs i) σ)
  | _ => .bad
theorem evExtract_ok (H : Holds c σ) (he : ARs c env a.tmps.toList) {x : Operand} {i : Nat} (ho : o.op = .extract x i) : (evExtract σ i (evO env x)).Ok P o a c σ := by
  have hx := evO_sound he x
  generalize evO env x = z at hx
  cases z <;> simp only [evExtract] <;> try trivial
  case tup vs =>
    intro hi
    simp only [AR] at hx
    obtain ⟨us, e, hr⟩ := hx
    have hl := ARs_length hr
    have hlt : i < us.size := by simp at hl; omega
    have := ARs_lk hr i undef
    refine R1.Ok_to H (x := us[i]) ?_ (by simpa [hlt] using this)
    simp [execOp, ho, e, Instr.extract, hlt]
def evAll (env : List AV) : List Operand → List AV
  | [] => []
  | x :: xs => evO env x :: evAll env xs
theorem evAll_sound {c : Cf} {env : List AV} {a : Act} (h : ARs c env a.tmps.toList) : ∀ xs : List Operand, ARs c (evAll env xs) (xs.map a.eval)
  | [] => by simp [evAll, ARs]
  | x :: xs => by simp only [evAll, List.map_cons, ARs_cons]; exact ⟨evO_sound h x, evAll_sound h xs⟩
def evMakeFunc (σ : List AObj) (env : List AV) (caps : List Operand) : Fn → List Operand → R1
  | .func f, [] => .to (.fn f (evAll env caps)) σ
  | _, _ => .bad
theorem evMakeFunc_ok (H : Holds c σ) (he : ARs c env a.tmps.toList) {f : Fn} {first caps : Array Operand} (ho : o.op = .makeFunc f first caps) : (evMakeFunc σ env caps.toList f first.toList).Ok P o a c σ := by
  unfold evMakeFunc
  split
  · next f hfi =>
    have : first = #[] := by simpa using hfi
    subst this
    refine R1.Ok_to H (x := .func (.func f) #[] (caps.map a.eval)) (by simp [execOp, ho, Instr.makeFunc]) ?_
    simp only [AR]
    exact ⟨_, rfl, by simpa using evAll_sound he caps.toList⟩
  · trivial

/-! ### arithmetic -/
def evInt (σ : List AObj) (op : BinOp) (k : IntKind) (x y : Int) : R1 :=
  match op with
  | .add => .to (.d (.int k (k.wrap (x + y)))) σ
  | .sub => .to (.d (.int k (k.wrap (x - y)))) σ
  | .mul => .to (.d (.int k (k.wrap (x * y)))) σ
  | .quo => .need (y ≠ 0) (.to (.d (.int k (k.wrap (x.tdiv y)))) σ)
  | .rem => .need (y ≠ 0) (.to (.d (.int k (x.tmod y))) σ)
  | .and => .to (.d (.int k (k.wrap (BitVec.ofInt k.bits x &&& BitVec.ofInt k.bits y).toNat))) σ
  | .or => .to (.d (.int k (k.wrap (BitVec.ofInt k.bits x ||| BitVec.ofInt k.bits y).toNat))) σ
  | .xor => .to (.d (.int k (k.wrap (BitVec.ofInt k.bits x ^^^ BitVec.ofInt k.bits y).toNat))) σ
  | .andNot => .to (.d (.int k (k.wrap (BitVec.ofInt k.bits x &&& ~~~BitVec.ofInt k.bits y).toNat))) σ
  | .eql => .to (.d (.bool (x == y))) σ
  | .neq => .to (.d (.bool (x != y))) σ
  | .lss => .to (.d (.bool (decide (x < y)))) σ
  | .leq => .to (.d (.bool (decide (x ≤ y)))) σ
  | .gtr => .to (.d (.bool (decide (y < x)))) σ
  | .geq => .to (.d (.bool (decide (y ≤ x)))) σ
  | _ => .bad
def evShift (σ : List AObj) (op : BinOp) (k : IntKind) (x y : Int) : R1 :=
  match op with
  | .shl => .need (0 ≤ y) (.to (.d (.int k (k.wrap (x * 2 ^ (min y.toNat k.bits))))) σ)
  | .shr => .need (0 ≤ y) (.to (.d (.int k (x.fdiv (2 ^ (min y.toNat k.bits))))) σ)
  | _ => .bad
def isShift : BinOp → Bool
  | .shl => true
  | .shr => true
  | _ => false
def evStr (σ : List AObj) (op : BinOp) (x y : ByteArray) : R1 :=
  match op with
  | .add => .need (x.size + y.size ≤ 9223372036854775807) (.to (.d (.str (x ++ y))) σ)
  | .eql => .to (.d (.bool (x.toList == y.toList))) σ
  | .neq => .to (.d (.bool (!(x.toList == y.toList)))) σ
  | .lss => .to (.d (.bool (Op.bytesLess x.toList y.toList))) σ
  | .leq => .to (.d (.bool (Op.bytesLess x.toList y.toList || x.toList == y.toList))) σ
  | .gtr => .to (.d (.bool (!(Op.bytesLess x.toList y.toList || x.toList == y.toList)))) σ
  | .geq => .to (.d (.bool (!(Op.bytesLess x.toList y.toList)))) σ
  | _ => .bad
/-- data that '==' compares cell by cell -/
def deq : D → D → Bool
  | .int _ x, .int _ y => x == y
  | .bool x, .bool y => x == y
  | .str x, .str y => x.toList == y.toList
  | _, _ => false
def deqs : List D → List D → Bool
  | [], [] => true
  | x :: xs, y :: ys => deq x y && deqs xs ys
  | _, _ => false
inductive DK where
  | int (k : IntKind) | bool | str
  deriving DecidableEq
def dk : D → Option DK
  | .int k _ => some (.int k)
  | .bool _ => some .bool
  | .str _ => some .str
  | .sl _ => none
def toV : D → Value
  | .int k n => .int k n
  | .bool b => .bool b
  | .str s => .string s
  | .sl _ => undef
/-- '==' at a type of several cells of these kinds -/
def EqT (P : Program) (t : TypeId) (ks : List DK) : Prop :=
  ∀ (xs ys : List D) (x y : Operand) (w : World), xs.map dk = ks.map some → ys.map dk = ks.map some →
    (do eqGuard .eql t x y (.agg (xs.map toV).toArray) (.agg (ys.map toV).toArray); binOp .eql t (.agg (xs.map toV).toArray) (.agg (ys.map toV).toArray) : Sem Value).run P w = .ok (.bool (deqs xs ys)) w ∧
    (do eqGuard .neq t x y (.agg (xs.map toV).toArray) (.agg (ys.map toV).toArray); binOp .neq t (.agg (xs.map toV).toArray) (.agg (ys.map toV).toArray) : Sem Value).run P w = .ok (.bool (!deqs xs ys)) w
def dsOf : List AV → Option (List D)
  | [] => some []
  | .d x :: r => match dsOf r with
    | some xs => some (x :: xs)
    | none => none
  | _ => none
/-- the kinds that a type's cells have -/
def KT (P : Program) (t : TypeId) (ks : List DK) : Prop := EqT P t ks
def evEqA (P : Program) (σ : List AObj) (op : BinOp) (t : TypeId) : Option (List D) → Option (List D) → R1
  | some xs, some ys => match op with
    | .eql => .need (∃ ks, EqT P t ks ∧ xs.map dk = ks.map some ∧ ys.map dk = ks.map some) (.to (.d (.bool (deqs xs ys))) σ)
    | .neq => .need (∃ ks, EqT P t ks ∧ xs.map dk = ks.map some ∧ ys.map dk = ks.map some) (.to (.d (.bool (!deqs xs ys))) σ)
    | _ => .bad
  | _, _ => .bad
def evBin (P : Program) (σ : List AObj) (op : BinOp) (t : TypeId) : AV → AV → R1
  | .d (.int k x), .d (.int k' y) => if isShift op then evShift σ op k x y else if k = k' then evInt σ op k x y else .bad
  | .d (.str x), .d (.str y) => evStr σ op x y
  | .d (.bool x), .d (.bool y) => match P.underlying t with
    | some .bool => match op with
      | .eql => .to (.d (.bool (x == y))) σ
      | .neq => .to (.d (.bool (!(x == y)))) σ
      | _ => .bad
    | _ => .bad
  | .agg xs, .agg ys => evEqA P σ op t (dsOf xs) (dsOf ys)
  | _, _ => .bad

theorem dsOf_sound : ∀ {xs : List AV} {ys : List D} {vs : List Value}, dsOf xs = some ys → ARs c xs vs → DRs c.h ys vs
  | [], ys, vs, h, r => by simp [dsOf] at h; subst h; rw [ARs_nil_left r]; simp [DRs]
  | x :: xs, ys, vs, h, r => by
    obtain ⟨v, q, rfl, h1, h2⟩ := ARs_cons_left r
    cases x <;> simp only [dsOf] at h <;> try (simp at h; done)
    case d x =>
      split at h
      · next zs e => simp at h; subst h; simp only [DRs]; exact ⟨by simpa [AR] using h1, dsOf_sound e h2⟩
      · simp at h
theorem DRs_toV {h : Snap} : ∀ {xs : List D} {vs : List Value} {ks : List DK}, DRs h xs vs → xs.map dk = ks.map some → vs = xs.map toV
  | [], [], _, _, _ => rfl
  | x :: xs, v :: vs, ks, r, e => by
    simp only [DRs] at r
    cases ks with
    | nil => simp at e
    | cons k ks =>
      simp at e
      rw [DRs_toV r.2 e.2]
      cases x <;> simp [DR, dk, toV] at * <;> simp [r.1]
  | [], _ :: _, _, r, _ => by simp [DRs] at r
  | _ :: _, [], _, r, _ => by simp [DRs] at r

theorem evBin_ok (H : Holds c σ) (he : ARs c env a.tmps.toList) {op : BinOp} {t t2 : TypeId} {x y : Operand} (ho : o.op = .binOp op t x y t2) : (evBin P σ op t (evO env x) (evO env y)).Ok P o a c σ := by
  have hx := evO_sound he x
  have hy := evO_sound he y
  unfold evBin
  split
  · next k n k' m e1 e2 =>
    rw [e1] at hx; rw [e2] at hy
    simp only [AR, DR] at hx hy
    split
    · next hsh =>
      cases op <;> simp [isShift] at hsh <;> simp only [evShift] <;> intro h0
      · refine R1.Ok_to H (x := .int k (k.wrap (n * 2 ^ (min m.toNat k.bits)))) ?_ (by simp [AR, DR])
        simp [execOp, ho, hx, hy, eqGuard_at_int, Go.binOp, Op.shift, Int.not_lt.2 h0]
      · refine R1.Ok_to H (x := .int k (n.fdiv (2 ^ (min m.toNat k.bits)))) ?_ (by simp [AR, DR])
        simp [execOp, ho, hx, hy, eqGuard_at_int, Go.binOp, Op.shift, Int.not_lt.2 h0]
    · split
      · next hsh hk =>
        subst hk
        cases op <;> simp [isShift] at hsh <;> simp only [evInt]
        case quo => intro h0; exact R1.Ok_to H (x := .int k (k.wrap (n.tdiv m))) (by simp [execOp, ho, hx, hy, eqGuard_at_int, Go.binOp, Op.intDiv, h0]) (by simp [AR, DR])
        case rem => intro h0; exact R1.Ok_to H (x := .int k (n.tmod m)) (by simp [execOp, ho, hx, hy, eqGuard_at_int, Go.binOp, Op.intDiv, h0]) (by simp [AR, DR])
        all_goals exact R1.Ok_to H (by simp [execOp, ho, hx, hy, eqGuard_at_int, Go.binOp, Op.intArith, Op.intBits, Op.intCmp]; rfl) (by simp [AR, DR])
      · trivial
  · next s u e1 e2 =>
    rw [e1] at hx; rw [e2] at hy
    simp only [AR, DR] at hx hy
    cases op <;> simp only [evStr] <;> try trivial
    case add =>
      intro h0
      refine R1.Ok_to H (x := .string (s ++ u)) ?_ (by simp [AR, DR])
      have h1 : ¬ (IntKind.i64.max < (s.size : Int) + (u.size : Int)) := by rw [IntKind.max_i64]; omega
      have h2 : ¬ ((s.size + u.size : Nat) : Int) > IntKind.i64.max := by rw [IntKind.max_i64]; omega
      simp only [execOp, ho, hx, hy, eqGuard_at_string, Go.binOp, Op.stringOp, if_neg h2, Sem.run_bind, Sem.run_pure, Result.andThen_ok]
    all_goals exact R1.Ok_to H (by simp [execOp, ho, hx, hy, eqGuard_at_string, Go.binOp, Op.stringOp]; rfl) (by simp [AR, DR])
  · next s u e1 e2 =>
    rw [e1] at hx; rw [e2] at hy
    simp only [AR, DR] at hx hy
    split
    · next hu =>
      cases op <;> simp only [] <;> try trivial
      · exact R1.Ok_to H (x := .bool (s == u)) (by simp [execOp, ho, hx, hy, eqGuard_at_bool, run_eql_bool c.w t s u hu]) (by simp [AR, DR])
      · exact R1.Ok_to H (x := .bool (!(s == u))) (by simp [execOp, ho, hx, hy, eqGuard_at_bool, run_neq_bool c.w t s u hu]) (by simp [AR, DR])
    · trivial
  · next xs ys e1 e2 =>
    rw [e1] at hx; rw [e2] at hy
    simp only [AR] at hx hy
    obtain ⟨us, hx, rx⟩ := hx
    obtain ⟨vs, hy, ry⟩ := hy
    cases h1 : dsOf xs with
    | none => simp only [evEqA]; trivial
    | some ds =>
      cases h2 : dsOf ys with
      | none => simp only [evEqA]; trivial
      | some es =>
        have r1 := dsOf_sound h1 rx
        have r2 := dsOf_sound h2 ry
        cases op <;> simp only [evEqA] <;> try trivial
        all_goals
          rintro ⟨ks, hE, k1, k2⟩
          have q1 := DRs_toV r1 k1
          have q2 := DRs_toV r2 k2
          have u1 : us = (ds.map toV).toArray := by rw [← q1]
          have u2 : vs = (es.map toV).toArray := by rw [← q2]
          subst u1; subst u2
          have := hE ds es x y c.w k1 k2
        · refine R1.Ok_to H (x := .bool (deqs ds es)) ?_ (by simp [AR, DR])
          simp only [execOp, ho, hx, hy, Sem.run_bind, this.1, Result.andThen_ok, Sem.run_pure]
        · refine R1.Ok_to H (x := .bool (!deqs ds es)) ?_ (by simp [AR, DR])
          simp only [execOp, ho, hx, hy, Sem.run_bind, this.2, Result.andThen_ok, Sem.run_pure]
  · trivial

def evUn (σ : List AObj) (op : UnOp) : AV → R1
  | .d (.int k n) => match op with
    | .neg => .to (.d (.int k (k.wrap (0 - n)))) σ
    | .xor => .to (.d (.int k (k.wrap (BitVec.ofInt k.bits (if k.signed then -1 else k.max) ^^^ BitVec.ofInt k.bits n).toNat))) σ
    | _ => .bad
  | .d (.bool b) => match op with
    | .not => .to (.d (.bool (!b))) σ
    | _ => .bad
  | _ => .bad
theorem evUn_ok (H : Holds c σ) (he : ARs c env a.tmps.toList) {op : UnOp} {t : TypeId} {x : Operand} (ho : o.op = .unOp op t x) : (evUn σ op (evO env x)).Ok P o a c σ := by
  have hx := evO_sound he x
  unfold evUn
  split
  · next k n e =>
    rw [e] at hx
    simp only [AR, DR] at hx
    cases op <;> simp only [] <;> try trivial
    all_goals exact R1.Ok_to H (by simp [execOp, ho, hx, Op.unary, Op.intArith, Op.intBits]; rfl) (by simp [AR, DR])
  · next b e =>
    rw [e] at hx
    simp only [AR, DR] at hx
    cases op <;> simp only [] <;> try trivial
    all_goals exact R1.Ok_to H (by simp [execOp, ho, hx, Op.unary]; rfl) (by simp [AR, DR])
  · trivial
end
end Go.AX
/- AX, part H: slices that are made, grown and cut; lengths; conversions. -/
set_option linter.unusedVariables false
namespace Go.AX
section
variable {P : Program} {o : Oper} {a : Act} {c : Cf} {σ : List AObj} {env : List AV}

/-- what is known of a slice type's elements: cells, bytes -/
def ei (P : Program) (t : TypeId) : Option (Nat × Nat) :=
  match P.underlying t with
  | some (.slice e) => match P.info? e with
    | some i => match i.zero with
      | some z => if z.cells.size = i.size ∧ 0 < i.size then some (i.size, i.bytes) else none
      | none => none
    | none => none
  | _ => none
theorem ei_spec {t : TypeId} {sz by' : Nat} (h : ei P t = some (sz, by')) : ∃ e i z, P.underlying t = some (.slice e) ∧ P.info? e = some i ∧ i.zero = some z ∧ z.cells.size = sz ∧ i.size = sz ∧ i.bytes = by' ∧ 0 < sz := by
  unfold ei at h
  split at h
  · next e hu =>
    split at h
    · next i hi =>
      split at h
      · next z hz =>
        split at h
        · next hc => simp at h; obtain ⟨rfl, rfl⟩ := h; exact ⟨e, i, z, hu, hi, hz, hc.1, rfl, rfl, hc.2⟩
        · simp at h
      · simp at h
    · simp at h
  · simp at h

/-! ### what is appended -/
def bytesD (s : ByteArray) : List (List D) := s.data.toList.map fun b => [.int .u8 b.toNat]
def src (σ : List AObj) : AV → Option (List (List D))
  | .d (.sl es) => some es
  | .d (.str s) => some (bytesD s)
  | .nil => some []
  | .own l => match ob σ l with
    | .row _ es => some es
    | _ => none
  | .osl l sz lo n => match ob σ l with
    | .row sz' es => match sz == sz' && decide (lo + n ≤ es.length) with
      | true => some ((es.drop lo).take n)
      | false => none
    | _ => none
  | _ => none
theorem zeroCells_size (z : Array Value) (n : Nat) : (Builtin.zeroCells z n).size = n * z.size := by simp [Builtin.zeroCells]
theorem bytes_vals {h : Snap} : ∀ l : List UInt8, DRs h ((l.map fun b => [D.int .u8 (b.toNat : Int)]).flatten) (l.map fun b => Value.int .u8 (b.toNat : Int))
  | [] => by simp [DRs]
  | b :: l => by
    simp only [List.map_cons, List.flatten_cons, List.singleton_append, DRs]
    exact ⟨by simp [DR], bytes_vals l⟩
theorem DRows_vals {h : Snap} {A : Option Addr} {sz : Nat} : ∀ {es : List (List D)} {k : Nat}, DRows h es A sz k → ∃ vs, DRs h es.flatten vs ∧ vs.length = es.length * sz ∧ ∀ j v, vs[j]? = some v → ∃ a, A = some a ∧ a.spot = none ∧ h a.block (a.off + (k + j)) = some v
  | [], _, _ => ⟨[], by simp [DRs], by simp, by simp⟩
  | e :: es, k, r => by
    simp only [DRows] at r
    obtain ⟨h1, h2, h3⟩ := r
    obtain ⟨us, u1, u2⟩ := DCells_vals h2
    obtain ⟨vs, v1, v2, v3⟩ := DRows_vals h3
    have hl := DRs_length u1
    refine ⟨us ++ vs, by simpa using DRs_append u1 v1, by simp [v2, ← hl, h1, Nat.add_mul, Nat.add_comm], fun j v hj => ?_⟩
    rw [List.getElem?_append] at hj
    split at hj
    · exact u2 j v hj
    · next q =>
      obtain ⟨a, g1, g2, g3⟩ := v3 _ v hj
      exact ⟨a, g1, g2, by rw [← g3]; congr 1; omega⟩
theorem DRs_cuts {h : Snap} : ∀ {xs ys : List D} {vs : List Value}, DRs h (xs ++ ys) vs → DRs h xs (vs.take xs.length) ∧ DRs h ys (vs.drop xs.length)
  | [], ys, vs, r => by simpa [DRs] using r
  | x :: xs, ys, [], r => by simp [DRs] at r
  | x :: xs, ys, v :: vs, r => by
    simp only [List.cons_append, DRs] at r
    obtain ⟨a, b⟩ := DRs_cuts r.2
    exact ⟨by simpa [DRs] using ⟨r.1, a⟩, by simpa using b⟩
theorem DRs_cut {h : Snap} {sz : Nat} {es : List (List D)} {vs : List Value} (r : DRs h es.flatten vs) (hs : ∀ e ∈ es, e.length = sz) (lo n : Nat) (hle : lo + n ≤ es.length) : DRs h ((es.drop lo).take n).flatten ((vs.drop (lo * sz)).take (n * sz)) := by
  have e1 : es = es.take lo ++ ((es.drop lo).take n ++ (es.drop lo).drop n) := by rw [List.take_append_drop, List.take_append_drop]
  have r' := r
  rw [e1, List.flatten_append, List.flatten_append] at r'
  have l1 : (es.take lo).flatten.length = lo * sz := by rw [flatten_len fun x hx => hs x (List.mem_of_mem_take hx)]; congr 1; simp; omega
  have l2 : ((es.drop lo).take n).flatten.length = n * sz := by rw [flatten_len fun x hx => hs x (List.mem_of_mem_drop (List.mem_of_mem_take hx))]; congr 1; simp; omega
  have q := (DRs_cuts (DRs_cuts r').2).1
  rwa [l1, l2] at q
theorem src_ok (H : Holds c σ) {x : AV} {v : Value} {es : List (List D)} {sz : Nat} (hx : AR c x v) (h : src σ x = some es) (hs : ∀ e ∈ es, e.length = sz) (hsz : 0 < sz) :
    ∃ news : List Value, DRs c.h es.flatten news ∧ news.length = es.length * sz ∧ ∀ w : World, w.heap = c.w.heap → (Builtin.lenOf v).run P w = .ok es.length w ∧ (Builtin.firstCells sz es.length v).run P w = .ok news.toArray w := by
  unfold src at h
  split at h
  · next es' =>
    simp at h; subst h
    simp only [AR, DR] at hx
    obtain ⟨A, cap, sz', rfl, h1, h2, h3, h4⟩ := hx
    have hsz' : es' ≠ [] → sz' = sz := fun hne => by
      cases es' with
      | nil => exact absurd rfl hne
      | cons e es' => simp only [DRows] at h4; rw [← h4.1]; exact hs e (by simp)
    obtain ⟨news, n1, n2, n3⟩ := DRows_vals h4
    have hl : news.length = es'.length * sz := by
      rw [n2]
      by_cases q : es' = []
      · subst q; simp
      · rw [hsz' q]
    refine ⟨news, n1, hl, fun w hw => ⟨by simp [Builtin.lenOf], ?_⟩⟩
    cases A with
    | none =>
      have := h3 rfl
      subst this
      have : news = [] := by simpa using hl
      subst this
      simp [run_firstCells_none]
    | some ad =>
      refine run_firstCells_some w sz es'.length ad _ _ news hl fun j u hu => ?_
      obtain ⟨a', q1, q2, q3⟩ := n3 j u hu
      obtain rfl := Option.some.inj q1
      have := H.snap _ _ _ q3
      rw [addr_add' q2]
      rw [heap_cell (w := c.w) (by rw [hw])]
      simpa using this
  · next s =>
    simp at h; subst h
    simp only [AR, DR] at hx
    subst hx
    have : sz = 1 ∨ s.data.toList = [] := by
      cases q : s.data.toList with
      | nil => exact .inr rfl
      | cons b l => exact .inl (hs [.int .u8 b.toNat] (by simp [bytesD, q])).symm
    refine ⟨s.data.toList.map fun b => .int .u8 (b.toNat : Int), bytes_vals _, ?_, fun w _ => ⟨by simp [Builtin.lenOf, bytesD], ?_⟩⟩
    · rcases this with rfl | q
      · simp [bytesD]
      · simp [bytesD, q]
    · simp only [Builtin.firstCells, Sem.run_pure, bytesD, List.length_map]
      congr 1
      apply Array.ext'
      simp only [Array.toList_map]
      congr 1
      have : (s.extract 0 s.data.toList.length) = s := by
        apply ByteArray.ext
        simp [ByteArray.data_extract]
      rw [this]
  · simp at h; subst h
    simp only [AR] at hx
    obtain ⟨A, rfl⟩ := hx
    refine ⟨[], by simp [DRs], by simp, fun w _ => ⟨by simp [Builtin.lenOf], ?_⟩⟩
    cases A with
    | none => simp [run_firstCells_none]
    | some ad => exact run_firstCells_some w sz 0 ad 0 0 [] (by simp) (by simp)
  · next l =>
    split at h
    · next sz' es' hO =>
      simp at h; subst h
      simp only [AR] at hx
      obtain ⟨_, rfl, _⟩ := hx
      rcases H.obj l _ (ob_some hO (by simp)) with ⟨rfl, A, e⟩ | ⟨cap, vs, ty, h0, g1, g2, g3, g4, g5, g6⟩
      · rw [e]
        refine ⟨[], by simp [DRs], by simp, fun w _ => ⟨by simp [Builtin.lenOf], ?_⟩⟩
        cases A with
        | none => simp [run_firstCells_none]
        | some ad => exact run_firstCells_some w sz 0 ad 0 0 [] (by simp) (by simp)
      · have hl : (vs.toList.take (es'.length * sz')).length = es'.length * sz' := by
          rw [List.length_take, Nat.min_eq_left]
          have := Nat.mul_le_mul_right sz' g2
          simp; omega
        have hsz' : es' ≠ [] → sz' = sz := fun hne => by
          cases es' with
          | nil => exact absurd rfl hne
          | cons e es' => rw [← g5 e (by simp)]; exact hs e (by simp)
        have hl2 : (vs.toList.take (es'.length * sz')).length = es'.length * sz := by
          rw [hl]
          by_cases q : es' = []
          · subst q; simp
          · rw [hsz' q]
        refine ⟨_, g6, hl2, fun w hw => ⟨by rw [g1]; simp [Builtin.lenOf], ?_⟩⟩
        rw [g1]
        refine run_firstCells_some w sz es'.length _ _ _ _ hl2 fun j u hu => ?_
        rw [addr_add, heap_cell (w := c.w) (by rw [hw])]
        rw [List.getElem?_take] at hu
        split at hu
        · simpa [World.cell?, g3] using hu
        · simp at hu
    · simp at h
  · next l sz1 lo n =>
    split at h
    · next sz' es' hO =>
      split at h
      · next hb =>
        simp only [Bool.and_eq_true, beq_iff_eq, decide_eq_true_eq] at hb
        obtain ⟨rfl, hle⟩ := hb
        simp at h; subst h
        simp only [AR] at hx
        obtain ⟨_, A, cap', rfl, hnc, hA⟩ := hx
        have hlen : ((es'.drop lo).take n).length = n := by simp; omega
        rw [hlen]
        by_cases h0 : n = 0
        · subst h0
          refine ⟨[], by simp [DRs], by simp, fun w hw => ⟨by simp [Builtin.lenOf], ?_⟩⟩
          cases A with
          | none => simp [run_firstCells_none]
          | some ad => exact run_firstCells_some w sz 0 ad 0 _ [] (by simp) (by simp)
        have hA := hA (by omega)
        subst hA
        rcases H.obj l _ (ob_some hO (by simp)) with ⟨rfl, A, e⟩ | ⟨cap, vs, ty, h1, g1, g2, g3, g4, g5, g6⟩
        · simp at hle; omega
        · have hsz : sz1 = sz := by
            cases q : (es'.drop lo).take n with
            | nil => rw [q] at hlen; simp at hlen; omega
            | cons e r =>
              have he : e ∈ (es'.drop lo).take n := by rw [q]; simp
              rw [← hs e he]
              exact (g5 e (List.mem_of_mem_drop (List.mem_of_mem_take he))).symm
          subst hsz
          have hcut := DRs_cut g6 g5 lo n hle
          have hsw := Nat.mul_le_mul_right sz1 g2
          have hl : (((vs.toList.take (es'.length * sz1)).drop (lo * sz1)).take (n * sz1)).length = n * sz1 := by
            have := Nat.mul_le_mul_right sz1 hle
            rw [Nat.add_mul] at this
            simp; omega
          refine ⟨_, hcut, hl, fun w hw => ⟨by simp [Builtin.lenOf], ?_⟩⟩
          refine run_firstCells_some w sz1 n _ _ _ _ hl fun j u hu => ?_
          rw [addr_add' (by rfl), heap_cell (w := c.w) (by rw [hw])]
          rw [List.getElem?_take] at hu
          split at hu
          · rw [List.getElem?_drop, List.getElem?_take] at hu
            split at hu
            · simpa [World.cell?, g3] using hu
            · simp at hu
          · simp at hu
      · simp at h
    · simp at h
  · simp at h

theorem run_append_new {w : World} {t t' ty e : TypeId} {i : TypeInfo} {z : Value} (ht : P.underlying t = some (.slice e)) (ht' : (∃ e', P.underlying t' = some (.slice e')) ∨ P.underlying t' = some .string)
    (hi : P.info? e = some i) (hz : i.zero = some z) {base : Option Addr} {n cap k : Nat} {x : Value} {old new : Array Value}
    (hlen : ∀ w' : World, w'.heap = w.heap → (Builtin.lenOf x).run P w' = .ok k w') (hnew : ∀ w' : World, w'.heap = w.heap → (Builtin.firstCells i.size k x).run P w' = .ok new w')
    (hold : ∀ w' : World, w'.heap = w.heap → (Builtin.firstCells i.size n (.slice base n cap)).run P w' = .ok old w')
    (hg : cap < n + k) (h63 : ((n + k : Nat) : Int) ≤ 9223372036854775807) (hfit : (n + k) * i.bytes ≤ 140737488355328) :
    (Builtin.append_ #[t, t'] ty #[.slice base n cap, x]).run P w =
      .ok (.slice (some ⟨w.heap.size, 0, none⟩) (n + k) (grownCap w (n + k) cap e)) (w.drew.alloc (.cells (old ++ new ++ Builtin.zeroCells z.cells (grownCap w (n + k) cap e - (n + k))) e)) := by
  have hn : ¬ (n + k ≤ cap) := by omega
  have h63' : ¬ (9223372036854775807 < ((n : Int) + (k : Int))) := by omega
  have h48' : ¬ (281474976710656 < Builtin.nextslicecap (n + k) cap * i.bytes) := by have := growslice_fits hg hfit; omega
  have h1 := hlen w rfl
  have h2 := hnew w.drew rfl
  have h3 := hold w.drew rfl
  rcases ht' with ⟨e', hd⟩ | hd <;>
    simp [Builtin.append_, run_underlying ht, run_underlying hd, sizeOf, typeInfo, zeroValue, hi, hz, h1, hn, h63', h48', Question.forced, h2, h3, newRow, grownCap]
theorem run_append_in {w : World} {t t' ty e : TypeId} {i : TypeInfo} (ht : P.underlying t = some (.slice e)) (ht' : (∃ e', P.underlying t' = some (.slice e')) ∨ P.underlying t' = some .string)
    (hi : P.info? e = some i) {base : Option Addr} {n cap k : Nat} {x : Value} {new : Array Value} {w' : World}
    (hlen : (Builtin.lenOf x).run P w = .ok k w) (hnew : (Builtin.firstCells i.size k x).run P w = .ok new w) (hg : n + k ≤ cap)
    (hst : ∀ a, base = some a → (storeCells (a.add (n * i.size)) new.toList 0).run P w = .ok () w') (hno : base = none → w' = w) :
    (Builtin.append_ #[t, t'] ty #[.slice base n cap, x]).run P w = .ok (.slice base (n + k) cap) w' := by
  cases base with
  | none => have := hno rfl; subst this; rcases ht' with ⟨e', hd⟩ | hd <;> simp [Builtin.append_, run_underlying ht, run_underlying hd, sizeOf, typeInfo, hi, hlen, hg, hnew]
  | some ad =>
    have := hst ad rfl
    rcases ht' with ⟨e', hd⟩ | hd <;> simp [Builtin.append_, run_underlying ht, run_underlying hd, sizeOf, typeInfo, hi, hlen, hg, hnew, this]
end
end Go.AX
/- AX, part I: append, make, slice literals, cuts. -/
set_option linter.unusedVariables false
namespace Go.AX
section
variable {P : Program} {o : Oper} {a : Act} {c : Cf} {σ : List AObj} {env : List AV}

def srcT (P : Program) (t : TypeId) : Bool :=
  match P.underlying t with
  | some (.slice _) => true
  | some .string => true
  | _ => false
theorem srcT_spec {t : TypeId} (h : srcT P t = true) : (∃ e', P.underlying t = some (.slice e')) ∨ P.underlying t = some .string := by
  unfold srcT at h
  split at h
  · next e hu => exact .inl ⟨e, hu⟩
  · next hu => exact .inr hu
  · simp at h
def evAppend2 (σ : List AObj) (sz by' : Nat) (es2 : List (List D)) : AV → R1
  | .nil => .need ((∀ e ∈ es2, e.length = sz) ∧ es2.length * by' ≤ 140737488355328 ∧ es2.length ≤ 9223372036854775807) (.to (.own σ.length) (σ ++ [.row sz es2]))
  | .own l => match ob σ l with
    | .row sz' es => .need (sz' = sz ∧ (∀ e ∈ es2, e.length = sz) ∧ (es.length + es2.length) * by' ≤ 140737488355328 ∧ es.length + es2.length ≤ 9223372036854775807) (.to (.own σ.length) (so σ l .gone ++ [.row sz (es ++ es2)]))
    | _ => .bad
  | _ => .bad
def evAppend1 (P : Program) (σ : List AObj) (t t' : TypeId) (s : AV) : Option (List (List D)) → R1
  | some es2 => match ei P t, srcT P t' with
    | some (sz, by'), true => evAppend2 σ sz by' es2 s
    | _, _ => .bad
  | none => .bad
def isV (σ : List AObj) : AV → Bool
  | .own l => match ob σ l with
    | .vec _ _ => true
    | _ => false
  | _ => false
def upD (es : List (List D)) : List (List AV) := es.map fun e => e.map .d
def srcV (σ : List AObj) (x : AV) : Option (List (List AV)) :=
  match x with
  | .own l => match ob σ l with
    | .vec _ es => some es
    | _ => (src σ x).map upD
  | _ => (src σ x).map upD
def evAppV2 (σ : List AObj) (sz by' : Nat) (es2 : List (List AV)) : AV → R1
  | .nil => .need ((∀ e ∈ es2, e.length = sz) ∧ es2.flatten.all oneC = true ∧ es2.length * by' ≤ 140737488355328 ∧ es2.length ≤ 9223372036854775807) (.to (.own σ.length) (σ ++ [.vec sz es2]))
  | .own l => match ob σ l with
    | .vec sz' es => .need (sz' = sz ∧ (∀ e ∈ es2, e.length = sz) ∧ es2.flatten.all oneC = true ∧ (es.length + es2.length) * by' ≤ 140737488355328 ∧ es.length + es2.length ≤ 9223372036854775807) (.to (.own σ.length) (so σ l .gone ++ [.vec sz (es ++ es2)]))
    | _ => .bad
  | _ => .bad
def evAppV1 (P : Program) (σ : List AObj) (t t' : TypeId) (s : AV) : Option (List (List AV)) → R1
  | some es2 => match ei P t, srcT P t' with
    | some (sz, by'), true => evAppV2 σ sz by' es2 s
    | _, _ => .bad
  | none => .bad
def evAppend (P : Program) (σ : List AObj) (ts : List TypeId) (xs : List AV) : R1 :=
  match ts, xs with
  | [t, t'], [s, x] => match isV σ s || isV σ x with
    | true => evAppV1 P σ t t' s (srcV σ x)
    | false => evAppend1 P σ t t' s (src σ x)
  | _, _ => .bad

def dropL (σ : List AObj) : AV → List AObj
  | .own l => σ.set l .gone
  | _ => σ
/-- a new row, behind a draw or not -/
theorem Nxt.newRow {c : Cf} {σ : List AObj} (H : Holds c σ) {sz : Nat} {es : List (List D)} {vs : Array Value} {ty : TypeId} {cap : Nat} (h0 : 0 < cap) (hcap : es.length ≤ cap) (hv : vs.size = cap * sz)
    (hs : ∀ e ∈ es, e.length = sz) (hd : DRs c.h es.flatten (vs.toList.take (es.length * sz))) :
    ∃ c', c'.w = c.w.alloc (.cells vs ty) ∧ AR c' (.own σ.length) (.slice (some ⟨c.w.heap.size, 0, none⟩) es.length cap) ∧ Nxt c σ c' (σ ++ [.row sz es]) := by
  refine ⟨c.put (c.w.alloc (.cells vs ty)) c.w.heap.size (.slice (some ⟨c.w.heap.size, 0, none⟩) es.length cap), rfl, ?_, Nxt.new H _ _ _ (.inr ?_)⟩
  · simp only [AR]; exact ⟨by simp [Cf.put, H.n], by simp [Cf.put, H.n], _, _, _, rfl⟩
  · refine ⟨cap, vs, ty, h0, by simp [Cf.put], hcap, ?_, hv, hs, hd⟩
    have : (c.put (c.w.alloc (.cells vs ty)) c.w.heap.size (.slice (some ⟨c.w.heap.size, 0, none⟩) es.length cap)).ν c.n = c.w.heap.size := by simp [Cf.put]
    rw [this]
    show (c.w.heap.push _)[c.w.heap.size]? = _
    simp
theorem take_left' {α : Type} {l r : List α} {n : Nat} (h : l.length = n) : (l ++ r).take n = l := by subst h; simp
theorem grownCap_le (w : World) (need old : Nat) (e : TypeId) : need ≤ grownCap w need old e := by simp [grownCap, Question.cut]

theorem append_rel {c : Cf} {σ : List AObj} (H : Holds c σ) {t t' ty : TypeId} {sz by' : Nat} (hei : ei P t = some (sz, by')) (ht' : srcT P t' = true) {s x : AV} {vs vx : Value} {es es2 : List (List D)}
    (hs : AR c s vs) (hx : AR c x vx) (h2 : src σ x = some es2) (hl2 : ∀ e ∈ es2, e.length = sz) (hfit : (es.length + es2.length) * by' ≤ 140737488355328) (h63 : es.length + es2.length ≤ 9223372036854775807)
    (hcase : (s = .nil ∧ es = []) ∨ ∃ l, s = .own l ∧ ob σ l = .row sz es) :
    ∃ v c', (Builtin.append_ #[t, t'] ty #[vs, vx]).run P c.w = .ok v c'.w ∧ AR c' (.own σ.length) v ∧
      Nxt c σ c' (dropL σ s ++ [.row sz (es ++ es2)]) := by
  obtain ⟨e, i, z, hu, hi, hz, g1, g2, g3, g4⟩ := ei_spec hei
  obtain ⟨news, n1, n2, n3⟩ := src_ok (P := P) H hx h2 hl2 g4
  have hsrc := srcT_spec ht'
  -- the row that is appended to
  have hrow : ∃ base cap olds, vs = .slice base es.length cap ∧ es.length ≤ cap ∧ (∀ e ∈ es, e.length = sz) ∧ DRs c.h es.flatten olds ∧ olds.length = es.length * sz ∧
      (∀ w : World, w.heap = c.w.heap → (Builtin.firstCells sz es.length (.slice base es.length cap)).run P w = .ok olds.toArray w) ∧
      (cap = 0 ∨ ∃ l us ty', s = .own l ∧ ob σ l = .row sz es ∧ 0 < cap ∧ c.u l = .slice base es.length cap ∧ base = some ⟨c.ν l, 0, none⟩ ∧ c.w.heap[c.ν l]? = some (.cells us ty' (0, 0)) ∧ us.size = cap * sz ∧ olds = us.toList.take (es.length * sz)) := by
    rcases hcase with ⟨rfl, rfl⟩ | ⟨l, rfl, hO⟩
    · simp only [AR] at hs
      obtain ⟨A, rfl⟩ := hs
      refine ⟨A, 0, [], rfl, Nat.le_refl _, by simp, by simp [DRs], by simp, fun w _ => ?_, .inl rfl⟩
      cases A with
      | none => simp [run_firstCells_none]
      | some ad => exact run_firstCells_some w sz 0 ad 0 0 [] (by simp) (by simp)
    · simp only [AR] at hs
      obtain ⟨_, rfl, _⟩ := hs
      rcases H.obj l _ (ob_some hO (by simp)) with ⟨rfl, A, e⟩ | ⟨cap, us, ty', h0, q1, q2, q3, q4, q5, q6⟩
      · refine ⟨A, 0, [], e, Nat.le_refl _, by simp, by simp [DRs], by simp, fun w _ => ?_, .inl rfl⟩
        cases A with
        | none => simp [run_firstCells_none]
        | some ad => exact run_firstCells_some w sz 0 ad 0 0 [] (by simp) (by simp)
      · have hl : (us.toList.take (es.length * sz)).length = es.length * sz := by
          rw [List.length_take, Nat.min_eq_left]
          have := Nat.mul_le_mul_right sz q2
          simp; omega
        refine ⟨_, cap, _, q1, q2, q5, q6, hl, fun w hw => ?_, .inr ⟨l, us, ty', rfl, hO, h0, q1, rfl, q3, q4, rfl⟩⟩
        refine run_firstCells_some w sz es.length _ _ _ _ hl fun j u hj => ?_
        rw [addr_add, heap_cell (w := c.w) (by rw [hw])]
        rw [List.getElem?_take] at hj
        split at hj
        · simpa [World.cell?, q3] using hj
        · simp at hj
  obtain ⟨base, cap, olds, rfl, hcap, hes, o1, o2, o3, o4⟩ := hrow
  have hall : ∀ e ∈ es ++ es2, e.length = sz := fun e he => by
    rcases List.mem_append.1 he with q | q
    · exact hes e q
    · exact hl2 e q
  have hd : DRs c.h (es ++ es2).flatten (olds ++ news) := by simpa using DRs_append o1 n1
  -- dropping the old label
  have hdrop : ∀ c1 : Cf, Holds c1 σ → Nxt c1 σ c1 (dropL σ s) := fun c1 H1 => by
    unfold dropL
    cases s <;> first | exact Nxt.drop H1 _ | exact Nxt.refl H1
  have hlen' : (dropL σ s).length = σ.length := by cases s <;> simp [dropL]
  by_cases hg : es.length + es2.length ≤ cap
  · -- there is room
    rcases o4 with h0 | ⟨l, us, ty', rfl, hO, h0, hu', rfl, hb, hsz, ho⟩
    · subst h0
      have e1 : es = [] := by cases es <;> simp_all
      have e2 : es2 = [] := by cases es2 <;> simp_all
      subst e1; subst e2
      have hnil : news = [] := by simpa using n2
      subst hnil
      have hrun := run_append_in (ty := ty) hu hsrc hi (w := c.w) (base := base) (n := 0) (cap := 0) (k := 0) (x := vx) (new := #[]) (w' := c.w) (n3 c.w rfl).1 (by rw [g2]; exact (n3 c.w rfl).2) (Nat.le_refl _)
        (fun a _ => by simp [storeCells]) (fun _ => rfl)
      have hN := hdrop c H
      refine ⟨.slice base 0 0, c.put c.w 0 (.slice base 0 0), hrun, ?_, hN.trans (Nxt.bare hN.hold (.slice base 0 0) (.row sz ([] ++ [])) (.inl ⟨rfl, base, by simp [Cf.put]⟩) ?_)⟩
      · simp only [AR]; exact ⟨by simp [Cf.put, H.n], by simp [Cf.put, H.n], _, _, _, rfl⟩
      · simp [Has, Cf.put]
    · have hl := ob_some hO (by simp)
      have hsw : (es.length + es2.length) * sz ≤ us.size := by rw [hsz]; exact Nat.mul_le_mul_right _ hg
      have hadd : (es.length + es2.length) * sz = es.length * sz + es2.length * sz := Nat.add_mul _ _ _
      have hone := DRs_one n1
      have hst := run_storeCells_at P (c.ν l) (es.length * sz) ty' news 0 us c.w hb (by rw [n2]; omega) hone
      simp only [Nat.add_zero] at hst
      obtain ⟨cur', hcur⟩ : ∃ q : Array Value, q = (us.toList.take (es.length * sz) ++ news ++ us.toList.drop (es.length * sz + news.length)).toArray := ⟨_, rfl⟩
      rw [← hcur] at hst
      have hcurl : cur'.toList = us.toList.take (es.length * sz) ++ news ++ us.toList.drop (es.length * sz + news.length) := by rw [hcur]
      have hcurs : cur'.size = cap * sz := by rw [hcur]; simp [n2]; omega
      have hrun := run_append_in (ty := ty) hu hsrc hi (w := c.w) (base := some ⟨c.ν l, 0, none⟩) (n := es.length) (cap := cap) (k := es2.length) (x := vx) (new := news.toArray)
        (w' := c.w.setRow (c.ν l) cur') (n3 c.w rfl).1 (by rw [g2]; exact (n3 c.w rfl).2) hg
        (fun a e => by cases e; rw [g2, addr_add]; simpa using hst) (fun e => by simp at e)
      have hres : RowB (c.at (c.w.setRow (c.ν l) cur')) l sz es := by
        refine ⟨cap, cur', ty', h0, hu', hcap, setRow_heap _ _ _ _ _ _ hb, ?_, hes, ?_⟩
        · exact hcurs
        · have : (cur'.toList).take (es.length * sz) = olds := by
            rw [hcurl, ho]; simp only [List.append_assoc]
            exact take_left' (by rw [← ho]; exact o2)
          rw [this]; exact o1
      have N1 := Nxt.upd H hl ⟨_, _, _, hu', h0⟩ _ (heap_same (cs := cur')) (by simp) rfl rfl rfl (o' := .row sz es) (.inr hres)
      have hset : σ.set l (.row sz es) = σ := by
        apply List.ext_getElem?
        intro j
        rw [List.getElem?_set]
        split
        · next q => subst q; rw [if_pos (some_lt hl), hl]
        · rfl
      rw [hset] at N1
      have N2 := Nxt.take N1.hold (l := l) hl ⟨_, _, _, hu', h0⟩ (.slice (some ⟨c.ν l, 0, none⟩) (es.length + es2.length) cap) (o' := .row sz (es ++ es2)) (.inr ?_)
      · refine ⟨_, _, hrun, ?_, N1.trans N2⟩
        simp only [AR]; exact ⟨by simp [Cf.put, Cf.at, H.n], by simp [Cf.put, Cf.at, H.n], _, _, _, rfl⟩
      · refine ⟨cap, cur', ty', h0, by simp [Cf.put, Cf.at], by simpa using hg, ?_, ?_, hall, ?_⟩
        · have : (Cf.put (c.at (c.w.setRow (c.ν l) cur')) (c.at (c.w.setRow (c.ν l) cur')).w ((c.at (c.w.setRow (c.ν l) cur')).ν l) (.slice (some ⟨c.ν l, 0, none⟩) (es.length + es2.length) cap)).ν (c.at (c.w.setRow (c.ν l) cur')).n = c.ν l := by simp [Cf.put, Cf.at]
          rw [this]
          exact setRow_heap _ _ _ _ _ _ hb
        · exact hcurs
        · have : (cur'.toList).take ((es ++ es2).length * sz) = olds ++ news := by
            rw [hcurl, ← ho]; exact take_left' (by simp [o2, n2, Nat.add_mul])
          rw [this]; exact hd
  · -- a new array
    have hrun := run_append_new (ty := ty) hu hsrc hi hz (w := c.w) (base := base) (n := es.length) (cap := cap) (k := es2.length) (x := vx) (old := olds.toArray) (new := news.toArray) (fun w hw => (n3 w hw).1) (fun w hw => by rw [g2]; exact (n3 w hw).2)
      (fun w hw => by rw [g2]; exact o3 w hw) (by omega) (by omega) (by rw [g3]; exact hfit)
    have N0 := Nxt.drew H
    have hle := grownCap_le c.w (es.length + es2.length) cap e
    obtain ⟨c', w1, a1, N1⟩ := Nxt.newRow (c := c.at c.w.drew) (hdrop _ N0.hold).hold (sz := sz) (es := es ++ es2) (vs := olds.toArray ++ news.toArray ++ Builtin.zeroCells z.cells (grownCap c.w (es.length + es2.length) cap e - (es.length + es2.length))) (ty := e)
      (cap := grownCap c.w (es.length + es2.length) cap e) (by omega) (by simpa using hle) (by
        simp only [Array.size_append, zeroCells_size, g1, List.size_toArray, o2, n2]
        rw [← Nat.add_mul, ← Nat.add_mul]; congr 1; omega) hall (by
        have : ((olds.toArray ++ news.toArray ++ Builtin.zeroCells z.cells (grownCap c.w (es.length + es2.length) cap e - (es.length + es2.length))).toList).take ((es ++ es2).length * sz) = olds ++ news := by
          simp only [Array.toList_append]
          exact take_left' (by simp [o2, n2, Nat.add_mul])
        rw [this]; exact hd)
    rw [hlen'] at a1
    refine ⟨_, c', by rw [hrun, w1]; rfl, ?_, N0.trans ((hdrop _ N0.hold).trans N1)⟩
    rw [List.length_append] at a1
    exact a1
/-- a new vec, behind a draw or not -/
theorem Nxt.newVec {c : Cf} {σ : List AObj} (H : Holds c σ) {sz : Nat} {es : List (List AV)} {vs : Array Value} {ty : TypeId} {cap : Nat} (h0 : 0 < cap) (hcap : es.length ≤ cap) (hv : vs.size = cap * sz)
    (hs : ∀ e ∈ es, e.length = sz) (hd : ARs c es.flatten (vs.toList.take (es.length * sz))) :
    ∃ c', c'.w = c.w.alloc (.cells vs ty) ∧ AR c' (.own σ.length) (.slice (some ⟨c.w.heap.size, 0, none⟩) es.length cap) ∧ Nxt c σ c' (σ ++ [.vec sz es]) := by
  refine ⟨c.put (c.w.alloc (.cells vs ty)) c.w.heap.size (.slice (some ⟨c.w.heap.size, 0, none⟩) es.length cap), rfl, ?_, Nxt.new H _ _ _ (.inr ?_)⟩
  · simp only [AR]; exact ⟨by simp [Cf.put, H.n], by simp [Cf.put, H.n], _, _, _, rfl⟩
  · refine ⟨cap, vs, ty, h0, by simp [Cf.put], hcap, ?_, hv, hs, ARs.mono (c.le_put _ _ _) _ hd⟩
    have : (c.put (c.w.alloc (.cells vs ty)) c.w.heap.size (.slice (some ⟨c.w.heap.size, 0, none⟩) es.length cap)).ν c.n = c.w.heap.size := by simp [Cf.put]
    rw [this]
    show (c.w.heap.push _)[c.w.heap.size]? = _
    simp
/-- what is appended, by AVs -/
theorem ARs_up {c : Cf} : ∀ {xs : List D} {vs : List Value}, DRs c.h xs vs → ARs c (xs.map .d) vs
  | [], [], _ => ARs_nil
  | x :: xs, v :: vs, h => by simp only [DRs] at h; exact ARs_cons.2 ⟨by simpa [AR] using h.1, ARs_up h.2⟩
  | [], _ :: _, h => by simp [DRs] at h
  | _ :: _, [], h => by simp [DRs] at h
theorem upD_flat : ∀ es : List (List D), (upD es).flatten = es.flatten.map .d
  | [] => rfl
  | e :: es => by have := upD_flat es; simp only [upD, List.map_cons, List.flatten_cons, List.map_append] at this ⊢; rw [this]
theorem srcV_ok (H : Holds c σ) {x : AV} {v : Value} {es : List (List AV)} {sz : Nat} (hx : AR c x v) (h : srcV σ x = some es) (hs : ∀ e ∈ es, e.length = sz) (hsz : 0 < sz) :
    ∃ news : List Value, ARs c es.flatten news ∧ news.length = es.length * sz ∧ ∀ w : World, w.heap = c.w.heap → (Builtin.lenOf v).run P w = .ok es.length w ∧ (Builtin.firstCells sz es.length v).run P w = .ok news.toArray w := by
  have old : ∀ es0, src σ x = some es0 → upD es0 = es → ∃ news : List Value, ARs c es.flatten news ∧ news.length = es.length * sz ∧ ∀ w : World, w.heap = c.w.heap → (Builtin.lenOf v).run P w = .ok es.length w ∧ (Builtin.firstCells sz es.length v).run P w = .ok news.toArray w := by
    rintro es0 h0 rfl
    obtain ⟨news, n1, n2, n3⟩ := src_ok (P := P) H hx h0 (sz := sz) (fun e he => by have := hs (e.map .d) (List.mem_map_of_mem he); simpa using this) hsz
    refine ⟨news, by rw [upD_flat]; exact ARs_up n1, by simpa [upD] using n2, fun w hw => by simpa [upD] using n3 w hw⟩
  unfold srcV at h
  split at h
  · next l =>
    split at h
    · next sz' es' hO =>
      simp at h; subst h
      simp only [AR] at hx
      obtain ⟨_, rfl, _⟩ := hx
      rcases H.obj l _ (ob_some hO (by simp)) with ⟨rfl, A, e⟩ | ⟨cap, vs, ty, h0, g1, g2, g3, g4, g5, g6⟩
      · rw [e]
        refine ⟨[], ARs_nil, by simp, fun w hw => ⟨by simp [Builtin.lenOf], ?_⟩⟩
        cases A with
        | none => simp [run_firstCells_none]
        | some ad => exact run_firstCells_some w sz 0 ad 0 0 [] (by simp) (by simp)
      · have hl : (vs.toList.take (es'.length * sz')).length = es'.length * sz' := by
          rw [List.length_take, Nat.min_eq_left]
          have := Nat.mul_le_mul_right sz' g2
          simp; omega
        have hsz' : es' ≠ [] → sz' = sz := fun hne => by
          cases es' with
          | nil => exact absurd rfl hne
          | cons e es' => rw [← g5 e (by simp)]; exact hs e (by simp)
        have hl2 : (vs.toList.take (es'.length * sz')).length = es'.length * sz := by
          rw [hl]
          by_cases q : es' = []
          · subst q; simp
          · rw [hsz' q]
        refine ⟨_, g6, hl2, fun w hw => ⟨by rw [g1]; simp [Builtin.lenOf], ?_⟩⟩
        rw [g1]
        refine run_firstCells_some w sz es'.length _ _ _ _ hl2 fun j u hu => ?_
        rw [addr_add, heap_cell (w := c.w) (by rw [hw])]
        rw [List.getElem?_take] at hu
        split at hu
        · simpa [World.cell?, g3] using hu
        · simp at hu
    · cases q : src σ (.own l) with
      | none => rw [q] at h; simp at h
      | some es0 => rw [q] at h; simp at h; exact old es0 q h
  · cases q : src σ x with
    | none => rw [q] at h; simp at h
    | some es0 => rw [q] at h; simp at h; exact old es0 q h
theorem append_relV {c : Cf} {σ : List AObj} (H : Holds c σ) {t t' ty : TypeId} {sz by' : Nat} (hei : ei P t = some (sz, by')) (ht' : srcT P t' = true) {s x : AV} {vs vx : Value} {es es2 : List (List AV)}
    (hs : AR c s vs) (hx : AR c x vx) (h2 : srcV σ x = some es2) (hl2 : ∀ e ∈ es2, e.length = sz) (hone2 : es2.flatten.all oneC = true) (hfit : (es.length + es2.length) * by' ≤ 140737488355328) (h63 : es.length + es2.length ≤ 9223372036854775807)
    (hcase : (s = .nil ∧ es = []) ∨ ∃ l, s = .own l ∧ ob σ l = .vec sz es) :
    ∃ v c', (Builtin.append_ #[t, t'] ty #[vs, vx]).run P c.w = .ok v c'.w ∧ AR c' (.own σ.length) v ∧
      Nxt c σ c' (dropL σ s ++ [.vec sz (es ++ es2)]) := by
  obtain ⟨e, i, z, hu, hi, hz, g1, g2, g3, g4⟩ := ei_spec hei
  obtain ⟨news, n1, n2, n3⟩ := srcV_ok (P := P) H hx h2 hl2 g4
  have hsrc := srcT_spec ht'
  -- the row that is appended to
  have hrow : ∃ base cap olds, vs = .slice base es.length cap ∧ es.length ≤ cap ∧ (∀ e ∈ es, e.length = sz) ∧ ARs c es.flatten olds ∧ olds.length = es.length * sz ∧
      (∀ w : World, w.heap = c.w.heap → (Builtin.firstCells sz es.length (.slice base es.length cap)).run P w = .ok olds.toArray w) ∧
      (cap = 0 ∨ ∃ l us ty', s = .own l ∧ ob σ l = .vec sz es ∧ 0 < cap ∧ c.u l = .slice base es.length cap ∧ base = some ⟨c.ν l, 0, none⟩ ∧ c.w.heap[c.ν l]? = some (.cells us ty' (0, 0)) ∧ us.size = cap * sz ∧ olds = us.toList.take (es.length * sz)) := by
    rcases hcase with ⟨rfl, rfl⟩ | ⟨l, rfl, hO⟩
    · simp only [AR] at hs
      obtain ⟨A, rfl⟩ := hs
      refine ⟨A, 0, [], rfl, Nat.le_refl _, by simp, ARs_nil, by simp, fun w _ => ?_, .inl rfl⟩
      cases A with
      | none => simp [run_firstCells_none]
      | some ad => exact run_firstCells_some w sz 0 ad 0 0 [] (by simp) (by simp)
    · simp only [AR] at hs
      obtain ⟨_, rfl, _⟩ := hs
      rcases H.obj l _ (ob_some hO (by simp)) with ⟨rfl, A, e⟩ | ⟨cap, us, ty', h0, q1, q2, q3, q4, q5, q6⟩
      · refine ⟨A, 0, [], e, Nat.le_refl _, by simp, ARs_nil, by simp, fun w _ => ?_, .inl rfl⟩
        cases A with
        | none => simp [run_firstCells_none]
        | some ad => exact run_firstCells_some w sz 0 ad 0 0 [] (by simp) (by simp)
      · have hl : (us.toList.take (es.length * sz)).length = es.length * sz := by
          rw [List.length_take, Nat.min_eq_left]
          have := Nat.mul_le_mul_right sz q2
          simp; omega
        refine ⟨_, cap, _, q1, q2, q5, q6, hl, fun w hw => ?_, .inr ⟨l, us, ty', rfl, hO, h0, q1, rfl, q3, q4, rfl⟩⟩
        refine run_firstCells_some w sz es.length _ _ _ _ hl fun j u hj => ?_
        rw [addr_add, heap_cell (w := c.w) (by rw [hw])]
        rw [List.getElem?_take] at hj
        split at hj
        · simpa [World.cell?, q3] using hj
        · simp at hj
  obtain ⟨base, cap, olds, rfl, hcap, hes, o1, o2, o3, o4⟩ := hrow
  have hall : ∀ e ∈ es ++ es2, e.length = sz := fun e he => by
    rcases List.mem_append.1 he with q | q
    · exact hes e q
    · exact hl2 e q
  have hd : ARs c (es ++ es2).flatten (olds ++ news) := by simpa using ARs_append o1 n1
  -- dropping the old label
  have hdrop : ∀ c1 : Cf, Holds c1 σ → Nxt c1 σ c1 (dropL σ s) := fun c1 H1 => by
    unfold dropL
    cases s <;> first | exact Nxt.drop H1 _ | exact Nxt.refl H1
  have hlen' : (dropL σ s).length = σ.length := by cases s <;> simp [dropL]
  by_cases hg : es.length + es2.length ≤ cap
  · -- there is room
    rcases o4 with h0 | ⟨l, us, ty', rfl, hO, h0, hu', rfl, hb, hsz, ho⟩
    · subst h0
      have e1 : es = [] := by cases es <;> simp_all
      have e2 : es2 = [] := by cases es2 <;> simp_all
      subst e1; subst e2
      have hnil : news = [] := by simpa using n2
      subst hnil
      have hrun := run_append_in (ty := ty) hu hsrc hi (w := c.w) (base := base) (n := 0) (cap := 0) (k := 0) (x := vx) (new := #[]) (w' := c.w) (n3 c.w rfl).1 (by rw [g2]; exact (n3 c.w rfl).2) (Nat.le_refl _)
        (fun a _ => by simp [storeCells]) (fun _ => rfl)
      have hN := hdrop c H
      refine ⟨.slice base 0 0, c.put c.w 0 (.slice base 0 0), hrun, ?_, hN.trans (Nxt.bare hN.hold (.slice base 0 0) (.vec sz ([] ++ [])) (.inl ⟨rfl, base, by simp [Cf.put]⟩) ?_)⟩
      · simp only [AR]; exact ⟨by simp [Cf.put, H.n], by simp [Cf.put, H.n], _, _, _, rfl⟩
      · simp [Has, Cf.put]
    · have hl := ob_some hO (by simp)
      have hsw : (es.length + es2.length) * sz ≤ us.size := by rw [hsz]; exact Nat.mul_le_mul_right _ hg
      have hadd : (es.length + es2.length) * sz = es.length * sz + es2.length * sz := Nat.add_mul _ _ _
      have hone := ARs_one n1 hone2
      have hst := run_storeCells_at P (c.ν l) (es.length * sz) ty' news 0 us c.w hb (by rw [n2]; omega) hone
      simp only [Nat.add_zero] at hst
      obtain ⟨cur', hcur⟩ : ∃ q : Array Value, q = (us.toList.take (es.length * sz) ++ news ++ us.toList.drop (es.length * sz + news.length)).toArray := ⟨_, rfl⟩
      rw [← hcur] at hst
      have hcurl : cur'.toList = us.toList.take (es.length * sz) ++ news ++ us.toList.drop (es.length * sz + news.length) := by rw [hcur]
      have hcurs : cur'.size = cap * sz := by rw [hcur]; simp [n2]; omega
      have hrun := run_append_in (ty := ty) hu hsrc hi (w := c.w) (base := some ⟨c.ν l, 0, none⟩) (n := es.length) (cap := cap) (k := es2.length) (x := vx) (new := news.toArray)
        (w' := c.w.setRow (c.ν l) cur') (n3 c.w rfl).1 (by rw [g2]; exact (n3 c.w rfl).2) hg
        (fun a e => by cases e; rw [g2, addr_add]; simpa using hst) (fun e => by simp at e)
      have hres : VecB (c.at (c.w.setRow (c.ν l) cur')) l sz es := by
        refine ⟨cap, cur', ty', h0, hu', hcap, setRow_heap _ _ _ _ _ _ hb, ?_, hes, ?_⟩
        · exact hcurs
        · have : (cur'.toList).take (es.length * sz) = olds := by
            rw [hcurl, ho]; simp only [List.append_assoc]
            exact take_left' (by rw [← ho]; exact o2)
          rw [this]; exact ARs.mono (c.le_at _) _ o1
      have N1 := Nxt.upd H hl ⟨_, _, _, hu', h0⟩ _ (heap_same (cs := cur')) (by simp) rfl rfl rfl (o' := .vec sz es) (.inr hres)
      have hset : σ.set l (.vec sz es) = σ := by
        apply List.ext_getElem?
        intro j
        rw [List.getElem?_set]
        split
        · next q => subst q; rw [if_pos (some_lt hl), hl]
        · rfl
      rw [hset] at N1
      have N2 := Nxt.take N1.hold (l := l) hl ⟨_, _, _, hu', h0⟩ (.slice (some ⟨c.ν l, 0, none⟩) (es.length + es2.length) cap) (o' := .vec sz (es ++ es2)) (.inr ?_)
      · refine ⟨_, _, hrun, ?_, N1.trans N2⟩
        simp only [AR]; exact ⟨by simp [Cf.put, Cf.at, H.n], by simp [Cf.put, Cf.at, H.n], _, _, _, rfl⟩
      · refine ⟨cap, cur', ty', h0, by simp [Cf.put, Cf.at], by simpa using hg, ?_, ?_, hall, ?_⟩
        · have : (Cf.put (c.at (c.w.setRow (c.ν l) cur')) (c.at (c.w.setRow (c.ν l) cur')).w ((c.at (c.w.setRow (c.ν l) cur')).ν l) (.slice (some ⟨c.ν l, 0, none⟩) (es.length + es2.length) cap)).ν (c.at (c.w.setRow (c.ν l) cur')).n = c.ν l := by simp [Cf.put, Cf.at]
          rw [this]
          exact setRow_heap _ _ _ _ _ _ hb
        · exact hcurs
        · have : (cur'.toList).take ((es ++ es2).length * sz) = olds ++ news := by
            rw [hcurl, ← ho]; exact take_left' (by simp [o2, n2, Nat.add_mul])
          rw [this]; exact ARs.mono ((c.le_at _).trans (Cf.le_put _ _ _ _)) _ hd
  · -- a new array
    have hrun := run_append_new (ty := ty) hu hsrc hi hz (w := c.w) (base := base) (n := es.length) (cap := cap) (k := es2.length) (x := vx) (old := olds.toArray) (new := news.toArray) (fun w hw => (n3 w hw).1) (fun w hw => by rw [g2]; exact (n3 w hw).2)
      (fun w hw => by rw [g2]; exact o3 w hw) (by omega) (by omega) (by rw [g3]; exact hfit)
    have N0 := Nxt.drew H
    have hle := grownCap_le c.w (es.length + es2.length) cap e
    obtain ⟨c', w1, a1, N1⟩ := Nxt.newVec (c := c.at c.w.drew) (hdrop _ N0.hold).hold (sz := sz) (es := es ++ es2) (vs := olds.toArray ++ news.toArray ++ Builtin.zeroCells z.cells (grownCap c.w (es.length + es2.length) cap e - (es.length + es2.length))) (ty := e)
      (cap := grownCap c.w (es.length + es2.length) cap e) (by omega) (by simpa using hle) (by
        simp only [Array.size_append, zeroCells_size, g1, List.size_toArray, o2, n2]
        rw [← Nat.add_mul, ← Nat.add_mul]; congr 1; omega) hall (by
        have : ((olds.toArray ++ news.toArray ++ Builtin.zeroCells z.cells (grownCap c.w (es.length + es2.length) cap e - (es.length + es2.length))).toList).take ((es ++ es2).length * sz) = olds ++ news := by
          simp only [Array.toList_append]
          exact take_left' (by simp [o2, n2, Nat.add_mul])
        rw [this]; exact ARs.mono (c.le_at _) _ hd)
    rw [hlen'] at a1
    refine ⟨_, c', by rw [hrun, w1]; rfl, ?_, N0.trans ((hdrop _ N0.hold).trans N1)⟩
    rw [List.length_append] at a1
    exact a1
end
end Go.AX

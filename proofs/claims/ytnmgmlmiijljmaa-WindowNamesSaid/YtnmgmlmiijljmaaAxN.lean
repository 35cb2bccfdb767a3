/- AX, part N: conversions. -/
import Derived.Test.YtnmgmlmiijljmaaAxM
set_option linter.unusedVariables false
set_option linter.unusedSimpArgs false
namespace Go.AX
section
variable {P : Program} {o : Oper} {a : Act} {c : Cf} {σ : List AObj} {env : List AV}

/-- All that is new is given up at once. -/
theorem Nxt.absorb {c : Cf} {σ : List AObj} (H : Holds c σ) (w' : World) (hk : ∀ k, k < c.w.heap.size → w'.heap[k]? = c.w.heap[k]?) (hs : c.w.heap.size ≤ w'.heap.size) (ho : w'.os = c.w.os) (ht : w'.tape = c.w.tape) (hp : w'.output = c.w.output) :
    Nxt c σ { c with w := w', h := fun b k => if c.w.heap.size ≤ b then w'.cell? ⟨b, k, none⟩ else c.h b k } σ := by
  have le : c.Le { c with w := w', h := fun b k => if c.w.heap.size ≤ b then w'.cell? ⟨b, k, none⟩ else c.h b k } := by
    refine ⟨fun b k v h => ?_, Nat.le_refl _, fun _ _ => rfl, fun _ _ => rfl⟩
    have := cell_lt (H.snap b k v h)
    simp only at this
    show (if c.w.heap.size ≤ b then w'.cell? ⟨b, k, none⟩ else c.h b k) = some v
    rw [if_neg (by omega)]; exact h
  refine ⟨le, ⟨H.n, ?_, ?_, ?_, ?_, ?_⟩, ho, ht, hp, hs, fun b hb _ => hk b hb, ?_, ?_⟩
  · intro b k v h
    have h' : (if c.w.heap.size ≤ b then w'.cell? ⟨b, k, none⟩ else c.h b k) = some v := h
    split at h'
    · exact h'
    · have h1 := H.snap b k v h'
      rw [← h1]; exact heap_cell (hk b (cell_lt h1))
  · intro l x h
    exact ObjOk.mono le (by rw [H.n]; exact some_lt h) (fun hh => hk _ (H.lt l x h hh)) (H.obj l x h)
  · intro l x l' x' a1 a2 h h' hne
    exact H.sep l x l' x' a1 a2 ((Has.congr rfl).1 h) ((Has.congr rfl).1 h') hne
  · intro l x a1 h k
    have h1 := (Has.congr (c := c) rfl).1 h
    show (if c.w.heap.size ≤ c.ν l then w'.cell? ⟨c.ν l, k, none⟩ else c.h (c.ν l) k) = none
    rw [if_neg (by have := H.lt l x a1 h1; omega)]; exact H.apart l x a1 h1 k
  · intro l x a1 h
    have := H.lt l x a1 ((Has.congr rfl).1 h)
    show c.ν l < w'.heap.size
    omega
  · rintro b ⟨l, x, a1, h, rfl⟩
    exact .inl ⟨l, x, a1, (Has.congr rfl).1 h, rfl⟩
  · intro b k h
    by_cases q : c.w.heap.size ≤ b
    · exact .inr q
    · refine absurd ?_ h
      show (if c.w.heap.size ≤ b then w'.cell? ⟨b, k, none⟩ else c.h b k) = c.h b k
      rw [if_neg q]

def byteD : List D → UInt8
  | [.int _ n] => UInt8.ofNat n.toNat
  | _ => 0
def strOf (es : List (List D)) : ByteArray := ⟨(es.map byteD).toArray⟩
def isByte : List D → Prop
  | [.int .u8 _] => True
  | _ => False
def evConvB (σ : List AObj) (es : List (List D)) : R1 := .need (∀ e ∈ es, isByte e) (.to (.d (.str (strOf es))) σ)
def evConv (P : Program) (σ : List AObj) (s t : TypeId) (x : AV) : R1 :=
  match P.underlying s, P.underlying t with
  | some d, some (.int k') => match x with
    | .d (.int k n) => .to (.d (.int k' (k'.wrap n))) σ
    | _ => .bad
  | some .string, some .string => match x with
    | .d (.str u) => .to x σ
    | _ => .bad
  | some (.slice e), some .string => match P.underlying e, src σ x, isStr x with
    | some (.int .u8), some es, false => evConvB σ es
    | _, _, _ => .bad
  | some .string, some (.slice e) => match P.underlying e, x with
    | some (.int .u8), .d (.str u) => .to (.d (.sl (bytesD u))) σ
    | _, _ => .bad
  | _, _ => .bad
where isStr : AV → Bool
  | .d (.str _) => true
  | _ => false

theorem bytes_run {h : Snap} : ∀ {es : List (List D)} {vs : List Value}, DRs h es.flatten vs → (∀ e ∈ es, isByte e) → ∃ ns : List Int, vs = ns.map (Value.int .u8) ∧ es.map byteD = ns.map fun n => UInt8.ofNat n.toNat
  | [], [], _, _ => ⟨[], rfl, rfl⟩
  | [], _ :: _, r, _ => by simp [DRs] at r
  | e :: es, vs, r, hb => by
    have h1 := hb e (by simp)
    match e, h1 with
    | [.int .u8 n], _ =>
      cases vs with
      | nil => simp [DRs] at r
      | cons v vs =>
        simp only [List.flatten_cons, List.singleton_append, DRs] at r
        obtain ⟨ns, q1, q2⟩ := bytes_run r.2 (fun x hx => hb x (by simp [hx]))
        refine ⟨n :: ns, ?_, ?_⟩
        · have := r.1; simp only [DR] at this; simp [this, q1]
        · simp [byteD, q2]
theorem foldl_push : ∀ (ns : List Int) (s : ByteArray), ns.foldl (fun r n => r.push (UInt8.ofNat n.toNat)) s = ⟨s.data ++ (ns.map fun n => UInt8.ofNat n.toNat).toArray⟩
  | [], s => by simp
  | n :: ns, s => by
    rw [List.foldl_cons, foldl_push ns]
    simp [ByteArray.push]
theorem isByte_len {es : List (List D)} (h : ∀ e ∈ es, isByte e) : ∀ e ∈ es, e.length = 1 := fun e he => by
  have := h e he
  match e, this with
  | [.int .u8 n], _ => rfl
theorem src_val {x : AV} {v : Value} {es : List (List D)} (H : Holds c σ) (hx : AR c x v) (h : src σ x = some es) (hs : evConv.isStr x = false) : ∃ A n k, v = .slice A n k ∧ n = es.length := by
  cases x <;> simp only [src] at h <;> try (simp at h; done)
  case d x =>
    cases x <;> (try simp only [evConv.isStr] at hs) <;> (try simp only [src] at h) <;> try (simp at h hs; done)
    case sl es' => simp at h; subst h; simp only [AR, DR] at hx; obtain ⟨A, k, sz, e, _⟩ := hx; exact ⟨A, _, k, e, rfl⟩
  case own l =>
    split at h
    · next sz es' hO =>
      simp at h; subst h
      simp only [AR] at hx
      obtain ⟨_, e, _⟩ := hx
      rcases H.obj l _ (ob_some hO (by simp)) with ⟨rfl, A, e'⟩ | ⟨k, vs, ty, _, g1, _⟩
      · rw [e'] at e; exact ⟨A, 0, 0, e, rfl⟩
      · rw [g1] at e; exact ⟨_, _, k, e, rfl⟩
    · simp at h
  case nil => simp at h; subst h; simp only [AR] at hx; obtain ⟨A, e⟩ := hx; exact ⟨A, 0, 0, e, rfl⟩

theorem evConv_ok (H : Holds c σ) (he : ARs c env a.tmps.toList) {s t : TypeId} {x : Operand} (ho : o.op = .convert s t x) : (evConv P σ s t (evO env x)).Ok P o a c σ := by
  have hx := evO_sound he x
  generalize evO env x = y at hx
  unfold evConv
  split
  · next d k' hs hd =>
    cases y <;> try trivial
    case d y =>
      cases y <;> try trivial
      case int k n =>
        simp only [AR, DR] at hx
        refine R1.Ok_to H (x := .int k' (k'.wrap n)) ?_ (by simp [AR, DR])
        simp [execOp, ho, hx, convert, run_underlying' hs, run_underlying' hd, Conv.intToInt]
  · next hs hd =>
    cases y <;> try trivial
    case d y =>
      cases y <;> try trivial
      case str u =>
        have hx' := hx
        simp only [AR, DR] at hx
        rw [hx] at hx'
        refine R1.Ok_to H (x := .string u) ?_ hx'
        simp [execOp, ho, hx, convert, run_underlying' hs, run_underlying' hd]
  · next e hs hd =>
    split
    · next es he1 h2 h3 =>
      intro hb
      obtain ⟨news, n1, n2, n3⟩ := src_ok (P := P) H hx h2 (isByte_len hb) (by omega)
      obtain ⟨ns, q1, q2⟩ := bytes_run n1 hb
      obtain ⟨A, n, k, hv, hn⟩ := src_val H hx h2 h3
      have h4 := (n3 c.w rfl).2
      have hstr : strOf es = ⟨(ns.map fun n => UInt8.ofNat n.toNat).toArray⟩ := by simp [strOf, q2]
      refine R1.Ok_to H (x := .string (strOf es)) ?_ (by simp [AR, DR])
      rw [hstr]
      rw [hv] at h4
      simp only [execOp, ho, hv, Sem.run_bind, run_convert_bytes_string c.w s t e A n k hs he1 hd]
      cases A with
      | none =>
        have : news = [] := by
          have : (Result.ok #[] c.w : Result (Array Value)) = .ok news.toArray c.w := by rw [← h4]; simp [Builtin.firstCells]
          simpa using this.symm
        subst this
        have : ns = [] := by
          cases ns with
          | nil => rfl
          | cons n ns => simp at q1
        subst this
        simp [Conv.bytesToString]
        rfl
      | some ad =>
        have h5 : (loadCells ad n).run P c.w = .ok (ns.map (Value.int .u8)).toArray c.w := by
          rw [← q1, ← h4, hn]; simp [Builtin.firstCells]
        rw [run_bytesToString c.w ad n k ns h5, foldl_push]
        simp
    · trivial
  · next e hs hd =>
    split
    · next u he1 =>
      simp only [AR, DR] at hx
      have hrun := run_bytes_of_string c.w s t e u hs hd he1
      generalize hk : grownCap c.w u.size 0 e = k at hrun
      have hle : u.size ≤ k := by rw [← hk]; exact grownCap_le _ _ _ _
      generalize hob : (Obj.cells (bytesRow u k) e ((bytesRow u k).size, (bytesRow u k).size + 1)) = oo at hrun
      have hblk : (c.w.drew.alloc oo).heap[c.w.heap.size]? = some oo := by
        show (c.w.heap.push oo)[c.w.heap.size]? = _
        simp
      have N := Nxt.absorb H (c.w.drew.alloc oo) (fun k hk => by show (c.w.heap.push oo)[k]? = _; rw [Array.getElem?_push, if_neg (by omega)]) (by show _ ≤ (c.w.heap.push oo).size; simp) rfl rfl rfl
      refine ⟨.value (.slice (some ⟨c.w.heap.size, 0, none⟩) u.size k), _, _, ?_, .inl rfl, ?_, N⟩
      · simp [execOp, ho, hx, hrun]
      · simp only [AR, DR]
        refine ⟨_, k, 1, by simp [bytesD]; rfl, by simp [bytesD]; exact hle, fun _ a e => by cases e; rfl, fun e => by simp at e, ?_⟩
        refine DRows_of (vs := u.data.toList.map fun b => .int .u8 (b.toNat : Int)) (by intro x hx; simp [bytesD] at hx; obtain ⟨b, _, rfl⟩ := hx; rfl) (bytes_vals _) fun i v hv => ?_
        show (if c.w.heap.size ≤ c.w.heap.size then (c.w.drew.alloc oo).cell? ⟨c.w.heap.size, 0 + (0 + i), none⟩ else _) = some v
        rw [if_pos (Nat.le_refl _)]
        simp only [World.cell?, hblk]
        subst hob
        simp only [bytesRow]
        have hi : i < u.data.size := by
          have := (List.getElem?_eq_some_iff.1 hv).1
          simpa using this
        rw [show 0 + (0 + i) = i by omega]
        have : (u.data.map (fun b => Value.int .u8 b.toNat) ++ Array.replicate (k - u.size) (Value.int .u8 0))[i]? = some v := by
          rw [Array.getElem?_append_left (by simpa using hi)]
          simpa using hv
        simpa using this
    · trivial
  · trivial
end
end Go.AX

/- AX, part H: slices that are made, grown and cut; lengths; conversions. -/
import Derived.Test.YtnmgmlmiijljmaaAxG
import Derived.Laws.Append
import Derived.Laws.BytesString
set_option linter.unusedVariables false
namespace Go.AX
section
variable {P : Program} {o : Oper} {a : Act} {c : Cf} {σ : List AObj} {env : List AV}

/-- what is known of a slice type's elements: cells, bytes -/
def ei (P : Program) (t : TypeId) : Option (Nat × Nat) :=
  match P.underlying t with
  | some (.slice e) => match P.info? e with
    | some i => match i.zero with
      | some z => if z.cells.size = i.size ∧ 0 < i.size then some (i.size, i.bytes) else none
      | none => none
    | none => none
  | _ => none
theorem ei_spec {t : TypeId} {sz by' : Nat} (h : ei P t = some (sz, by')) : ∃ e i z, P.underlying t = some (.slice e) ∧ P.info? e = some i ∧ i.zero = some z ∧ z.cells.size = sz ∧ i.size = sz ∧ i.bytes = by' ∧ 0 < sz := by
  unfold ei at h
  split at h
  · next e hu =>
    split at h
    · next i hi =>
      split at h
      · next z hz =>
        split at h
        · next hc => simp at h; obtain ⟨rfl, rfl⟩ := h; exact ⟨e, i, z, hu, hi, hz, hc.1, rfl, rfl, hc.2⟩
        · simp at h
      · simp at h
    · simp at h
  · simp at h

/-! ### what is appended -/
def bytesD (s : ByteArray) : List (List D) := s.data.toList.map fun b => [.int .u8 b.toNat]
def src (σ : List AObj) : AV → Option (List (List D))
  | .d (.sl es) => some es
  | .d (.str s) => some (bytesD s)
  | .nil => some []
  | .own l => match ob σ l with
    | .row _ es => some es
    | _ => none
  | _ => none
theorem zeroCells_size (z : Array Value) (n : Nat) : (Builtin.zeroCells z n).size = n * z.size := by simp [Builtin.zeroCells]
theorem bytes_vals {h : Snap} : ∀ l : List UInt8, DRs h ((l.map fun b => [D.int .u8 (b.toNat : Int)]).flatten) (l.map fun b => Value.int .u8 (b.toNat : Int))
  | [] => by simp [DRs]
  | b :: l => by
    simp only [List.map_cons, List.flatten_cons, List.singleton_append, DRs]
    exact ⟨by simp [DR], bytes_vals l⟩
theorem DRows_vals {h : Snap} {A : Option Addr} {sz : Nat} : ∀ {es : List (List D)} {k : Nat}, DRows h es A sz k → ∃ vs, DRs h es.flatten vs ∧ vs.length = es.length * sz ∧ ∀ j v, vs[j]? = some v → ∃ a, A = some a ∧ a.spot = none ∧ h a.block (a.off + (k + j)) = some v
  | [], _, _ => ⟨[], by simp [DRs], by simp, by simp⟩
  | e :: es, k, r => by
    simp only [DRows] at r
    obtain ⟨h1, h2, h3⟩ := r
    obtain ⟨us, u1, u2⟩ := DCells_vals h2
    obtain ⟨vs, v1, v2, v3⟩ := DRows_vals h3
    have hl := DRs_length u1
    refine ⟨us ++ vs, by simpa using DRs_append u1 v1, by simp [v2, ← hl, h1, Nat.add_mul, Nat.add_comm], fun j v hj => ?_⟩
    rw [List.getElem?_append] at hj
    split at hj
    · exact u2 j v hj
    · next q =>
      obtain ⟨a, g1, g2, g3⟩ := v3 _ v hj
      exact ⟨a, g1, g2, by rw [← g3]; congr 1; omega⟩
theorem src_ok (H : Holds c σ) {x : AV} {v : Value} {es : List (List D)} {sz : Nat} (hx : AR c x v) (h : src σ x = some es) (hs : ∀ e ∈ es, e.length = sz) (hsz : 0 < sz) :
    ∃ news : List Value, DRs c.h es.flatten news ∧ news.length = es.length * sz ∧ ∀ w : World, w.heap = c.w.heap → (Builtin.lenOf v).run P w = .ok es.length w ∧ (Builtin.firstCells sz es.length v).run P w = .ok news.toArray w := by
  unfold src at h
  split at h
  · next es' =>
    simp at h; subst h
    simp only [AR, DR] at hx
    obtain ⟨A, cap, sz', rfl, h1, h2, h3, h4⟩ := hx
    have hsz' : es' ≠ [] → sz' = sz := fun hne => by
      cases es' with
      | nil => exact absurd rfl hne
      | cons e es' => simp only [DRows] at h4; rw [← h4.1]; exact hs e (by simp)
    obtain ⟨news, n1, n2, n3⟩ := DRows_vals h4
    have hl : news.length = es'.length * sz := by
      rw [n2]
      by_cases q : es' = []
      · subst q; simp
      · rw [hsz' q]
    refine ⟨news, n1, hl, fun w hw => ⟨by simp [Builtin.lenOf], ?_⟩⟩
    cases A with
    | none =>
      have := h3 rfl
      subst this
      have : news = [] := by simpa using hl
      subst this
      simp [run_firstCells_none]
    | some ad =>
      refine run_firstCells_some w sz es'.length ad _ _ news hl fun j u hu => ?_
      obtain ⟨a', q1, q2, q3⟩ := n3 j u hu
      obtain rfl := Option.some.inj q1
      have := H.snap _ _ _ q3
      rw [addr_add' q2]
      rw [heap_cell (w := c.w) (by rw [hw])]
      simpa using this
  · next s =>
    simp at h; subst h
    simp only [AR, DR] at hx
    subst hx
    have : sz = 1 ∨ s.data.toList = [] := by
      cases q : s.data.toList with
      | nil => exact .inr rfl
      | cons b l => exact .inl (hs [.int .u8 b.toNat] (by simp [bytesD, q])).symm
    refine ⟨s.data.toList.map fun b => .int .u8 (b.toNat : Int), bytes_vals _, ?_, fun w _ => ⟨by simp [Builtin.lenOf, bytesD], ?_⟩⟩
    · rcases this with rfl | q
      · simp [bytesD]
      · simp [bytesD, q]
    · simp only [Builtin.firstCells, Sem.run_pure, bytesD, List.length_map]
      congr 1
      apply Array.ext'
      simp only [Array.toList_map]
      congr 1
      have : (s.extract 0 s.data.toList.length) = s := by
        apply ByteArray.ext
        simp [ByteArray.data_extract]
      rw [this]
  · simp at h; subst h
    simp only [AR] at hx
    obtain ⟨A, rfl⟩ := hx
    refine ⟨[], by simp [DRs], by simp, fun w _ => ⟨by simp [Builtin.lenOf], ?_⟩⟩
    cases A with
    | none => simp [run_firstCells_none]
    | some ad => exact run_firstCells_some w sz 0 ad 0 0 [] (by simp) (by simp)
  · next l =>
    split at h
    · next sz' es' hO =>
      simp at h; subst h
      simp only [AR] at hx
      obtain ⟨_, rfl, _⟩ := hx
      rcases H.obj l _ (ob_some hO (by simp)) with ⟨rfl, A, e⟩ | ⟨cap, vs, ty, h0, g1, g2, g3, g4, g5, g6⟩
      · rw [e]
        refine ⟨[], by simp [DRs], by simp, fun w _ => ⟨by simp [Builtin.lenOf], ?_⟩⟩
        cases A with
        | none => simp [run_firstCells_none]
        | some ad => exact run_firstCells_some w sz 0 ad 0 0 [] (by simp) (by simp)
      · have hl : (vs.toList.take (es'.length * sz')).length = es'.length * sz' := by
          rw [List.length_take, Nat.min_eq_left]
          have := Nat.mul_le_mul_right sz' g2
          simp; omega
        have hsz' : es' ≠ [] → sz' = sz := fun hne => by
          cases es' with
          | nil => exact absurd rfl hne
          | cons e es' => rw [← g5 e (by simp)]; exact hs e (by simp)
        have hl2 : (vs.toList.take (es'.length * sz')).length = es'.length * sz := by
          rw [hl]
          by_cases q : es' = []
          · subst q; simp
          · rw [hsz' q]
        refine ⟨_, g6, hl2, fun w hw => ⟨by rw [g1]; simp [Builtin.lenOf], ?_⟩⟩
        rw [g1]
        refine run_firstCells_some w sz es'.length _ _ _ _ hl2 fun j u hu => ?_
        rw [addr_add, heap_cell (w := c.w) (by rw [hw])]
        rw [List.getElem?_take] at hu
        split at hu
        · simpa [World.cell?, g3] using hu
        · simp at hu
    · simp at h
  · simp at h

theorem run_append_new {w : World} {t t' ty e : TypeId} {i : TypeInfo} {z : Value} (ht : P.underlying t = some (.slice e)) (ht' : (∃ e', P.underlying t' = some (.slice e')) ∨ P.underlying t' = some .string)
    (hi : P.info? e = some i) (hz : i.zero = some z) {base : Option Addr} {n cap k : Nat} {x : Value} {old new : Array Value}
    (hlen : ∀ w' : World, w'.heap = w.heap → (Builtin.lenOf x).run P w' = .ok k w') (hnew : ∀ w' : World, w'.heap = w.heap → (Builtin.firstCells i.size k x).run P w' = .ok new w')
    (hold : ∀ w' : World, w'.heap = w.heap → (Builtin.firstCells i.size n (.slice base n cap)).run P w' = .ok old w')
    (hg : cap < n + k) (h63 : ((n + k : Nat) : Int) ≤ 9223372036854775807) (hfit : (n + k) * i.bytes ≤ 140737488355328) :
    (Builtin.append_ #[t, t'] ty #[.slice base n cap, x]).run P w =
      .ok (.slice (some ⟨w.heap.size, 0, none⟩) (n + k) (grownCap w (n + k) cap e)) (w.drew.alloc (.cells (old ++ new ++ Builtin.zeroCells z.cells (grownCap w (n + k) cap e - (n + k))) e)) := by
  have hn : ¬ (n + k ≤ cap) := by omega
  have h63' : ¬ (9223372036854775807 < ((n : Int) + (k : Int))) := by omega
  have h48' : ¬ (281474976710656 < Builtin.nextslicecap (n + k) cap * i.bytes) := by have := growslice_fits hg hfit; omega
  have h1 := hlen w rfl
  have h2 := hnew w.drew rfl
  have h3 := hold w.drew rfl
  rcases ht' with ⟨e', hd⟩ | hd <;>
    simp [Builtin.append_, run_underlying ht, run_underlying hd, sizeOf, typeInfo, zeroValue, hi, hz, h1, hn, h63', h48', Question.forced, h2, h3, newRow, grownCap]
theorem run_append_in {w : World} {t t' ty e : TypeId} {i : TypeInfo} (ht : P.underlying t = some (.slice e)) (ht' : (∃ e', P.underlying t' = some (.slice e')) ∨ P.underlying t' = some .string)
    (hi : P.info? e = some i) {base : Option Addr} {n cap k : Nat} {x : Value} {new : Array Value} {w' : World}
    (hlen : (Builtin.lenOf x).run P w = .ok k w) (hnew : (Builtin.firstCells i.size k x).run P w = .ok new w) (hg : n + k ≤ cap)
    (hst : ∀ a, base = some a → (storeCells (a.add (n * i.size)) new.toList 0).run P w = .ok () w') (hno : base = none → w' = w) :
    (Builtin.append_ #[t, t'] ty #[.slice base n cap, x]).run P w = .ok (.slice base (n + k) cap) w' := by
  cases base with
  | none => have := hno rfl; subst this; rcases ht' with ⟨e', hd⟩ | hd <;> simp [Builtin.append_, run_underlying ht, run_underlying hd, sizeOf, typeInfo, hi, hlen, hg, hnew]
  | some ad =>
    have := hst ad rfl
    rcases ht' with ⟨e', hd⟩ | hd <;> simp [Builtin.append_, run_underlying ht, run_underlying hd, sizeOf, typeInfo, hi, hlen, hg, hnew, this]
end
end Go.AX

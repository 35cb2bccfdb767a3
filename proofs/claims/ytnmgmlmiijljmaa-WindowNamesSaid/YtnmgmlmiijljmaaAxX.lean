/- AX, part X: a law's arguments, opened; from a spec to the law's row. -/
import Derived.Test.YtnmgmlmiijljmaaAxW
import Derived.OpenShut
import Derived.SizedLaws
import Derived.Carry
import Derived.ChangeOld
import Derived.ChangeArms
import Derived.WalkKit
import Derived.ProofKit
import Derived.RowKit
set_option linter.unusedVariables false
set_option linter.unusedSimpArgs false
namespace Go.AX
open Go.ChangeShapes

def Sq : List (List D → Prop) → List D → Prop
  | [], ds => ds = []
  | q :: p, ds => ∃ a b, ds = a ++ b ∧ q a ∧ Sq p b
/-- data of a type -/
def Tyd (P : Program) : Nat → TypeId → List D → Prop
  | 0, _, _ => False
  | n + 1, t, ds => match P.underlying t with
    | some .bool => ∃ b, ds = [.bool b]
    | some (.int k) => ∃ i, ds = [.int k i] ∧ (Lit.int k i).wf = true
    | some .string => ∃ s : ByteArray, ds = [.str s] ∧ s.size ≤ 140737488351232
    | some (.slice e) => ∃ es, ds = [.sl es] ∧ es.length * P.bytesOf e ≤ 140737488351232 ∧ ∀ x ∈ es, Tyd P n e x
    | some (.struct fs) => Sq (fs.toList.map fun f => Tyd P n f.type) ds
    | some (.array m e) => Sq (List.replicate m (Tyd P n e)) ds
    | _ => False
/-- the fields lie one behind the other -/
def tile (P : Program) : Nat → List Field → Option Nat
  | o, [] => some o
  | o, f :: fs => if f.offset = o then tile P (o + P.cellsOf f.type) fs else none
def plainT (P : Program) : Nat → TypeId → Bool
  | 0, _ => false
  | n + 1, t => match P.underlying t with
    | some .bool => true
    | some (.int _) => true
    | some .string => true
    | some (.slice e) => decide (0 < P.cellsOf e) && plainT P n e
    | some (.struct fs) => tile P 0 fs.toList == some (P.cellsOf t) && fs.toList.all fun f => plainT P n f.type
    | some (.array m e) => m * P.cellsOf e == P.cellsOf t && plainT P n e
    | _ => false
def full (W : World) : Snap := fun b o => W.cell? ⟨b, o, none⟩

theorem list_of {α : Type} {Q : Nat → α → Prop} : ∀ n, (∀ i, i < n → ∃ y, Q i y) → ∃ l : List α, l.length = n ∧ ∀ i y, l[i]? = some y → Q i y
  | 0, _ => ⟨[], rfl, by simp⟩
  | n + 1, h => by
    obtain ⟨l, h1, h2⟩ := list_of n fun i hi => h i (by omega)
    obtain ⟨y, hy⟩ := h n (by omega)
    refine ⟨l ++ [y], by simp [h1], fun i z hz => ?_⟩
    rcases Nat.lt_or_ge i l.length with q | q
    · rw [List.getElem?_append_left q] at hz; exact h2 i z hz
    · rw [List.getElem?_append_right q] at hz
      rcases Nat.eq_or_lt_of_le q with e | e
      · subst e; simp at hz; subst hz; rw [h1]; exact hy
      · rw [List.getElem?_eq_none (by simp; omega)] at hz; simp at hz
theorem DRows_mk {h : Snap} {A : Option Addr} {sz : Nat} : ∀ {es : List (List D)} {k : Nat}, (∀ i e, es[i]? = some e → e.length = sz ∧ DCells h e A (k + i * sz)) → DRows h es A sz k
  | [], _, _ => by simp [DRows]
  | e :: es, k, H => by
    simp only [DRows]
    refine ⟨(H 0 e rfl).1, by simpa using (H 0 e rfl).2, DRows_mk fun i x hx => ?_⟩
    have := H (i + 1) x (by simpa using hx)
    rw [Nat.add_mul, Nat.one_mul] at this
    rwa [Nat.add_assoc, Nat.add_comm sz]
theorem cell_spot {W : World} {a : Addr} {v : Value} (h : W.cell? a = some v) : a.spot = none := by
  unfold World.cell? at h
  split at h
  · cases q : a.spot with
    | none => rfl
    | some s => simp [q] at h
  · simp at h
theorem DCells_mk {W : World} {a : Addr} (hs : a.spot = none) : ∀ {ds : List D} {cs : List Value} {k : Nat}, DRs (full W) ds cs → (∀ j v, cs[j]? = some v → W.cell? (a.add (k + j)) = some v) → DCells (full W) ds (some a) k
  | [], _, _, _, _ => by simp [DCells]
  | x :: ds, [], k, h, _ => by simp [DRs] at h
  | x :: ds, v :: cs, k, h, H => by
    simp only [DRs] at h
    simp only [DCells]
    have h0 := H 0 v rfl
    refine ⟨⟨a, v, rfl, hs, ?_, h.1⟩, DCells_mk hs h.2 fun j u hu => ?_⟩
    · rw [addr_add' hs] at h0; simpa [full] using h0
    · have := H (j + 1) u (by simpa using hu)
      rwa [show k + 1 + j = k + (j + 1) by omega]
theorem DRs_split {h : Snap} : ∀ {a b : List Value} {ds : List D}, DRs h ds (a ++ b) → ∃ x y, ds = x ++ y ∧ DRs h x a ∧ DRs h y b
  | [], b, ds, r => ⟨[], ds, rfl, by simp [DRs], r⟩
  | v :: a, b, [], r => by simp [DRs] at r
  | v :: a, b, d :: ds, r => by
    simp only [List.cons_append, DRs] at r
    obtain ⟨x, y, e, h1, h2⟩ := DRs_split r.2
    exact ⟨d :: x, y, by simp [e], by simp only [DRs]; exact ⟨r.1, h1⟩, h2⟩

section
variable {H : Type} {enc : TypeId × Value → H} {P : Program} {W : World} {base : Nat} {spare : Nat → Bool} {held : Bool}
/-- fields, one behind the other -/
theorem open_fields {n : Nat} {cs : List Value} {tot : Nat} : ∀ (fs : List Field) (o : Nat), tile P o fs = some tot → cs.length = tot → o ≤ tot → (∀ f ∈ fs, ∃ d, DRs (full W) d ((cs.drop f.offset).take (P.cellsOf f.type)) ∧ Tyd P n f.type d) →
    ∃ ds, DRs (full W) ds (cs.drop o) ∧ Sq (fs.map fun f => Tyd P n f.type) ds
  | [], o, ht, hl, ho, _ => by
    simp only [tile, Option.some.injEq] at ht
    refine ⟨[], ?_, rfl⟩
    rw [List.drop_eq_nil_of_le (by omega)]; simp [DRs]
  | f :: fs, o, ht, hl, ho, hd => by
    simp only [tile] at ht
    split at ht
    · next e =>
      subst e
      have hle : f.offset + P.cellsOf f.type ≤ tot := by
        have : ∀ (fs : List Field) (o : Nat), tile P o fs = some tot → o ≤ tot := by
          intro fs
          induction fs with
          | nil => intro o h; simp only [tile, Option.some.injEq] at h; omega
          | cons g fs ih =>
            intro o h
            simp only [tile] at h
            split at h
            · have := ih _ h; omega
            · simp at h
        exact this fs _ ht
      obtain ⟨d, h1, h2⟩ := hd f (by simp)
      obtain ⟨ds, h3, h4⟩ := open_fields fs _ ht hl hle fun g hg => hd g (by simp [hg])
      refine ⟨d ++ ds, ?_, d, ds, rfl, h2, h4⟩
      have := DRs_append h1 h3
      rwa [← List.drop_drop, List.take_append_drop] at this
    · simp at ht
theorem open_elems {n m : Nat} {e : TypeId} {cs : List Value} (hd : ∀ i, i < m → ∃ d, DRs (full W) d ((cs.drop (i * P.cellsOf e)).take (P.cellsOf e)) ∧ Tyd P n e d) (hl : cs.length = m * P.cellsOf e) :
    ∀ j, j ≤ m → ∃ ds, DRs (full W) ds (cs.drop ((m - j) * P.cellsOf e)) ∧ Sq (List.replicate j (Tyd P n e)) ds
  | 0, _ => by
    refine ⟨[], ?_, rfl⟩
    rw [List.drop_eq_nil_of_le (by rw [hl]; exact Nat.le_refl _)]; simp [DRs]
  | j + 1, hj => by
    obtain ⟨d, h1, h2⟩ := hd (m - (j + 1)) (by omega)
    obtain ⟨ds, h3, h4⟩ := open_elems hd hl j (by omega)
    refine ⟨d ++ ds, ?_, d, ds, rfl, h2, h4⟩
    have := DRs_append h1 h3
    have e2 : (m - j) * P.cellsOf e = (m - (j + 1)) * P.cellsOf e + P.cellsOf e := by
      rw [show m - j = m - (j + 1) + 1 by omega, Nat.add_mul, Nat.one_mul]
    rw [e2, ← List.drop_drop, List.take_append_drop] at this
    exact this
theorem weightsAll_mem {e : TypeId} : ∀ {ds : List (DataW H)} {d : DataW H}, d ∈ ds → ∀ n ∈ d.weights P e, n ∈ DataW.weightsAll P e ds
  | x :: ds, d, hd, n, hn => by
    simp only [DataW.weightsAll, List.mem_append]
    rcases List.mem_cons.1 hd with rfl | q
    · exact .inl hn
    · exact .inr (weightsAll_mem q n hn)
theorem wf_reach {n : Nat} (h : n ≤ reachBytes) : n ≤ 140737488351232 := h
theorem open_tyd : ∀ (n : Nat) (t : TypeId) (cs : List Value) (x : DataW H × List MemPlace), plainT P n t = true → (∃ m, DataW.trod enc P W base spare held m t cs = some x) → (∀ k ∈ x.1.weights P t, k ≤ reachBytes) →
    ∃ ds, DRs (full W) ds cs ∧ Tyd P n t ds := by
  intro n
  induction n with
  | zero => intro t cs x h; simp [plainT] at h
  | succ n ih =>
    rintro t cs x hp ⟨m, hm⟩ hw
    simp only [plainT] at hp
    simp only [Tyd]
    cases hu : P.underlying t with
    | none => rw [hu] at hp; simp at hp
    | some u =>
      rw [hu] at hp
      cases u <;> simp only [Bool.false_eq_true] at hp ⊢ <;> try exact hp.elim
      case bool =>
        obtain ⟨b, rfl, rfl⟩ := DataW.trod_bool hu hm
        exact ⟨[.bool b], by simp [DRs, DR], b, rfl⟩
      case int k =>
        obtain ⟨i, rfl, rfl, hwf⟩ := DataW.trod_int hu hm
        exact ⟨[.int k i], by simp [DRs, DR], i, rfl, hwf⟩
      case string =>
        obtain ⟨s, rfl, rfl, hs⟩ := DataW.trod_string hu hm
        refine ⟨[.str s], by simp [DRs, DR], s, rfl, ?_⟩
        have := hw s.data.toList.length (by simp only [DataW.weights, List.mem_singleton])
        exact wf_reach (by rw [Array.length_toList] at this; exact this)
      case slice e =>
        simp only [Bool.and_eq_true, decide_eq_true_eq] at hp
        rcases DataW.trod_slice hu hm with ⟨rfl, rfl⟩ | ⟨a, len, cap, elems, rest, m', _, rfl, rfl, hb, hl, hcm, hlen, hel, _, _⟩
        · exact ⟨[.sl []], by simp only [DRs, DR]; exact ⟨⟨none, 0, 0, rfl, Nat.le_refl _, fun h => absurd rfl h, fun _ => trivial, by simp [DRows]⟩, trivial⟩, [], rfl, by simp, by simp⟩
        · have hmem : ∀ k ∈ DataW.weightsAll P e (elems.map (·.1)), k ≤ reachBytes := fun k hk => hw k (by simp [DataW.weights, hu]; exact .inr (.inl hk))
          have each : ∀ i, i < len → ∃ d, ∃ cs, W.cells? base (a.add (i * P.cellsOf e)) (P.cellsOf e) = some cs ∧ DRs (full W) d cs ∧ Tyd P n e d := fun i hi => by
            have h1 := hel i hi
            rw [List.getElem?_eq_getElem (by omega)] at h1
            obtain ⟨cs, h2, h3⟩ := Option.bind_eq_some_iff.1 h1
            obtain ⟨d, h4, h5⟩ := ih e cs _ hp.2 ⟨_, h3⟩ (fun k hk => hmem k (weightsAll_mem (d := (elems[i]'(by omega)).1) (List.mem_map_of_mem (List.getElem_mem _)) k hk))
            exact ⟨d, cs, h2, h4, h5⟩
          obtain ⟨es, h1, h2⟩ := list_of len each
          subst h1
          refine ⟨[.sl es], ?_, es, rfl, ?_, fun x hx => ?_⟩
          · have hspot : ∀ i x, es[i]? = some x → a.spot = none := fun i x hx => by
              obtain ⟨x0, hx0⟩ : ∃ x0, es[0]? = some x0 := by
                have hlt := some_lt hx
                exact ⟨es[0]'(by omega), List.getElem?_eq_getElem (by omega)⟩
              obtain ⟨cs, k1, k2, k3⟩ := h2 0 x0 hx0
              obtain ⟨_, k4, k5⟩ := World.cells?_some k1
              have k6 := k5 0 hp.1
              rw [List.getElem?_eq_getElem (by omega)] at k6
              exact cell_spot (a := a) (by simpa [Addr.add] using k6)
            have hDR : DR (full W) (.sl es) (.slice (some a) es.length cap) := by
              simp only [DR]
              refine ⟨some a, cap, P.cellsOf e, rfl, hl, fun hne a' ha => ?_, nofun, DRows_mk fun i x hx => ?_⟩
              · cases ha
                cases es with
                | nil => exact absurd rfl hne
                | cons y ys => exact hspot 0 y rfl
              obtain ⟨cs, k1, k2, k3⟩ := h2 i x hx
              obtain ⟨_, k4, k5⟩ := World.cells?_some k1
              have hs := hspot i x hx
              refine ⟨(DRs_length k2).trans k4, DCells_mk hs k2 fun j v hv => ?_⟩
              have := k5 j (by rw [← k4]; exact some_lt hv)
              rw [hv] at this
              rw [Nat.zero_add, ← this, addr_add' hs, addr_add' hs, addr_add, Nat.add_assoc]
            simpa only [DRs, and_true] using hDR
          · have := hw ((elems.map (·.1)).length * P.bytesOf e + (rest.map (·.1)).length * P.bytesOf e) (by simp [DataW.weights, hu, Nat.add_mul])
            have h3 : es.length * P.bytesOf e ≤ reachBytes := by
              rw [List.length_map, hlen] at this; omega
            exact wf_reach h3
          · obtain ⟨i, hi⟩ := List.mem_iff_getElem?.1 hx
            obtain ⟨cs, k1, k2, k3⟩ := h2 i x hi
            exact k3
      case struct fs =>
        simp only [Bool.and_eq_true, beq_iff_eq, List.all_eq_true] at hp
        obtain ⟨xs, m', _, rfl, hlen, hxl, hf⟩ := DataW.trod_struct hu hm
        obtain ⟨ds, h1, h2⟩ := open_fields (W := W) (n := n) (cs := cs) fs.toList 0 hp.1 hlen (Nat.zero_le _) fun f hfm => by
          obtain ⟨i, hi⟩ := List.mem_iff_getElem?.1 hfm
          have h3 := hf i f (by simpa using hi)
          have hil : i < xs.length := by rw [hxl]; have := some_lt hi; simpa using this
          rw [List.getElem?_eq_getElem hil] at h3
          refine ih f.type _ _ (hp.2 f hfm) ⟨_, h3⟩ fun k hk => hw k ?_
          simp only [DataW.weights, hu]
          refine DataW.weights_mem_each (j := i) (t := f.type) (d := xs[i].1) ?_ ?_ k hk
          · rw [List.getElem?_map, hi]; rfl
          · rw [List.getElem?_map, List.getElem?_eq_getElem hil]; rfl
        exact ⟨ds, by simpa using h1, h2⟩
      case array k e =>
        simp only [Bool.and_eq_true, beq_iff_eq] at hp
        obtain ⟨xs, m', _, rfl, hlen, hxl, hf⟩ := DataW.trod_array hu hm
        obtain ⟨ds, h1, h2⟩ := open_elems (P := P) (W := W) (n := n) (m := k) (e := e) (cs := cs) (fun i hi => by
          have h3 := hf i hi
          have hil : i < xs.length := by rw [hxl]; exact hi
          rw [List.getElem?_eq_getElem hil] at h3
          refine ih e _ _ hp.2 ⟨_, h3⟩ fun q hq => hw q ?_
          simp only [DataW.weights, hu]
          exact weightsAll_mem (List.mem_map_of_mem (List.getElem_mem _)) q hq) (by rw [hlen, hp.1]) k (Nat.le_refl _)
        exact ⟨ds, by simpa using h1, h2⟩
end

/-! ### a law -/
def isA (P : Program) (t : TypeId) : Bool := match P.underlying t with
  | some (.struct _) => true
  | some (.array _ _) => true
  | _ => false
/-- the arguments, as data -/
def avs (P : Program) : List TypeId → List (List D) → List AV
  | t :: ts, d :: ds => dv (isA P t) d :: avs P ts ds
  | _, _ => []
def Tyds (P : Program) (n : Nat) : List TypeId → List (List D) → Prop
  | [], [] => True
  | t :: ts, d :: ds => Tyd P n t d ∧ Tyds P n ts ds
  | _, _ => False
theorem one_cell {P : Program} {W : World} {b : Nat} {t : TypeId} {v : Value} {n : Nat} {d : List D} (hv : Value.okWide P W .any b t v) (ha : isA P t = false) (hd : DRs (full W) d v.cells.toList) (ht : Tyd P n t d) : ∃ x, d = [x] ∧ DR (full W) x v := by
  cases n with
  | zero => exact ht.elim
  | succ n =>
    have : ∃ x, d = [x] := by
      simp only [Tyd] at ht
      unfold isA at ha
      cases hu : P.underlying t with
      | none => rw [hu] at ht; exact ht.elim
      | some u =>
        rw [hu] at ht ha
        cases u <;> simp only at ht ha <;> try exact ht.elim
        case bool => obtain ⟨b, rfl⟩ := ht; exact ⟨_, rfl⟩
        case int k => obtain ⟨b, rfl, _⟩ := ht; exact ⟨_, rfl⟩
        case string => obtain ⟨b, rfl, _⟩ := ht; exact ⟨_, rfl⟩
        case slice e => obtain ⟨b, rfl, _⟩ := ht; exact ⟨_, rfl⟩
        case struct fs => simp at ha
        case array k e => simp at ha
    obtain ⟨x, rfl⟩ := this
    refine ⟨x, rfl, ?_⟩
    have hc : v.cells = #[v] := by
      have hv' : Cell.okWide P W .any b t v := by
        unfold Value.okWide at hv
        unfold isA at ha
        split at hv
        · next h => rw [h] at ha; simp at ha
        · next h => rw [h] at ha; simp at ha
        · exact hv
      cases v with
      | agg cs =>
        exfalso
        unfold Cell.okWide Cell.ok at hv'
        cases hu : P.underlying t with
        | none => rw [hu] at hv'; exact hv'
        | some u => rw [hu] at hv'; cases u <;> exact hv'
      | _ => rfl
    rw [hc] at hd
    simpa [DRs] using hd

theorem av_ok {P : Program} {W : World} {b : Nat} {t : TypeId} {v : Value} {n : Nat} {d : List D} {c : Cf} (hc : c.h = full W) (hv : Value.okWide P W .any b t v) (hd : DRs (full W) d v.cells.toList) (ht : Tyd P n t d) : AR c (dv (isA P t) d) v := by
  cases ha : isA P t with
  | false =>
    obtain ⟨x, rfl, hx⟩ := one_cell hv ha hd ht
    simp only [dv, Bool.false_eq_true, if_false, List.headD_cons, AR]
    rw [hc]; exact hx
  | true =>
    have : ∃ cs, v = .agg cs := by
      unfold Value.okWide at hv
      unfold isA at ha
      split at hv
      · obtain ⟨cs, h, _⟩ := hv; exact ⟨cs, h⟩
      · obtain ⟨cs, h, _⟩ := hv; exact ⟨cs, h⟩
      · next h1 h2 =>
        split at ha
        · next f h => exact absurd h (h1 f)
        · next m e h => exact absurd h (h2 m e)
        · simp at ha
    obtain ⟨cs, rfl⟩ := this
    simp only [dv, if_true, AR]
    refine ⟨cs, rfl, ARs_dcells ?_⟩
    rw [hc]; exact hd
section
variable {H : Type} {enc : TypeId × Value → H} {P : Program} {W : World} {spare : Nat → Bool} {held : Bool}
theorem open_args {n : Nat} {c : Cf} (hc : c.h = full W) : ∀ {ts : List TypeId} {vs : List Value} {ds : List (DataW H)} {ps : List MemPlace}, DataW.TrodAll enc P W 0 spare held ts vs ds ps → (ts.all (plainT P n)) = true →
    (∀ k ∈ DataW.weightsEach P ts ds, k ≤ reachBytes) → (∀ (j : Nat) (t : TypeId) (v : Value), ts[j]? = some t → vs[j]? = some v → ∃ b, Value.okWide P W .any b t v) → ∃ xs, Tyds P n ts xs ∧ ARs c (avs P ts xs) vs
  | [], [], [], ps, h, _, _, _ => ⟨[], trivial, by simp [avs, ARs]⟩
  | t :: ts, v :: vs, d :: ds, ps, h, hp, hw, hv => by
    obtain ⟨p, q, h1, h2, _⟩ := h
    simp only [List.all_cons, Bool.and_eq_true] at hp
    obtain ⟨xs, h3, h4⟩ := open_args hc h2 hp.2 (fun k hk => hw k (by simp only [DataW.weightsEach, List.mem_append]; exact .inr hk)) fun j t' v' e1 e2 => hv (j + 1) t' v' (by simpa using e1) (by simpa using e2)
    obtain ⟨m, hm⟩ := h1
    obtain ⟨x, h5, h6⟩ := open_tyd n t _ _ hp.1 ⟨m, hm⟩ fun k hk => hw k (by simp only [DataW.weightsEach, List.mem_append]; exact .inl hk)
    obtain ⟨b, hb⟩ := hv 0 t v rfl rfl
    exact ⟨x :: xs, ⟨h6, h3⟩, ARs_cons.2 ⟨av_ok hc hb h5 h6, h4⟩⟩
  | [], _ :: _, _, _, h, _, _, _ => by simp [DataW.TrodAll] at h
  | [], [], _ :: _, _, h, _, _, _ => by simp [DataW.TrodAll] at h
  | _ :: _, [], _, _, h, _, _, _ => by simp [DataW.TrodAll] at h
  | _ :: _, _ :: _, [], _, h, _, _, _ => by simp [DataW.TrodAll] at h
theorem trodAll_lt : ∀ {ts : List TypeId} {vs : List Value} {ds : List (DataW H)} {ps : List MemPlace}, DataW.TrodAll enc P W 0 spare held ts vs ds ps → ∀ x ∈ ps, x.block < W.heap.size
  | [], [], [], ps, h, x, hx => by simp only [DataW.TrodAll] at h; subst h; cases hx
  | t :: ts, v :: vs, d :: ds, ps, h, x, hx => by
    obtain ⟨p, q, ⟨m, hm⟩, h2, rfl⟩ := h
    rcases List.mem_append.1 hx with k | k
    · exact DataW.trod_lt m _ _ _ hm x k
    · exact trodAll_lt h2 x k
  | [], _ :: _, _, _, h, _, _ => by simp [DataW.TrodAll] at h
  | [], [], _ :: _, _, h, _, _ => by simp [DataW.TrodAll] at h
  | _ :: _, [], _, _, h, _, _ => by simp [DataW.TrodAll] at h
  | _ :: _, _ :: _, [], _, h, _, _ => by simp [DataW.TrodAll] at h
theorem trodAll_carry (hl : laidOutB P = true) {W W' : World} (hb : RowKit.Below W.heap.size W W') : ∀ {ts : List TypeId} {vs : List Value} {ds : List (DataW H)} {ps : List MemPlace}, DataW.TrodAll enc P W 0 (fun _ => true) true ts vs ds ps →
    (ts.all fun t => P.readableRec t && decide (t < P.types.size)) = true → DataW.TrodAll enc P W' 0 (fun b => decide (b < W.heap.size)) true ts vs ds ps
  | [], [], [], ps, h, _ => h
  | t :: ts, v :: vs, d :: ds, ps, h, hr => by
    obtain ⟨p, q, h1, h2, rfl⟩ := h
    simp only [List.all_cons, Bool.and_eq_true, decide_eq_true_eq] at hr
    obtain ⟨m, hm⟩ := h1
    exact ⟨p, q, RowKit.Below.trod hl hr.1.1 hr.1.2 ⟨m, hm⟩ hb (DataW.trod_lt m _ _ _ hm), trodAll_carry hl hb h2 (by simpa using hr.2), rfl⟩
  | [], _ :: _, _, _, h, _ => by simp [DataW.TrodAll] at h
  | [], [], _ :: _, _, h, _ => by simp [DataW.TrodAll] at h
  | _ :: _, [], _, _, h, _ => by simp [DataW.TrodAll] at h
  | _ :: _, _ :: _, [], _, h, _ => by simp [DataW.TrodAll] at h
end
theorem Nxt.below {c c' : Cf} {σ' : List AObj} (N : Nxt c [] c' σ') : RowKit.Below c.w.heap.size c.w c'.w :=
  ⟨N.os, N.tape, N.output, N.size, fun k hk => N.kept k hk (by rintro ⟨l, o, h, _⟩; simp at h)⟩

/-- FROM A SPEC TO THE LAW's ROW. -/
theorem lifted {C : Checked} {f : FuncId} {fn : Func} {s : ChangeSpec} {conds : List PathCond} {rt : TypeId} {n : Nat} (own : ownKnob C.prog.godebug = none) (noInit : C.prog.inits.idxOf? f = none) (hfn : C.prog.funcs[f]? = some fn)
    (hvars : s.vars = []) (hs : ∀ (H : Type) (ds : List (DataW H)), ds.length = fn.params.toList.length → s.fn H ds = { results := [.lit (.bool true)], args := ds })
    (hrt : fn.resultTypes = #[rt]) (hb : C.prog.underlying rt = some .bool) (hl : laidOutB C.prog = true) (hr : (fn.params.toList.all fun t => C.prog.readableRec t && decide (t < C.prog.types.size)) = true) (hp : (fn.params.toList.all (plainT C.prog n)) = true)
    (os : Os) (started : os.Started) (H : Type) (enc : TypeId × Value → H)
    (witness : ∃ (w : World) (tape : Tape) (i : Input), w.os = os ∧ (w.forCall tape i).Shaped C.prog ∧ i.vars = [] ∧ Input.okWide C.prog (w.forCall tape i) .any w.heap.size f i ∧
      s.pre6 enc C.prog fn conds false (w.forCall tape i).memory i.args ∧ Assume.holds {} C.prog (lone (Frame.enter C.prog f i.args .normal) [] (w.forCall tape i)))
    (spec : ∀ xs, Tyds C.prog n fn.params.toList xs → Spec C.prog f (avs C.prog fn.params.toList xs) [] (.d (.bool true)) []) :
    ReturnsInHanded {} C os f .any (s.pre6 enc C.prog fn conds false) (s.post enc C.prog fn false true false false) := by
  refine returnsInHanded_of_change_sized own started noInit hfn witness ?_
  intro W base args ds gs before hval hW hcnd hsz _
  have hW' := hW
  obtain ⟨p, q, hA, hV, rfl, hfz, hnd⟩ := hW
  rw [hvars] at hV
  obtain ⟨rfl, rfl⟩ := trodVars_none hV
  have hvt : s.plain.varTypes C.prog = [] := by simp [ChangeSpec.plain, DataSpec.varTypes, hvars]
  rw [hvt, List.append_nil, List.append_nil] at hsz
  let c : Cf := ⟨W, full W, 0, fun _ => 0, fun _ => undef⟩
  have hH : Holds c [] := ⟨rfl, fun b o v h => h, by simp, by simp, by simp, by simp⟩
  obtain ⟨xs, h1, h2⟩ := open_args (c := c) (n := n) rfl hA hp (fun k hk => by have := List.all_eq_true.1 hsz k hk; simpa using this) (fun j t v e1 e2 => ⟨base, hval j t v (by simpa using e1) (by simpa using e2)⟩)
  refine ((spec xs h1).2 c args hH h2).mono ?_
  rintro e w' ⟨c', v, rfl, rfl, hv, N⟩
  simp only [AR, DR] at hv
  subst hv
  have hdl : ds.length = fn.params.toList.length := by
    have : ∀ {ts : List TypeId} {vs : List Value} {ds : List (DataW H)} {ps : List MemPlace}, DataW.TrodAll enc C.prog W 0 (fun _ => true) true ts vs ds ps → ds.length = ts.length := by
      intro ts
      induction ts with
      | nil => intro vs ds ps h; cases vs <;> cases ds <;> simp_all [DataW.TrodAll]
      | cons t ts ih => intro vs ds ps h; cases vs <;> cases ds <;> simp_all [DataW.TrodAll]; obtain ⟨p, q, _, h2, _⟩ := h; exact ih h2
    exact this hA
  refine ⟨_, rfl, ds, [], _, [], p, [], hW', ?_, ?_, ?_, N.below.frame _, fun h => by cases h⟩
  · rw [List.append_nil, hs H ds hdl, hrt]
    exact trodAll_mk1 (RowKit.shut_bool hb true)
  · rw [List.append_nil, hs H ds hdl]
    exact trodAll_carry hl N.below hA hr
  · rw [hvars]; rw [List.append_nil, hs H ds hdl]; rfl
/-! ### words for the texts -/
def planT : Nat → Nat → Plan
  | _, 0 => .done
  | i, n + 1 => .take i false (planT (i + 1) n)
theorem finT_to {P : Program} {σ : List AObj} {F : AV → List AObj → Prop} {v : AV} {τ : List AObj} : finT P σ F (.to v τ) = F v τ := rfl
theorem finT_need {P : Program} {σ : List AObj} {F : AV → List AObj → Prop} {p : Prop} {r : R1} : finT P σ F (.need p r) = (p ∧ finT P σ F r) := rfl
theorem finT_all {P : Program} {σ : List AObj} {F : AV → List AObj → Prop} {es : List (List D)} {i : Nat} {k : List D → R1} : finT P σ F (.all es i k) = (i < es.length ∧ ∀ e, es[i]? = some e → finT P σ F (k e)) := rfl
theorem finT_ite {P : Program} {σ : List AObj} {F : AV → List AObj → Prop} {t : Bool} {x y : R1} : finT P σ F (.ite t x y) = ((t = true → finT P σ F x) ∧ (t = false → finT P σ F y)) := rfl
theorem finT_ite_t {P : Program} {σ : List AObj} {F : AV → List AObj → Prop} {x y : R1} : finT P σ F (.ite true x y) = finT P σ F x := by simp [finT]
theorem finT_ite_f {P : Program} {σ : List AObj} {F : AV → List AObj → Prop} {x y : R1} : finT P σ F (.ite false x y) = finT P σ F y := by simp [finT]
theorem finT_call {P : Program} {σ : List AObj} {F : AV → List AObj → Prop} {f : FuncId} {args : List AV} : finT P σ F (.call f args) = ∃ r σ', Spec P f args σ r σ' ∧ F r σ' := rfl
theorem finT_all_map {P : Program} {σ : List AObj} {F : AV → List AObj → Prop} {α : Type} {l : List α} {g : α → List D} {i : Nat} {k : List D → R1} : finT P σ F (.all (l.map g) i k) = (i < l.length ∧ ∀ x, l[i]? = some x → finT P σ F (k (g x))) := by
  simp only [finT_all, List.length_map, List.getElem?_map]
  refine propext ⟨fun h => ⟨h.1, fun x hx => h.2 _ (by simp [hx])⟩, fun h => ⟨h.1, fun e he => ?_⟩⟩
  cases q : l[i]? with
  | none => simp [q] at he
  | some x => simp [q] at he; subst he; exact h.2 x q
theorem evP_done {P : Program} {all : Array Oper} {E : List AV → List AObj → Prop} {pd : Pd} {env : List AV} {σ : List AObj} : evP P all E .done pd env σ = E env σ := rfl
theorem evP_take {P : Program} {all : Array Oper} {E : List AV → List AObj → Prop} {i : Nat} {r : Bool} {p : Plan} {pd : Pd} {env : List AV} {σ : List AObj} : evP P all E (.take i r p) pd env σ = opG P all env σ (contT (evP P all E p) i r pd env (dstOf all i) σ) all[i]? := rfl
theorem evP_run {P : Program} {all : Array Oper} {E : List AV → List AObj → Prop} {rs : List Nat} {m : Nat → List Bool} {f : Nat → Plan} {pd : Pd} {env : List AV} {σ : List AObj} : evP P all E (.run rs m f) pd env σ = allL rs fun i => opG P all env σ (contR P all (evP P all E (f i)) (sel (m i) pd) env (dstOf all i)) all[i]? := rfl
attribute [go_sem high] finT_ite_t finT_ite_f
attribute [go_sem] planT evP_done evP_take evP_run opG finT_to finT_need finT_ite finT_call finT_all_map dstOf allL sel reds guardOf contT contR
attribute [go_sem low] finT_all
theorem finG_t {P : Program} {all : Array Oper} {env : List AV} {σ : List AObj} {o : Oper} {F : AV → List AObj → Prop} : finG P all env σ o F (some true) = finT P σ F (evOp P env σ o.op) := by simp [finG]
theorem finG_f {P : Program} {all : Array Oper} {env : List AV} {σ : List AObj} {o : Oper} {F : AV → List AObj → Prop} : finG P all env σ o F (some false) = F (.tup []) σ := by simp [finG]
attribute [go_sem] finG_t finG_f
theorem ba_beq (a b : ByteArray) : (a.toList == b.toList) = decide (a = b) := by
  by_cases h : a = b
  · subst h; simp
  · simp only [h, decide_false, beq_eq_false_iff_ne, ne_eq]
    intro q
    apply h
    have : ∀ a : ByteArray, a.toList = a.data.toList := fun a => by
      have : ∀ (n i : Nat) (r : List UInt8), a.size - i = n → ByteArray.toList.loop a i r = r.reverse ++ a.data.toList.drop i := by
        intro n
        induction n with
        | zero =>
          intro i r hn
          unfold ByteArray.toList.loop
          have hs : a.size = a.data.toList.length := by rw [Array.length_toList]; rfl
          rw [if_neg (by omega), List.drop_eq_nil_of_le (by omega), List.append_nil]
        | succ n ih =>
          intro i r hn
          unfold ByteArray.toList.loop
          have hs : a.size = a.data.toList.length := by rw [Array.length_toList]; rfl
          have hi : i < a.data.toList.length := by omega
          rw [if_pos (by omega), ih (i + 1) _ (by omega), List.reverse_cons, List.append_assoc, List.drop_eq_getElem_cons hi]
          have hi' : i < a.data.size := by simpa using hi
          simp [ByteArray.get!, getElem!_pos a.data i hi']
      exact this _ 0 [] rfl
    rw [this, this] at q
    cases a with
    | mk a => cases b with
      | mk b => simp only at q; rw [Array.toList_inj.1 q]
theorem bb1 : (true == true) = true := rfl
theorem bb2 : (true == false) = false := rfl
theorem bb3 : (false == true) = false := rfl
theorem bb4 : (false == false) = true := rfl
attribute [go_sem] bb1 bb2 bb3 bb4
theorem tf_f : (true = false) = False := by simp
theorem wk_bool {b b' : Bool} {τ : List AObj} (h : b = b') : Wk 0 [.d (.bool b)] τ [.d (.bool b')] [] := by subst h; exact Wk.dataZ (τ := τ) (by simp [dat]) trivial
theorem wk_int {k : IntKind} {b b' : Int} {τ : List AObj} (h : b = b') : Wk 0 [.d (.int k b)] τ [.d (.int k b')] [] := by subst h; exact Wk.dataZ (τ := τ) (by simp [dat]) trivial
theorem wk_eq {r r' : AV} {τ τ' : List AObj} (h : r = r') (hd : dat τ r = some (r, τ')) (hb : bd 0 r') : Wk 0 [r] τ [r'] [] := by subst h; exact Wk.dataZ hd hb
attribute [go_sem] List.take_succ_cons List.take_zero List.drop_succ_cons List.drop_zero List.getElem?_toArray List.getElem?_cons_zero List.getElem?_cons_succ Option.bind_some true_implies false_implies eq_self tf_f
theorem at0_range {n i : Nat} (h : i < n) : at0 (List.range n) i = i := by simp [at0, h]
theorem ren_range {n : Nat} {x : AV} (h : bd n x) : ren (at0 (List.range n)) x = x := by
  rw [ren_congr (f := at0 (List.range n)) (g := id) (fun l hl => at0_range hl) x h]
  have : (∀ x : AV, ren id x = x) := by
    intro x
    induction x using AV.rec (motive_2 := fun xs => rens id xs = xs) with
    | _ => simp_all [ren, rens]
  exact this x
theorem rens_range {n : Nat} : ∀ {xs : List AV}, bds n xs → rens (at0 (List.range n)) xs = xs
  | [], _ => rfl
  | x :: xs, h => by rw [rens, ren_range h.1, rens_range h.2]
theorem mapO_range {n : Nat} : ∀ {os : List AObj}, bdOs n os → mapO (at0 (List.range n)) os = os
  | [], _ => rfl
  | o :: os, h => by
    rw [mapO, mapO_range h.2]
    congr 1
    have := h.1
    cases o <;> simp only [renO]
    rw [rens_range this]
theorem obs_range (σ τ : List AObj) : obs (σ ++ τ) (List.range σ.length) = σ := by
  refine List.ext_getElem? fun i => ?_
  rcases Nat.lt_or_ge i σ.length with h | h
  · rw [obs_get _ _ (by simpa using h), at0_range h, ob_eq, List.getElem?_append_left h, List.getElem?_eq_getElem h]; simp
  · rw [List.getElem?_eq_none (by rw [obs_length]; simpa using h), List.getElem?_eq_none h]
theorem wkOs_refl : ∀ os : List AObj, wkOs os os
  | [] => trivial
  | o :: os => ⟨wkO_refl o, wkOs_refl os⟩
/-- the first blocks stay; the others are forgotten -/
theorem Wk.keep {xs : List AV} {σ τ : List AObj} (h1 : bds σ.length xs) (h2 : bdOs σ.length σ) : Wk σ.length xs (σ ++ τ) xs σ := by
  refine Wk.via (List.range σ.length) ?_ (by simpa using h1) List.nodup_range (fun l hl => by simp at hl ⊢; omega) ?_ (by simpa using h2) (by simp) (fun i hi => at0_range hi)
  · rw [rens_range h1]; exact wkE_refl _
  · rw [obs_range, mapO_range h2]; exact wkOs_refl _
theorem Wk.forget {xs ys : List AV} {σ : List AObj} (h : wkE xs ys) (hb : bds 0 ys) : Wk 0 xs σ ys [] :=
  Wk.via [] (by rw [rens_id hb]; exact h) hb (by simp) (by simp) trivial trivial (Nat.le_refl _) (fun i h => absurd h (Nat.not_lt_zero i))
attribute [go_sem] Int.toNat_zero Int.toNat_one beq_self_eq_true Bool.or_false Bool.false_or Bool.or_true Bool.true_or Nat.mul_one List.all_cons List.all_nil Bool.and_true Bool.true_and
theorem wk_dat {r r' r'' : AV} {τ τ' : List AObj} (h : dat τ r = some (r', τ')) (he : r' = r'') (hb : bd 0 r'') : Wk 0 [r] τ [r''] [] := by subst he; exact Wk.dataZ h hb
/-- all forgotten but one block -/
theorem Wk.via1 (k : Nat) {xs ys : List AV} {σ : List AObj} {o : AObj} (h1 : wkE xs (rens (at0 [k]) ys)) (h2 : bds 1 ys) (h4 : k < σ.length) (h5 : wkO (ob σ k) (renO (at0 [k]) o)) (h6 : bdO 1 o) : Wk 0 xs σ ys [o] :=
  Wk.via [k] h1 h2 (by simp) (by simpa using h4) ⟨h5, trivial⟩ ⟨h6, trivial⟩ (Nat.zero_le _) (fun i h => absurd h (Nat.not_lt_zero i))
attribute [go_sem] List.getD_cons_zero List.getD_cons_succ List.getD_nil
theorem map_len {α : Type} {g : α → List D} {n : Nat} (h : ∀ x, (g x).length = n) {l : List α} : ∀ e ∈ l.map g, e.length = n := by
  intro e he
  obtain ⟨x, _, rfl⟩ := List.mem_map.1 he
  exact h x
theorem tk_map {α : Type} {g : α → List D} {l : List α} {n : Nat} : (l.map g).take n = (l.take n).map g := by rw [List.map_take]
theorem dr_map {α : Type} {g : α → List D} {l : List α} {n : Nat} : (l.map g).drop n = (l.drop n).map g := by rw [List.map_drop]
theorem ap_map {α : Type} {g : α → List D} {l l' : List α} : l.map g ++ l'.map g = (l ++ l').map g := by rw [List.map_append]
attribute [go_sem] tk_map dr_map ap_map
theorem wk_tup_nil {x y : D} {σ : List AObj} (sz : Nat) (h : x = y) : Wk 0 [.tup [.nil, .d x]] σ [.tup [.own 0, .d y]] [.row sz []] := by
  subst h
  refine Wk.trans (Wk.inTup (fun n0 => Wk.nil 0 sz rfl) 0) ?_
  refine Wk.via1 σ.length ?_ ⟨⟨Nat.one_pos, trivial, trivial⟩, trivial⟩ (by simp) ?_ trivial
  · simp [wkE, rens, ren, at0, st]
  · rw [ob_eq]; simp [renO, wkO]
theorem retG_t {P : Program} {all : Array Oper} {env : List AV} {σ : List AObj} {dst : Option Tmp} {op : Op} {ty : TypeId} {pos : String} {aft : Array Edge} {v : AV} {σ' : List AObj} : RetG P all env σ ⟨dst, op, ty, pos, aft, none⟩ v σ' = Ret P σ v σ' (evOp P env σ op) := rfl
theorem getD_lit {l : List Oper} {i : Nat} {d : Oper} : (l.toArray).getD i d = (l[i]?).getD d := by simp
attribute [go_sem] retG_t Ret getD_lit Option.getD_some
theorem sbs_append (l : Nat) (d : D) : ∀ xs ys : List AV, sbs l d (xs ++ ys) = sbs l d xs ++ sbs l d ys
  | [], _ => rfl
  | x :: xs, ys => by simp only [List.cons_append, sbs, sbs_append l d xs ys]
theorem sbs_length (l : Nat) (d : D) : ∀ xs : List AV, (sbs l d xs).length = xs.length
  | [] => rfl
  | x :: xs => by simp only [sbs, List.length_cons, sbs_length l d xs]
/-- before a call, a row is given up -/
theorem ECall.frz {Γ : Ctx} {E : List AV → List AObj → Prop} {dst : Option Tmp} {f : FuncId} {env args : List AV} {σ : List AObj} (l : Nat) {sz : Nat} {es : List (List D)} (hl : σ[l]? = some (.row sz es)) (h : ECall Γ E dst f (sbs l (.sl es) env) (sbs l (.sl es) args) (σ.set l .gone)) : ECall Γ E dst f env args σ :=
  .wk (sbs_length _ _ _) (by rw [← sbs_append]; exact Wk.frz l hl) h
/-- a call with data, that hands back new blocks -/
theorem ecallN {Γ : Ctx} {E : List AV → List AObj → Prop} {dst : Option Tmp} {f : FuncId} {args env : List AV} {σ : List AObj} (r : AV) (τ : List AObj) (h7 : Spec Γ.P f args [] r τ) (hb : bds 0 args) (h8 : E (putO env dst (ren (rn [] σ.length) r)) (σ ++ mapO (rn [] σ.length) τ)) : ECall Γ E dst f env args σ := by
  refine .mk [] args [] r τ (by rw [rens_id hb]) hb (by simp) (by simp) rfl trivial h7 ?_
  simpa [back, setAll] using h8
theorem row_ex {sz : Nat} {es : List (List D)} : (∃ es', AObj.row sz es = AObj.row sz es') = True := eq_true ⟨es, rfl⟩
attribute [go_sem] row_ex
/-! ### a law's data, by type -/
section
variable {P : Program} {n : Nat} {t e : TypeId} {ds : List D}
theorem Tyd.slice (hu : P.underlying t = some (.slice e)) (h : Tyd P (n + 1) t ds) : ∃ es, ds = [.sl es] ∧ es.length * P.bytesOf e ≤ 140737488351232 ∧ ∀ x ∈ es, Tyd P n e x := by rw [Tyd, hu] at h; exact h
theorem Tyd.int {k : IntKind} (hu : P.underlying t = some (.int k)) (h : Tyd P (n + 1) t ds) : ∃ i, ds = [.int k i] ∧ (Lit.int k i).wf = true := by rw [Tyd, hu] at h; exact h
theorem Tyd.bool (hu : P.underlying t = some .bool) (h : Tyd P (n + 1) t ds) : ∃ b, ds = [.bool b] := by rw [Tyd, hu] at h; exact h
theorem Tyd.str (hu : P.underlying t = some .string) (h : Tyd P (n + 1) t ds) : ∃ s : ByteArray, ds = [.str s] ∧ s.size ≤ 140737488351232 := by rw [Tyd, hu] at h; exact h
theorem Tyd.struct {fs : Array Field} (hu : P.underlying t = some (.struct fs)) (h : Tyd P (n + 1) t ds) : Sq (fs.toList.map fun f => Tyd P n f.type) ds := by rw [Tyd, hu] at h; exact h
theorem Tyd.array {m : Nat} (hu : P.underlying t = some (.array m e)) (h : Tyd P (n + 1) t ds) : Sq (List.replicate m (Tyd P n e)) ds := by rw [Tyd, hu] at h; exact h
end
theorem rows_of {α : Type} {g : α → List D} : ∀ {es : List (List D)}, (∀ x ∈ es, ∃ y, x = g y) → ∃ l : List α, es = l.map g
  | [], _ => ⟨[], rfl⟩
  | e :: es, h => by
    obtain ⟨y, rfl⟩ := h e (by simp)
    obtain ⟨l, hl⟩ := rows_of (es := es) (g := g) fun x hx => h x (by simp [hx])
    exact ⟨y :: l, by rw [hl]; rfl⟩
/-- the first that has it, or -1 -/
def idx {α : Type} (p : α → Bool) (l : List α) : Int := match l.findIdx? p with
  | some i => i
  | none => -1
theorem idx_found {α : Type} {p : α → Bool} {l : List α} {i : Nat} {x : α} (h : l[i]? = some x) (hp : p x = true) (hj : ∀ (j : Nat) (y : α), l[j]? = some y → j < i → p y = false) : idx p l = i := by
  have : l.findIdx? p = some i := by
    rw [List.findIdx?_eq_some_iff_getElem]
    have hlt := some_lt h
    refine ⟨hlt, ?_, fun j hji => ?_⟩
    · rw [List.getElem?_eq_getElem hlt] at h; simp at h; rw [h]; exact hp
    · have := hj j (l[j]'(by omega)) (List.getElem?_eq_getElem _) hji
      simp [this]
  simp [idx, this]
theorem idx_none {α : Type} {p : α → Bool} {l : List α} (hj : ∀ (j : Nat) (y : α), l[j]? = some y → p y = false) : idx p l = -1 := by
  have : l.findIdx? p = none := by
    rw [List.findIdx?_eq_none_iff]
    intro x hx
    obtain ⟨j, h⟩ := List.mem_iff_getElem?.1 hx
    exact hj j x h
  simp [idx, this]
theorem idx_any {α : Type} (p : α → Bool) (l : List α) : decide (0 ≤ idx p l) = l.any p := by
  unfold idx
  cases h : l.findIdx? p with
  | none =>
    have := List.findIdx?_eq_none_iff.1 h
    have h2 : l.any p = false := by rw [List.any_eq_false]; intro x hx; simp [this x hx]
    simp [h2]
  | some i =>
    obtain ⟨hlt, hp, _⟩ := List.findIdx?_eq_some_iff_getElem.1 h
    have h2 : l.any p = true := List.any_eq_true.2 ⟨l[i], List.getElem_mem _, hp⟩
    simp [h2]
/-- no longer than memory -/
def Sm (n : Nat) : Prop := n ≤ 140737488351232
attribute [go_sem] ba_beq
theorem dec_small (s : ByteArray) (i : Nat) (h : (s.get! i).toNat < 128) : Utf8.decode s i = ((s.get! i).toNat, 1) := by
  unfold Utf8.decode
  simp only [Nat.add_zero]
  rw [if_pos h]
theorem dec_big (s : ByteArray) (i : Nat) (h : 128 ≤ (s.get! i).toNat) : 128 ≤ (Utf8.decode s i).1 ∧ 1 ≤ (Utf8.decode s i).2 := by
  unfold Utf8.decode
  simp only [Nat.add_zero]
  rw [if_neg (by omega)]
  have hr : 128 ≤ Utf8.runeError := by decide
  repeat' split
  all_goals (first | exact ⟨hr, Nat.le_refl _⟩ | (next q => simp only [ge_iff_le, Bool.and_eq_true, decide_eq_true_eq] at q; constructor <;> simp <;> omega) | (next q => simp only [ge_iff_le] at q; constructor <;> simp <;> omega))
theorem bt_get (s : ByteArray) (i : Nat) (h : i < s.size) : bt s i = ((s.get! i).toNat : Int) := by
  unfold bt
  have h' : i < s.data.size := h
  rw [getElem?_pos s i h]
  simp only [Option.map_some, Option.getD_some, ByteArray.get!]
  congr 2
  show s.data[i] = s.data[i]!
  rw [getElem!_pos s.data i h']
theorem bt_range (s : ByteArray) (i : Nat) : 0 ≤ bt s i ∧ bt s i ≤ 255 := by
  unfold bt
  cases s[i]? with
  | none => simp
  | some b => have := b.toNat_lt; simp; omega
/-- some element, with its place -/
def anyI {α : Type} (p : Nat → α → Bool) (l : List α) : Bool := (List.range l.length).any fun i => match l[i]? with
  | some x => p i x
  | none => false
theorem anyI_t {α : Type} {p : Nat → α → Bool} {l : List α} {i : Nat} {x : α} (h : l[i]? = some x) (hp : p i x = true) : anyI p l = true :=
  List.any_eq_true.2 ⟨i, by simpa using some_lt h, by simp only [h]; exact hp⟩
theorem anyI_f {α : Type} {p : Nat → α → Bool} {l : List α} (h : ∀ (i : Nat) (x : α), l[i]? = some x → p i x = false) : anyI p l = false := by
  unfold anyI
  rw [List.any_eq_false]
  intro i _
  cases q : l[i]? with
  | none => simp
  | some x => simp [h i x q]
theorem anyI_no {α : Type} {p : Nat → α → Bool} {l : List α} (h : anyI p l = false) {i : Nat} {x : α} (hx : l[i]? = some x) : p i x = false := by
  unfold anyI at h
  rw [List.any_eq_false] at h
  have := h i (by simpa using some_lt hx)
  simpa [hx] using this
theorem upto_succ {α : Type} {p : Nat → α → Prop} {l : List α} {i : Nat} {x : α} (hx : l[i]? = some x) (hp : p i x) (hj : ∀ (j : Nat) (y : α), l[j]? = some y → j < i → p j y) : ∀ (j : Nat) (y : α), l[j]? = some y → j < i + 1 → p j y := fun j y hy hlt => by
  rcases Nat.lt_or_ge j i with q | q
  · exact hj j y hy q
  · have : j = i := by omega
    subst this; rw [hx] at hy; cases hy; exact hp
end Go.AX

/- AX, part X: a law's arguments, opened; from a spec to the law's row. -/
import Derived.Test.YtmffhidhmbncbaaK3
import Derived.OpenShut
import Derived.SizedLaws
import Derived.Carry
import Derived.ChangeOld
import Derived.ChangeArms
import Derived.WalkKit
import Derived.ProofKit
import Derived.RowKit
import Derived.ChangeKeysEq
import Derived.Test.YtmffhidhmbncbaaProg
import Derived.KernelRfl
set_option linter.unusedVariables false
set_option linter.unusedSimpArgs false
namespace Go.AX
open Go.ChangeShapes

def Sq : List (List D → Prop) → List D → Prop
  | [], ds => ds = []
  | q :: p, ds => ∃ a b, ds = a ++ b ∧ q a ∧ Sq p b
/-- data of a type -/
def Tyd (P : Program) : Nat → TypeId → List D → Prop
  | 0, _, _ => False
  | n + 1, t, ds => match P.underlying t with
    | some .bool => ∃ b, ds = [.bool b]
    | some (.int k) => ∃ i, ds = [.int k i] ∧ (Lit.int k i).wf = true
    | some .string => ∃ s : ByteArray, ds = [.str s] ∧ s.size ≤ 140737488351232
    | some (.slice e) => ∃ es, ds = [.sl es] ∧ es.length * P.bytesOf e ≤ 140737488351232 ∧ ∀ x ∈ es, Tyd P n e x
    | some (.struct fs) => Sq (fs.toList.map fun f => Tyd P n f.type) ds
    | some (.array m e) => Sq (List.replicate m (Tyd P n e)) ds
    | _ => False
/-- the fields lie one behind the other -/
def tile (P : Program) : Nat → List Field → Option Nat
  | o, [] => some o
  | o, f :: fs => if f.offset = o then tile P (o + P.cellsOf f.type) fs else none
def plainT (P : Program) : Nat → TypeId → Bool
  | 0, _ => false
  | n + 1, t => match P.underlying t with
    | some .bool => true
    | some (.int _) => true
    | some .string => true
    | some (.slice e) => decide (0 < P.cellsOf e) && plainT P n e
    | some (.struct fs) => tile P 0 fs.toList == some (P.cellsOf t) && fs.toList.all fun f => plainT P n f.type
    | some (.array m e) => m * P.cellsOf e == P.cellsOf t && plainT P n e
    | _ => false
def full (W : World) : Snap := fun b o => W.cell? ⟨b, o, none⟩

theorem list_of {α : Type} {Q : Nat → α → Prop} : ∀ n, (∀ i, i < n → ∃ y, Q i y) → ∃ l : List α, l.length = n ∧ ∀ i y, l[i]? = some y → Q i y
  | 0, _ => ⟨[], rfl, by simp⟩
  | n + 1, h => by
    obtain ⟨l, h1, h2⟩ := list_of n fun i hi => h i (by omega)
    obtain ⟨y, hy⟩ := h n (by omega)
    refine ⟨l ++ [y], by simp [h1], fun i z hz => ?_⟩
    rcases Nat.lt_or_ge i l.length with q | q
    · rw [List.getElem?_append_left q] at hz; exact h2 i z hz
    · rw [List.getElem?_append_right q] at hz
      rcases Nat.eq_or_lt_of_le q with e | e
      · subst e; simp at hz; subst hz; rw [h1]; exact hy
      · rw [List.getElem?_eq_none (by simp; omega)] at hz; simp at hz
theorem DRows_mk {h : Snap} {A : Option Addr} {sz : Nat} : ∀ {es : List (List D)} {k : Nat}, (∀ i e, es[i]? = some e → e.length = sz ∧ DCells h e A (k + i * sz)) → DRows h es A sz k
  | [], _, _ => by simp [DRows]
  | e :: es, k, H => by
    simp only [DRows]
    refine ⟨(H 0 e rfl).1, by simpa using (H 0 e rfl).2, DRows_mk fun i x hx => ?_⟩
    have := H (i + 1) x (by simpa using hx)
    rw [Nat.add_mul, Nat.one_mul] at this
    rwa [Nat.add_assoc, Nat.add_comm sz]
theorem cell_spot {W : World} {a : Addr} {v : Value} (h : W.cell? a = some v) : a.spot = none := by
  unfold World.cell? at h
  split at h
  · cases q : a.spot with
    | none => rfl
    | some s => simp [q] at h
  · simp at h
theorem DCells_mk {W : World} {a : Addr} (hs : a.spot = none) : ∀ {ds : List D} {cs : List Value} {k : Nat}, DRs (full W) ds cs → (∀ j v, cs[j]? = some v → W.cell? (a.add (k + j)) = some v) → DCells (full W) ds (some a) k
  | [], _, _, _, _ => by simp [DCells]
  | x :: ds, [], k, h, _ => by simp [DRs] at h
  | x :: ds, v :: cs, k, h, H => by
    simp only [DRs] at h
    simp only [DCells]
    have h0 := H 0 v rfl
    refine ⟨⟨a, v, rfl, hs, ?_, h.1⟩, DCells_mk hs h.2 fun j u hu => ?_⟩
    · rw [addr_add' hs] at h0; simpa [full] using h0
    · have := H (j + 1) u (by simpa using hu)
      rwa [show k + 1 + j = k + (j + 1) by omega]
section
variable {H : Type} {enc : TypeId × Value → H} {P : Program} {W : World} {base : Nat} {spare : Nat → Bool} {held : Bool}
/-- fields, one behind the other -/
theorem open_fields {n : Nat} {cs : List Value} {tot : Nat} : ∀ (fs : List Field) (o : Nat), tile P o fs = some tot → cs.length = tot → o ≤ tot → (∀ f ∈ fs, ∃ d, DRs (full W) d ((cs.drop f.offset).take (P.cellsOf f.type)) ∧ Tyd P n f.type d) →
    ∃ ds, DRs (full W) ds (cs.drop o) ∧ Sq (fs.map fun f => Tyd P n f.type) ds
  | [], o, ht, hl, ho, _ => by
    simp only [tile, Option.some.injEq] at ht
    refine ⟨[], ?_, rfl⟩
    rw [List.drop_eq_nil_of_le (by omega)]; simp [DRs]
  | f :: fs, o, ht, hl, ho, hd => by
    simp only [tile] at ht
    split at ht
    · next e =>
      subst e
      have hle : f.offset + P.cellsOf f.type ≤ tot := by
        have : ∀ (fs : List Field) (o : Nat), tile P o fs = some tot → o ≤ tot := by
          intro fs
          induction fs with
          | nil => intro o h; simp only [tile, Option.some.injEq] at h; omega
          | cons g fs ih =>
            intro o h
            simp only [tile] at h
            split at h
            · have := ih _ h; omega
            · simp at h
        exact this fs _ ht
      obtain ⟨d, h1, h2⟩ := hd f (by simp)
      obtain ⟨ds, h3, h4⟩ := open_fields fs _ ht hl hle fun g hg => hd g (by simp [hg])
      refine ⟨d ++ ds, ?_, d, ds, rfl, h2, h4⟩
      have := DRs_append h1 h3
      rwa [← List.drop_drop, List.take_append_drop] at this
    · simp at ht
theorem open_elems {n m : Nat} {e : TypeId} {cs : List Value} (hd : ∀ i, i < m → ∃ d, DRs (full W) d ((cs.drop (i * P.cellsOf e)).take (P.cellsOf e)) ∧ Tyd P n e d) (hl : cs.length = m * P.cellsOf e) :
    ∀ j, j ≤ m → ∃ ds, DRs (full W) ds (cs.drop ((m - j) * P.cellsOf e)) ∧ Sq (List.replicate j (Tyd P n e)) ds
  | 0, _ => by
    refine ⟨[], ?_, rfl⟩
    rw [List.drop_eq_nil_of_le (by rw [hl]; exact Nat.le_refl _)]; simp [DRs]
  | j + 1, hj => by
    obtain ⟨d, h1, h2⟩ := hd (m - (j + 1)) (by omega)
    obtain ⟨ds, h3, h4⟩ := open_elems hd hl j (by omega)
    refine ⟨d ++ ds, ?_, d, ds, rfl, h2, h4⟩
    have := DRs_append h1 h3
    have e2 : (m - j) * P.cellsOf e = (m - (j + 1)) * P.cellsOf e + P.cellsOf e := by
      rw [show m - j = m - (j + 1) + 1 by omega, Nat.add_mul, Nat.one_mul]
    rw [e2, ← List.drop_drop, List.take_append_drop] at this
    exact this
theorem weightsAll_mem {e : TypeId} : ∀ {ds : List (DataW H)} {d : DataW H}, d ∈ ds → ∀ n ∈ d.weights P e, n ∈ DataW.weightsAll P e ds
  | x :: ds, d, hd, n, hn => by
    simp only [DataW.weightsAll, List.mem_append]
    rcases List.mem_cons.1 hd with rfl | q
    · exact .inl hn
    · exact .inr (weightsAll_mem q n hn)
theorem wf_reach {n : Nat} (h : n ≤ reachBytes) : n ≤ 140737488351232 := h
theorem open_tyd : ∀ (n : Nat) (t : TypeId) (cs : List Value) (x : DataW H × List MemPlace), plainT P n t = true → (∃ m, DataW.trod enc P W base spare held m t cs = some x) → (∀ k ∈ x.1.weights P t, k ≤ reachBytes) →
    ∃ ds, DRs (full W) ds cs ∧ Tyd P n t ds := by
  intro n
  induction n with
  | zero => intro t cs x h; simp [plainT] at h
  | succ n ih =>
    rintro t cs x hp ⟨m, hm⟩ hw
    simp only [plainT] at hp
    simp only [Tyd]
    cases hu : P.underlying t with
    | none => rw [hu] at hp; simp at hp
    | some u =>
      rw [hu] at hp
      cases u <;> simp only [Bool.false_eq_true] at hp ⊢ <;> try exact hp.elim
      case bool =>
        obtain ⟨b, rfl, rfl⟩ := DataW.trod_bool hu hm
        exact ⟨[.bool b], by simp [DRs, DR], b, rfl⟩
      case int k =>
        obtain ⟨i, rfl, rfl, hwf⟩ := DataW.trod_int hu hm
        exact ⟨[.int k i], by simp [DRs, DR], i, rfl, hwf⟩
      case string =>
        obtain ⟨s, rfl, rfl, hs⟩ := DataW.trod_string hu hm
        refine ⟨[.str s], by simp [DRs, DR], s, rfl, ?_⟩
        have := hw s.data.toList.length (by simp only [DataW.weights, List.mem_singleton])
        exact wf_reach (by rw [Array.length_toList] at this; exact this)
      case slice e =>
        simp only [Bool.and_eq_true, decide_eq_true_eq] at hp
        rcases DataW.trod_slice hu hm with ⟨rfl, rfl⟩ | ⟨a, len, cap, elems, rest, m', _, rfl, rfl, hb, hl, hcm, hlen, hel, _, _⟩
        · exact ⟨[.sl []], by simp only [DRs, DR]; exact ⟨⟨none, 0, 0, rfl, Nat.le_refl _, fun h => absurd rfl h, fun _ => trivial, by simp [DRows]⟩, trivial⟩, [], rfl, by simp, by simp⟩
        · have hmem : ∀ k ∈ DataW.weightsAll P e (elems.map (·.1)), k ≤ reachBytes := fun k hk => hw k (by simp [DataW.weights, hu]; exact .inr (.inl hk))
          have each : ∀ i, i < len → ∃ d, ∃ cs, W.cells? base (a.add (i * P.cellsOf e)) (P.cellsOf e) = some cs ∧ DRs (full W) d cs ∧ Tyd P n e d := fun i hi => by
            have h1 := hel i hi
            rw [List.getElem?_eq_getElem (by omega)] at h1
            obtain ⟨cs, h2, h3⟩ := Option.bind_eq_some_iff.1 h1
            obtain ⟨d, h4, h5⟩ := ih e cs _ hp.2 ⟨_, h3⟩ (fun k hk => hmem k (weightsAll_mem (d := (elems[i]'(by omega)).1) (List.mem_map_of_mem (List.getElem_mem _)) k hk))
            exact ⟨d, cs, h2, h4, h5⟩
          obtain ⟨es, h1, h2⟩ := list_of len each
          subst h1
          refine ⟨[.sl es], ?_, es, rfl, ?_, fun x hx => ?_⟩
          · have hspot : ∀ i x, es[i]? = some x → a.spot = none := fun i x hx => by
              obtain ⟨x0, hx0⟩ : ∃ x0, es[0]? = some x0 := by
                have hlt := some_lt hx
                exact ⟨es[0]'(by omega), List.getElem?_eq_getElem (by omega)⟩
              obtain ⟨cs, k1, k2, k3⟩ := h2 0 x0 hx0
              obtain ⟨_, k4, k5⟩ := World.cells?_some k1
              have k6 := k5 0 hp.1
              rw [List.getElem?_eq_getElem (by omega)] at k6
              exact cell_spot (a := a) (by simpa [Addr.add] using k6)
            have hDR : DR (full W) (.sl es) (.slice (some a) es.length cap) := by
              simp only [DR]
              refine ⟨some a, cap, P.cellsOf e, rfl, hl, fun hne a' ha => ?_, nofun, DRows_mk fun i x hx => ?_⟩
              · cases ha
                cases es with
                | nil => exact absurd rfl hne
                | cons y ys => exact hspot 0 y rfl
              obtain ⟨cs, k1, k2, k3⟩ := h2 i x hx
              obtain ⟨_, k4, k5⟩ := World.cells?_some k1
              have hs := hspot i x hx
              refine ⟨(DRs_length k2).trans k4, DCells_mk hs k2 fun j v hv => ?_⟩
              have := k5 j (by rw [← k4]; exact some_lt hv)
              rw [hv] at this
              rw [Nat.zero_add, ← this, addr_add' hs, addr_add' hs, addr_add, Nat.add_assoc]
            simpa only [DRs, and_true] using hDR
          · have := hw ((elems.map (·.1)).length * P.bytesOf e + (rest.map (·.1)).length * P.bytesOf e) (by simp [DataW.weights, hu, Nat.add_mul])
            have h3 : es.length * P.bytesOf e ≤ reachBytes := by
              rw [List.length_map, hlen] at this; omega
            exact wf_reach h3
          · obtain ⟨i, hi⟩ := List.mem_iff_getElem?.1 hx
            obtain ⟨cs, k1, k2, k3⟩ := h2 i x hi
            exact k3
      case struct fs =>
        simp only [Bool.and_eq_true, beq_iff_eq, List.all_eq_true] at hp
        obtain ⟨xs, m', _, rfl, hlen, hxl, hf⟩ := DataW.trod_struct hu hm
        obtain ⟨ds, h1, h2⟩ := open_fields (W := W) (n := n) (cs := cs) fs.toList 0 hp.1 hlen (Nat.zero_le _) fun f hfm => by
          obtain ⟨i, hi⟩ := List.mem_iff_getElem?.1 hfm
          have h3 := hf i f (by simpa using hi)
          have hil : i < xs.length := by rw [hxl]; have := some_lt hi; simpa using this
          rw [List.getElem?_eq_getElem hil] at h3
          refine ih f.type _ _ (hp.2 f hfm) ⟨_, h3⟩ fun k hk => hw k ?_
          simp only [DataW.weights, hu]
          refine DataW.weights_mem_each (j := i) (t := f.type) (d := xs[i].1) ?_ ?_ k hk
          · rw [List.getElem?_map, hi]; rfl
          · rw [List.getElem?_map, List.getElem?_eq_getElem hil]; rfl
        exact ⟨ds, by simpa using h1, h2⟩
      case array k e =>
        simp only [Bool.and_eq_true, beq_iff_eq] at hp
        obtain ⟨xs, m', _, rfl, hlen, hxl, hf⟩ := DataW.trod_array hu hm
        obtain ⟨ds, h1, h2⟩ := open_elems (P := P) (W := W) (n := n) (m := k) (e := e) (cs := cs) (fun i hi => by
          have h3 := hf i hi
          have hil : i < xs.length := by rw [hxl]; exact hi
          rw [List.getElem?_eq_getElem hil] at h3
          refine ih e _ _ hp.2 ⟨_, h3⟩ fun q hq => hw q ?_
          simp only [DataW.weights, hu]
          exact weightsAll_mem (List.mem_map_of_mem (List.getElem_mem _)) q hq) (by rw [hlen, hp.1]) k (Nat.le_refl _)
        exact ⟨ds, by simpa using h1, h2⟩
end

/-! ### a law -/
def isA (P : Program) (t : TypeId) : Bool := match P.underlying t with
  | some (.struct _) => true
  | some (.array _ _) => true
  | _ => false
/-- the arguments, as data -/
def avs (P : Program) : List TypeId → List (List D) → List AV
  | t :: ts, d :: ds => dv (isA P t) d :: avs P ts ds
  | _, _ => []
def Tyds (P : Program) (n : Nat) : List TypeId → List (List D) → Prop
  | [], [] => True
  | t :: ts, d :: ds => Tyd P n t d ∧ Tyds P n ts ds
  | _, _ => False
theorem one_cell {P : Program} {W : World} {b : Nat} {t : TypeId} {v : Value} {n : Nat} {d : List D} (hv : Value.okWide P W .any b t v) (ha : isA P t = false) (hd : DRs (full W) d v.cells.toList) (ht : Tyd P n t d) : ∃ x, d = [x] ∧ DR (full W) x v := by
  cases n with
  | zero => exact ht.elim
  | succ n =>
    have : ∃ x, d = [x] := by
      simp only [Tyd] at ht
      unfold isA at ha
      cases hu : P.underlying t with
      | none => rw [hu] at ht; exact ht.elim
      | some u =>
        rw [hu] at ht ha
        cases u <;> simp only at ht ha <;> try exact ht.elim
        case bool => obtain ⟨b, rfl⟩ := ht; exact ⟨_, rfl⟩
        case int k => obtain ⟨b, rfl, _⟩ := ht; exact ⟨_, rfl⟩
        case string => obtain ⟨b, rfl, _⟩ := ht; exact ⟨_, rfl⟩
        case slice e => obtain ⟨b, rfl, _⟩ := ht; exact ⟨_, rfl⟩
        case struct fs => simp at ha
        case array k e => simp at ha
    obtain ⟨x, rfl⟩ := this
    refine ⟨x, rfl, ?_⟩
    have hc : v.cells = #[v] := by
      have hv' : Cell.okWide P W .any b t v := by
        unfold Value.okWide at hv
        unfold isA at ha
        split at hv
        · next h => rw [h] at ha; simp at ha
        · next h => rw [h] at ha; simp at ha
        · exact hv
      cases v with
      | agg cs =>
        exfalso
        unfold Cell.okWide Cell.ok at hv'
        cases hu : P.underlying t with
        | none => rw [hu] at hv'; exact hv'
        | some u => rw [hu] at hv'; cases u <;> exact hv'
      | _ => rfl
    rw [hc] at hd
    simpa [DRs] using hd

theorem av_ok {P : Program} {W : World} {b : Nat} {t : TypeId} {v : Value} {n : Nat} {d : List D} {c : Cf} (hc : c.h = full W) (hv : Value.okWide P W .any b t v) (hd : DRs (full W) d v.cells.toList) (ht : Tyd P n t d) : AR c (dv (isA P t) d) v := by
  cases ha : isA P t with
  | false =>
    obtain ⟨x, rfl, hx⟩ := one_cell hv ha hd ht
    simp only [dv, Bool.false_eq_true, if_false, List.headD_cons, AR]
    rw [hc]; exact hx
  | true =>
    have : ∃ cs, v = .agg cs := by
      unfold Value.okWide at hv
      unfold isA at ha
      split at hv
      · obtain ⟨cs, h, _⟩ := hv; exact ⟨cs, h⟩
      · obtain ⟨cs, h, _⟩ := hv; exact ⟨cs, h⟩
      · next h1 h2 =>
        split at ha
        · next f h => exact absurd h (h1 f)
        · next m e h => exact absurd h (h2 m e)
        · simp at ha
    obtain ⟨cs, rfl⟩ := this
    simp only [dv, if_true, AR]
    refine ⟨cs, rfl, ARs_dcells ?_⟩
    rw [hc]; exact hd
section
variable {H : Type} {enc : TypeId × Value → H} {P : Program} {W : World} {spare : Nat → Bool} {held : Bool}
theorem open_args {n : Nat} {c : Cf} (hc : c.h = full W) : ∀ {ts : List TypeId} {vs : List Value} {ds : List (DataW H)} {ps : List MemPlace}, DataW.TrodAll enc P W 0 spare held ts vs ds ps → (ts.all (plainT P n)) = true →
    (∀ k ∈ DataW.weightsEach P ts ds, k ≤ reachBytes) → (∀ (j : Nat) (t : TypeId) (v : Value), ts[j]? = some t → vs[j]? = some v → ∃ b, Value.okWide P W .any b t v) → ∃ xs, Tyds P n ts xs ∧ ARs c (avs P ts xs) vs
  | [], [], [], ps, h, _, _, _ => ⟨[], trivial, by simp [avs, ARs]⟩
  | t :: ts, v :: vs, d :: ds, ps, h, hp, hw, hv => by
    obtain ⟨p, q, h1, h2, _⟩ := h
    simp only [List.all_cons, Bool.and_eq_true] at hp
    obtain ⟨xs, h3, h4⟩ := open_args hc h2 hp.2 (fun k hk => hw k (by simp only [DataW.weightsEach, List.mem_append]; exact .inr hk)) fun j t' v' e1 e2 => hv (j + 1) t' v' (by simpa using e1) (by simpa using e2)
    obtain ⟨m, hm⟩ := h1
    obtain ⟨x, h5, h6⟩ := open_tyd n t _ _ hp.1 ⟨m, hm⟩ fun k hk => hw k (by simp only [DataW.weightsEach, List.mem_append]; exact .inl hk)
    obtain ⟨b, hb⟩ := hv 0 t v rfl rfl
    exact ⟨x :: xs, ⟨h6, h3⟩, ARs_cons.2 ⟨av_ok hc hb h5 h6, h4⟩⟩
  | [], _ :: _, _, _, h, _, _, _ => by simp [DataW.TrodAll] at h
  | [], [], _ :: _, _, h, _, _, _ => by simp [DataW.TrodAll] at h
  | _ :: _, [], _, _, h, _, _, _ => by simp [DataW.TrodAll] at h
  | _ :: _, _ :: _, [], _, h, _, _, _ => by simp [DataW.TrodAll] at h
theorem trodAll_carry (hl : laidOutB P = true) {W W' : World} (hb : RowKit.Below W.heap.size W W') : ∀ {ts : List TypeId} {vs : List Value} {ds : List (DataW H)} {ps : List MemPlace}, DataW.TrodAll enc P W 0 (fun _ => true) true ts vs ds ps →
    (ts.all fun t => P.readableRec t && decide (t < P.types.size)) = true → DataW.TrodAll enc P W' 0 (fun b => decide (b < W.heap.size)) true ts vs ds ps
  | [], [], [], ps, h, _ => h
  | t :: ts, v :: vs, d :: ds, ps, h, hr => by
    obtain ⟨p, q, h1, h2, rfl⟩ := h
    simp only [List.all_cons, Bool.and_eq_true, decide_eq_true_eq] at hr
    obtain ⟨m, hm⟩ := h1
    exact ⟨p, q, RowKit.Below.trod hl hr.1.1 hr.1.2 ⟨m, hm⟩ hb (DataW.trod_lt m _ _ _ hm), trodAll_carry hl hb h2 (by simpa using hr.2), rfl⟩
  | [], _ :: _, _, _, h, _ => by simp [DataW.TrodAll] at h
  | [], [], _ :: _, _, h, _ => by simp [DataW.TrodAll] at h
  | _ :: _, [], _, _, h, _ => by simp [DataW.TrodAll] at h
  | _ :: _, _ :: _, [], _, h, _ => by simp [DataW.TrodAll] at h
end
theorem Nxt.below {c c' : Cf} {σ' : List AObj} (N : Nxt c [] c' σ') : RowKit.Below c.w.heap.size c.w c'.w :=
  ⟨N.os, N.tape, N.output, N.size, fun k hk => N.kept k hk (by rintro ⟨l, o, h, _⟩; simp at h)⟩

/-! ### words for the texts -/
def planT : Nat → Nat → Plan
  | _, 0 => .done
  | i, n + 1 => .take i false (planT (i + 1) n)
theorem finT_to {P : Program} {σ : List AObj} {F : AV → List AObj → Prop} {v : AV} {τ : List AObj} : finT P σ F (.to v τ) = F v τ := rfl
theorem finT_need {P : Program} {σ : List AObj} {F : AV → List AObj → Prop} {p : Prop} {r : R1} : finT P σ F (.need p r) = (p ∧ finT P σ F r) := rfl
theorem finT_all {P : Program} {σ : List AObj} {F : AV → List AObj → Prop} {es : List (List D)} {i : Nat} {k : List D → R1} : finT P σ F (.all es i k) = (i < es.length ∧ ∀ e, es[i]? = some e → finT P σ F (k e)) := rfl
theorem finT_ite {P : Program} {σ : List AObj} {F : AV → List AObj → Prop} {t : Bool} {x y : R1} : finT P σ F (.ite t x y) = ((t = true → finT P σ F x) ∧ (t = false → finT P σ F y)) := rfl
theorem finT_ite_t {P : Program} {σ : List AObj} {F : AV → List AObj → Prop} {x y : R1} : finT P σ F (.ite true x y) = finT P σ F x := by simp [finT]
theorem finT_ite_f {P : Program} {σ : List AObj} {F : AV → List AObj → Prop} {x y : R1} : finT P σ F (.ite false x y) = finT P σ F y := by simp [finT]
theorem finT_call {P : Program} {σ : List AObj} {F : AV → List AObj → Prop} {f : FuncId} {args : List AV} : finT P σ F (.call f args) = ∃ r σ', Spec P f args σ r σ' ∧ F r σ' := rfl
theorem finT_all_map {P : Program} {σ : List AObj} {F : AV → List AObj → Prop} {α : Type} {l : List α} {g : α → List D} {i : Nat} {k : List D → R1} : finT P σ F (.all (l.map g) i k) = (i < l.length ∧ ∀ x, l[i]? = some x → finT P σ F (k (g x))) := by
  simp only [finT_all, List.length_map, List.getElem?_map]
  refine propext ⟨fun h => ⟨h.1, fun x hx => h.2 _ (by simp [hx])⟩, fun h => ⟨h.1, fun e he => ?_⟩⟩
  cases q : l[i]? with
  | none => simp [q] at he
  | some x => simp [q] at he; subst he; exact h.2 x q
theorem evP_done {P : Program} {all : Array Oper} {E : List AV → List AObj → Prop} {pd : Pd} {env : List AV} {σ : List AObj} : evP P all E .done pd env σ = E env σ := rfl
theorem evP_take {P : Program} {all : Array Oper} {E : List AV → List AObj → Prop} {i : Nat} {r : Bool} {p : Plan} {pd : Pd} {env : List AV} {σ : List AObj} : evP P all E (.take i r p) pd env σ = opG P all env σ (contT (evP P all E p) i r pd env (dstOf all i) σ) all[i]? := rfl
theorem evP_run {P : Program} {all : Array Oper} {E : List AV → List AObj → Prop} {rs : List Nat} {m : Nat → List Bool} {f : Nat → Plan} {pd : Pd} {env : List AV} {σ : List AObj} : evP P all E (.run rs m f) pd env σ = allL rs fun i => opG P all env σ (contR P all (evP P all E (f i)) (sel (m i) pd) env (dstOf all i)) all[i]? := rfl
theorem evP_runV {P : Program} {all : Array Oper} {E : List AV → List AObj → Prop} {rs : List Nat} {m : Nat → List Bool} {f : Nat → Plan} {pd : Pd} {env : List AV} {σ : List AObj} : evP P all E (.runV rs m f) pd env σ = allL rs fun i => opG P all env σ (contV P all (evP P all E (f i)) (sel (m i) pd) env (dstOf all i) σ.length) all[i]? := rfl
attribute [go_sem high] finT_ite_t finT_ite_f
attribute [go_sem] planT evP_done evP_take evP_run evP_runV opG finT_to finT_need finT_ite finT_call finT_all_map dstOf allL sel reds guardOf contT contR contV
attribute [go_sem low] finT_all
theorem finG_t {P : Program} {all : Array Oper} {env : List AV} {σ : List AObj} {o : Oper} {F : AV → List AObj → Prop} : finG P all env σ o F (some true) = finT P σ F (evOp P env σ o.op) := by simp [finG]
theorem finG_f {P : Program} {all : Array Oper} {env : List AV} {σ : List AObj} {o : Oper} {F : AV → List AObj → Prop} : finG P all env σ o F (some false) = F (.tup []) σ := by simp [finG]
attribute [go_sem] finG_t finG_f
theorem ba_beq (a b : ByteArray) : (a.toList == b.toList) = decide (a = b) := by
  by_cases h : a = b
  · subst h; simp
  · simp only [h, decide_false, beq_eq_false_iff_ne, ne_eq]
    intro q
    apply h
    have : ∀ a : ByteArray, a.toList = a.data.toList := fun a => by
      have : ∀ (n i : Nat) (r : List UInt8), a.size - i = n → ByteArray.toList.loop a i r = r.reverse ++ a.data.toList.drop i := by
        intro n
        induction n with
        | zero =>
          intro i r hn
          unfold ByteArray.toList.loop
          have hs : a.size = a.data.toList.length := by rw [Array.length_toList]; rfl
          rw [if_neg (by omega), List.drop_eq_nil_of_le (by omega), List.append_nil]
        | succ n ih =>
          intro i r hn
          unfold ByteArray.toList.loop
          have hs : a.size = a.data.toList.length := by rw [Array.length_toList]; rfl
          have hi : i < a.data.toList.length := by omega
          rw [if_pos (by omega), ih (i + 1) _ (by omega), List.reverse_cons, List.append_assoc, List.drop_eq_getElem_cons hi]
          have hi' : i < a.data.size := by simpa using hi
          simp [ByteArray.get!, getElem!_pos a.data i hi']
      exact this _ 0 [] rfl
    rw [this, this] at q
    cases a with
    | mk a => cases b with
      | mk b => simp only at q; rw [Array.toList_inj.1 q]
theorem bb1 : (true == true) = true := rfl
theorem bb2 : (true == false) = false := rfl
theorem bb3 : (false == true) = false := rfl
theorem bb4 : (false == false) = true := rfl
attribute [go_sem] bb1 bb2 bb3 bb4
theorem tf_f : (true = false) = False := by simp
theorem wk_bool {b b' : Bool} {τ : List AObj} (h : b = b') : Wk 0 [.d (.bool b)] τ [.d (.bool b')] [] := by subst h; exact Wk.dataZ (τ := τ) (by simp [dat]) trivial
theorem wk_int {k : IntKind} {b b' : Int} {τ : List AObj} (h : b = b') : Wk 0 [.d (.int k b)] τ [.d (.int k b')] [] := by subst h; exact Wk.dataZ (τ := τ) (by simp [dat]) trivial
theorem wk_eq {r r' : AV} {τ τ' : List AObj} (h : r = r') (hd : dat τ r = some (r, τ')) (hb : bd 0 r') : Wk 0 [r] τ [r'] [] := by subst h; exact Wk.dataZ hd hb
attribute [go_sem] List.take_succ_cons List.take_zero List.drop_succ_cons List.drop_zero List.getElem?_toArray List.getElem?_cons_zero List.getElem?_cons_succ Option.bind_some true_implies false_implies eq_self tf_f
theorem at0_range {n i : Nat} (h : i < n) : at0 (List.range n) i = i := by simp [at0, h]
theorem ren_range {n : Nat} {x : AV} (h : bd n x) : ren (at0 (List.range n)) x = x := by
  rw [ren_congr (f := at0 (List.range n)) (g := id) (fun l hl => at0_range hl) x h]
  have : (∀ x : AV, ren id x = x) := by
    intro x
    induction x using AV.rec (motive_2 := fun xs => rens id xs = xs) with
    | _ => simp_all [ren, rens]
  exact this x
theorem rens_range {n : Nat} : ∀ {xs : List AV}, bds n xs → rens (at0 (List.range n)) xs = xs
  | [], _ => rfl
  | x :: xs, h => by rw [rens, ren_range h.1, rens_range h.2]
theorem renss_range {n : Nat} : ∀ {es : List (List AV)}, bdss n es → renss (at0 (List.range n)) es = es
  | [], _ => rfl
  | x :: xs, h => by rw [renss, rens_range h.1, renss_range h.2]
theorem mapO_range {n : Nat} : ∀ {os : List AObj}, bdOs n os → mapO (at0 (List.range n)) os = os
  | [], _ => rfl
  | o :: os, h => by
    rw [mapO, mapO_range h.2]
    congr 1
    have := h.1
    cases o <;> simp only [renO]
    · rw [rens_range this]
    · rw [renss_range this]
theorem obs_range (σ τ : List AObj) : obs (σ ++ τ) (List.range σ.length) = σ := by
  refine List.ext_getElem? fun i => ?_
  rcases Nat.lt_or_ge i σ.length with h | h
  · rw [obs_get _ _ (by simpa using h), at0_range h, ob_eq, List.getElem?_append_left h, List.getElem?_eq_getElem h]; simp
  · rw [List.getElem?_eq_none (by rw [obs_length]; simpa using h), List.getElem?_eq_none h]
theorem wkOs_refl : ∀ os : List AObj, wkOs os os
  | [] => trivial
  | o :: os => ⟨wkO_refl o, wkOs_refl os⟩
/-- the first blocks stay; the others are forgotten -/
theorem Wk.keep {xs : List AV} {σ τ : List AObj} (h1 : bds σ.length xs) (h2 : bdOs σ.length σ) : Wk σ.length xs (σ ++ τ) xs σ := by
  refine Wk.via (List.range σ.length) ?_ (by simpa using h1) List.nodup_range (fun l hl => by simp at hl ⊢; omega) ?_ (by simpa using h2) (by simp) (fun i hi => at0_range hi)
  · rw [rens_range h1]; exact wkE_refl _
  · rw [obs_range, mapO_range h2]; exact wkOs_refl _
theorem Wk.forget {xs ys : List AV} {σ : List AObj} (h : wkE xs ys) (hb : bds 0 ys) : Wk 0 xs σ ys [] :=
  Wk.via [] (by rw [rens_id hb]; exact h) hb (by simp) (by simp) trivial trivial (Nat.le_refl _) (fun i h => absurd h (Nat.not_lt_zero i))
attribute [go_sem] Int.toNat_zero Int.toNat_one beq_self_eq_true Bool.or_false Bool.false_or Bool.or_true Bool.true_or Nat.mul_one List.all_cons List.all_nil Bool.and_true Bool.true_and
theorem wk_dat {r r' r'' : AV} {τ τ' : List AObj} (h : dat τ r = some (r', τ')) (he : r' = r'') (hb : bd 0 r'') : Wk 0 [r] τ [r''] [] := by subst he; exact Wk.dataZ h hb
/-- all forgotten but one block -/
theorem Wk.via1 (k : Nat) {xs ys : List AV} {σ : List AObj} {o : AObj} (h1 : wkE xs (rens (at0 [k]) ys)) (h2 : bds 1 ys) (h4 : k < σ.length) (h5 : wkO (ob σ k) (renO (at0 [k]) o)) (h6 : bdO 1 o) : Wk 0 xs σ ys [o] :=
  Wk.via [k] h1 h2 (by simp) (by simpa using h4) ⟨h5, trivial⟩ ⟨h6, trivial⟩ (Nat.zero_le _) (fun i h => absurd h (Nat.not_lt_zero i))
attribute [go_sem] List.getD_cons_zero List.getD_cons_succ List.getD_nil
theorem map_len {α : Type} {g : α → List D} {n : Nat} (h : ∀ x, (g x).length = n) {l : List α} : ∀ e ∈ l.map g, e.length = n := by
  intro e he
  obtain ⟨x, _, rfl⟩ := List.mem_map.1 he
  exact h x
theorem tk_map {α : Type} {g : α → List D} {l : List α} {n : Nat} : (l.map g).take n = (l.take n).map g := by rw [List.map_take]
theorem dr_map {α : Type} {g : α → List D} {l : List α} {n : Nat} : (l.map g).drop n = (l.drop n).map g := by rw [List.map_drop]
theorem ap_map {α : Type} {g : α → List D} {l l' : List α} : l.map g ++ l'.map g = (l ++ l').map g := by rw [List.map_append]
attribute [go_sem] tk_map dr_map ap_map
theorem wk_tup_nil {x y : D} {σ : List AObj} (sz : Nat) (h : x = y) : Wk 0 [.tup [.nil, .d x]] σ [.tup [.own 0, .d y]] [.row sz []] := by
  subst h
  refine Wk.trans (Wk.inTup (fun n0 => Wk.nil 0 sz rfl) 0) ?_
  refine Wk.via1 σ.length ?_ ⟨⟨Nat.one_pos, trivial, trivial⟩, trivial⟩ (by simp) ?_ trivial
  · simp [wkE, rens, ren, at0, st]
  · rw [ob_eq]; simp [renO, wkO]
theorem retG_t {P : Program} {all : Array Oper} {env : List AV} {σ : List AObj} {dst : Option Tmp} {op : Op} {ty : TypeId} {pos : String} {aft : Array Edge} {v : AV} {σ' : List AObj} : RetG P all env σ ⟨dst, op, ty, pos, aft, none⟩ v σ' = Ret P σ v σ' (evOp P env σ op) := rfl
theorem getD_lit {l : List Oper} {i : Nat} {d : Oper} : (l.toArray).getD i d = (l[i]?).getD d := by simp
attribute [go_sem] retG_t Ret getD_lit Option.getD_some
theorem sbs_append (l : Nat) (d : D) : ∀ xs ys : List AV, sbs l d (xs ++ ys) = sbs l d xs ++ sbs l d ys
  | [], _ => rfl
  | x :: xs, ys => by simp only [List.cons_append, sbs, sbs_append l d xs ys]
theorem sbs_length (l : Nat) (d : D) : ∀ xs : List AV, (sbs l d xs).length = xs.length
  | [] => rfl
  | x :: xs => by simp only [sbs, List.length_cons, sbs_length l d xs]
/-- before a call, a row is given up -/
theorem ECall.frz {Γ : Ctx} {E : List AV → List AObj → Prop} {dst : Option Tmp} {f : FuncId} {env args : List AV} {σ : List AObj} (l : Nat) {sz : Nat} {es : List (List D)} (hl : σ[l]? = some (.row sz es)) (h : ECall Γ E dst f (sbs l (.sl es) env) (sbs l (.sl es) args) (σ.set l .gone)) : ECall Γ E dst f env args σ :=
  .wk (sbs_length _ _ _) (by rw [← sbs_append]; exact Wk.frz l hl) h
/-- a call with data, that hands back new blocks -/
theorem ecallN {Γ : Ctx} {E : List AV → List AObj → Prop} {dst : Option Tmp} {f : FuncId} {args env : List AV} {σ : List AObj} (r : AV) (τ : List AObj) (h7 : Spec Γ.P f args [] r τ) (hb : bds 0 args) (h8 : E (putO env dst (ren (rn [] σ.length) r)) (σ ++ mapO (rn [] σ.length) τ)) : ECall Γ E dst f env args σ := by
  refine .mk [] args [] r τ (by rw [rens_id hb]) hb (by simp) (by simp) rfl trivial h7 ?_
  simpa [back, setAll] using h8
theorem row_ex {sz : Nat} {es : List (List D)} : (∃ es', AObj.row sz es = AObj.row sz es') = True := eq_true ⟨es, rfl⟩
attribute [go_sem] row_ex
/-! ### a law's data, by type -/
section
variable {P : Program} {n : Nat} {t e : TypeId} {ds : List D}
theorem Tyd.slice (hu : P.underlying t = some (.slice e)) (h : Tyd P (n + 1) t ds) : ∃ es, ds = [.sl es] ∧ es.length * P.bytesOf e ≤ 140737488351232 ∧ ∀ x ∈ es, Tyd P n e x := by rw [Tyd, hu] at h; exact h
theorem Tyd.int {k : IntKind} (hu : P.underlying t = some (.int k)) (h : Tyd P (n + 1) t ds) : ∃ i, ds = [.int k i] ∧ (Lit.int k i).wf = true := by rw [Tyd, hu] at h; exact h
theorem Tyd.bool (hu : P.underlying t = some .bool) (h : Tyd P (n + 1) t ds) : ∃ b, ds = [.bool b] := by rw [Tyd, hu] at h; exact h
theorem Tyd.str (hu : P.underlying t = some .string) (h : Tyd P (n + 1) t ds) : ∃ s : ByteArray, ds = [.str s] ∧ s.size ≤ 140737488351232 := by rw [Tyd, hu] at h; exact h
theorem Tyd.struct {fs : Array Field} (hu : P.underlying t = some (.struct fs)) (h : Tyd P (n + 1) t ds) : Sq (fs.toList.map fun f => Tyd P n f.type) ds := by rw [Tyd, hu] at h; exact h
theorem Tyd.array {m : Nat} (hu : P.underlying t = some (.array m e)) (h : Tyd P (n + 1) t ds) : Sq (List.replicate m (Tyd P n e)) ds := by rw [Tyd, hu] at h; exact h
end
/-- the first that has it, or -1 -/
def idx {α : Type} (p : α → Bool) (l : List α) : Int := match l.findIdx? p with
  | some i => i
  | none => -1
theorem idx_found {α : Type} {p : α → Bool} {l : List α} {i : Nat} {x : α} (h : l[i]? = some x) (hp : p x = true) (hj : ∀ (j : Nat) (y : α), l[j]? = some y → j < i → p y = false) : idx p l = i := by
  have : l.findIdx? p = some i := by
    rw [List.findIdx?_eq_some_iff_getElem]
    have hlt := some_lt h
    refine ⟨hlt, ?_, fun j hji => ?_⟩
    · rw [List.getElem?_eq_getElem hlt] at h; simp at h; rw [h]; exact hp
    · have := hj j (l[j]'(by omega)) (List.getElem?_eq_getElem _) hji
      simp [this]
  simp [idx, this]
theorem idx_none {α : Type} {p : α → Bool} {l : List α} (hj : ∀ (j : Nat) (y : α), l[j]? = some y → p y = false) : idx p l = -1 := by
  have : l.findIdx? p = none := by
    rw [List.findIdx?_eq_none_iff]
    intro x hx
    obtain ⟨j, h⟩ := List.mem_iff_getElem?.1 hx
    exact hj j x h
  simp [idx, this]
theorem idx_any {α : Type} (p : α → Bool) (l : List α) : decide (0 ≤ idx p l) = l.any p := by
  unfold idx
  cases h : l.findIdx? p with
  | none =>
    have := List.findIdx?_eq_none_iff.1 h
    have h2 : l.any p = false := by rw [List.any_eq_false]; intro x hx; simp [this x hx]
    simp [h2]
  | some i =>
    obtain ⟨hlt, hp, _⟩ := List.findIdx?_eq_some_iff_getElem.1 h
    have h2 : l.any p = true := List.any_eq_true.2 ⟨l[i], List.getElem_mem _, hp⟩
    simp [h2]
/-- no longer than memory -/
def Sm (n : Nat) : Prop := n ≤ 140737488351232
attribute [go_sem] ba_beq
/-- some element, with its place -/
def anyI {α : Type} (p : Nat → α → Bool) (l : List α) : Bool := (List.range l.length).any fun i => match l[i]? with
  | some x => p i x
  | none => false
theorem upto_succ {α : Type} {p : Nat → α → Prop} {l : List α} {i : Nat} {x : α} (hx : l[i]? = some x) (hp : p i x) (hj : ∀ (j : Nat) (y : α), l[j]? = some y → j < i → p j y) : ∀ (j : Nat) (y : α), l[j]? = some y → j < i + 1 → p j y := fun j y hy hlt => by
  rcases Nat.lt_or_ge j i with q | q
  · exact hj j y hy q
  · have : j = i := by omega
    subst this; rw [hx] at hy; cases hy; exact hp
end Go.AX
/- AX, part Y: '==' of structs, keys of maps. -/
set_option linter.unusedVariables false
set_option linter.unusedSimpArgs false
namespace Go.AX
/-- fields one behind the other, with their kinds -/
def flatFs (P : Program) (F : TypeId → Option (List DK)) : Nat → List Field → Option (List DK)
  | _, [] => some []
  | o, f :: fs => if f.name ≠ "_" ∧ f.offset = o then match F f.type, tk P f.type with
      | some ks, some (b, sz) => if ks.length = sz ∧ 0 < sz then match flatFs P F (o + sz) fs with
        | some r => some (ks ++ r)
        | none => none else none
      | _, _ => none
    else none
/-- a type of plain cells: their kinds -/
def flatK (P : Program) : Nat → TypeId → Option (List DK)
  | 0, _ => none
  | n + 1, t => match P.underlying t with
    | some .bool => some [.bool]
    | some (.int k) => some [.int k]
    | some .string => some [.str]
    | some (.struct fs) => if P.stoodInHeld t then none else flatFs P (flatK P n) 0 fs.toList
    | some (.array m e) => match flatK P n e, tk P e with
      | some ks, some (b, sz) => if ks.length = sz ∧ 0 < sz then some (List.replicate m ks).flatten else none
      | _, _ => none
    | _ => none
theorem deqs_append : ∀ {a b c d : List D}, a.length = b.length → deqs (a ++ c) (b ++ d) = (deqs a b && deqs c d)
  | [], [], _, _, _ => by simp [deqs]
  | x :: a, y :: b, c, d, h => by simp only [List.cons_append, deqs, deqs_append (a := a) (b := b) (by simpa using h), Bool.and_assoc]
  | [], _ :: _, _, _, h => by simp at h
  | _ :: _, [], _, _, h => by simp at h
theorem kinds_len {xs : List D} {ks : List DK} (h : xs.map dk = ks.map some) : xs.length = ks.length := by
  have := congrArg List.length h
  simpa using this
section
variable {P : Program} {w : World}
theorem part_vv {t : TypeId} {b : Bool} {sz o : Nat} {X : List D} {w : World} (hk : tk P t = some (b, sz)) (hl : o + sz ≤ X.length) (h1 : b = false → sz = 1) : (part t (X.map toV).toArray o).run P w = .ok (vv b ((X.drop o).take sz)) w := by
  cases b with
  | true =>
    simp only [part, Sem.run_bind, run_isAgg hk, Result.andThen_ok, if_true, run_sizeOf' hk, Sem.run_pure, vv]
    congr 2
    apply Array.ext'
    rw [Array.toList_extract]
    simp [List.extract_eq_take_drop]
  | false =>
    have := h1 rfl
    subst this
    have hlt : o < X.length := by omega
    have hd : (X.drop o).take 1 = [X[o]] := by rw [List.drop_eq_getElem_cons hlt]; rfl
    simp [part, run_isAgg hk, hd, vv, hlt]
theorem flatK_one {n : Nat} {t : TypeId} {ks : List DK} {b : Bool} {sz : Nat} (h : flatK P n t = some ks) (hk : tk P t = some (b, sz)) (hb : b = false) : ks.length = 1 := by
  cases n with
  | zero => simp [flatK] at h
  | succ n =>
    obtain ⟨d, i, h1, h2, h3, h4⟩ := tk_spec hk
    simp only [flatK, h1] at h
    subst hb
    cases d <;> simp only [isAggD] at h3 <;> simp at h <;> (try (subst h; rfl))
    all_goals simp at h3
def EqIn (P : Program) (d : Nat) (t : TypeId) (ks : List DK) : Prop :=
  ∀ (xs ys : List D) (w : World) (b : Bool) (sz : Nat), tk P t = some (b, sz) → xs.map dk = ks.map some → ys.map dk = ks.map some → (Op.equalIn d t (vv b xs) (vv b ys)).run P w = .ok (deqs xs ys) w
theorem eqFields_flat {n d : Nat} (ih : ∀ t ks, flatK P n t = some ks → EqIn P d t ks) {X Y : List D} : ∀ (fs : List Field) (o : Nat) (ks : List DK) (w : World), flatFs P (flatK P n) o fs = some ks → (X.drop o).map dk = ks.map some → (Y.drop o).map dk = ks.map some →
    (Op.eqFields d (X.map toV).toArray (Y.map toV).toArray fs).run P w = .ok (deqs (X.drop o) (Y.drop o)) w
  | [], o, ks, w, h, hx, hy => by
    simp only [flatFs, Option.some.injEq] at h; subst h
    have ex : X.drop o = [] := List.map_eq_nil_iff.1 hx
    have ey : Y.drop o = [] := List.map_eq_nil_iff.1 hy
    simp [Op.eqFields, ex, ey, deqs]
  | f :: fs, o, ks, w, h, hx, hy => by
    simp only [flatFs] at h
    split at h
    · next q =>
      split at h
      · next ks1 b sz e1 e2 =>
        split at h
        · next hl =>
          obtain ⟨hl, hpos⟩ := hl
          split at h
          · next r e3 =>
            simp only [Option.some.injEq] at h
            subst h
            obtain ⟨q1, q2⟩ := q
            subst q2
            have lx := kinds_len hx
            have ly := kinds_len hy
            simp only [List.length_drop, List.length_append] at lx ly
            have hone : b = false → sz = 1 := fun hb => by rw [← hl]; exact flatK_one e1 e2 hb
            have kx1 : ((X.drop f.offset).take sz).map dk = ks1.map some := by rw [List.map_take, hx, List.map_append, ← hl, List.take_left' (by simp)]
            have ky1 : ((Y.drop f.offset).take sz).map dk = ks1.map some := by rw [List.map_take, hy, List.map_append, ← hl, List.take_left' (by simp)]
            have kx2 : (X.drop (f.offset + sz)).map dk = r.map some := by rw [← List.drop_drop, List.map_drop, hx, List.map_append, ← hl, List.drop_left' (by simp)]
            have ky2 : (Y.drop (f.offset + sz)).map dk = r.map some := by rw [← List.drop_drop, List.map_drop, hy, List.map_append, ← hl, List.drop_left' (by simp)]
            have go := eqFields_flat ih fs (f.offset + sz) r w e3 kx2 ky2
            have one := ih _ _ e1 _ _ w b sz e2 kx1 ky1
            have split1 : deqs (X.drop f.offset) (Y.drop f.offset) = (deqs ((X.drop f.offset).take sz) ((Y.drop f.offset).take sz) && deqs (X.drop (f.offset + sz)) (Y.drop (f.offset + sz))) := by
              rw [← List.drop_drop, ← List.drop_drop, ← deqs_append (by rw [List.length_take, List.length_take, List.length_drop, List.length_drop]; omega), List.take_append_drop, List.take_append_drop]
            rw [split1]
            simp only [Op.eqFields, q1, ne_eq, not_false_eq_true, if_true, Sem.run_bind, part_vv e2 (show f.offset + sz ≤ X.length by omega) hone, part_vv e2 (show f.offset + sz ≤ Y.length by omega) hone, Result.andThen_ok, one]
            cases deqs ((X.drop f.offset).take sz) ((Y.drop f.offset).take sz) with
            | true => simp only [Bool.not_true, Bool.false_eq_true, if_false, Bool.true_and]; exact go
            | false => simp
          · simp at h
        · simp at h
      · simp at h
    · simp at h
theorem cells_tk {t : TypeId} {b : Bool} {sz : Nat} (h : tk P t = some (b, sz)) : P.cellsOf t = sz := by
  obtain ⟨d, i, h1, h2, h3, h4⟩ := tk_spec h
  simp [Program.cellsOf, h2, h4]
theorem eqItems_flat {d : Nat} {e : TypeId} {ks : List DK} {b : Bool} {sz : Nat} (he : EqIn P d e ks) (hk : tk P e = some (b, sz)) (hl : ks.length = sz) (hpos : 0 < sz) (hone : b = false → sz = 1) {X Y : List D} : ∀ (r j : Nat) (w : World), (X.drop (j * sz)).map dk = ((List.replicate r ks).flatten).map some → (Y.drop (j * sz)).map dk = ((List.replicate r ks).flatten).map some →
    (Op.eqItems d e sz (X.map toV).toArray (Y.map toV).toArray (List.range' j r)).run P w = .ok (deqs (X.drop (j * sz)) (Y.drop (j * sz))) w
  | 0, j, w, hx, hy => by
    have ex : X.drop (j * sz) = [] := List.map_eq_nil_iff.1 hx
    have ey : Y.drop (j * sz) = [] := List.map_eq_nil_iff.1 hy
    simp [Op.eqItems, ex, ey, deqs]
  | r + 1, j, w, hx, hy => by
    rw [List.replicate_succ, List.flatten_cons] at hx hy
    have lx := kinds_len hx
    have ly := kinds_len hy
    simp only [List.length_drop, List.length_append] at lx ly
    have ej : (j + 1) * sz = j * sz + sz := by rw [Nat.add_mul, Nat.one_mul]
    have kx1 : ((X.drop (j * sz)).take sz).map dk = ks.map some := by rw [List.map_take, hx, List.map_append, ← hl, List.take_left' (by simp)]
    have ky1 : ((Y.drop (j * sz)).take sz).map dk = ks.map some := by rw [List.map_take, hy, List.map_append, ← hl, List.take_left' (by simp)]
    have kx2 : (X.drop ((j + 1) * sz)).map dk = ((List.replicate r ks).flatten).map some := by rw [ej, ← List.drop_drop, List.map_drop, hx, List.map_append, ← hl, List.drop_left' (by simp)]
    have ky2 : (Y.drop ((j + 1) * sz)).map dk = ((List.replicate r ks).flatten).map some := by rw [ej, ← List.drop_drop, List.map_drop, hy, List.map_append, ← hl, List.drop_left' (by simp)]
    have go := eqItems_flat he hk hl hpos hone r (j + 1) w kx2 ky2
    have one := he _ _ w b sz hk kx1 ky1
    have split1 : deqs (X.drop (j * sz)) (Y.drop (j * sz)) = (deqs ((X.drop (j * sz)).take sz) ((Y.drop (j * sz)).take sz) && deqs (X.drop ((j + 1) * sz)) (Y.drop ((j + 1) * sz))) := by
      rw [ej, ← List.drop_drop, ← List.drop_drop, ← deqs_append (by rw [List.length_take, List.length_take, List.length_drop, List.length_drop]; omega), List.take_append_drop, List.take_append_drop]
    rw [split1]
    simp only [List.range'_succ, Op.eqItems, Sem.run_bind, part_vv hk (show j * sz + sz ≤ X.length by omega) hone, part_vv hk (show j * sz + sz ≤ Y.length by omega) hone, Result.andThen_ok, one]
    cases deqs ((X.drop (j * sz)).take sz) ((Y.drop (j * sz)).take sz) with
    | true => simp only [Bool.not_true, Bool.false_eq_true, if_false, Bool.true_and]; exact go
    | false => simp
theorem dk_cases {x : D} {k : DK} (h : dk x = some k) : match k with
    | .int i => ∃ n, x = .int i n
    | .bool => ∃ b, x = .bool b
    | .str => ∃ s, x = .str s := by
  cases x <;> simp [dk] at h <;> subst h <;> simp
theorem one_of {xs : List D} {k : DK} (h : xs.map dk = [k].map some) : ∃ x, xs = [x] ∧ dk x = some k := by
  match xs, h with
  | [x], h => exact ⟨x, rfl, by simpa using h⟩
  | [], h => simp at h
  | _ :: _ :: _, h => simp at h
theorem eqIn_flat : ∀ (n d : Nat) (t : TypeId) (ks : List DK), n ≤ d → flatK P n t = some ks → EqIn P d t ks
  | 0, _, _, _, _, h => by simp [flatK] at h
  | n + 1, 0, _, _, hd, _ => by omega
  | n + 1, d + 1, t, ks, hd, h => by
    intro xs ys w b sz hk hx hy
    obtain ⟨de, i, h1, h2, h3, h4⟩ := tk_spec hk
    simp only [flatK, h1] at h
    cases de <;> simp only [isAggD] at h3 <;> simp only [Option.some.injEq] at h <;> (try (simp at h; done))
    case bool =>
      subst h; subst h3
      obtain ⟨x, rfl, k1⟩ := one_of hx
      obtain ⟨y, rfl, k2⟩ := one_of hy
      obtain ⟨a, rfl⟩ := dk_cases k1
      obtain ⟨c, rfl⟩ := dk_cases k2
      simp [vv, toV, deqs, deq, run_equalIn_bool' w d t a c h1]
    case int k =>
      subst h; subst h3
      obtain ⟨x, rfl, k1⟩ := one_of hx
      obtain ⟨y, rfl, k2⟩ := one_of hy
      obtain ⟨a, rfl⟩ := dk_cases k1
      obtain ⟨c, rfl⟩ := dk_cases k2
      simp [vv, toV, deqs, deq, run_equalIn_int w d t k k a c h1]
    case string =>
      subst h; subst h3
      obtain ⟨x, rfl, k1⟩ := one_of hx
      obtain ⟨y, rfl, k2⟩ := one_of hy
      obtain ⟨a, rfl⟩ := dk_cases k1
      obtain ⟨c, rfl⟩ := dk_cases k2
      simp only [vv, toV, deqs, deq, List.headD_cons, Bool.and_true, Bool.false_eq_true, if_false]
      exact run_equalIn_string w d t a c h1
    case struct fs =>
      split at h
      · simp at h
      · next hs =>
        subst h3
        have hf : P.fieldsOf t = fs := by simp [Program.fieldsOf, h1]
        simp only [vv, if_true]
        rw [run_equalIn_struct w d t _ _ (by rw [hf]; exact h1) (by simpa using hs), hf]
        have := eqFields_flat (X := xs) (Y := ys) (fun t ks q => eqIn_flat n d t ks (by omega) q) fs.toList 0 ks w h (by simpa using hx) (by simpa using hy)
        simpa using this
    case array m e =>
      split at h
      · next ks1 b1 sz1 e1 e2 =>
        split at h
        · next hl =>
          simp only [Option.some.injEq] at h
          subst h; subst h3
          obtain ⟨de2, i2, g1, g2, g3, g4⟩ := tk_spec e2
          simp only [vv, if_true]
          rw [run_equalIn_array w d _ _ h1 g2, cells_tk e2, List.range_eq_range']
          have := eqItems_flat (eqIn_flat n d e ks1 (by omega) e1) e2 hl.1 hl.2 (fun hb => by rw [← hl.1]; exact flatK_one e1 e2 hb) (X := xs) (Y := ys) m 0 w (by simpa using hx) (by simpa using hy)
          simpa using this
        · simp at h
      · simp at h
theorem eqT_flat {n : Nat} {t : TypeId} {ks : List DK} {sz : Nat} (h : flatK P n t = some ks) (hn : n ≤ 10000) (hk : tk P t = some (true, sz)) (hg : P.eqGuardType P.depth t = false) : EqT P t ks := fun xs ys x y w hx hy => by
  have := eqIn_flat n 10000 t ks hn h xs ys w true sz hk hx hy
  simp only [vv, if_true] at this
  constructor
  · simp only [Sem.run_bind, run_eqGuard_agg w _ t x y _ _ hg, Result.andThen_ok, run_eql_struct, this]
  · simp only [Sem.run_bind, run_eqGuard_agg w _ t x y _ _ hg, Result.andThen_ok, run_neq_struct, this]
/-! ### keys of maps -/
def CkOk (P : Program) (d : Nat) (t : TypeId) (ks : List DK) : Prop :=
  ∀ (xs : List D) (e : Bool) (w : World) (b : Bool) (sz : Nat), tk P t = some (b, sz) → xs.map dk = ks.map some → (Instr.checkKey e d t (vv b xs)).run P w = .ok () w
end
section
variable {P : Program}
end
/-! ### a map as a list of pairs -/
section
variable {κ ν : Type}
def mD (kD : κ → List D) (vD : ν → List D) (m : List (κ × ν)) : List (List D × List D) := m.map fun e => (kD e.1, vD e.2)
def look [DecidableEq κ] (k : κ) : List (κ × ν) → Option ν
  | [] => none
  | (k', v) :: m => if k = k' then some v else look k m
def mput [DecidableEq κ] (k : κ) (v : ν) : List (κ × ν) → List (κ × ν)
  | [] => [(k, v)]
  | (k', v') :: m => if k = k' then (k, v) :: m else (k', v') :: mput k v m
variable {kD : κ → List D} {vD : ν → List D}
end
def sD (s : ByteArray) : List D := [.str s]
def iD (i : Int) : List D := [.int .i64 i]
def boD (b : Bool) : List D := [.bool b]
attribute [go_sem] lkV dv Option.getD_none sD iD boD Option.isSome_some Option.isSome_none List.headD_cons Option.map_some Option.map_none
theorem at0_pre {n : Nat} {ls : List Nat} (h : ((List.range n).all fun i => at0 ls i == i) = true) : ∀ i, i < n → at0 ls i = i := fun i hi => by
  have := List.all_eq_true.1 h i (List.mem_range.2 hi)
  simpa using this
theorem rows_ofP {α : Type} {g : α → List D} {Q : α → Prop} : ∀ {es : List (List D)}, (∀ x ∈ es, ∃ y, x = g y ∧ Q y) → ∃ l : List α, es = l.map g ∧ ∀ y ∈ l, Q y
  | [], _ => ⟨[], rfl, by simp⟩
  | e :: es, h => by
    obtain ⟨y, rfl, hy⟩ := h e (by simp)
    obtain ⟨l, hl, hq⟩ := rows_ofP (es := es) (g := g) (Q := Q) fun x hx => h x (by simp [hx])
    exact ⟨y :: l, by rw [hl]; rfl, by simp only [List.mem_cons, forall_eq_or_imp]; exact ⟨hy, hq⟩⟩
theorem wf_i64 {i : Int} (h : (Lit.int .i64 i).wf = true) : -9223372036854775808 ≤ i ∧ i ≤ 9223372036854775807 := by
  simp only [Lit.wf, Bool.and_eq_true, decide_eq_true_eq] at h
  exact h
end Go.AX
/- AX, part Z: a row given up within a call. -/
set_option linter.unusedVariables false
set_option linter.unusedSimpArgs false
namespace Go.AX
/-- before a call, what is known may be said with less -/
theorem Spec.pre {P : Program} {f : FuncId} {args args' : List AV} {σ σ' τ : List AObj} {r : AV} (k : Wk σ.length args σ args' σ') (h : Spec P f args' σ' r τ) : Spec P f args σ r τ := by
  obtain ⟨hf, hc⟩ := h
  refine ⟨hf, fun c vs H ha => ?_⟩
  rw [← H.n] at k
  obtain ⟨c1, w1, N1, hx⟩ := k.nxt (.refl H) ha
  have := hc c1 vs N1.hold hx
  rw [w1] at this
  refine this.mono ?_
  rintro e w' ⟨c2, v, rfl, rfl, hv, N2⟩
  exact ⟨c2, v, rfl, rfl, hv, N1.trans N2⟩
theorem Spec.frz {P : Program} {f : FuncId} {args : List AV} {σ τ : List AObj} {r : AV} (l : Nat) {sz : Nat} {es : List (List D)} (hl : σ[l]? = some (.row sz es)) (h : Spec P f (sbs l (.sl es) args) (σ.set l .gone) r τ) : Spec P f args σ r τ :=
  Spec.pre (Wk.frz l hl) h
theorem Spec.liftN {P : Program} {f : FuncId} {args : List AV} {r : AV} {τ : List AObj} (h : Spec P f args [] r τ) (σ : List AObj) (hb : bds 0 args) : Spec P f args σ (ren (rn [] σ.length) r) (σ ++ mapO (rn [] σ.length) τ) := by
  have := Spec.frame (σ := σ) [] h hb (by simp) (by simp) rfl trivial
  rw [rens_id hb] at this
  simpa [back, setAll] using this
theorem wf_u8 {i : Int} (h : (Lit.int .u8 i).wf = true) : 0 ≤ i ∧ i ≤ 255 := by
  simp only [Lit.wf, Bool.and_eq_true, decide_eq_true_eq] at h
  exact h
/-! ### what is known, said with less in the midst of a region -/
/-- from here on, all is well -/
def EvS (Γ : Ctx) (k : List It) (env : List AV) (σ : List AObj) : Prop :=
  ∀ (c0 : Cf) (σ0 : List AObj) (Q0 : Exit → Act → World → Prop), c0.n = Γ.n0 → EndOk Γ c0 σ0 Q0 → YOk Γ.P Γ.Y c0 σ0 → ∀ c a, Good c0 σ0 c env σ a → SemK Γ.ro Γ.P c0 σ0 Q0 k .normal a c.w
theorem EvS.wk {Γ : Ctx} {k : List It} {env env' : List AV} {σ σ' : List AObj} (w : Wk Γ.n0 env σ env' σ') (h : EvS Γ k env' σ') : EvS Γ k env σ := fun c0 σ0 Q0 hn hQ hY c a G => by
  rw [← hn] at w
  obtain ⟨c', w1, G1⟩ := G.wk w
  rw [← w1]
  exact h c0 σ0 Q0 hn hQ hY c' a G1
theorem EvS.seq {Γ : Ctx} {x y : Code} {k : List It} {env : List AV} {σ : List AObj} (h : EvS Γ (.code x :: .code y :: k) env σ) : EvS Γ (.code (.seq x y) :: k) env σ := fun c0 σ0 Q0 hn hQ hY c a G => by
  simp only [SemK, Exit.then]
  exact wpIn_seq (h c0 σ0 Q0 hn hQ hY c a G)
theorem EvS.region {Γ : Ctx} {id : Nat} {ops : Array Oper} {k : List It} {env : List AV} {σ : List AObj} (h : EvS Γ (.ops ops.toList ops :: k) env σ) : EvS Γ (.code (.region id ops false) :: k) env σ := fun c0 σ0 Q0 hn hQ hY c a G => by
  simp only [SemK, Exit.then]
  refine wpIn_region_list ?_
  have := h c0 σ0 Q0 hn hQ hY c a G
  simpa only [SemK] using this
/-- operations in a row, and what is to hold behind them -/
def runOps (Γ : Ctx) (all : Array Oper) (F : List AV → List AObj → Prop) : List Oper → List AV → List AObj → Prop
  | [], env, σ => F env σ
  | o :: r, env, σ => evOper Γ (runOps Γ all F r) o all env σ o.guard
theorem runOps_nil {Γ : Ctx} {all : Array Oper} {F : List AV → List AObj → Prop} {env : List AV} {σ : List AObj} : runOps Γ all F [] env σ = F env σ := rfl
theorem runOps_cons {Γ : Ctx} {all : Array Oper} {F : List AV → List AObj → Prop} {dst : Option Tmp} {op : Op} {ty : TypeId} {pos : String} {aft : Array Edge} {g : Option (Nat × Bool)} {r : List Oper} {env : List AV} {σ : List AObj} :
    runOps Γ all F (⟨dst, op, ty, pos, aft, g⟩ :: r) env σ = evOper Γ (runOps Γ all F r) ⟨dst, op, ty, pos, aft, g⟩ all env σ g := rfl
attribute [go_sem] runOps_nil runOps_cons
theorem EvS.split {Γ : Ctx} {all : Array Oper} {k : List It} {l2 : List Oper} : ∀ (l1 : List Oper) {env : List AV} {σ : List AObj}, runOps Γ all (EvS Γ (.ops l2 all :: k)) l1 env σ → EvS Γ (.ops (l1 ++ l2) all :: k) env σ
  | [], env, σ, h => h
  | o :: r, env, σ, h => fun c0 σ0 Q0 hn hQ hY c a G => by
    simp only [List.cons_append, SemK]
    refine ops_step hn hY G (fun env σ hE c a G => ?_) h
    have := EvS.split r hE c0 σ0 Q0 hn hQ hY c a G
    simpa only [SemK] using this
theorem EvS.at {Γ : Ctx} {id : Nat} {ops : List Oper} {k : List It} {env : List AV} {σ : List AObj} (n : Nat) (h : runOps Γ ops.toArray (EvS Γ (.ops (ops.drop n) ops.toArray :: k)) (ops.take n) env σ) : EvS Γ (.code (.region id ops.toArray false) :: k) env σ := by
  refine EvS.region ?_
  have := EvS.split (ops.take n) h
  rwa [List.take_append_drop] at this
/-- before a call, all that is handed over is data -/
theorem ECall.dat {Γ : Ctx} {E : List AV → List AObj → Prop} {dst : Option Tmp} {f : FuncId} {env args args' : List AV} {σ σ' : List AObj} (h : dats σ args = some (args', σ')) (hl : args'.length = args.length) (h2 : ECall Γ E dst f env args' σ') : ECall Γ E dst f env args σ :=
  .wk hl (Wk.tail (dats_sound args h) _ env) h2
/-! ### a row lent out: the caller keeps it -/
def scalD : D → Bool
  | .sl _ => false
  | _ => true
mutual
def scal : AV → Bool
  | .d x => scalD x
  | .agg cs => scals cs
  | .tup cs => scals cs
  | .fn _ caps => scals caps
  | .eptr _ => false
  | _ => true
def scals : List AV → Bool
  | [] => true
  | x :: xs => scal x && scals xs
end
def scalO : AObj → Bool
  | .cells cs => scals cs
  | .row _ es => es.all fun e => e.all scalD
  | .map _ _ es => es.all fun e => e.1.all scalD && e.2.all scalD
  | .vec _ es => es.all scals
  | _ => true
theorem scals_app : ∀ {xs ys : List AV}, scals (xs ++ ys) = (scals xs && scals ys)
  | [], _ => by simp [scals]
  | x :: xs, ys => by simp [scals, scals_app (xs := xs), Bool.and_assoc]
theorem scals_flat : ∀ {es : List (List AV)}, es.all scals = true → scals es.flatten = true
  | [], _ => rfl
  | e :: es, h => by
    simp only [List.all_cons, Bool.and_eq_true] at h
    rw [List.flatten_cons, scals_app, h.1, scals_flat h.2]; rfl
theorem DR_scal {h h' : Snap} {x : D} {v : Value} (hs : scalD x = true) (e : DR h x v) : DR h' x v := by
  cases x with
  | sl es => simp [scalD] at hs
  | int k n => simpa [DR] using e
  | bool b => simpa [DR] using e
  | str s => simpa [DR] using e
theorem DRs_scal {h h' : Snap} : ∀ {xs : List D} {vs : List Value}, xs.all scalD = true → DRs h xs vs → DRs h' xs vs
  | [], [], _, _ => by simp [DRs]
  | x :: xs, v :: vs, hs, e => by
    simp only [List.all_cons, Bool.and_eq_true] at hs
    simp only [DRs] at e ⊢
    exact ⟨DR_scal hs.1 e.1, DRs_scal hs.2 e.2⟩
  | [], _ :: _, _, e => by simp [DRs] at e
  | _ :: _, [], _, e => by simp [DRs] at e
/-- the world with less that is known to stay -/
def Cf.thaw (c : Cf) (b : Nat) : Cf := { c with h := fun x o => if x = b then none else c.h x o }
section
variable {c : Cf} {b : Nat}
mutual
theorem AR_scal : ∀ (x : AV) {v : Value}, scal x = true → AR c x v → AR (c.thaw b) x v
  | .any, _, _, _ => by simp [AR]
  | .d x, _, hs, e => by simp only [AR] at e ⊢; exact DR_scal (by simpa [scal] using hs) e
  | .agg cs, _, hs, e => by simp only [AR] at e ⊢; obtain ⟨vs, e1, e2⟩ := e; exact ⟨vs, e1, ARs_scal cs (by simpa [scal] using hs) e2⟩
  | .tup cs, _, hs, e => by simp only [AR] at e ⊢; obtain ⟨vs, e1, e2⟩ := e; exact ⟨vs, e1, ARs_scal cs (by simpa [scal] using hs) e2⟩
  | .fn f cs, _, hs, e => by simp only [AR] at e ⊢; obtain ⟨vs, e1, e2⟩ := e; exact ⟨vs, e1, ARs_scal cs (by simpa [scal] using hs) e2⟩
  | .own l, _, _, e => by simpa [AR, Cf.thaw] using e
  | .ptr l off, _, _, e => by simpa [AR, Cf.thaw] using e
  | .rptr l sz i j, _, _, e => by simpa [AR, Cf.thaw] using e
  | .eptr cs, _, hs, _ => by simp [scal] at hs
  | .mp l, _, _, e => by simpa [AR, Cf.thaw] using e
  | .nil, _, _, e => by simpa [AR] using e
  | .raw _, _, _, e => by simpa [AR] using e
  | .osl l sz lo n, _, _, e => by simpa [AR, Cf.thaw] using e
theorem ARs_scal : ∀ (xs : List AV) {vs : List Value}, scals xs = true → ARs c xs vs → ARs (c.thaw b) xs vs
  | [], vs, _, r => by rw [ARs_nil_left r]; simp [ARs]
  | x :: xs, vs, hs, r => by
    obtain ⟨v, r', rfl, h1, h2⟩ := ARs_cons_left r
    simp only [scals, Bool.and_eq_true] at hs
    exact ARs_cons.2 ⟨AR_scal x hs.1 h1, ARs_scal xs hs.2 h2⟩
end
theorem AR_dv_scal {a : Bool} {cs : List D} {v : Value} (hs : cs.all scalD = true) (e : AR c (dv a cs) v) : AR (c.thaw b) (dv a cs) v := by
  refine AR_scal _ ?_ e
  cases a with
  | true =>
    simp only [dv, if_true, scal]
    clear e
    induction cs with
    | nil => rfl
    | cons x xs ih => simp only [List.all_cons, Bool.and_eq_true] at hs; simp only [List.map_cons, scals, scal, hs.1, Bool.true_and]; exact ih hs.2
  | false =>
    simp only [dv, Bool.false_eq_true, if_false, scal]
    cases cs with
    | nil => rfl
    | cons x xs => simp only [List.all_cons, Bool.and_eq_true] at hs; exact hs.1
theorem Ents_scal {ka va : Bool} : ∀ {es : List (List D × List D)} {ms : List MapEntry}, (es.all fun e => e.1.all scalD && e.2.all scalD) = true → Ents c ka va es ms → Ents (c.thaw b) ka va es ms
  | [], [], _, _ => by simp [Ents]
  | (k, v) :: es, m :: ms, hs, r => by
    simp only [List.all_cons, Bool.and_eq_true] at hs
    simp only [Ents] at r ⊢
    exact ⟨AR_dv_scal hs.1.1 r.1, AR_dv_scal hs.1.2 r.2.1, Ents_scal (by simpa using hs.2) r.2.2⟩
  | [], _ :: _, _, r => by simp [Ents] at r
  | _ :: _, [], _, r => by simp [Ents] at r
theorem ObjOk_scal {l : Nat} {o : AObj} (hs : scalO o = true) (h : ObjOk c l o) : ObjOk (c.thaw b) l o := by
  cases o with
  | gone => trivial
  | cells cs =>
    obtain ⟨vs, ty, e1, e2⟩ := h
    exact ⟨vs, ty, e1, ARs_scal cs (by simpa [scalO] using hs) e2⟩
  | row sz es =>
    rcases h with h | ⟨cap, vs, ty, e0, e1, e2, e3, e4, e5, e6⟩
    · exact .inl h
    · refine .inr ⟨cap, vs, ty, e0, e1, e2, e3, e4, e5, DRs_scal ?_ e6⟩
      simp only [scalO, List.all_eq_true] at hs
      simp only [List.all_eq_true, List.mem_flatten]
      rintro x ⟨e, he, hx⟩
      exact hs e he x hx
  | map ka va es =>
    obtain ⟨ms, ck, e1, e2⟩ := h
    exact ⟨ms, ck, e1, Ents_scal (by simpa [scalO] using hs) e2⟩
  | iter s pos => exact h
  | obj b o => exact h
  | vec sz es =>
    rcases h with h | ⟨cap, vs, ty, e0, e1, e2, e3, e4, e5, e6⟩
    · exact .inl h
    · exact .inr ⟨cap, vs, ty, e0, e1, e2, e3, e4, e5, ARs_scal _ (scals_flat (by simpa [scalO] using hs)) e6⟩
end
theorem set_get {τ : List AObj} {l k : Nat} {o x : AObj} (h : (τ.set l o)[k]? = some x) : (k = l ∧ x = o ∧ l < τ.length) ∨ (k ≠ l ∧ τ[k]? = some x) := by
  rw [List.getElem?_set] at h
  by_cases e : l = k
  · subst e
    rw [if_pos rfl] at h
    by_cases q : l < τ.length
    · rw [if_pos q] at h; exact .inl ⟨rfl, by simpa using h.symm, q⟩
    · rw [if_neg q] at h; simp at h
  · rw [if_neg e] at h; exact .inr ⟨fun e' => e e'.symm, h⟩
theorem Fp_gone {c : Cf} {σ : List AObj} {l b : Nat} {c1 : Cf} (hu : c1.u = c.u) (hν : c1.ν = c.ν) (h : Fp c1 (σ.set l .gone) b) : ∃ k o, k ≠ l ∧ σ[k]? = some o ∧ Has c k o ∧ c.ν k = b := by
  obtain ⟨k, o, e, g, q⟩ := h
  rcases set_get e with ⟨_, rfl, _⟩ | ⟨hne, e'⟩
  · exact g.elim
  · exact ⟨k, o, hne, e', (Has.congr (by rw [hu])).1 g, by rw [← hν]; exact q⟩
theorem Nxt.thaw {c : Cf} {σ τ : List AObj} {l sz : Nat} {es : List (List D)} (H : Holds c σ) (hl : σ[l]? = some (.row sz es)) (hh : Has c l (.row sz es)) {c' : Cf} (N : Nxt (c.froze (c.ν l)) (σ.set l .gone) c' τ) (ht : τ[l]? = some .gone) (hs : τ.all scalO = true) :
    Nxt c σ (c'.thaw (c.ν l)) (τ.set l (.row sz es)) := by
  have hln : l < c.n := by rw [H.n]; exact some_lt hl
  have hlt := H.lt l _ hl hh
  have νl : c'.ν l = c.ν l := N.le.ν l hln
  have ul : c'.u l = c.u l := N.le.u l hln
  have nfp : ∀ k o, τ[k]? = some o → Has c' k o → k ≠ l → c'.ν k ≠ c.ν l := fun k o e g hne q => by
    rcases N.fp _ ⟨k, o, e, g, rfl⟩ with hf | hf
    · obtain ⟨m, o', m1, m2, m3, m4⟩ := Fp_gone (c := c) rfl rfl hf
      exact H.sep m o' l _ m2 hl m3 hh m1 (m4.trans q)
    · have : c.w.heap.size ≤ c'.ν k := hf
      omega
  have notin : ¬ Fp (c.froze (c.ν l)) (σ.set l .gone) (c.ν l) := fun hf => by
    obtain ⟨m, o', m1, m2, m3, m4⟩ := Fp_gone (c := c) rfl rfl hf
    exact H.sep m o' l _ m2 hl m3 hh m1 m4
  have heapl : c'.w.heap[c.ν l]? = c.w.heap[c.ν l]? := N.kept _ hlt notin
  have hle : ∀ b o v, c.h b o = some v → (c'.thaw (c.ν l)).h b o = some v := fun b o v e => by
    have hne : b ≠ c.ν l := fun q => by subst q; rw [H.apart l _ hl hh o] at e; cases e
    show (if b = c.ν l then none else c'.h b o) = some v
    rw [if_neg hne]
    refine N.le.h b o v ?_
    show (if b = c.ν l then _ else c.h b o) = some v
    rw [if_neg hne]; exact e
  have hsc : ∀ o ∈ τ, scalO o = true := by simpa [List.all_eq_true] using hs
  have old : ∀ k x, (τ.set l (.row sz es))[k]? = some x → Has (c'.thaw (c.ν l)) k x → (k = l ∧ x = .row sz es) ∨ (k ≠ l ∧ τ[k]? = some x ∧ Has c' k x) := fun k x e g => by
    rcases set_get e with ⟨h1, h2, _⟩ | ⟨h1, h2⟩
    · exact .inl ⟨h1, h2⟩
    · exact .inr ⟨h1, h2, (Has.congr rfl).1 g⟩
  refine ⟨⟨hle, N.le.n, N.le.ν, N.le.u⟩, ⟨?_, ?_, ?_, ?_, ?_, ?_⟩, N.os, N.tape, N.output, N.size, ?_, ?_, ?_⟩
  · show c'.n = _; rw [N.hold.n]; simp
  · intro b o v e
    have e : (if b = c.ν l then none else c'.h b o) = some v := e
    split at e
    · cases e
    · exact N.hold.snap b o v e
  · intro k o e
    rcases set_get e with ⟨rfl, rfl, _⟩ | ⟨h1, h2⟩
    · rcases H.obj k _ hl with ⟨q, A, q2⟩ | ⟨cap, vs, ty, e0, e1, e2, e3, e4, e5, e6⟩
      · exact .inl ⟨q, A, by show c'.u k = _; rw [ul]; exact q2⟩
      · refine .inr ⟨cap, vs, ty, e0, ?_, e2, ?_, e4, e5, DRs.mono hle e6⟩
        · show c'.u k = .slice (some ⟨c'.ν k, 0, none⟩) _ _; rw [ul, νl]; exact e1
        · show c'.w.heap[c'.ν k]? = _; rw [νl, heapl]; exact e3
    · exact ObjOk_scal (hsc o (List.mem_of_getElem? h2)) (N.hold.obj k o h2)
  · intro k o k' o' e e' g g' hne
    show c'.ν k ≠ c'.ν k'
    rcases old k o e g with ⟨rfl, rfl⟩ | ⟨h1, h2, h3⟩
    · rcases old k' o' e' g' with ⟨rfl, rfl⟩ | ⟨h1', h2', h3'⟩
      · exact absurd rfl hne
      · rw [νl]; exact fun q => nfp k' o' h2' h3' h1' q.symm
    · rcases old k' o' e' g' with ⟨rfl, rfl⟩ | ⟨h1', h2', h3'⟩
      · rw [νl]; exact nfp k o h2 h3 h1
      · exact N.hold.sep k o k' o' h2 h2' h3 h3' hne
  · intro k o e g j
    show (if c'.ν k = c.ν l then none else c'.h (c'.ν k) j) = none
    rcases old k o e g with ⟨rfl, rfl⟩ | ⟨h1, h2, h3⟩
    · rw [if_pos νl]
    · rw [if_neg (nfp k o h2 h3 h1)]; exact N.hold.apart k o h2 h3 j
  · intro k o e g
    show c'.ν k < c'.w.heap.size
    rcases old k o e g with ⟨rfl, rfl⟩ | ⟨h1, h2, h3⟩
    · rw [νl]; exact Nat.lt_of_lt_of_le hlt N.size
    · exact N.hold.lt k o h2 h3
  · intro b hb hf
    refine N.kept b hb fun hf' => ?_
    obtain ⟨m, o', m1, m2, m3, m4⟩ := Fp_gone (c := c) rfl rfl hf'
    exact hf ⟨m, o', m2, m3, m4⟩
  · rintro b ⟨k, o, e, g, q⟩
    have q : c'.ν k = b := q
    rcases old k o e g with ⟨rfl, rfl⟩ | ⟨h1, h2, h3⟩
    · exact .inl ⟨k, _, hl, hh, νl.symm.trans q⟩
    · rcases N.fp b ⟨k, o, h2, h3, q⟩ with hf | hf
      · obtain ⟨m, o', m1, m2, m3, m4⟩ := Fp_gone (c := c) rfl rfl hf
        exact .inl ⟨m, o', m2, m3, m4⟩
      · exact .inr hf
  · intro b o hne
    have hne : (if b = c.ν l then none else c'.h b o) ≠ c.h b o := hne
    by_cases e : b = c.ν l
    · exact .inl ⟨l, _, hl, hh, e.symm⟩
    · rw [if_neg e] at hne
      have : (c.froze (c.ν l)).h b o = c.h b o := by show (if b = c.ν l then _ else c.h b o) = _; rw [if_neg e]
      rcases N.hn b o (by rw [this]; exact hne) with hf | hf
      · obtain ⟨m, o', m1, m2, m3, m4⟩ := Fp_gone (c := c) rfl rfl hf
        exact .inl ⟨m, o', m2, m3, m4⟩
      · exact .inr hf
/-- a row without a block -/
theorem Nxt.thaw0 {c : Cf} {σ τ : List AObj} {l sz : Nat} {A : Option Addr} (H : Holds c σ) (hl : σ[l]? = some (.row sz [])) (hu : c.u l = .slice A 0 0) {c' : Cf} (N : Nxt c (σ.set l .gone) c' τ) : Nxt c σ c' (τ.set l (.row sz [])) := by
  have hln : l < c.n := by rw [H.n]; exact some_lt hl
  have ul : c'.u l = c.u l := N.le.u l hln
  have no : ∀ {c2 : Cf}, c2.u l = .slice A 0 0 → ¬ Has c2 l (.row sz []) := fun e g => by
    obtain ⟨a, n, cap, e1, h0⟩ := g
    rw [e] at e1; cases e1; omega
  have old : ∀ k x, (τ.set l (.row sz []))[k]? = some x → Has c' k x → k ≠ l ∧ τ[k]? = some x := fun k x e g => by
    rcases set_get e with ⟨rfl, rfl, _⟩ | h
    · exact absurd g (no (by rw [ul, hu]))
    · exact h
  refine ⟨N.le, ⟨by rw [N.hold.n]; simp, N.hold.snap, ?_, ?_, ?_, ?_⟩, N.os, N.tape, N.output, N.size, ?_, ?_, ?_⟩
  · intro k o e
    rcases set_get e with ⟨rfl, rfl, _⟩ | ⟨h1, h2⟩
    · exact .inl ⟨rfl, A, by rw [ul, hu]⟩
    · exact N.hold.obj k o h2
  · intro k o k' o' e e' g g' hne
    exact N.hold.sep k o k' o' (old k o e g).2 (old k' o' e' g').2 g g' hne
  · intro k o e g; exact N.hold.apart k o (old k o e g).2 g
  · intro k o e g; exact N.hold.lt k o (old k o e g).2 g
  · intro b hb hf
    refine N.kept b hb fun hf' => ?_
    obtain ⟨m, o', m1, m2, m3, m4⟩ := Fp_gone (c := c) rfl rfl hf'
    exact hf ⟨m, o', m2, m3, m4⟩
  · rintro b ⟨k, o, e, g, q⟩
    rcases N.fp b ⟨k, o, (old k o e g).2, g, q⟩ with hf | hf
    · obtain ⟨m, o', m1, m2, m3, m4⟩ := Fp_gone (c := c) rfl rfl hf
      exact .inl ⟨m, o', m2, m3, m4⟩
    · exact .inr hf
  · intro b o hne
    rcases N.hn b o hne with hf | hf
    · obtain ⟨m, o', m1, m2, m3, m4⟩ := Fp_gone (c := c) rfl rfl hf
      exact .inl ⟨m, o', m2, m3, m4⟩
    · exact .inr hf
/-- a row lent out as data, to a call that hands back numbers (or new blocks) alone -/
theorem Spec.keep {P : Program} {f : FuncId} {args : List AV} {σ τ : List AObj} {r : AV} (l : Nat) {sz : Nat} {es : List (List D)} (hl : σ[l]? = some (.row sz es)) (h : Spec P f (sbs l (.sl es) args) (σ.set l .gone) r τ) (ht : τ[l]? = some .gone) (hs : τ.all scalO = true) (hr : scal r = true) :
    Spec P f args σ r (τ.set l (.row sz es)) := by
  obtain ⟨hf, hc⟩ := h
  refine ⟨hf, fun c vs H ha => ?_⟩
  rcases H.obj l _ hl with ⟨rfl, A, e⟩ | hb
  · have N := Nxt.drop H l
    have hx : ARs c (sbs l (.sl []) args) vs.toList := ARs_sb (.refl c) (fun v hv => by
      simp only [AR] at hv
      rw [hv.2.1, e]; simp only [DR]
      exact ⟨A, 0, 0, rfl, Nat.le_refl _, fun h => absurd rfl h, by simp, by simp [DRows]⟩) args ha
    refine (hc c vs N.hold hx).mono ?_
    rintro e w' ⟨c1, v, rfl, rfl, hv, N1⟩
    exact ⟨c1, v, rfl, rfl, hv, Nxt.thaw0 H hl (by assumption) N1⟩
  · have hb' := hb
    obtain ⟨cap, ws, ty, h0, h1, _⟩ := hb'
    have hh : Has c l (.row sz es) := ⟨_, _, _, h1, h0⟩
    have N := Nxt.froze H hl hh
    have hd := hb.data H.snap
    have hx : ARs (c.froze (c.ν l)) (sbs l (.sl es) args) vs.toList := ARs_sb N.le (fun v hv => by
      simp only [AR] at hv
      rw [hv.2.1]; exact hd) args ha
    refine (hc _ vs N.hold hx).mono ?_
    rintro e w' ⟨c1, v, rfl, rfl, hv, N1⟩
    exact ⟨c1.thaw (c.ν l), v, rfl, rfl, AR_scal _ hr hv, Nxt.thaw H hl hh N1 ht hs⟩
/-- an absent slice in a cell, as a row of the call's own -/
theorem Wk.nilC {n0 : Nat} {xs : List AV} {σ : List AObj} (l j sz : Nat) {cs : List AV} (hl : ob σ l = .cells cs) (hj : lk cs j = .nil) : Wk n0 xs σ xs (so (σ ++ [.row sz []]) l (.cells (st cs j (.own σ.length)))) := Wk.ofNxt fun c vs H r => by
  have hs := ob_some hl (by simp)
  have hlt : l < σ.length := some_lt hs
  obtain ⟨ws, ty, e1, e2⟩ := H.obj l _ hs
  have hj2 : cs[j]? = some .nil := by
    rw [lk_eq] at hj
    cases q : cs[j]? with
    | none => rw [q] at hj; simp at hj
    | some x => rw [q] at hj; simp at hj; rw [hj]
  obtain ⟨v, hv, ha⟩ := ARs_get e2 j hj2
  simp only [AR] at ha
  obtain ⟨A, rfl⟩ := ha
  have hno : ¬ Has (c.put c.w 0 (.slice A 0 0)) c.n (.row sz []) := by
    rintro ⟨a, n, cap, e, h0⟩
    simp [Cf.put] at e
    omega
  have N := Nxt.bare H (.slice A 0 0) (.row sz []) (.inl ⟨rfl, A, by simp [Cf.put]⟩) hno
  have hn : l < c.n := by rw [H.n]; exact hlt
  have M := Nxt.upd N.hold (l := l) (o := .cells cs) (o' := .cells (st cs j (.own σ.length))) (by rw [List.getElem?_append_left hlt]; exact hs) trivial (c.put c.w 0 (.slice A 0 0)).w (fun _ _ => rfl) rfl rfl rfl rfl ⟨ws, ty, by
    show (c.put c.w 0 (.slice A 0 0)).w.heap[(c.put c.w 0 (.slice A 0 0)).ν l]? = _
    rw [N.le.ν l hn]; exact e1, by
    refine ARs_st_same (ARs.mono (N.le.trans (Cf.le_at _ _)) _ e2) j hv ?_
    simp only [AR]
    rw [← H.n]
    exact ⟨by simp [Cf.put, Cf.at], by simp [Cf.put, Cf.at], _, _, _, rfl⟩⟩
  rw [so_eq]
  exact ⟨(c.put c.w 0 (.slice A 0 0)).at (c.put c.w 0 (.slice A 0 0)).w, rfl, N.trans M, ARs.mono (N.trans M).le _ r⟩
/-- a label more, of nothing -/
theorem Wk.more {n0 : Nat} {xs : List AV} {σ : List AObj} : Wk n0 xs σ xs (σ ++ [.gone]) := Wk.ofNxt fun c vs H r =>
  have N := Nxt.bare H undef .gone trivial (fun h => h)
  ⟨c.put c.w 0 undef, rfl, N, ARs.mono N.le _ r⟩
/-! ### slices of slices -/
theorem upD_0 : upD [] = [] := rfl
theorem upD_S (e : List D) (es : List (List D)) : upD (e :: es) = e.map .d :: upD es := rfl
theorem upD_length (es : List (List D)) : (upD es).length = es.length := by simp [upD]
theorem rens_d (f : Nat → Nat) : ∀ xs : List D, rens f (xs.map .d) = xs.map .d
  | [] => rfl
  | x :: xs => by rw [List.map_cons, rens, rens_d f xs]; rfl
theorem renss_up (f : Nat → Nat) : ∀ es : List (List D), renss f (upD es) = upD es
  | [] => rfl
  | e :: es => by rw [upD_S, renss, renss_up f es, rens_d]
theorem bds_d (k : Nat) : ∀ xs : List D, bds k (xs.map .d)
  | [] => trivial
  | x :: xs => ⟨trivial, bds_d k xs⟩
theorem bdss_up (k : Nat) : ∀ es : List (List D), bdss k (upD es) = True
  | [] => rfl
  | e :: es => by rw [upD_S, bdss, bdss_up k es]; exact eq_true ⟨bds_d k e, trivial⟩
theorem asEs_up {σ : List AObj} : ∀ xs : List D, asEs σ (xs.map .d) = some (xs, σ)
  | [] => rfl
  | x :: xs => by simp only [List.map_cons, asEs, asE, asEs_up xs]
theorem asEss_up {σ : List AObj} : ∀ es : List (List D), asEss σ (upD es) = some (es, σ)
  | [] => rfl
  | e :: es => by simp only [upD_S, asEss, asEs_up, asEss_up es]
/-- slices of which one is the call's own -/
def vset (es : List (List D)) (i k : Nat) : List (List AV) := (upD es).set i [.own k]
theorem vset_length (es : List (List D)) (i k : Nat) : (vset es i k).length = es.length := by simp [vset, upD]
theorem renss_set (f : Nat → Nat) (e : List AV) : ∀ (es : List (List AV)) (i : Nat), renss f (es.set i e) = (renss f es).set i (rens f e)
  | [], _ => rfl
  | x :: es, 0 => rfl
  | x :: es, i + 1 => by simp only [List.set_cons_succ, renss, renss_set f e es i]
theorem renss_vset (f : Nat → Nat) (es : List (List D)) (i k : Nat) : renss f (vset es i k) = vset es i (f k) := by rw [vset, renss_set, renss_up]; rfl
theorem bdss_set {k : Nat} {e : List AV} (he : bds k e) : ∀ {es : List (List AV)} {i : Nat}, bdss k es → bdss k (es.set i e)
  | [], _, h => h
  | x :: es, 0, h => ⟨he, h.2⟩
  | x :: es, i + 1, h => ⟨h.1, bdss_set he h.2⟩
theorem bdss_vset {n : Nat} {es : List (List D)} {i k : Nat} (h : k < n) : bdss n (vset es i k) = True := eq_true (bdss_set (show bds n [.own k] from ⟨h, trivial⟩) (of_eq_true (bdss_up n es)))
attribute [go_sem] upD_0 upD_S upD_length renss_up bdss_up asEss_up vset_length renss_vset bdss_vset
/-- a draw whose ends are one -/
theorem DX.join {Γ : Ctx} {E : List It → List AV → List AObj → Prop} {k : List It} {l : List Oper} {all : Array Oper} {env : List AV} {σ : List AObj} (env' : List AV) (σ' : List AObj) (p : Plan) (h1 : okP all p (Array.replicate all.size false) [] [] = true) (h2 : tidy all = true)
    (h3 : Γ.P.follows .mixedOrders = true) (h4 : evP Γ.P all (fun env σ => Wk Γ.n0 env σ env' σ') p [] env σ) (hk : E k env' σ') : DX Γ E k l all env σ :=
  .mk p h1 h2 h3 (evP_mono (fun env σ h => ⟨env', σ', h, hk⟩) p [] env σ h4)
end Go.AX
/- The types of this seat: sizes, fields, elements (printed; each is checked). -/
set_option maxRecDepth 100000
namespace Go.AX.Ty
theorem tk_0 : tk Go.Proofs.Try.prog 0 = some (false, 1) := by kernel_rfl
theorem tk_1 : tk Go.Proofs.Try.prog 1 = some (false, 1) := by kernel_rfl
theorem zc_1 : zc Go.Proofs.Try.prog 1 = some [AV.raw Value.nilFunc] := by kernel_rfl
theorem tk_2 : tk Go.Proofs.Try.prog 2 = some (false, 1) := by kernel_rfl
theorem zc_2 : zc Go.Proofs.Try.prog 2 = some [AV.d (D.int IntKind.i64 0)] := by kernel_rfl
theorem zv_2 : zv Go.Proofs.Try.prog 2 = some (false, [D.int IntKind.i64 0]) := by kernel_rfl
theorem under_2 : Go.Proofs.Try.prog.underlying 2 = some (TypeDesc.int IntKind.i64) := by kernel_rfl
theorem tk_3 : tk Go.Proofs.Try.prog 3 = some (false, 1) := by kernel_rfl
theorem zc_3 : zc Go.Proofs.Try.prog 3 = some [AV.d (D.int IntKind.i64 0)] := by kernel_rfl
theorem zv_3 : zv Go.Proofs.Try.prog 3 = some (false, [D.int IntKind.i64 0]) := by kernel_rfl
theorem under_3 : Go.Proofs.Try.prog.underlying 3 = some (TypeDesc.int IntKind.i64) := by kernel_rfl
theorem tk_4 : tk Go.Proofs.Try.prog 4 = some (false, 1) := by kernel_rfl
theorem zc_4 : zc Go.Proofs.Try.prog 4 = some [AV.d (D.bool false)] := by kernel_rfl
theorem zv_4 : zv Go.Proofs.Try.prog 4 = some (false, [D.bool false]) := by kernel_rfl
theorem under_4 : Go.Proofs.Try.prog.underlying 4 = some TypeDesc.bool := by kernel_rfl
theorem tk_5 : tk Go.Proofs.Try.prog 5 = some (false, 1) := by kernel_rfl
theorem zc_5 : zc Go.Proofs.Try.prog 5 = some [AV.d (D.int IntKind.u8 0)] := by kernel_rfl
theorem zv_5 : zv Go.Proofs.Try.prog 5 = some (false, [D.int IntKind.u8 0]) := by kernel_rfl
theorem under_5 : Go.Proofs.Try.prog.underlying 5 = some (TypeDesc.int IntKind.u8) := by kernel_rfl
theorem tk_6 : tk Go.Proofs.Try.prog 6 = some (false, 1) := by kernel_rfl
theorem zc_6 : zc Go.Proofs.Try.prog 6 = some [AV.d (D.int IntKind.u8 0)] := by kernel_rfl
theorem zv_6 : zv Go.Proofs.Try.prog 6 = some (false, [D.int IntKind.u8 0]) := by kernel_rfl
theorem under_6 : Go.Proofs.Try.prog.underlying 6 = some (TypeDesc.int IntKind.u8) := by kernel_rfl
theorem tk_7 : tk Go.Proofs.Try.prog 7 = some (true, 4) := by kernel_rfl
theorem zc_7 : zc Go.Proofs.Try.prog 7 = some [AV.d (D.int IntKind.i64 0), AV.d (D.int IntKind.i64 0), AV.d (D.bool false), AV.d (D.int IntKind.u8 0)] := by kernel_rfl
theorem zv_7 : zv Go.Proofs.Try.prog 7 = some (true, [D.int IntKind.i64 0, D.int IntKind.i64 0, D.bool false, D.int IntKind.u8 0]) := by kernel_rfl
theorem partsOk_7 : partsOk Go.Proofs.Try.prog 7 = true := by kernel_rfl
theorem fo_7_0 : fo Go.Proofs.Try.prog 7 0 = some (0, false, 1) := by kernel_rfl
theorem placeAt_7_0 : placeAt Go.Proofs.Try.prog 7 0 = some (0, 1) := by kernel_rfl
theorem fo_7_1 : fo Go.Proofs.Try.prog 7 1 = some (1, false, 1) := by kernel_rfl
theorem placeAt_7_1 : placeAt Go.Proofs.Try.prog 7 1 = some (1, 1) := by kernel_rfl
theorem fo_7_2 : fo Go.Proofs.Try.prog 7 2 = some (2, false, 1) := by kernel_rfl
theorem placeAt_7_2 : placeAt Go.Proofs.Try.prog 7 2 = some (2, 1) := by kernel_rfl
theorem fo_7_3 : fo Go.Proofs.Try.prog 7 3 = some (3, false, 1) := by kernel_rfl
theorem placeAt_7_3 : placeAt Go.Proofs.Try.prog 7 3 = some (3, 1) := by kernel_rfl
theorem tk_8 : tk Go.Proofs.Try.prog 8 = some (true, 4) := by kernel_rfl
theorem zc_8 : zc Go.Proofs.Try.prog 8 = some [AV.d (D.int IntKind.i64 0), AV.d (D.int IntKind.i64 0), AV.d (D.bool false), AV.d (D.int IntKind.u8 0)] := by kernel_rfl
theorem zv_8 : zv Go.Proofs.Try.prog 8 = some (true, [D.int IntKind.i64 0, D.int IntKind.i64 0, D.bool false, D.int IntKind.u8 0]) := by kernel_rfl
theorem partsOk_8 : partsOk Go.Proofs.Try.prog 8 = true := by kernel_rfl
theorem fo_8_0 : fo Go.Proofs.Try.prog 8 0 = some (0, false, 1) := by kernel_rfl
theorem placeAt_8_0 : placeAt Go.Proofs.Try.prog 8 0 = some (0, 1) := by kernel_rfl
theorem fo_8_1 : fo Go.Proofs.Try.prog 8 1 = some (1, false, 1) := by kernel_rfl
theorem placeAt_8_1 : placeAt Go.Proofs.Try.prog 8 1 = some (1, 1) := by kernel_rfl
theorem fo_8_2 : fo Go.Proofs.Try.prog 8 2 = some (2, false, 1) := by kernel_rfl
theorem placeAt_8_2 : placeAt Go.Proofs.Try.prog 8 2 = some (2, 1) := by kernel_rfl
theorem fo_8_3 : fo Go.Proofs.Try.prog 8 3 = some (3, false, 1) := by kernel_rfl
theorem placeAt_8_3 : placeAt Go.Proofs.Try.prog 8 3 = some (3, 1) := by kernel_rfl
theorem tk_9 : tk Go.Proofs.Try.prog 9 = some (false, 1) := by kernel_rfl
theorem srcT_9 : srcT Go.Proofs.Try.prog 9 = true := by kernel_rfl
theorem zc_9 : zc Go.Proofs.Try.prog 9 = some [AV.d (D.str ByteArray.empty)] := by kernel_rfl
theorem zv_9 : zv Go.Proofs.Try.prog 9 = some (false, [D.str ByteArray.empty]) := by kernel_rfl
theorem under_9 : Go.Proofs.Try.prog.underlying 9 = some TypeDesc.string := by kernel_rfl
theorem tk_10 : tk Go.Proofs.Try.prog 10 = some (false, 1) := by kernel_rfl
theorem srcT_10 : srcT Go.Proofs.Try.prog 10 = true := by kernel_rfl
theorem zc_10 : zc Go.Proofs.Try.prog 10 = some [AV.d (D.str ByteArray.empty)] := by kernel_rfl
theorem zv_10 : zv Go.Proofs.Try.prog 10 = some (false, [D.str ByteArray.empty]) := by kernel_rfl
theorem under_10 : Go.Proofs.Try.prog.underlying 10 = some TypeDesc.string := by kernel_rfl
theorem tk_11 : tk Go.Proofs.Try.prog 11 = some (false, 1) := by kernel_rfl
theorem srcT_11 : srcT Go.Proofs.Try.prog 11 = true := by kernel_rfl
theorem zc_11 : zc Go.Proofs.Try.prog 11 = some [AV.d (D.str ByteArray.empty)] := by kernel_rfl
theorem zv_11 : zv Go.Proofs.Try.prog 11 = some (false, [D.str ByteArray.empty]) := by kernel_rfl
theorem under_11 : Go.Proofs.Try.prog.underlying 11 = some TypeDesc.string := by kernel_rfl
theorem tk_12 : tk Go.Proofs.Try.prog 12 = some (false, 1) := by kernel_rfl
theorem zc_12 : zc Go.Proofs.Try.prog 12 = some [AV.d (D.int IntKind.u64 0)] := by kernel_rfl
theorem zv_12 : zv Go.Proofs.Try.prog 12 = some (false, [D.int IntKind.u64 0]) := by kernel_rfl
theorem under_12 : Go.Proofs.Try.prog.underlying 12 = some (TypeDesc.int IntKind.u64) := by kernel_rfl
theorem tk_13 : tk Go.Proofs.Try.prog 13 = some (true, 2) := by kernel_rfl
theorem zc_13 : zc Go.Proofs.Try.prog 13 = some [AV.d (D.str ByteArray.empty), AV.d (D.int IntKind.u64 0)] := by kernel_rfl
theorem zv_13 : zv Go.Proofs.Try.prog 13 = some (true, [D.str ByteArray.empty, D.int IntKind.u64 0]) := by kernel_rfl
theorem partsOk_13 : partsOk Go.Proofs.Try.prog 13 = true := by kernel_rfl
theorem fo_13_0 : fo Go.Proofs.Try.prog 13 0 = some (0, false, 1) := by kernel_rfl
theorem placeAt_13_0 : placeAt Go.Proofs.Try.prog 13 0 = some (0, 1) := by kernel_rfl
theorem fo_13_1 : fo Go.Proofs.Try.prog 13 1 = some (1, false, 1) := by kernel_rfl
theorem placeAt_13_1 : placeAt Go.Proofs.Try.prog 13 1 = some (1, 1) := by kernel_rfl
theorem tk_14 : tk Go.Proofs.Try.prog 14 = some (true, 2) := by kernel_rfl
theorem zc_14 : zc Go.Proofs.Try.prog 14 = some [AV.d (D.str ByteArray.empty), AV.d (D.int IntKind.u64 0)] := by kernel_rfl
theorem zv_14 : zv Go.Proofs.Try.prog 14 = some (true, [D.str ByteArray.empty, D.int IntKind.u64 0]) := by kernel_rfl
theorem partsOk_14 : partsOk Go.Proofs.Try.prog 14 = true := by kernel_rfl
theorem fo_14_0 : fo Go.Proofs.Try.prog 14 0 = some (0, false, 1) := by kernel_rfl
theorem placeAt_14_0 : placeAt Go.Proofs.Try.prog 14 0 = some (0, 1) := by kernel_rfl
theorem fo_14_1 : fo Go.Proofs.Try.prog 14 1 = some (1, false, 1) := by kernel_rfl
theorem placeAt_14_1 : placeAt Go.Proofs.Try.prog 14 1 = some (1, 1) := by kernel_rfl
theorem tk_15 : tk Go.Proofs.Try.prog 15 = some (false, 1) := by kernel_rfl
theorem zc_15 : zc Go.Proofs.Try.prog 15 = some [AV.raw (Value.pointer none)] := by kernel_rfl
theorem tk_16 : tk Go.Proofs.Try.prog 16 = some (false, 1) := by kernel_rfl
theorem zc_16 : zc Go.Proofs.Try.prog 16 = some [AV.raw (Value.pointer none)] := by kernel_rfl
theorem tk_17 : tk Go.Proofs.Try.prog 17 = some (false, 1) := by kernel_rfl
theorem zc_17 : zc Go.Proofs.Try.prog 17 = some [AV.raw (Value.pointer none)] := by kernel_rfl
theorem tk_18 : tk Go.Proofs.Try.prog 18 = some (true, 1) := by kernel_rfl
theorem zc_18 : zc Go.Proofs.Try.prog 18 = some [AV.raw (Value.pointer none)] := by kernel_rfl
theorem partsOk_18 : partsOk Go.Proofs.Try.prog 18 = true := by kernel_rfl
theorem fo_18_0 : fo Go.Proofs.Try.prog 18 0 = some (0, false, 1) := by kernel_rfl
theorem placeAt_18_0 : placeAt Go.Proofs.Try.prog 18 0 = some (0, 1) := by kernel_rfl
theorem tk_19 : tk Go.Proofs.Try.prog 19 = some (true, 1) := by kernel_rfl
theorem zc_19 : zc Go.Proofs.Try.prog 19 = some [AV.raw (Value.pointer none)] := by kernel_rfl
theorem partsOk_19 : partsOk Go.Proofs.Try.prog 19 = true := by kernel_rfl
theorem fo_19_0 : fo Go.Proofs.Try.prog 19 0 = some (0, false, 1) := by kernel_rfl
theorem placeAt_19_0 : placeAt Go.Proofs.Try.prog 19 0 = some (0, 1) := by kernel_rfl
theorem tk_20 : tk Go.Proofs.Try.prog 20 = some (false, 1) := by kernel_rfl
theorem zc_20 : zc Go.Proofs.Try.prog 20 = some [AV.raw Value.nilIface] := by kernel_rfl
theorem tk_21 : tk Go.Proofs.Try.prog 21 = some (false, 1) := by kernel_rfl
theorem zc_21 : zc Go.Proofs.Try.prog 21 = some [AV.d (D.int IntKind.i32 0)] := by kernel_rfl
theorem zv_21 : zv Go.Proofs.Try.prog 21 = some (false, [D.int IntKind.i32 0]) := by kernel_rfl
theorem under_21 : Go.Proofs.Try.prog.underlying 21 = some (TypeDesc.int IntKind.i32) := by kernel_rfl
theorem tk_22 : tk Go.Proofs.Try.prog 22 = some (false, 1) := by kernel_rfl
theorem it_22 : it Go.Proofs.Try.prog 22 = some (none, false, 1) := by kernel_rfl
theorem ei_22 : ei Go.Proofs.Try.prog 22 = some (1, 1) := by kernel_rfl
theorem srcT_22 : srcT Go.Proofs.Try.prog 22 = true := by kernel_rfl
theorem zc_22 : zc Go.Proofs.Try.prog 22 = some [AV.nil] := by kernel_rfl
theorem zd_22 : zd Go.Proofs.Try.prog 22 = some [D.int IntKind.u8 0] := by kernel_rfl
theorem under_22 : Go.Proofs.Try.prog.underlying 22 = some (TypeDesc.slice 5) := by kernel_rfl
theorem tk_23 : tk Go.Proofs.Try.prog 23 = some (false, 1) := by kernel_rfl
theorem it_23 : it Go.Proofs.Try.prog 23 = some (none, true, 3) := by kernel_rfl
theorem ei_23 : ei Go.Proofs.Try.prog 23 = some (3, 40) := by kernel_rfl
theorem srcT_23 : srcT Go.Proofs.Try.prog 23 = true := by kernel_rfl
theorem zc_23 : zc Go.Proofs.Try.prog 23 = some [AV.nil] := by kernel_rfl
theorem zd_23 : zd Go.Proofs.Try.prog 23 = some [D.int IntKind.i64 0, D.int IntKind.i64 0, D.sl []] := by kernel_rfl
theorem under_23 : Go.Proofs.Try.prog.underlying 23 = some (TypeDesc.slice 52) := by kernel_rfl
theorem tk_24 : tk Go.Proofs.Try.prog 24 = some (false, 1) := by kernel_rfl
theorem zc_24 : zc Go.Proofs.Try.prog 24 = some [AV.raw Value.nilFunc] := by kernel_rfl
theorem tk_25 : tk Go.Proofs.Try.prog 25 = some (false, 1) := by kernel_rfl
theorem zc_25 : zc Go.Proofs.Try.prog 25 = some [AV.d (D.int IntKind.i64 0)] := by kernel_rfl
theorem zv_25 : zv Go.Proofs.Try.prog 25 = some (false, [D.int IntKind.i64 0]) := by kernel_rfl
theorem under_25 : Go.Proofs.Try.prog.underlying 25 = some (TypeDesc.int IntKind.i64) := by kernel_rfl
theorem tk_26 : tk Go.Proofs.Try.prog 26 = some (false, 1) := by kernel_rfl
theorem tk_27 : tk Go.Proofs.Try.prog 27 = some (false, 1) := by kernel_rfl
theorem zc_27 : zc Go.Proofs.Try.prog 27 = some [AV.raw Value.nilFunc] := by kernel_rfl
theorem tk_28 : tk Go.Proofs.Try.prog 28 = some (false, 1) := by kernel_rfl
theorem tk_29 : tk Go.Proofs.Try.prog 29 = some (false, 1) := by kernel_rfl
theorem zc_29 : zc Go.Proofs.Try.prog 29 = some [AV.raw Value.nilFunc] := by kernel_rfl
theorem tk_30 : tk Go.Proofs.Try.prog 30 = some (false, 1) := by kernel_rfl
theorem tk_31 : tk Go.Proofs.Try.prog 31 = some (false, 1) := by kernel_rfl
theorem zc_31 : zc Go.Proofs.Try.prog 31 = some [AV.raw Value.nilFunc] := by kernel_rfl
theorem tk_32 : tk Go.Proofs.Try.prog 32 = some (false, 1) := by kernel_rfl
theorem tk_33 : tk Go.Proofs.Try.prog 33 = some (false, 1) := by kernel_rfl
theorem zc_33 : zc Go.Proofs.Try.prog 33 = some [AV.raw Value.nilFunc] := by kernel_rfl
theorem tk_34 : tk Go.Proofs.Try.prog 34 = some (false, 1) := by kernel_rfl
theorem zc_34 : zc Go.Proofs.Try.prog 34 = some [AV.raw Value.nilFunc] := by kernel_rfl
theorem tk_35 : tk Go.Proofs.Try.prog 35 = some (false, 1) := by kernel_rfl
theorem zc_35 : zc Go.Proofs.Try.prog 35 = some [AV.raw Value.nilFunc] := by kernel_rfl
theorem tk_36 : tk Go.Proofs.Try.prog 36 = some (false, 1) := by kernel_rfl
theorem zc_36 : zc Go.Proofs.Try.prog 36 = some [AV.raw Value.nilFunc] := by kernel_rfl
theorem tk_37 : tk Go.Proofs.Try.prog 37 = some (false, 1) := by kernel_rfl
theorem zc_37 : zc Go.Proofs.Try.prog 37 = some [AV.raw Value.nilFunc] := by kernel_rfl
theorem tk_38 : tk Go.Proofs.Try.prog 38 = some (false, 1) := by kernel_rfl
theorem zc_38 : zc Go.Proofs.Try.prog 38 = some [AV.raw Value.nilFunc] := by kernel_rfl
theorem tk_39 : tk Go.Proofs.Try.prog 39 = some (false, 1) := by kernel_rfl
theorem tk_40 : tk Go.Proofs.Try.prog 40 = some (false, 1) := by kernel_rfl
theorem zc_40 : zc Go.Proofs.Try.prog 40 = some [AV.raw Value.nilFunc] := by kernel_rfl
theorem tk_41 : tk Go.Proofs.Try.prog 41 = some (false, 1) := by kernel_rfl
theorem tk_42 : tk Go.Proofs.Try.prog 42 = some (false, 1) := by kernel_rfl
theorem zc_42 : zc Go.Proofs.Try.prog 42 = some [AV.raw Value.nilFunc] := by kernel_rfl
theorem tk_43 : tk Go.Proofs.Try.prog 43 = some (false, 1) := by kernel_rfl
theorem zc_43 : zc Go.Proofs.Try.prog 43 = some [AV.raw Value.nilFunc] := by kernel_rfl
theorem tk_44 : tk Go.Proofs.Try.prog 44 = some (false, 1) := by kernel_rfl
theorem zc_44 : zc Go.Proofs.Try.prog 44 = some [AV.raw Value.nilFunc] := by kernel_rfl
theorem tk_45 : tk Go.Proofs.Try.prog 45 = some (false, 1) := by kernel_rfl
theorem zc_45 : zc Go.Proofs.Try.prog 45 = some [AV.raw Value.nilFunc] := by kernel_rfl
theorem tk_46 : tk Go.Proofs.Try.prog 46 = some (false, 1) := by kernel_rfl
theorem zc_46 : zc Go.Proofs.Try.prog 46 = some [AV.raw Value.nilFunc] := by kernel_rfl
theorem tk_47 : tk Go.Proofs.Try.prog 47 = some (false, 1) := by kernel_rfl
theorem zc_47 : zc Go.Proofs.Try.prog 47 = some [AV.raw Value.nilFunc] := by kernel_rfl
theorem tk_48 : tk Go.Proofs.Try.prog 48 = some (false, 1) := by kernel_rfl
theorem zc_48 : zc Go.Proofs.Try.prog 48 = some [AV.raw Value.nilFunc] := by kernel_rfl
theorem tk_49 : tk Go.Proofs.Try.prog 49 = some (false, 1) := by kernel_rfl
theorem zc_49 : zc Go.Proofs.Try.prog 49 = some [AV.raw Value.nilFunc] := by kernel_rfl
theorem tk_50 : tk Go.Proofs.Try.prog 50 = some (false, 1) := by kernel_rfl
theorem zc_50 : zc Go.Proofs.Try.prog 50 = some [AV.raw Value.nilFunc] := by kernel_rfl
theorem tk_51 : tk Go.Proofs.Try.prog 51 = some (true, 3) := by kernel_rfl
theorem zc_51 : zc Go.Proofs.Try.prog 51 = some [AV.d (D.int IntKind.i64 0), AV.d (D.int IntKind.i64 0), AV.nil] := by kernel_rfl
theorem partsOk_51 : partsOk Go.Proofs.Try.prog 51 = true := by kernel_rfl
theorem fo_51_0 : fo Go.Proofs.Try.prog 51 0 = some (0, false, 1) := by kernel_rfl
theorem placeAt_51_0 : placeAt Go.Proofs.Try.prog 51 0 = some (0, 1) := by kernel_rfl
theorem fo_51_1 : fo Go.Proofs.Try.prog 51 1 = some (1, false, 1) := by kernel_rfl
theorem placeAt_51_1 : placeAt Go.Proofs.Try.prog 51 1 = some (1, 1) := by kernel_rfl
theorem fo_51_2 : fo Go.Proofs.Try.prog 51 2 = some (2, false, 1) := by kernel_rfl
theorem placeAt_51_2 : placeAt Go.Proofs.Try.prog 51 2 = some (2, 1) := by kernel_rfl
theorem tk_52 : tk Go.Proofs.Try.prog 52 = some (true, 3) := by kernel_rfl
theorem zc_52 : zc Go.Proofs.Try.prog 52 = some [AV.d (D.int IntKind.i64 0), AV.d (D.int IntKind.i64 0), AV.nil] := by kernel_rfl
theorem partsOk_52 : partsOk Go.Proofs.Try.prog 52 = true := by kernel_rfl
theorem fo_52_0 : fo Go.Proofs.Try.prog 52 0 = some (0, false, 1) := by kernel_rfl
theorem placeAt_52_0 : placeAt Go.Proofs.Try.prog 52 0 = some (0, 1) := by kernel_rfl
theorem fo_52_1 : fo Go.Proofs.Try.prog 52 1 = some (1, false, 1) := by kernel_rfl
theorem placeAt_52_1 : placeAt Go.Proofs.Try.prog 52 1 = some (1, 1) := by kernel_rfl
theorem fo_52_2 : fo Go.Proofs.Try.prog 52 2 = some (2, false, 1) := by kernel_rfl
theorem placeAt_52_2 : placeAt Go.Proofs.Try.prog 52 2 = some (2, 1) := by kernel_rfl
theorem tk_53 : tk Go.Proofs.Try.prog 53 = some (false, 1) := by kernel_rfl
theorem zc_53 : zc Go.Proofs.Try.prog 53 = some [AV.raw Value.nilFunc] := by kernel_rfl
theorem tk_54 : tk Go.Proofs.Try.prog 54 = some (false, 1) := by kernel_rfl
theorem zc_54 : zc Go.Proofs.Try.prog 54 = some [AV.raw Value.nilFunc] := by kernel_rfl
theorem tk_55 : tk Go.Proofs.Try.prog 55 = some (false, 1) := by kernel_rfl
theorem zc_55 : zc Go.Proofs.Try.prog 55 = some [AV.raw Value.nilFunc] := by kernel_rfl
theorem tk_56 : tk Go.Proofs.Try.prog 56 = some (false, 1) := by kernel_rfl
theorem zc_56 : zc Go.Proofs.Try.prog 56 = some [AV.raw Value.nilFunc] := by kernel_rfl
theorem tk_57 : tk Go.Proofs.Try.prog 57 = some (false, 1) := by kernel_rfl
theorem zc_57 : zc Go.Proofs.Try.prog 57 = some [AV.raw Value.nilFunc] := by kernel_rfl
theorem tk_58 : tk Go.Proofs.Try.prog 58 = some (false, 1) := by kernel_rfl
theorem it_58 : it Go.Proofs.Try.prog 58 = some (none, false, 1) := by kernel_rfl
theorem ei_58 : ei Go.Proofs.Try.prog 58 = some (1, 8) := by kernel_rfl
theorem srcT_58 : srcT Go.Proofs.Try.prog 58 = true := by kernel_rfl
theorem zc_58 : zc Go.Proofs.Try.prog 58 = some [AV.nil] := by kernel_rfl
theorem zd_58 : zd Go.Proofs.Try.prog 58 = some [D.int IntKind.i64 0] := by kernel_rfl
theorem under_58 : Go.Proofs.Try.prog.underlying 58 = some (TypeDesc.slice 3) := by kernel_rfl
theorem tk_59 : tk Go.Proofs.Try.prog 59 = some (false, 1) := by kernel_rfl
theorem zc_59 : zc Go.Proofs.Try.prog 59 = some [AV.raw Value.nilFunc] := by kernel_rfl
theorem tk_60 : tk Go.Proofs.Try.prog 60 = some (false, 1) := by kernel_rfl
theorem zc_60 : zc Go.Proofs.Try.prog 60 = some [AV.raw Value.nilFunc] := by kernel_rfl
theorem tk_61 : tk Go.Proofs.Try.prog 61 = some (false, 1) := by kernel_rfl
theorem tk_62 : tk Go.Proofs.Try.prog 62 = some (false, 1) := by kernel_rfl
theorem zc_62 : zc Go.Proofs.Try.prog 62 = some [AV.raw Value.nilFunc] := by kernel_rfl
theorem tk_63 : tk Go.Proofs.Try.prog 63 = some (false, 1) := by kernel_rfl
theorem it_63 : it Go.Proofs.Try.prog 63 = some (none, true, 4) := by kernel_rfl
theorem ei_63 : ei Go.Proofs.Try.prog 63 = some (4, 64) := by kernel_rfl
theorem srcT_63 : srcT Go.Proofs.Try.prog 63 = true := by kernel_rfl
theorem zc_63 : zc Go.Proofs.Try.prog 63 = some [AV.nil] := by kernel_rfl
theorem zd_63 : zd Go.Proofs.Try.prog 63 = some [D.int IntKind.u8 0, D.int IntKind.i64 0, D.sl [], D.sl []] := by kernel_rfl
theorem under_63 : Go.Proofs.Try.prog.underlying 63 = some (TypeDesc.slice 65) := by kernel_rfl
theorem tk_64 : tk Go.Proofs.Try.prog 64 = some (true, 4) := by kernel_rfl
theorem zc_64 : zc Go.Proofs.Try.prog 64 = some [AV.d (D.int IntKind.u8 0), AV.d (D.int IntKind.i64 0), AV.nil, AV.nil] := by kernel_rfl
theorem partsOk_64 : partsOk Go.Proofs.Try.prog 64 = true := by kernel_rfl
theorem fo_64_0 : fo Go.Proofs.Try.prog 64 0 = some (0, false, 1) := by kernel_rfl
theorem placeAt_64_0 : placeAt Go.Proofs.Try.prog 64 0 = some (0, 1) := by kernel_rfl
theorem fo_64_1 : fo Go.Proofs.Try.prog 64 1 = some (1, false, 1) := by kernel_rfl
theorem placeAt_64_1 : placeAt Go.Proofs.Try.prog 64 1 = some (1, 1) := by kernel_rfl
theorem fo_64_2 : fo Go.Proofs.Try.prog 64 2 = some (2, false, 1) := by kernel_rfl
theorem placeAt_64_2 : placeAt Go.Proofs.Try.prog 64 2 = some (2, 1) := by kernel_rfl
theorem fo_64_3 : fo Go.Proofs.Try.prog 64 3 = some (3, false, 1) := by kernel_rfl
theorem placeAt_64_3 : placeAt Go.Proofs.Try.prog 64 3 = some (3, 1) := by kernel_rfl
theorem tk_65 : tk Go.Proofs.Try.prog 65 = some (true, 4) := by kernel_rfl
theorem zc_65 : zc Go.Proofs.Try.prog 65 = some [AV.d (D.int IntKind.u8 0), AV.d (D.int IntKind.i64 0), AV.nil, AV.nil] := by kernel_rfl
theorem partsOk_65 : partsOk Go.Proofs.Try.prog 65 = true := by kernel_rfl
theorem fo_65_0 : fo Go.Proofs.Try.prog 65 0 = some (0, false, 1) := by kernel_rfl
theorem placeAt_65_0 : placeAt Go.Proofs.Try.prog 65 0 = some (0, 1) := by kernel_rfl
theorem fo_65_1 : fo Go.Proofs.Try.prog 65 1 = some (1, false, 1) := by kernel_rfl
theorem placeAt_65_1 : placeAt Go.Proofs.Try.prog 65 1 = some (1, 1) := by kernel_rfl
theorem fo_65_2 : fo Go.Proofs.Try.prog 65 2 = some (2, false, 1) := by kernel_rfl
theorem placeAt_65_2 : placeAt Go.Proofs.Try.prog 65 2 = some (2, 1) := by kernel_rfl
theorem fo_65_3 : fo Go.Proofs.Try.prog 65 3 = some (3, false, 1) := by kernel_rfl
theorem placeAt_65_3 : placeAt Go.Proofs.Try.prog 65 3 = some (3, 1) := by kernel_rfl
theorem tk_66 : tk Go.Proofs.Try.prog 66 = some (false, 1) := by kernel_rfl
theorem zc_66 : zc Go.Proofs.Try.prog 66 = some [AV.raw Value.nilFunc] := by kernel_rfl
theorem tk_67 : tk Go.Proofs.Try.prog 67 = some (false, 1) := by kernel_rfl
theorem zc_67 : zc Go.Proofs.Try.prog 67 = some [AV.raw Value.nilFunc] := by kernel_rfl
theorem tk_68 : tk Go.Proofs.Try.prog 68 = some (false, 1) := by kernel_rfl
theorem zc_68 : zc Go.Proofs.Try.prog 68 = some [AV.raw Value.nilFunc] := by kernel_rfl
theorem tk_69 : tk Go.Proofs.Try.prog 69 = some (false, 1) := by kernel_rfl
theorem zc_69 : zc Go.Proofs.Try.prog 69 = some [AV.raw Value.nilFunc] := by kernel_rfl
theorem tk_70 : tk Go.Proofs.Try.prog 70 = some (false, 1) := by kernel_rfl
theorem zc_70 : zc Go.Proofs.Try.prog 70 = some [AV.raw Value.nilFunc] := by kernel_rfl
theorem tk_71 : tk Go.Proofs.Try.prog 71 = some (false, 1) := by kernel_rfl
theorem zc_71 : zc Go.Proofs.Try.prog 71 = some [AV.raw Value.nilFunc] := by kernel_rfl
theorem tk_72 : tk Go.Proofs.Try.prog 72 = some (false, 1) := by kernel_rfl
theorem tk_73 : tk Go.Proofs.Try.prog 73 = some (false, 1) := by kernel_rfl
theorem zc_73 : zc Go.Proofs.Try.prog 73 = some [AV.raw Value.nilFunc] := by kernel_rfl
theorem tk_74 : tk Go.Proofs.Try.prog 74 = some (false, 1) := by kernel_rfl
theorem tk_75 : tk Go.Proofs.Try.prog 75 = some (false, 1) := by kernel_rfl
theorem zc_75 : zc Go.Proofs.Try.prog 75 = some [AV.raw Value.nilFunc] := by kernel_rfl
theorem tk_76 : tk Go.Proofs.Try.prog 76 = some (false, 1) := by kernel_rfl
theorem zc_76 : zc Go.Proofs.Try.prog 76 = some [AV.raw Value.nilFunc] := by kernel_rfl
theorem tk_77 : tk Go.Proofs.Try.prog 77 = some (false, 1) := by kernel_rfl
theorem zc_77 : zc Go.Proofs.Try.prog 77 = some [AV.raw Value.nilFunc] := by kernel_rfl
theorem tk_78 : tk Go.Proofs.Try.prog 78 = some (false, 1) := by kernel_rfl
theorem zc_78 : zc Go.Proofs.Try.prog 78 = some [AV.raw Value.nilFunc] := by kernel_rfl
theorem tk_79 : tk Go.Proofs.Try.prog 79 = some (false, 1) := by kernel_rfl
theorem zc_79 : zc Go.Proofs.Try.prog 79 = some [AV.raw Value.nilFunc] := by kernel_rfl
theorem tk_80 : tk Go.Proofs.Try.prog 80 = some (false, 1) := by kernel_rfl
theorem zc_80 : zc Go.Proofs.Try.prog 80 = some [AV.d (D.int IntKind.u64 0)] := by kernel_rfl
theorem zv_80 : zv Go.Proofs.Try.prog 80 = some (false, [D.int IntKind.u64 0]) := by kernel_rfl
theorem under_80 : Go.Proofs.Try.prog.underlying 80 = some (TypeDesc.int IntKind.u64) := by kernel_rfl
theorem tk_81 : tk Go.Proofs.Try.prog 81 = some (false, 1) := by kernel_rfl
theorem zc_81 : zc Go.Proofs.Try.prog 81 = some [AV.raw Value.nilFunc] := by kernel_rfl
theorem tk_82 : tk Go.Proofs.Try.prog 82 = some (false, 1) := by kernel_rfl
theorem zc_82 : zc Go.Proofs.Try.prog 82 = some [AV.raw Value.nilFunc] := by kernel_rfl
theorem tk_83 : tk Go.Proofs.Try.prog 83 = some (false, 1) := by kernel_rfl
theorem zc_83 : zc Go.Proofs.Try.prog 83 = some [AV.raw Value.nilFunc] := by kernel_rfl
theorem tk_84 : tk Go.Proofs.Try.prog 84 = some (false, 1) := by kernel_rfl
theorem zc_84 : zc Go.Proofs.Try.prog 84 = some [AV.raw Value.nilFunc] := by kernel_rfl
theorem tk_85 : tk Go.Proofs.Try.prog 85 = some (false, 1) := by kernel_rfl
theorem tk_86 : tk Go.Proofs.Try.prog 86 = some (false, 1) := by kernel_rfl
theorem zc_86 : zc Go.Proofs.Try.prog 86 = some [AV.raw Value.nilFunc] := by kernel_rfl
theorem tk_87 : tk Go.Proofs.Try.prog 87 = some (false, 1) := by kernel_rfl
theorem tk_88 : tk Go.Proofs.Try.prog 88 = some (false, 1) := by kernel_rfl
theorem zc_88 : zc Go.Proofs.Try.prog 88 = some [AV.raw Value.nilFunc] := by kernel_rfl
theorem tk_89 : tk Go.Proofs.Try.prog 89 = some (false, 1) := by kernel_rfl
theorem zc_89 : zc Go.Proofs.Try.prog 89 = some [AV.d (D.int IntKind.u32 0)] := by kernel_rfl
theorem zv_89 : zv Go.Proofs.Try.prog 89 = some (false, [D.int IntKind.u32 0]) := by kernel_rfl
theorem under_89 : Go.Proofs.Try.prog.underlying 89 = some (TypeDesc.int IntKind.u32) := by kernel_rfl
theorem tk_90 : tk Go.Proofs.Try.prog 90 = some (false, 1) := by kernel_rfl
theorem tk_91 : tk Go.Proofs.Try.prog 91 = some (false, 1) := by kernel_rfl
theorem zc_91 : zc Go.Proofs.Try.prog 91 = some [AV.raw Value.nilFunc] := by kernel_rfl
theorem tk_92 : tk Go.Proofs.Try.prog 92 = some (false, 1) := by kernel_rfl
theorem zc_92 : zc Go.Proofs.Try.prog 92 = some [AV.raw Value.nilFunc] := by kernel_rfl
theorem tk_93 : tk Go.Proofs.Try.prog 93 = some (false, 1) := by kernel_rfl
theorem zc_93 : zc Go.Proofs.Try.prog 93 = some [AV.raw Value.nilFunc] := by kernel_rfl
theorem tk_94 : tk Go.Proofs.Try.prog 94 = some (false, 1) := by kernel_rfl
theorem zc_94 : zc Go.Proofs.Try.prog 94 = some [AV.raw Value.nilFunc] := by kernel_rfl
theorem tk_95 : tk Go.Proofs.Try.prog 95 = some (false, 1) := by kernel_rfl
theorem zc_95 : zc Go.Proofs.Try.prog 95 = some [AV.d (D.int IntKind.u64 0)] := by kernel_rfl
theorem zv_95 : zv Go.Proofs.Try.prog 95 = some (false, [D.int IntKind.u64 0]) := by kernel_rfl
theorem under_95 : Go.Proofs.Try.prog.underlying 95 = some (TypeDesc.int IntKind.u64) := by kernel_rfl
theorem tk_96 : tk Go.Proofs.Try.prog 96 = some (false, 1) := by kernel_rfl
theorem zc_96 : zc Go.Proofs.Try.prog 96 = some [AV.raw Value.nilFunc] := by kernel_rfl
theorem tk_97 : tk Go.Proofs.Try.prog 97 = some (false, 1) := by kernel_rfl
theorem zc_97 : zc Go.Proofs.Try.prog 97 = some [AV.raw Value.nilFunc] := by kernel_rfl
theorem tk_98 : tk Go.Proofs.Try.prog 98 = some (true, 2) := by kernel_rfl
theorem zc_98 : zc Go.Proofs.Try.prog 98 = some [AV.nil, AV.d (D.bool false)] := by kernel_rfl
theorem partsOk_98 : partsOk Go.Proofs.Try.prog 98 = true := by kernel_rfl
theorem fo_98_0 : fo Go.Proofs.Try.prog 98 0 = some (0, false, 1) := by kernel_rfl
theorem placeAt_98_0 : placeAt Go.Proofs.Try.prog 98 0 = some (0, 1) := by kernel_rfl
theorem fo_98_1 : fo Go.Proofs.Try.prog 98 1 = some (1, false, 1) := by kernel_rfl
theorem placeAt_98_1 : placeAt Go.Proofs.Try.prog 98 1 = some (1, 1) := by kernel_rfl
theorem tk_99 : tk Go.Proofs.Try.prog 99 = some (true, 2) := by kernel_rfl
theorem zc_99 : zc Go.Proofs.Try.prog 99 = some [AV.nil, AV.d (D.bool false)] := by kernel_rfl
theorem partsOk_99 : partsOk Go.Proofs.Try.prog 99 = true := by kernel_rfl
theorem fo_99_0 : fo Go.Proofs.Try.prog 99 0 = some (0, false, 1) := by kernel_rfl
theorem placeAt_99_0 : placeAt Go.Proofs.Try.prog 99 0 = some (0, 1) := by kernel_rfl
theorem fo_99_1 : fo Go.Proofs.Try.prog 99 1 = some (1, false, 1) := by kernel_rfl
theorem placeAt_99_1 : placeAt Go.Proofs.Try.prog 99 1 = some (1, 1) := by kernel_rfl
theorem tk_100 : tk Go.Proofs.Try.prog 100 = some (false, 1) := by kernel_rfl
theorem zc_100 : zc Go.Proofs.Try.prog 100 = some [AV.raw Value.nilFunc] := by kernel_rfl
theorem tk_101 : tk Go.Proofs.Try.prog 101 = some (false, 1) := by kernel_rfl
theorem zc_101 : zc Go.Proofs.Try.prog 101 = some [AV.raw Value.nilFunc] := by kernel_rfl
theorem tk_102 : tk Go.Proofs.Try.prog 102 = some (false, 1) := by kernel_rfl
theorem zc_102 : zc Go.Proofs.Try.prog 102 = some [AV.raw (Value.pointer none)] := by kernel_rfl
theorem tk_103 : tk Go.Proofs.Try.prog 103 = some (false, 1) := by kernel_rfl
theorem zc_103 : zc Go.Proofs.Try.prog 103 = some [AV.raw Value.nilFunc] := by kernel_rfl
theorem tk_104 : tk Go.Proofs.Try.prog 104 = some (false, 1) := by kernel_rfl
theorem tk_105 : tk Go.Proofs.Try.prog 105 = some (false, 1) := by kernel_rfl
theorem zc_105 : zc Go.Proofs.Try.prog 105 = some [AV.raw Value.nilFunc] := by kernel_rfl
theorem tk_106 : tk Go.Proofs.Try.prog 106 = some (false, 1) := by kernel_rfl
theorem zc_106 : zc Go.Proofs.Try.prog 106 = some [AV.raw Value.nilFunc] := by kernel_rfl
theorem tk_107 : tk Go.Proofs.Try.prog 107 = some (false, 1) := by kernel_rfl
theorem zc_107 : zc Go.Proofs.Try.prog 107 = some [AV.raw Value.nilFunc] := by kernel_rfl
theorem tk_108 : tk Go.Proofs.Try.prog 108 = some (true, 4) := by kernel_rfl
theorem zc_108 : zc Go.Proofs.Try.prog 108 = some [AV.raw (Value.pointer none), AV.raw (Value.pointer none), AV.raw (Value.pointer none), AV.d (D.str ByteArray.empty)] := by kernel_rfl
theorem partsOk_108 : partsOk Go.Proofs.Try.prog 108 = true := by kernel_rfl
theorem fo_108_0 : fo Go.Proofs.Try.prog 108 0 = some (0, false, 1) := by kernel_rfl
theorem placeAt_108_0 : placeAt Go.Proofs.Try.prog 108 0 = some (0, 1) := by kernel_rfl
theorem fo_108_1 : fo Go.Proofs.Try.prog 108 1 = some (1, false, 1) := by kernel_rfl
theorem placeAt_108_1 : placeAt Go.Proofs.Try.prog 108 1 = some (1, 1) := by kernel_rfl
theorem fo_108_2 : fo Go.Proofs.Try.prog 108 2 = some (2, false, 1) := by kernel_rfl
theorem placeAt_108_2 : placeAt Go.Proofs.Try.prog 108 2 = some (2, 1) := by kernel_rfl
theorem fo_108_3 : fo Go.Proofs.Try.prog 108 3 = some (3, false, 1) := by kernel_rfl
theorem placeAt_108_3 : placeAt Go.Proofs.Try.prog 108 3 = some (3, 1) := by kernel_rfl
theorem tk_109 : tk Go.Proofs.Try.prog 109 = some (true, 4) := by kernel_rfl
theorem zc_109 : zc Go.Proofs.Try.prog 109 = some [AV.raw (Value.pointer none), AV.raw (Value.pointer none), AV.raw (Value.pointer none), AV.d (D.str ByteArray.empty)] := by kernel_rfl
theorem partsOk_109 : partsOk Go.Proofs.Try.prog 109 = true := by kernel_rfl
theorem fo_109_0 : fo Go.Proofs.Try.prog 109 0 = some (0, false, 1) := by kernel_rfl
theorem placeAt_109_0 : placeAt Go.Proofs.Try.prog 109 0 = some (0, 1) := by kernel_rfl
theorem fo_109_1 : fo Go.Proofs.Try.prog 109 1 = some (1, false, 1) := by kernel_rfl
theorem placeAt_109_1 : placeAt Go.Proofs.Try.prog 109 1 = some (1, 1) := by kernel_rfl
theorem fo_109_2 : fo Go.Proofs.Try.prog 109 2 = some (2, false, 1) := by kernel_rfl
theorem placeAt_109_2 : placeAt Go.Proofs.Try.prog 109 2 = some (2, 1) := by kernel_rfl
theorem fo_109_3 : fo Go.Proofs.Try.prog 109 3 = some (3, false, 1) := by kernel_rfl
theorem placeAt_109_3 : placeAt Go.Proofs.Try.prog 109 3 = some (3, 1) := by kernel_rfl
theorem tk_110 : tk Go.Proofs.Try.prog 110 = some (true, 0) := by kernel_rfl
theorem it_110 : it Go.Proofs.Try.prog 110 = some (some 0, false, 1) := by kernel_rfl
theorem zc_110 : zc Go.Proofs.Try.prog 110 = some [] := by kernel_rfl
theorem zv_110 : zv Go.Proofs.Try.prog 110 = some (true, []) := by kernel_rfl
theorem partsOk_110 : partsOk Go.Proofs.Try.prog 110 = true := by kernel_rfl
theorem under_110 : Go.Proofs.Try.prog.underlying 110 = some (TypeDesc.array 0 16) := by kernel_rfl
theorem placeAt_110_0 : placeAt Go.Proofs.Try.prog 110 0 = some (0, 1) := by kernel_rfl
theorem placeAt_110_1 : placeAt Go.Proofs.Try.prog 110 1 = some (1, 1) := by kernel_rfl
theorem placeAt_110_2 : placeAt Go.Proofs.Try.prog 110 2 = some (2, 1) := by kernel_rfl
theorem placeAt_110_3 : placeAt Go.Proofs.Try.prog 110 3 = some (3, 1) := by kernel_rfl
theorem placeAt_110_4 : placeAt Go.Proofs.Try.prog 110 4 = some (4, 1) := by kernel_rfl
theorem placeAt_110_5 : placeAt Go.Proofs.Try.prog 110 5 = some (5, 1) := by kernel_rfl
theorem placeAt_110_6 : placeAt Go.Proofs.Try.prog 110 6 = some (6, 1) := by kernel_rfl
theorem placeAt_110_7 : placeAt Go.Proofs.Try.prog 110 7 = some (7, 1) := by kernel_rfl
theorem placeAt_110_8 : placeAt Go.Proofs.Try.prog 110 8 = some (8, 1) := by kernel_rfl
theorem placeAt_110_9 : placeAt Go.Proofs.Try.prog 110 9 = some (9, 1) := by kernel_rfl
theorem placeAt_110_10 : placeAt Go.Proofs.Try.prog 110 10 = some (10, 1) := by kernel_rfl
theorem placeAt_110_11 : placeAt Go.Proofs.Try.prog 110 11 = some (11, 1) := by kernel_rfl
theorem placeAt_110_12 : placeAt Go.Proofs.Try.prog 110 12 = some (12, 1) := by kernel_rfl
theorem placeAt_110_13 : placeAt Go.Proofs.Try.prog 110 13 = some (13, 1) := by kernel_rfl
theorem tk_111 : tk Go.Proofs.Try.prog 111 = some (true, 0) := by kernel_rfl
theorem zc_111 : zc Go.Proofs.Try.prog 111 = some [] := by kernel_rfl
theorem zv_111 : zv Go.Proofs.Try.prog 111 = some (true, []) := by kernel_rfl
theorem partsOk_111 : partsOk Go.Proofs.Try.prog 111 = true := by kernel_rfl
theorem fo_111_0 : fo Go.Proofs.Try.prog 111 0 = some (0, true, 0) := by kernel_rfl
theorem placeAt_111_0 : placeAt Go.Proofs.Try.prog 111 0 = some (0, 0) := by kernel_rfl
theorem tk_112 : tk Go.Proofs.Try.prog 112 = some (true, 0) := by kernel_rfl
theorem zc_112 : zc Go.Proofs.Try.prog 112 = some [] := by kernel_rfl
theorem zv_112 : zv Go.Proofs.Try.prog 112 = some (true, []) := by kernel_rfl
theorem partsOk_112 : partsOk Go.Proofs.Try.prog 112 = true := by kernel_rfl
theorem fo_112_0 : fo Go.Proofs.Try.prog 112 0 = some (0, true, 0) := by kernel_rfl
theorem placeAt_112_0 : placeAt Go.Proofs.Try.prog 112 0 = some (0, 0) := by kernel_rfl
theorem tk_113 : tk Go.Proofs.Try.prog 113 = some (false, 1) := by kernel_rfl
theorem zc_113 : zc Go.Proofs.Try.prog 113 = some [AV.raw Value.nilFunc] := by kernel_rfl
theorem tk_114 : tk Go.Proofs.Try.prog 114 = some (false, 1) := by kernel_rfl
theorem zc_114 : zc Go.Proofs.Try.prog 114 = some [AV.d (D.int IntKind.u8 0)] := by kernel_rfl
theorem zv_114 : zv Go.Proofs.Try.prog 114 = some (false, [D.int IntKind.u8 0]) := by kernel_rfl
theorem under_114 : Go.Proofs.Try.prog.underlying 114 = some (TypeDesc.int IntKind.u8) := by kernel_rfl
theorem tk_115 : tk Go.Proofs.Try.prog 115 = some (false, 1) := by kernel_rfl
theorem zc_115 : zc Go.Proofs.Try.prog 115 = some [AV.d (D.int IntKind.u8 0)] := by kernel_rfl
theorem zv_115 : zv Go.Proofs.Try.prog 115 = some (false, [D.int IntKind.u8 0]) := by kernel_rfl
theorem under_115 : Go.Proofs.Try.prog.underlying 115 = some (TypeDesc.int IntKind.u8) := by kernel_rfl
theorem tk_116 : tk Go.Proofs.Try.prog 116 = some (false, 1) := by kernel_rfl
theorem zc_116 : zc Go.Proofs.Try.prog 116 = some [AV.raw Value.nilFunc] := by kernel_rfl
theorem tk_117 : tk Go.Proofs.Try.prog 117 = some (false, 1) := by kernel_rfl
theorem zc_117 : zc Go.Proofs.Try.prog 117 = some [AV.raw (Value.pointer none)] := by kernel_rfl
theorem tk_118 : tk Go.Proofs.Try.prog 118 = some (false, 1) := by kernel_rfl
theorem zc_118 : zc Go.Proofs.Try.prog 118 = some [AV.d (D.int IntKind.i32 0)] := by kernel_rfl
theorem zv_118 : zv Go.Proofs.Try.prog 118 = some (false, [D.int IntKind.i32 0]) := by kernel_rfl
theorem under_118 : Go.Proofs.Try.prog.underlying 118 = some (TypeDesc.int IntKind.i32) := by kernel_rfl
theorem tk_119 : tk Go.Proofs.Try.prog 119 = some (false, 1) := by kernel_rfl
theorem zc_119 : zc Go.Proofs.Try.prog 119 = some [AV.d (D.int IntKind.i32 0)] := by kernel_rfl
theorem zv_119 : zv Go.Proofs.Try.prog 119 = some (false, [D.int IntKind.i32 0]) := by kernel_rfl
theorem under_119 : Go.Proofs.Try.prog.underlying 119 = some (TypeDesc.int IntKind.i32) := by kernel_rfl
theorem tk_120 : tk Go.Proofs.Try.prog 120 = some (true, 11) := by kernel_rfl
theorem zc_120 : zc Go.Proofs.Try.prog 120 = some [AV.d (D.int IntKind.u64 0), AV.d (D.int IntKind.u64 0), AV.d (D.int IntKind.u32 0), AV.d (D.int IntKind.u8 0), AV.d (D.int IntKind.u8 0), AV.d (D.int IntKind.u8 0), AV.d (D.int IntKind.u8 0), AV.raw Value.nilFunc, AV.raw (Value.pointer none), AV.d (D.int IntKind.i32 0), AV.d (D.int IntKind.i32 0)] := by kernel_rfl
theorem partsOk_120 : partsOk Go.Proofs.Try.prog 120 = true := by kernel_rfl
theorem fo_120_0 : fo Go.Proofs.Try.prog 120 0 = some (0, false, 1) := by kernel_rfl
theorem placeAt_120_0 : placeAt Go.Proofs.Try.prog 120 0 = some (0, 1) := by kernel_rfl
theorem fo_120_1 : fo Go.Proofs.Try.prog 120 1 = some (1, false, 1) := by kernel_rfl
theorem placeAt_120_1 : placeAt Go.Proofs.Try.prog 120 1 = some (1, 1) := by kernel_rfl
theorem fo_120_2 : fo Go.Proofs.Try.prog 120 2 = some (2, false, 1) := by kernel_rfl
theorem placeAt_120_2 : placeAt Go.Proofs.Try.prog 120 2 = some (2, 1) := by kernel_rfl
theorem fo_120_3 : fo Go.Proofs.Try.prog 120 3 = some (3, false, 1) := by kernel_rfl
theorem placeAt_120_3 : placeAt Go.Proofs.Try.prog 120 3 = some (3, 1) := by kernel_rfl
theorem fo_120_4 : fo Go.Proofs.Try.prog 120 4 = some (4, false, 1) := by kernel_rfl
theorem placeAt_120_4 : placeAt Go.Proofs.Try.prog 120 4 = some (4, 1) := by kernel_rfl
theorem fo_120_5 : fo Go.Proofs.Try.prog 120 5 = some (5, false, 1) := by kernel_rfl
theorem placeAt_120_5 : placeAt Go.Proofs.Try.prog 120 5 = some (5, 1) := by kernel_rfl
theorem fo_120_6 : fo Go.Proofs.Try.prog 120 6 = some (6, false, 1) := by kernel_rfl
theorem placeAt_120_6 : placeAt Go.Proofs.Try.prog 120 6 = some (6, 1) := by kernel_rfl
theorem fo_120_7 : fo Go.Proofs.Try.prog 120 7 = some (7, false, 1) := by kernel_rfl
theorem placeAt_120_7 : placeAt Go.Proofs.Try.prog 120 7 = some (7, 1) := by kernel_rfl
theorem fo_120_8 : fo Go.Proofs.Try.prog 120 8 = some (8, false, 1) := by kernel_rfl
theorem placeAt_120_8 : placeAt Go.Proofs.Try.prog 120 8 = some (8, 1) := by kernel_rfl
theorem fo_120_9 : fo Go.Proofs.Try.prog 120 9 = some (9, false, 1) := by kernel_rfl
theorem placeAt_120_9 : placeAt Go.Proofs.Try.prog 120 9 = some (9, 1) := by kernel_rfl
theorem fo_120_10 : fo Go.Proofs.Try.prog 120 10 = some (10, false, 1) := by kernel_rfl
theorem placeAt_120_10 : placeAt Go.Proofs.Try.prog 120 10 = some (10, 1) := by kernel_rfl
theorem tk_121 : tk Go.Proofs.Try.prog 121 = some (true, 11) := by kernel_rfl
theorem zc_121 : zc Go.Proofs.Try.prog 121 = some [AV.d (D.int IntKind.u64 0), AV.d (D.int IntKind.u64 0), AV.d (D.int IntKind.u32 0), AV.d (D.int IntKind.u8 0), AV.d (D.int IntKind.u8 0), AV.d (D.int IntKind.u8 0), AV.d (D.int IntKind.u8 0), AV.raw Value.nilFunc, AV.raw (Value.pointer none), AV.d (D.int IntKind.i32 0), AV.d (D.int IntKind.i32 0)] := by kernel_rfl
theorem partsOk_121 : partsOk Go.Proofs.Try.prog 121 = true := by kernel_rfl
theorem fo_121_0 : fo Go.Proofs.Try.prog 121 0 = some (0, false, 1) := by kernel_rfl
theorem placeAt_121_0 : placeAt Go.Proofs.Try.prog 121 0 = some (0, 1) := by kernel_rfl
theorem fo_121_1 : fo Go.Proofs.Try.prog 121 1 = some (1, false, 1) := by kernel_rfl
theorem placeAt_121_1 : placeAt Go.Proofs.Try.prog 121 1 = some (1, 1) := by kernel_rfl
theorem fo_121_2 : fo Go.Proofs.Try.prog 121 2 = some (2, false, 1) := by kernel_rfl
theorem placeAt_121_2 : placeAt Go.Proofs.Try.prog 121 2 = some (2, 1) := by kernel_rfl
theorem fo_121_3 : fo Go.Proofs.Try.prog 121 3 = some (3, false, 1) := by kernel_rfl
theorem placeAt_121_3 : placeAt Go.Proofs.Try.prog 121 3 = some (3, 1) := by kernel_rfl
theorem fo_121_4 : fo Go.Proofs.Try.prog 121 4 = some (4, false, 1) := by kernel_rfl
theorem placeAt_121_4 : placeAt Go.Proofs.Try.prog 121 4 = some (4, 1) := by kernel_rfl
theorem fo_121_5 : fo Go.Proofs.Try.prog 121 5 = some (5, false, 1) := by kernel_rfl
theorem placeAt_121_5 : placeAt Go.Proofs.Try.prog 121 5 = some (5, 1) := by kernel_rfl
theorem fo_121_6 : fo Go.Proofs.Try.prog 121 6 = some (6, false, 1) := by kernel_rfl
theorem placeAt_121_6 : placeAt Go.Proofs.Try.prog 121 6 = some (6, 1) := by kernel_rfl
theorem fo_121_7 : fo Go.Proofs.Try.prog 121 7 = some (7, false, 1) := by kernel_rfl
theorem placeAt_121_7 : placeAt Go.Proofs.Try.prog 121 7 = some (7, 1) := by kernel_rfl
theorem fo_121_8 : fo Go.Proofs.Try.prog 121 8 = some (8, false, 1) := by kernel_rfl
theorem placeAt_121_8 : placeAt Go.Proofs.Try.prog 121 8 = some (8, 1) := by kernel_rfl
theorem fo_121_9 : fo Go.Proofs.Try.prog 121 9 = some (9, false, 1) := by kernel_rfl
theorem placeAt_121_9 : placeAt Go.Proofs.Try.prog 121 9 = some (9, 1) := by kernel_rfl
theorem fo_121_10 : fo Go.Proofs.Try.prog 121 10 = some (10, false, 1) := by kernel_rfl
theorem placeAt_121_10 : placeAt Go.Proofs.Try.prog 121 10 = some (10, 1) := by kernel_rfl
theorem tk_122 : tk Go.Proofs.Try.prog 122 = some (false, 1) := by kernel_rfl
theorem zc_122 : zc Go.Proofs.Try.prog 122 = some [AV.raw (Value.pointer none)] := by kernel_rfl
theorem mixed : Go.Proofs.Try.prog.follows .mixedOrders = true := by kernel_rfl
theorem fk_7 : flatK Go.Proofs.Try.prog 6 7 = some ([DK.int IntKind.i64, DK.int IntKind.i64, DK.bool, DK.int IntKind.u8]) := by kernel_rfl
theorem eqT_7 : EqT Go.Proofs.Try.prog 7 ([DK.int IntKind.i64, DK.int IntKind.i64, DK.bool, DK.int IntKind.u8]) := eqT_flat fk_7 (by decide) tk_7 (by kernel_rfl)
theorem eqN_7 : (∃ ks, EqT Go.Proofs.Try.prog 7 ks ∧ [some (DK.int IntKind.i64), some (DK.int IntKind.i64), some (DK.bool), some (DK.int IntKind.u8)] = List.map some ks ∧ [some (DK.int IntKind.i64), some (DK.int IntKind.i64), some (DK.bool), some (DK.int IntKind.u8)] = List.map some ks) = True := eq_true ⟨_, eqT_7, rfl, rfl⟩
theorem fk_8 : flatK Go.Proofs.Try.prog 6 8 = some ([DK.int IntKind.i64, DK.int IntKind.i64, DK.bool, DK.int IntKind.u8]) := by kernel_rfl
theorem eqT_8 : EqT Go.Proofs.Try.prog 8 ([DK.int IntKind.i64, DK.int IntKind.i64, DK.bool, DK.int IntKind.u8]) := eqT_flat fk_8 (by decide) tk_8 (by kernel_rfl)
theorem eqN_8 : (∃ ks, EqT Go.Proofs.Try.prog 8 ks ∧ [some (DK.int IntKind.i64), some (DK.int IntKind.i64), some (DK.bool), some (DK.int IntKind.u8)] = List.map some ks ∧ [some (DK.int IntKind.i64), some (DK.int IntKind.i64), some (DK.bool), some (DK.int IntKind.u8)] = List.map some ks) = True := eq_true ⟨_, eqT_8, rfl, rfl⟩
attribute [go_sem] tk_0 tk_1 zc_1 tk_2 zc_2 zv_2 under_2 tk_3 zc_3 zv_3 under_3 tk_4 zc_4 zv_4 under_4 tk_5 zc_5 zv_5 under_5 tk_6 zc_6 zv_6 under_6 tk_7 zc_7 zv_7 partsOk_7 fo_7_0 placeAt_7_0 fo_7_1 placeAt_7_1 fo_7_2 placeAt_7_2 fo_7_3 placeAt_7_3 tk_8 zc_8 zv_8 partsOk_8 fo_8_0 placeAt_8_0 fo_8_1 placeAt_8_1 fo_8_2 placeAt_8_2 fo_8_3 placeAt_8_3 tk_9 srcT_9 zc_9 zv_9 under_9 tk_10 srcT_10 zc_10 zv_10 under_10 tk_11 srcT_11 zc_11 zv_11 under_11 tk_12 zc_12 zv_12 under_12 tk_13 zc_13 zv_13 partsOk_13 fo_13_0 placeAt_13_0 fo_13_1 placeAt_13_1 tk_14 zc_14 zv_14 partsOk_14 fo_14_0 placeAt_14_0 fo_14_1 placeAt_14_1 tk_15 zc_15 tk_16 zc_16 tk_17 zc_17 tk_18 zc_18 partsOk_18 fo_18_0 placeAt_18_0 tk_19 zc_19 partsOk_19 fo_19_0 placeAt_19_0 tk_20 zc_20 tk_21 zc_21 zv_21 under_21 tk_22 it_22 ei_22 srcT_22 zc_22 zd_22 under_22 tk_23 it_23 ei_23 srcT_23 zc_23 zd_23 under_23 tk_24 zc_24 tk_25 zc_25 zv_25 under_25 tk_26 tk_27 zc_27 tk_28 tk_29 zc_29 tk_30 tk_31 zc_31 tk_32 tk_33 zc_33 tk_34 zc_34 tk_35 zc_35 tk_36 zc_36 tk_37 zc_37 tk_38 zc_38 tk_39 tk_40 zc_40 tk_41 tk_42 zc_42 tk_43 zc_43 tk_44 zc_44 tk_45 zc_45 tk_46 zc_46 tk_47 zc_47 tk_48 zc_48 tk_49 zc_49 tk_50 zc_50 tk_51 zc_51 partsOk_51 fo_51_0 placeAt_51_0 fo_51_1 placeAt_51_1 fo_51_2 placeAt_51_2 tk_52 zc_52 partsOk_52 fo_52_0 placeAt_52_0 fo_52_1 placeAt_52_1 fo_52_2 placeAt_52_2 tk_53 zc_53 tk_54 zc_54 tk_55 zc_55 tk_56 zc_56 tk_57 zc_57 tk_58 it_58 ei_58 srcT_58 zc_58 zd_58 under_58 tk_59 zc_59 tk_60 zc_60 tk_61 tk_62 zc_62 tk_63 it_63 ei_63 srcT_63 zc_63 zd_63 under_63 tk_64 zc_64 partsOk_64 fo_64_0 placeAt_64_0 fo_64_1 placeAt_64_1 fo_64_2 placeAt_64_2 fo_64_3 placeAt_64_3 tk_65 zc_65 partsOk_65 fo_65_0 placeAt_65_0 fo_65_1 placeAt_65_1 fo_65_2 placeAt_65_2 fo_65_3 placeAt_65_3 tk_66 zc_66 tk_67 zc_67 tk_68 zc_68 tk_69 zc_69 tk_70 zc_70 tk_71 zc_71 tk_72 tk_73 zc_73 tk_74 tk_75 zc_75 tk_76 zc_76 tk_77 zc_77 tk_78 zc_78 tk_79 zc_79 tk_80 zc_80 zv_80 under_80 tk_81 zc_81 tk_82 zc_82 tk_83 zc_83 tk_84 zc_84 tk_85 tk_86 zc_86 tk_87 tk_88 zc_88 tk_89 zc_89 zv_89 under_89 tk_90 tk_91 zc_91 tk_92 zc_92 tk_93 zc_93 tk_94 zc_94 tk_95 zc_95 zv_95 under_95 tk_96 zc_96 tk_97 zc_97 tk_98 zc_98 partsOk_98 fo_98_0 placeAt_98_0 fo_98_1 placeAt_98_1 tk_99 zc_99 partsOk_99 fo_99_0 placeAt_99_0 fo_99_1 placeAt_99_1 tk_100 zc_100 tk_101 zc_101 tk_102 zc_102 tk_103 zc_103 tk_104 tk_105 zc_105 tk_106 zc_106 tk_107 zc_107 tk_108 zc_108 partsOk_108 fo_108_0 placeAt_108_0 fo_108_1 placeAt_108_1 fo_108_2 placeAt_108_2 fo_108_3 placeAt_108_3 tk_109 zc_109 partsOk_109 fo_109_0 placeAt_109_0 fo_109_1 placeAt_109_1 fo_109_2 placeAt_109_2 fo_109_3 placeAt_109_3 tk_110 it_110 zc_110 zv_110 partsOk_110 under_110 placeAt_110_0 placeAt_110_1 placeAt_110_2 placeAt_110_3 placeAt_110_4 placeAt_110_5 placeAt_110_6 placeAt_110_7 placeAt_110_8 placeAt_110_9 placeAt_110_10 placeAt_110_11 placeAt_110_12 placeAt_110_13 tk_111 zc_111 zv_111 partsOk_111 fo_111_0 placeAt_111_0 tk_112 zc_112 zv_112 partsOk_112 fo_112_0 placeAt_112_0 tk_113 zc_113 tk_114 zc_114 zv_114 under_114 tk_115 zc_115 zv_115 under_115 tk_116 zc_116 tk_117 zc_117 tk_118 zc_118 zv_118 under_118 tk_119 zc_119 zv_119 under_119 tk_120 zc_120 partsOk_120 fo_120_0 placeAt_120_0 fo_120_1 placeAt_120_1 fo_120_2 placeAt_120_2 fo_120_3 placeAt_120_3 fo_120_4 placeAt_120_4 fo_120_5 placeAt_120_5 fo_120_6 placeAt_120_6 fo_120_7 placeAt_120_7 fo_120_8 placeAt_120_8 fo_120_9 placeAt_120_9 fo_120_10 placeAt_120_10 tk_121 zc_121 partsOk_121 fo_121_0 placeAt_121_0 fo_121_1 placeAt_121_1 fo_121_2 placeAt_121_2 fo_121_3 placeAt_121_3 fo_121_4 placeAt_121_4 fo_121_5 placeAt_121_5 fo_121_6 placeAt_121_6 fo_121_7 placeAt_121_7 fo_121_8 placeAt_121_8 fo_121_9 placeAt_121_9 fo_121_10 placeAt_121_10 tk_122 zc_122 mixed eqN_7 eqN_8
end Go.AX.Ty

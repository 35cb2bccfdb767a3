/- AX, part F: new variables, built values, fields, elements, plain operations. -/
import Derived.Test.YtnmgmlmiijljmaaAxE
import Derived.Great.BuildSlice
set_option linter.unusedVariables false
namespace Go.AX

section
variable {P : Program} {o : Oper} {a : Act} {c : Cf} {σ : List AObj} {env : List AV}

/-! ### alloc, box -/
def zc (P : Program) (t : TypeId) : Option (List AV) :=
  match P.info? t with
  | some i => i.zero.map fun z => z.cells.toList.map cv1
  | none => none
def evNew (σ : List AObj) : Option (List AV) → R1
  | some cs => .to (.ptr σ.length 0) (σ ++ [.cells cs])
  | none => .bad
theorem new_cells (H : Holds c σ) {cs : List AV} {vs : Array Value} (ty : TypeId) (h : ARs c cs vs.toList) :
    ∃ c', c'.w = c.w.alloc (.cells vs ty) ∧ c'.ν σ.length = c.w.heap.size ∧ c'.n = σ.length + 1 ∧ Nxt c σ c' (σ ++ [.cells cs]) := by
  refine ⟨c.put (c.w.alloc (.cells vs ty)) c.w.heap.size undef, rfl, by simp [Cf.put, H.n], by simp [Cf.put, H.n], Nxt.new H _ _ _ ?_⟩
  refine ⟨vs, ty, ?_, ARs.mono (c.le_put _ _ _) _ h⟩
  show (c.w.alloc (.cells vs ty)).heap[(c.put (c.w.alloc (.cells vs ty)) c.w.heap.size undef).ν c.n]? = _
  have : (c.put (c.w.alloc (.cells vs ty)) c.w.heap.size undef).ν c.n = c.w.heap.size := by simp [Cf.put]
  rw [this]
  show (c.w.heap.push _)[c.w.heap.size]? = _
  simp
theorem evBox_ok (H : Holds c σ) (he : ARs c env a.tmps.toList) {t : TypeId} {x : Operand} (ho : o.op = .box t x) : (evNew σ (cellsOf (evO env x))).Ok P o a c σ := by
  have hx := evO_sound he x
  cases hc : cellsOf (evO env x) with
  | none => trivial
  | some cs =>
    obtain ⟨c', h1, h2, h3, h4⟩ := new_cells H t (cellsOf_sound hc hx)
    refine ⟨.value (.pointer (some ⟨c.w.heap.size, 0, none⟩)), _, c', ?_, .inl rfl, ?_, h4⟩
    rotate_left
    · simp only [AR]; exact ⟨by rw [h3]; omega, by rw [h2]⟩
    · rw [h1]; simp [execOp, ho, Instr.box, newVar, newRow]
theorem evAlloc_ok (H : Holds c σ) (he : ARs c env a.tmps.toList) {t : TypeId} (ho : o.op = .alloc t) : (evNew σ (zc P t)).Ok P o a c σ := by
  cases hi : P.info? t with
  | none => simp [zc, hi, evNew, R1.Ok]
  | some i =>
    cases hz : i.zero with
    | none => simp [zc, hi, hz, evNew, R1.Ok]
    | some z =>
      have e : zc P t = some (z.cells.toList.map cv1) := by simp [zc, hi, hz]
      rw [e]
      obtain ⟨c', h1, h2, h3, h4⟩ := new_cells H t (ARs_map_cv1 c z.cells.toList)
      refine ⟨.value (.pointer (some ⟨c.w.heap.size, 0, none⟩)), _, c', ?_, .inl rfl, ?_, h4⟩
      rotate_left
      · simp only [AR]; exact ⟨by rw [h3]; omega, by rw [h2]⟩
      · rw [h1]; simp [execOp, ho, Instr.alloc, zeroValue, typeInfo, hi, hz, newVar, newRow]

/-! ### build -/
def placeAt (P : Program) (t : TypeId) (i : Nat) : Option (Nat × Nat) :=
  match P.underlying t with
  | some (.struct fs) => match fs.toList[i]? with
    | some f => match P.info? f.type with
      | some k => some (f.offset, k.size)
      | none => none
    | none => none
  | some (.array _ e) => match P.info? e with
    | some k => some (i * k.size, k.size)
    | none => none
  | _ => none
/-- all parts of the type are known -/
def partsOk (P : Program) (t : TypeId) : Bool :=
  match P.underlying t with
  | some (.struct fs) => fs.toList.all fun f => (P.info? f.type).isSome
  | some (.array _ e) => (P.info? e).isSome
  | _ => false
def evFill (P : Program) (t : TypeId) : List AV → List (Nat × AV) → Option (List AV)
  | cs, [] => some cs
  | cs, (i, x) :: r => match placeAt P t i with
    | some (off, n) => match cellsOf x with
      | some vs => if vs.length = n ∧ off + n ≤ cs.length then evFill P t (spl cs off vs) r else none
      | none => none
    | none => none
def evParts (env : List AV) : List (Nat × Operand) → List (Nat × AV)
  | [] => []
  | (i, x) :: r => (i, evO env x) :: evParts env r
def evBuild (P : Program) (σ : List AObj) (t : TypeId) (ps : List (Nat × AV)) : R1 :=
  match partsOk P t with
  | true => match zc P t with
    | some cs => match evFill P t cs ps with
      | some vs => .to (.agg vs) σ
      | none => .bad
    | none => .bad
  | false => .bad

theorem fold_set {α : Type} : ∀ (vs : List α) (k : Nat) (cs : Array α) (off : Nat), off + k + vs.length ≤ cs.size →
    ((vs.zipIdx k).foldl (fun cs (c, j) => cs.setIfInBounds (off + j) c) cs).toList = spl cs.toList (off + k) vs
  | [], k, cs, off, _ => by
    have := spl_eq cs.toList (off + k) [] (by simp at *; omega)
    rw [this]; simp
  | v :: vs, k, cs, off, h => by
    simp only [List.zipIdx_cons, List.foldl_cons]
    rw [fold_set vs (k + 1) _ off (by simp at h ⊢; omega)]
    have h1 : off + k < cs.size := by simp at h; omega
    apply List.ext_getElem?
    intro q
    rw [spl_get _ _ _ _ (by simp at h ⊢; omega), spl_get _ _ _ _ (by simp at h ⊢; omega)]
    simp only [Array.toList_setIfInBounds, List.getElem?_set, List.length_cons]
    by_cases q1 : q = off + k
    · subst q1; simp [h1, show ¬ (off + (k + 1) ≤ off + k) by omega]
    · by_cases q2 : off + (k + 1) ≤ q ∧ q < off + (k + 1) + vs.length
      · rw [if_pos q2, if_pos (by omega), show q - (off + k) = (q - (off + (k + 1))) + 1 by omega]; simp
      · rw [if_neg q2, if_neg (by omega), if_neg (by omega)]
theorem fill_ok {P : Program} {t : TypeId} {place : Nat → Option (Nat × Nat)} (hp : ∀ i off n, placeAt P t i = some (off, n) → place i = some (off, n)) : ∀ {ps : List (Nat × AV)} {us : List (Nat × Value)} {cs : List AV} {vs : Array Value} {rs : List AV},
    ARs c cs vs.toList → ps.map (·.1) = us.map (·.1) → ARs c (ps.map (·.2)) (us.map (·.2)) → evFill P t cs ps = some rs → ∃ r, Instr.fill place vs us = some r ∧ ARs c rs r.toList
  | [], [], cs, vs, rs, h, _, _, e => by simp [evFill] at e; subst e; exact ⟨vs, rfl, h⟩
  | [], _ :: _, _, _, _, _, e, _, _ => by simp at e
  | _ :: _, [], _, _, _, _, e, _, _ => by simp at e
  | (i, x) :: ps, (j, v) :: us, cs, vs, rs, h, e1, e2, e => by
    simp at e1
    obtain ⟨rfl, e1⟩ := e1
    simp only [List.map_cons, ARs_cons] at e2
    simp only [evFill] at e
    split at e
    · next off n hpl =>
      split at e
      · next xs hc =>
        split at e
        · next hh =>
          have hcs := cellsOf_sound hc e2.1
          have hl := ARs_length hcs
          have hl2 := ARs_length h
          have hsz : v.cells.size = n := by simp at hl; omega
          have hoff : off + v.cells.size ≤ vs.size := by simp at hl2; omega
          have h3 := ARs_spl off h hcs (by simp at hl2 ⊢; omega)
          have hf := fold_set v.cells.toList 0 vs off (by simp; omega)
          simp only [Nat.add_zero] at hf
          rw [← hf] at h3
          obtain ⟨r, g1, g2⟩ := fill_ok hp h3 e1 e2.2 e
          refine ⟨r, ?_, g2⟩
          simp only [Instr.fill, hp _ _ _ hpl, hsz]
          have hc1 : (n != n || decide (off + n > vs.size)) = false := by simp; omega
          simp only [ne_eq, not_true_eq_false, decide_false, Bool.false_or, decide_eq_true_eq]
          rw [if_neg (by omega)]
          rw [← g1]
          congr 1
          rw [← Array.foldl_toList]
          simp [Array.toList_zipIdx]
        · simp at e
      · simp at e
    · simp at e
theorem evParts_fst (env : List AV) : ∀ ps : List (Nat × Operand), (evParts env ps).map (·.1) = ps.map (·.1)
  | [] => rfl
  | (i, x) :: r => by simp [evParts, evParts_fst env r]
theorem evParts_snd {c : Cf} {env : List AV} {a : Act} (h : ARs c env a.tmps.toList) : ∀ ps : List (Nat × Operand), ARs c ((evParts env ps).map (·.2)) (ps.map fun x => a.eval x.2)
  | [] => by simp [evParts, ARs]
  | (i, x) :: r => by simp only [evParts, List.map_cons, ARs_cons]; exact ⟨evO_sound h x, evParts_snd h r⟩
theorem mapM_info {P : Program} : ∀ (fs : List Field), (fs.all fun f => (P.info? f.type).isSome) = true → ∃ ps, fs.mapM (fun f => (P.info? f.type).map fun i => (f.offset, i.size)) = some ps ∧
    ∀ (i : Nat) (f : Field) (k : TypeInfo), fs[i]? = some f → P.info? f.type = some k → ps[i]? = some (f.offset, k.size)
  | [], _ => ⟨[], by simp, by simp⟩
  | f :: fs, h => by
    simp only [List.all_cons, Bool.and_eq_true] at h
    obtain ⟨ps, h1, h2⟩ := mapM_info fs h.2
    obtain ⟨k, hk⟩ := Option.isSome_iff_exists.1 h.1
    refine ⟨(f.offset, k.size) :: ps, by simp [List.mapM_cons, hk, h1], fun i g k' hi hk' => ?_⟩
    cases i with
    | zero => simp at hi; subst hi; rw [hk] at hk'; cases hk'; simp
    | succ i => simp at hi ⊢; exact h2 i g k' hi hk'
theorem evBuild_ok (H : Holds c σ) (he : ARs c env a.tmps.toList) {t : TypeId} {ps : Array (Nat × Operand)} (ho : o.op = .build t ps) : (evBuild P σ t (evParts env ps.toList)).Ok P o a c σ := by
  unfold evBuild
  cases hpo : partsOk P t with
  | false => trivial
  | true =>
    cases hi : P.info? t with
    | none => simp [zc, hi, R1.Ok]
    | some it =>
      cases hz : it.zero with
      | none => simp [zc, hi, hz, R1.Ok]
      | some z =>
        have e : zc P t = some (z.cells.toList.map cv1) := by simp [zc, hi, hz]
        simp only [e]
        cases hf : evFill P t (z.cells.toList.map cv1) (evParts env ps.toList) with
        | none => trivial
        | some vs =>
          have hargs : (ps.map fun (i, x) => (i, a.eval x)).toList.map (·.2) = ps.toList.map fun x => a.eval x.2 := by simp
          have hargs1 : (ps.map fun (i, x) => (i, a.eval x)).toList.map (·.1) = ps.toList.map (·.1) := by simp
          have hb : ∃ r, P.built t (ps.map fun (i, x) => (i, a.eval x)).toList = some r ∧ ARs c vs r.toList := by
            unfold partsOk at hpo
            split at hpo
            · next fs hu =>
              obtain ⟨pl, q1, q2⟩ := mapM_info _ hpo
              have hp : ∀ i off n, placeAt P t i = some (off, n) → (fun x => pl.toArray[x]?) i = some (off, n) := fun i off n h => by
                simp only [placeAt, hu] at h
                split at h
                · next f hf =>
                  split at h
                  · next k hk => simp at h; have := q2 i f k hf hk; simpa [h] using this
                  · simp at h
                · simp at h
              obtain ⟨r, g1, g2⟩ := fill_ok hp (ARs_map_cv1 c z.cells.toList) (by rw [evParts_fst, hargs1]) (by rw [hargs]; exact evParts_snd he _) hf
              exact ⟨r, by simp only [Program.built, hi, hu, hz, q1]; exact g1, g2⟩
            · next n e' hu =>
              obtain ⟨k, hk⟩ := Option.isSome_iff_exists.1 hpo
              have hp : ∀ i off n, placeAt P t i = some (off, n) → (fun i => some (i * k.size, k.size)) i = some (off, n) := fun i off n h => by
                simp only [placeAt, hu, hk] at h; exact h
              obtain ⟨r, g1, g2⟩ := fill_ok hp (ARs_map_cv1 c z.cells.toList) (by rw [evParts_fst, hargs1]) (by rw [hargs]; exact evParts_snd he _) hf
              exact ⟨r, by simp only [Program.built, hi, hu, hz, hk]; exact g1, g2⟩
            · simp at hpo
          obtain ⟨r, h1, h2⟩ := hb
          refine R1.Ok_to H (x := .agg r) ?_ (by simp only [AR]; exact ⟨r, rfl, h2⟩)
          have := run_build c.w t _ r h1
          simp [execOp, ho, this]

/-! ### fields -/
def fo (P : Program) (s : TypeId) (f : Nat) : Option (Nat × Bool × Nat) :=
  match P.underlying s with
  | some (.struct fs) => match fs[f]? with
    | some fl => match tk P fl.type with
      | some (b, n) => some (fl.offset, b, n)
      | none => none
    | none => none
  | _ => none
theorem fo_spec {s : TypeId} {f off n : Nat} {b : Bool} (h : fo P s f = some (off, b, n)) : ∃ fs fl, P.underlying s = some (.struct fs) ∧ fs[f]? = some fl ∧ fl.offset = off ∧ tk P fl.type = some (b, n) := by
  unfold fo at h
  split at h
  · next fs hu =>
    split at h
    · next fl hf =>
      split at h
      · next b' n' ht => simp at h; obtain ⟨rfl, rfl, rfl⟩ := h; exact ⟨fs, fl, hu, hf, rfl, ht⟩
      · simp at h
    · simp at h
  · simp at h
def shiftA (σ : List AObj) (k : Nat) : AV → R1
  | .ptr l off => .to (.ptr l (off + k)) σ
  | .rptr l sz i j => .to (.rptr l sz i (j + k)) σ
  | .eptr cs => .to (.eptr (drD cs k)) σ
  | _ => .bad
def evFieldAddr (P : Program) (σ : List AObj) (s f : Nat) (x : AV) : R1 :=
  match fo P s f with
  | some (off, _, _ + 1) => shiftA σ off x
  | _ => .bad
theorem shiftA_ok (H : Holds c σ) {k : Nat} {y : AV} {v : Value} (hy : AR c y v) (hr : ∀ ad : Addr, v = .pointer (some ad) → ad.spot = none → (execOp a.eval o).run P c.w = .ok (.value (.pointer (some (ad.add k)))) c.w) :
    (shiftA σ k y).Ok P o a c σ := by
  cases y <;> simp only [shiftA] <;> try trivial
  case ptr l off => simp only [AR] at hy; obtain ⟨h1, rfl⟩ := hy; exact R1.Ok_to H (hr _ rfl rfl) (by simp [AR, h1, addr_add])
  case rptr l sz i j => simp only [AR] at hy; obtain ⟨h1, rfl⟩ := hy; exact R1.Ok_to H (hr _ rfl rfl) (by simp [AR, h1, addr_add, Nat.add_assoc])
  case eptr cs =>
    simp only [AR] at hy
    obtain ⟨ad, rfl, hs, h2⟩ := hy
    exact R1.Ok_to H (hr _ rfl hs) (by
      simp only [AR]
      exact ⟨_, rfl, by rw [addr_add' hs], DCells_shift hs k (by rw [drD_eq]; exact DCells_drop k h2)⟩)
end
end Go.AX

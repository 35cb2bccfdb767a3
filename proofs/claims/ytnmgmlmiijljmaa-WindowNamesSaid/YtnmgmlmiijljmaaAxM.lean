/- AX, part M: slice literals, conversions, ranges over strings, calls. -/
import Derived.Test.YtnmgmlmiijljmaaAxL
set_option linter.unusedVariables false
set_option linter.unusedSimpArgs false
namespace Go.AX
section
variable {P : Program} {o : Oper} {a : Act} {c : Cf} {σ : List AObj} {env : List AV}

/-! ### slice literals -/
def evLits (σ : List AObj) (sz : Nat) : Nat → List (Nat × AV) → Option (List (List D) × List AObj)
  | _, [] => some ([], σ)
  | k, (i, x) :: r => if i = k then
      match cellsOf x with
      | some vs => match asDs σ vs with
        | some (ds, σ1) => if ds.length = sz then
            match evLits σ1 sz (k + 1) r with
            | some (es, σ2) => some (ds :: es, σ2)
            | none => none
          else none
        | none => none
      | none => none
    else none
def evLit2 (len sz : Nat) : Option (List (List D) × List AObj) → R1
  | some (es, σ') => .need (es.length = len ∧ len * sz ≤ 16777216) (.to (.own σ'.length) (σ' ++ [.row sz es]))
  | none => .bad
def evBuildSlice (P : Program) (σ : List AObj) (t : TypeId) (len : Nat) (ps : List (Nat × AV)) : R1 :=
  match ei P t with
  | some (sz, _) => evLit2 len sz (evLits σ sz 0 ps)
  | none => .bad
theorem evLits_sound {sz : Nat} : ∀ {ps : List (Nat × AV)} {us : List (Nat × Value)} {c : Cf} {σ σ' : List AObj} {k : Nat} {es : List (List D)}, Holds c σ → ps.map (·.1) = us.map (·.1) → ARs c (ps.map (·.2)) (us.map (·.2)) → evLits σ sz k ps = some (es, σ') →
    ∃ c', c'.w = c.w ∧ Nxt c σ c' σ' ∧ DRs c'.h es.flatten (us.flatMap fun x => x.2.cells.toList) ∧ (∀ e ∈ es, e.length = sz) ∧ es.length = us.length ∧ (∀ x ∈ us, x.2.cells.size = sz) ∧ us.map (·.1) = List.range' k us.length
  | [], [], c, σ, σ', k, es, H, _, _, h => by
    simp [evLits] at h; obtain ⟨rfl, rfl⟩ := h
    exact ⟨c, rfl, .refl H, by simp [DRs], by simp, rfl, by simp, by simp⟩
  | [], _ :: _, _, _, _, _, _, _, e, _, _ => by simp at e
  | _ :: _, [], _, _, _, _, _, _, e, _, _ => by simp at e
  | (i, x) :: ps, (j, v) :: us, c, σ, σ', k, es, H, e1, e2, h => by
    simp at e1
    obtain ⟨rfl, e1⟩ := e1
    simp only [List.map_cons, ARs_cons] at e2
    simp only [evLits] at h
    split at h
    · next hik =>
      subst hik
      split at h
      · next vs hc =>
        split at h
        · next ds σ1 hd =>
          split at h
          · next hl =>
            split at h
            · next es' σ2 hr =>
              simp at h; obtain ⟨rfl, rfl⟩ := h
              obtain ⟨c1, w1, n1, d1⟩ := asDs_sound H (cellsOf_sound hc e2.1) hd
              obtain ⟨c2, w2, n2, d2, g1, g2, g3, g4⟩ := evLits_sound n1.hold e1 (ARs.mono n1.le _ e2.2) hr
              have hsz : v.cells.size = sz := by have := DRs_length d1; simp at this; omega
              refine ⟨c2, w2.trans w1, n1.trans n2, ?_, ?_, by simp [g2], ?_, ?_⟩
              · simp only [List.flatten_cons, List.flatMap_cons]; exact DRs_append (DRs.mono n2.le.h d1) d2
              · intro e he; rcases List.mem_cons.1 he with rfl | q; exact hl; exact g1 e q
              · intro y hy; rcases List.mem_cons.1 hy with rfl | q; exact hsz; exact g3 y q
              · simp [List.range'_succ, g4]
            · simp at h
          · simp at h
        · simp at h
      · simp at h
    · simp at h
theorem fill_seq {sz : Nat} : ∀ (us : List (Nat × Value)) (k : Nat) (cs : Array Value), us.map (·.1) = List.range' k us.length → (∀ x ∈ us, x.2.cells.size = sz) → (k + us.length) * sz ≤ cs.size →
    ∃ r, Instr.fill (fun i => some (i * sz, sz)) cs us = some r ∧ r.toList = cs.toList.take (k * sz) ++ (us.flatMap fun x => x.2.cells.toList) ++ cs.toList.drop ((k + us.length) * sz)
  | [], k, cs, _, _, _ => ⟨cs, rfl, by simp⟩
  | (i, v) :: us, k, cs, h1, h2, h3 => by
    simp [List.range'_succ] at h1
    obtain ⟨rfl, h1⟩ := h1
    have hv := h2 (i, v) (by simp)
    simp only at hv
    have hmul : (i + 1) * sz = i * sz + sz := by rw [Nat.add_mul]; omega
    have hmul2 : (i + 1 + us.length) * sz ≤ cs.size := by rw [show i + 1 + us.length = i + ((i, v) :: us).length by simp; omega]; exact h3
    have hle : (i + 1) * sz ≤ cs.size := Nat.le_trans (Nat.mul_le_mul_right _ (by omega)) hmul2
    have hf := fold_set v.cells.toList 0 cs (i * sz) (by simp; omega)
    simp only [Nat.add_zero] at hf
    generalize hcs' : (v.cells.toList.zipIdx 0).foldl (fun cs (x : Value × Nat) => cs.setIfInBounds (i * sz + x.2) x.1) cs = cs' at hf
    have hsz' : cs'.size = cs.size := by
      have := congrArg List.length hf
      rw [spl_length _ _ _ (by simp; omega)] at this
      simpa using this
    obtain ⟨r, q1, q2⟩ := fill_seq us (i + 1) cs' h1 (fun x hx => h2 x (by simp [hx])) (by rw [hsz']; exact hmul2)
    refine ⟨r, ?_, ?_⟩
    · simp only [Instr.fill, hv]
      have : ¬ (sz ≠ sz ∨ i * sz + sz > cs.size) := by omega
      simp only [ne_eq, not_true_eq_false, decide_false, Bool.false_or, decide_eq_true_eq]
      rw [if_neg (by omega), ← q1, ← hcs']
      congr 1
      rw [← Array.foldl_toList]
      simp [Array.toList_zipIdx]
    · rw [q2, hf]
      have hcl : v.cells.toList.length = sz := by simpa using hv
      rw [spl_eq _ _ _ (by rw [hcl]; simp; omega), hcl]
      have e1 : (cs.toList.take (i * sz) ++ v.cells.toList ++ cs.toList.drop (i * sz + sz)).take ((i + 1) * sz) = cs.toList.take (i * sz) ++ v.cells.toList := by
        rw [take_left']; simp [hcl, hmul]; omega
      have e2 : (cs.toList.take (i * sz) ++ v.cells.toList ++ cs.toList.drop (i * sz + sz)).drop ((i + 1 + us.length) * sz) = cs.toList.drop ((i + ((i, v) :: us).length) * sz) := by
        rw [List.drop_append]
        have hl : (cs.toList.take (i * sz) ++ v.cells.toList).length = (i + 1) * sz := by simp [hcl, hmul]; omega
        have hge : (i + 1) * sz ≤ (i + 1 + us.length) * sz := Nat.mul_le_mul_right _ (by omega)
        rw [List.drop_eq_nil_of_le (by rw [hl]; exact hge), hl, List.drop_drop, List.nil_append]
        congr 1
        rw [show i + ((i, v) :: us).length = i + 1 + us.length by simp; omega]
        omega
      rw [e1, e2]
      simp
theorem evBuildSlice_ok (H : Holds c σ) (he : ARs c env a.tmps.toList) {t : TypeId} {len : Nat} {ps : Array (Nat × Operand)} (ho : o.op = .buildSlice t len ps) : (evBuildSlice P σ t len (evParts env ps.toList)).Ok P o a c σ := by
  unfold evBuildSlice
  cases hei : ei P t with
  | none => trivial
  | some q =>
    obtain ⟨sz, by'⟩ := q
    simp only []
    cases hl : evLits σ sz 0 (evParts env ps.toList) with
    | none => trivial
    | some r =>
      obtain ⟨es, σ'⟩ := r
      rintro ⟨h1, h2⟩
      obtain ⟨e, i, z, hu, hi, hz, g1, g2, g3, g4⟩ := ei_spec hei
      have hargs : (ps.map fun (i, x) => (i, a.eval x)).toList.map (·.2) = ps.toList.map fun x => a.eval x.2 := by simp
      have hargs1 : (ps.map fun (i, x) => (i, a.eval x)).toList.map (·.1) = ps.toList.map (·.1) := by simp
      obtain ⟨c1, w1, N1, d1, k1, k2, k3, k4⟩ := evLits_sound (us := (ps.map fun (i, x) => (i, a.eval x)).toList) H (by rw [evParts_fst, hargs1]) (by rw [hargs]; exact evParts_snd he _) hl
      have hlen : (ps.map fun (i, x) => (i, a.eval x)).toList.length = len := by omega
      by_cases h0 : len = 0
      · subst h0
        have hes : es = [] := List.eq_nil_of_length_eq_zero h1
        subst hes
        have hps : (ps.map fun (i, x) => (i, a.eval x)) = #[] := by
          apply Array.ext'; exact List.eq_nil_of_length_eq_zero hlen
        have hrun : (Instr.buildSlice t 0 (ps.map fun (i, x) => (i, a.eval x))).run P c.w = .ok (.slice (some ⟨c.w.heap.size, 0, none⟩) 0 0) (c.w.alloc (.cells #[] e)) := by
          rw [hps]
          simp [Instr.buildSlice, run_underlying' hu, sizeOf, typeInfo, hi, Instr.fill, newRow, show Array.range 0 = #[] from rfl]
        have N := Nxt.new N1.hold (.cells #[] e) (.slice (some ⟨c1.w.heap.size, 0, none⟩) 0 0) (.row sz []) (.inl ⟨rfl, some ⟨c1.w.heap.size, 0, none⟩, by simp [Cf.put]⟩)
        refine ⟨.value (.slice (some ⟨c.w.heap.size, 0, none⟩) 0 0), _, _, ?_, .inl rfl, ?_, N1.trans N⟩
        rotate_left
        · simp only [AR]; exact ⟨by simp [Cf.put, N1.hold.n], by simp [Cf.put, N1.hold.n, w1], _, _, _, rfl⟩
        · simp [execOp, ho, hrun, Cf.put, w1]
      · obtain ⟨r, q1, q2⟩ := fill_seq (sz := sz) _ 0 ((Array.range (len * sz)).map (z.cells[· % z.cells.size]!)) k4 k3 (by simp; rw [show ps.size = len by simpa using hlen]; omega)
        have hpos : ¬ len * i.size = 0 := by rw [g2]; intro q; rcases Nat.mul_eq_zero.1 q with q | q <;> omega
        have hrun := run_buildSlice c.w t e len _ r i z hu hi hz (by rw [g2]; omega) hpos (by rw [g2]; exact q1)
        have hrl : r.toList = (ps.map fun (i, x) => (i, a.eval x)).toList.flatMap fun x => x.2.cells.toList := by
          rw [q2, hlen]
          simp
        have hrs : r.size = len * sz := by
          have := congrArg List.length hrl
          have e2 := DRs_length d1
          rw [flatten_len k1, h1] at e2
          simp at this
          simp at e2
          omega
        obtain ⟨c', w2, a2, N2⟩ := Nxt.newRow N1.hold (sz := sz) (es := es) (vs := r) (ty := e) (cap := len) (by omega) (by omega) hrs k1 (by
          rw [h1, ← hrs]
          rw [List.take_of_length_le (by simp), hrl]
          exact d1)
        rw [h1] at a2
        refine ⟨_, _, c', ?_, .inl rfl, a2, N1.trans N2⟩
        rw [w2, w1]
        simp [execOp, ho, hrun]

/-! ### calls -/
def evCall (env : List AV) (args : List Operand) : AV → R1
  | .fn g caps => .call g (evAll env args ++ caps)
  | _ => .bad
theorem evCall_ok (H : Holds c σ) (he : ARs c env a.tmps.toList) {f : Operand} {args : Array Operand} {ts : Array TypeId} (ho : o.op = .call { callee := .value f, args := args, argTypes := ts }) :
    (evCall env args.toList (evO env f)).Ok P o a c σ := by
  have hf := evO_sound he f
  generalize evO env f = y at hf
  cases y <;> simp only [evCall] <;> try trivial
  case fn g caps =>
    simp only [AR] at hf
    obtain ⟨vs, e, hr⟩ := hf
    refine ⟨args.map a.eval ++ vs, ?_, ?_⟩
    · simp [execOp, ho, resolve, e, Deferred.ofValue, invoke]
    · rw [Array.toList_append, Array.toList_map]
      exact ARs_append (evAll_sound he args.toList) hr

/-! ### ranges over strings -/
def evRange (P : Program) (σ : List AObj) (t : TypeId) : AV → R1
  | .d (.str s) => match P.underlying t with
    | some .string => .to (.ptr σ.length 0) (σ ++ [.iter s 0])
    | _ => .bad
  | _ => .bad
def evNext2 (σ : List AObj) (l : Nat) : AObj → R1
  | .iter s pos => .ite (decide (pos < s.size)) (.to (.tup [.d (.bool true), .d (.int .i64 pos), .d (.int .i32 (Utf8.decode s pos).1)]) (so σ l (.iter s (pos + (Utf8.decode s pos).2)))) (.to (.tup [.d (.bool false)]) σ)
  | _ => .bad
def evNext (σ : List AObj) (b : Bool) : AV → R1
  | .ptr l 0 => match b with
    | true => evNext2 σ l (ob σ l)
    | false => .bad
  | _ => .bad
theorem evRange_ok (H : Holds c σ) (he : ARs c env a.tmps.toList) {t : TypeId} {x : Operand} (ho : o.op = .range t x) : (evRange P σ t (evO env x)).Ok P o a c σ := by
  have hx := evO_sound he x
  generalize evO env x = y at hx
  cases y <;> try trivial
  case d y =>
    cases y <;> try trivial
    case str s =>
      simp only [evRange]
      split
      · next hu =>
        simp only [AR, DR] at hx
        have N := Nxt.new H (.stringIter s 0) undef (.iter s 0) (by
          show (c.w.alloc (.stringIter s 0)).heap[(c.put (c.w.alloc (.stringIter s 0)) c.w.heap.size undef).ν c.n]? = _
          have : (c.put (c.w.alloc (.stringIter s 0)) c.w.heap.size undef).ν c.n = c.w.heap.size := by simp [Cf.put]
          rw [this]
          show (c.w.heap.push _)[c.w.heap.size]? = _
          simp)
        refine ⟨.value (.pointer (some ⟨c.w.heap.size, 0, none⟩)), _, _, ?_, .inl rfl, ?_, N⟩
        · simp [execOp, ho, hx, Instr.range, run_underlying' hu, Cf.put]
        · simp only [AR]; exact ⟨by simp [Cf.put, H.n], by simp [Cf.put, H.n]⟩
      · trivial
theorem evNext_ok (H : Holds c σ) (he : ARs c env a.tmps.toList) {b : Bool} {x : Operand} (ho : o.op = .next x b) : (evNext σ b (evO env x)).Ok P o a c σ := by
  have hx := evO_sound he x
  generalize evO env x = y at hx
  cases y <;> try trivial
  case ptr l off =>
    cases off with
    | succ n => trivial
    | zero =>
      cases b with
      | false => trivial
      | true =>
        simp only [evNext]
        generalize hO : ob σ l = O
        cases O <;> try trivial
        case iter s pos =>
          simp only [AR] at hx
          have hl := ob_some hO (by simp)
          have hob : c.w.heap[c.ν l]? = some (.stringIter s pos) := H.obj l _ hl
          refine ⟨fun hp => ?_, fun hp => ?_⟩
          · have hp' : pos < s.size := of_decide_eq_true hp
            have hlt : c.ν l < c.w.heap.size := (Array.getElem?_eq_some_iff.1 hob).1
            have N := Nxt.upd H hl (by trivial) { c.w with heap := c.w.heap.setIfInBounds (c.ν l) (.stringIter s (pos + (Utf8.decode s pos).2)) } (fun b hb => by simp [Array.getElem?_setIfInBounds, Ne.symm hb]) (by simp) rfl rfl rfl (o' := .iter s (pos + (Utf8.decode s pos).2)) (by
              show (c.w.heap.setIfInBounds (c.ν l) _)[c.ν l]? = _
              simp [hlt])
            refine ⟨.value (.tuple #[.bool true, .int .i64 pos, .int .i32 (Utf8.decode s pos).1]), _, _, ?_, .inl rfl, ?_, by rw [so_eq]; exact N⟩
            · simp [execOp, ho, hx.2, Instr.next, getObj, setObj, Sem.run, hob, hp', goInt, Cf.at]
            · simp [AR, ARs, DR]
          · have hp' : ¬ pos < s.size := of_decide_eq_false hp
            refine R1.Ok_to H (x := .tuple #[.bool false]) ?_ (by simp [AR, ARs, DR])
            simp [execOp, ho, hx.2, Instr.next, getObj, Sem.run, hob, hp']
end
end Go.AX

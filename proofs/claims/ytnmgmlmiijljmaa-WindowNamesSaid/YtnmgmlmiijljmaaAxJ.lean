/- AX, part J: builtins, make, slice literals, cuts, conversions. -/
import Derived.Test.YtnmgmlmiijljmaaAxI
set_option linter.unusedVariables false
namespace Go.AX
section
variable {P : Program} {o : Oper} {a : Act} {c : Cf} {σ : List AObj} {env : List AV}

theorem exec_builtin {b : Builtin} {args : Array Operand} {ts : Array TypeId} (ho : o.op = .call { callee := .builtin b, args := args, argTypes := ts }) :
    execOp a.eval o = Go.builtin b ts o.type (args.map fun | .const _ => true | _ => false) (args.map a.eval) := by
  simp [execOp, ho, resolve, invoke]
  rfl

theorem evAppend_ok (H : Holds c σ) (he : ARs c env a.tmps.toList) {args : Array Operand} {ts : Array TypeId} (ho : o.op = .call { callee := .builtin .append, args := args, argTypes := ts }) :
    (evAppend P σ ts.toList (evAll env args.toList)).Ok P o a c σ := by
  have hargs := evAll_sound he args.toList
  unfold evAppend
  split
  · next t t' s x e1 e2 =>
    rw [e2] at hargs
    obtain ⟨vs, r1, q1, hs, hr1⟩ := ARs_cons_left hargs
    obtain ⟨vx, r2, rfl, hx, hr2⟩ := ARs_cons_left hr1
    have := ARs_nil_left hr2
    subst this
    have hts : ts = #[t, t'] := by rw [← Array.toArray_toList (xs := ts), e1]
    have hvs : args.map a.eval = #[vs, vx] := by
      apply Array.ext'; rw [Array.toList_map]; exact q1
    unfold evAppend1
    split
    · next es2 h2 =>
      split
      · next sz by' hei hst =>
        have key : ∀ es, ((s = .nil ∧ es = []) ∨ ∃ l, s = .own l ∧ ob σ l = .row sz es) → (∀ e ∈ es2, e.length = sz) → (es.length + es2.length) * by' ≤ 140737488355328 → es.length + es2.length ≤ 9223372036854775807 →
            (R1.to (.own σ.length) (dropL σ s ++ [.row sz (es ++ es2)])).Ok P o a c σ := fun es hc h1 h3 h4 => by
          obtain ⟨v, c', hrun, ha, hN⟩ := append_rel (ty := o.type) H hei hst hs hx h2 h1 h3 h4 hc
          refine ⟨.value v, v, c', ?_, .inl rfl, ha, hN⟩
          rw [exec_builtin ho, hts, hvs]
          simp [Go.builtin, hrun]
        unfold evAppend2
        split
        · rintro ⟨h1, h3, h4⟩
          have := key [] (.inl ⟨rfl, rfl⟩) h1 (by simpa using h3) (by simpa using h4)
          simpa [dropL] using this
        · next l =>
          split
          · next sz' es hO =>
            rintro ⟨rfl, h1, h3, h4⟩
            have := key es (.inr ⟨l, rfl, hO⟩) h1 h3 h4
            simpa [dropL, so_eq] using this
          · trivial
        · trivial
      · trivial
    · trivial
  · trivial

/-! ### len, min, max -/
def evLen1 (σ : List AObj) : AV → R1
  | .d (.sl es) => .to (.d (.int .i64 es.length)) σ
  | .nil => .to (.d (.int .i64 0)) σ
  | .own l => match ob σ l with
    | .row _ es => .to (.d (.int .i64 es.length)) σ
    | _ => .bad
  | _ => .bad
def evLen2 (σ : List AObj) : AV → R1
  | .d (.str s) => .to (.d (.int .i64 s.size)) σ
  | _ => .bad
def evLen3 (σ : List AObj) : AV → R1
  | .mp l => match ob σ l with
    | .map _ _ es => .to (.d (.int .i64 es.length)) σ
    | _ => .bad
  | _ => .bad
def evLen (P : Program) (σ : List AObj) (ts : List TypeId) (xs : List AV) : R1 :=
  match ts, xs with
  | [t], [x] => match P.underlying t with
    | some (.slice _) => evLen1 σ x
    | some .string => evLen2 σ x
    | some (.map _ _) => evLen3 σ x
    | _ => .bad
  | _, _ => .bad
theorem Ents_length {ka va : Bool} : ∀ {es : List (List D × List D)} {ms : List MapEntry}, Ents c ka va es ms → es.length = ms.length
  | [], [], _ => rfl
  | (k, v) :: es, m :: ms, r => by simp only [Ents] at r; simp [Ents_length r.2.2]
  | [], _ :: _, r => by simp [Ents] at r
  | _ :: _, [], r => by simp [Ents] at r
theorem evLen_ok (H : Holds c σ) (he : ARs c env a.tmps.toList) {args : Array Operand} {ts : Array TypeId} (ho : o.op = .call { callee := .builtin .len, args := args, argTypes := ts }) :
    (evLen P σ ts.toList (evAll env args.toList)).Ok P o a c σ := by
  have hargs := evAll_sound he args.toList
  unfold evLen
  split
  · next t x e1 e2 =>
    rw [e2] at hargs
    obtain ⟨vx, r2, q1, hx, hr2⟩ := ARs_cons_left hargs
    have := ARs_nil_left hr2
    subst this
    have hts : ts = #[t] := by rw [← Array.toArray_toList (xs := ts), e1]
    have hvs : args.map a.eval = #[vx] := by apply Array.ext'; rw [Array.toList_map]; exact q1
    have fin : ∀ (n : Int), (Builtin.len_ #[t] o.type #[vx]).run P c.w = .ok (.int .i64 n) c.w → (R1.to (.d (.int .i64 n)) σ).Ok P o a c σ := fun n hrun => by
      refine R1.Ok_to H (x := .int .i64 n) ?_ (by simp [AR, DR])
      rw [exec_builtin ho, hts, hvs]
      simp [Go.builtin, hrun]
    split
    · next e hu =>
      have run : ∀ b n cap, vx = .slice b n cap → (Builtin.len_ #[t] o.type #[vx]).run P c.w = .ok (.int .i64 n) c.w := fun b n cap hv => by subst hv; simp [Builtin.len_, run_underlying hu, goInt]
      cases x <;> simp only [evLen1] <;> try trivial
      case d x =>
        cases x <;> simp only [evLen1] <;> try trivial
        case sl es => simp only [AR, DR] at hx; obtain ⟨A, cap, sz, hv, _⟩ := hx; exact fin _ (run _ _ _ hv)
      case own l =>
        generalize hO : ob σ l = O
        cases O <;> simp only [] <;> try trivial
        case row sz es =>
          simp only [AR] at hx
          obtain ⟨_, hv, _⟩ := hx
          rcases H.obj l _ (ob_some hO (by simp)) with ⟨rfl, A, e⟩ | ⟨cap, vs, ty, _, g1, _⟩
          · rw [e] at hv; exact fin _ (run _ _ _ hv)
          · rw [g1] at hv; exact fin _ (run _ _ _ hv)
      case nil => simp only [AR] at hx; obtain ⟨A, hv⟩ := hx; exact fin 0 (run _ _ _ hv)
    · next hu =>
      cases x <;> simp only [evLen2] <;> try trivial
      case d x =>
        cases x <;> simp only [evLen2] <;> try trivial
        case str s => simp only [AR, DR] at hx; subst hx; exact fin _ (by simp [Builtin.len_, run_underlying hu, goInt])
    · next k e hu =>
      cases x <;> simp only [evLen3] <;> try trivial
      case mp l =>
        generalize hO : ob σ l = O
        cases O <;> simp only [] <;> try trivial
        case map ka va es =>
          simp only [AR] at hx
          obtain ⟨_, rfl⟩ := hx
          obtain ⟨ms, ck, e1, e2⟩ := H.obj l _ (ob_some hO (by simp))
          have := Ents_length e2
          exact fin _ (by simp [Builtin.len_, run_underlying hu, goInt, getObj, Sem.run, e1, this])
    · trivial
  · trivial

def mnA : IntKind → Int → List AV → Option (IntKind × Int)
  | k, x, [] => some (k, x)
  | k, x, .d (.int _ y) :: r => mnA k (if y < x then y else x) r
  | _, _, _ => none
def mxA : IntKind → Int → List AV → Option (IntKind × Int)
  | k, x, [] => some (k, x)
  | k, x, .d (.int _ y) :: r => mxA k (if x < y then y else x) r
  | _, _, _ => none
def toI (σ : List AObj) : Option (IntKind × Int) → R1
  | some (k, x) => .to (.d (.int k x)) σ
  | none => .bad
def evMn (σ : List AObj) : List AV → R1
  | .d (.int k x) :: r => toI σ (mnA k x r)
  | _ => .bad
def evMx (σ : List AObj) : List AV → R1
  | .d (.int k x) :: r => toI σ (mxA k x r)
  | _ => .bad
theorem mnA_ok : ∀ {xs : List AV} {vs : List Value} {k k' : IntKind} {x y : Int}, ARs c xs vs → mnA k x xs = some (k', y) → ∀ w, (vs.foldlM Builtin.min2 (.int k x) : Sem Value).run P w = .ok (.int k' y) w
  | [], vs, k, k', x, y, r, h, w => by simp [mnA] at h; rw [ARs_nil_left r]; simp [h]
  | z :: xs, vs, k, k', x, y, r, h, w => by
    obtain ⟨v, q, rfl, h1, h2⟩ := ARs_cons_left r
    cases z <;> (try simp only [mnA] at h) <;> try (simp at h; done)
    case d z =>
      cases z <;> (try simp only [mnA] at h) <;> try (simp at h; done)
      case int k2 n =>
        simp only [AR, DR] at h1; subst h1
        have := mnA_ok h2 h w
        simp only [List.foldlM_cons, Sem.run_bind, Builtin.min2, Sem.run_pure, Result.andThen_ok]; exact this
theorem mxA_ok : ∀ {xs : List AV} {vs : List Value} {k k' : IntKind} {x y : Int}, ARs c xs vs → mxA k x xs = some (k', y) → ∀ w, (vs.foldlM Builtin.max2 (.int k x) : Sem Value).run P w = .ok (.int k' y) w
  | [], vs, k, k', x, y, r, h, w => by simp [mxA] at h; rw [ARs_nil_left r]; simp [h]
  | z :: xs, vs, k, k', x, y, r, h, w => by
    obtain ⟨v, q, rfl, h1, h2⟩ := ARs_cons_left r
    cases z <;> (try simp only [mxA] at h) <;> try (simp at h; done)
    case d z =>
      cases z <;> (try simp only [mxA] at h) <;> try (simp at h; done)
      case int k2 n =>
        simp only [AR, DR] at h1; subst h1
        have := mxA_ok h2 h w
        simp only [List.foldlM_cons, Sem.run_bind, Builtin.max2, Sem.run_pure, Result.andThen_ok]; exact this
theorem toI_ok {r : Option (IntKind × Int)} (h : ∀ k x, r = some (k, x) → (R1.to (.d (.int k x)) σ).Ok P o a c σ) : (toI σ r).Ok P o a c σ := by
  cases r with
  | none => trivial
  | some p => exact h p.1 p.2 rfl
theorem evMn_ok (H : Holds c σ) (he : ARs c env a.tmps.toList) {args : Array Operand} {ts : Array TypeId} (ho : o.op = .call { callee := .builtin .min, args := args, argTypes := ts }) :
    (evMn σ (evAll env args.toList)).Ok P o a c σ := by
  have hargs := evAll_sound he args.toList
  unfold evMn
  split
  · next k x r e =>
    rw [e] at hargs
    obtain ⟨v, q, q1, h1, h2⟩ := ARs_cons_left hargs
    simp only [AR, DR] at h1; subst h1
    refine toI_ok fun k' y hk => ?_
    refine R1.Ok_to H (x := .int k' y) ?_ (by simp [AR, DR])
    rw [exec_builtin ho]
    simp [Go.builtin, Builtin.min_, q1, mnA_ok h2 hk]
  · trivial
theorem evMx_ok (H : Holds c σ) (he : ARs c env a.tmps.toList) {args : Array Operand} {ts : Array TypeId} (ho : o.op = .call { callee := .builtin .max, args := args, argTypes := ts }) :
    (evMx σ (evAll env args.toList)).Ok P o a c σ := by
  have hargs := evAll_sound he args.toList
  unfold evMx
  split
  · next k x r e =>
    rw [e] at hargs
    obtain ⟨v, q, q1, h1, h2⟩ := ARs_cons_left hargs
    simp only [AR, DR] at h1; subst h1
    refine toI_ok fun k' y hk => ?_
    refine R1.Ok_to H (x := .int k' y) ?_ (by simp [AR, DR])
    rw [exec_builtin ho]
    simp [Go.builtin, Builtin.max_, q1, mxA_ok h2 hk]
  · trivial

/-! ### cuts -/
/-- a bound of a cut: absent, or a number -/
inductive Bd where
  | no | at (i : Int) | bad
def evBd (env : List AV) : Option Operand → Bd
  | none => .no
  | some x => match evIx (evO env x) with
    | some (_, i) => .at i
    | none => .bad
def bdLo : Bd → Int
  | .at i => i
  | _ => 0
def bdHi (n : Nat) : Bd → Int
  | .at i => i
  | _ => n
def evSliceS (σ : List AObj) (s : ByteArray) (lo hi : Bd) : R1 :=
  .need (0 ≤ bdLo lo ∧ bdLo lo ≤ bdHi s.size hi ∧ bdHi s.size hi ≤ s.size) (.to (.d (.str (s.extract (bdLo lo).toNat (bdHi s.size hi).toNat))) σ)
def evSliceD (σ : List AObj) (es : List (List D)) (lo hi : Bd) : R1 :=
  .need (0 ≤ bdLo lo ∧ bdLo lo ≤ bdHi es.length hi ∧ bdHi es.length hi ≤ es.length) (.to (.d (.sl ((es.take (bdHi es.length hi).toNat).drop (bdLo lo).toNat))) σ)
def evSlice1 (P : Program) (σ : List AObj) (t : TypeId) (lo hi mx : Bd) : AV → R1
  | .d (.str s) => match P.underlying t, mx with
    | some .string, .no => evSliceS σ s lo hi
    | _, _ => .bad
  | .d (.sl es) => match ei P t, mx with
    | some (sz, _), .no => .need (∀ e ∈ es, e.length = sz) (evSliceD σ es lo hi)
    | some _, .at m => .need (m = 0 ∧ hi = .at 0 ∧ bdLo lo = 0) (.to .nil σ)
    | _, _ => .bad
  | .nil => match ei P t, mx with
    | some _, .no => .need (bdHi 0 hi = 0 ∧ bdLo lo = 0) (.to .nil σ)
    | some _, .at m => .need (m = 0 ∧ hi = .at 0 ∧ bdLo lo = 0) (.to .nil σ)
    | _, _ => .bad
  | _ => .bad
def isBad : Bd → Bool
  | .bad => true
  | _ => false
def evSlice2 (P : Program) (σ : List AObj) (t : TypeId) (lo hi mx : Bd) (x : AV) : R1 :=
  match isBad lo || isBad hi || isBad mx with
  | true => .bad
  | false => evSlice1 P σ t lo hi mx x
/-- a row that is cut is given up first -/
def evSlice (P : Program) (σ : List AObj) (t : TypeId) (lo hi mx : Bd) : AV → R1
  | .own l => match asD σ (.own l) with
    | some (y, σ') => evSlice2 P σ' t lo hi mx (.d y)
    | none => .bad
  | x => evSlice2 P σ t lo hi mx x

theorem evBd_at (he : ARs c env a.tmps.toList) {x : Option Operand} {i : Int} (h : evBd env x = .at i) : ∃ y k, x = some y ∧ a.eval y = .int k i := by
  cases x with
  | none => simp [evBd] at h
  | some y =>
    simp only [evBd] at h
    split at h
    · next k j e => cases h; exact ⟨y, k, rfl, evIx_sound e (evO_sound he y)⟩
    · simp at h
theorem evBd_no {x : Option Operand} (h : evBd env x = .no) : x = none := by
  cases x with
  | none => rfl
  | some y => simp only [evBd] at h; split at h <;> simp at h

theorem sliceBounds_ok (he : ARs c env a.tmps.toList) {lo hi : Option Operand} {n cap : Nat} {b : Bool} {w : World} (hl : isBad (evBd env lo) = false) (hh : isBad (evBd env hi) = false)
    (h0 : 0 ≤ bdLo (evBd env lo)) (h1 : bdLo (evBd env lo) ≤ bdHi n (evBd env hi)) (h2 : bdHi n (evBd env hi) ≤ cap) :
    (Instr.sliceBounds b n cap (lo.map a.eval) (hi.map a.eval) none).run P w = .ok ((bdLo (evBd env lo)).toNat, (bdHi n (evBd env hi)).toNat, cap) w := by
  cases e1 : evBd env hi with
  | bad => rw [e1] at hh; simp [isBad] at hh
  | no =>
    have := evBd_no e1
    subst this
    rw [e1] at h1 h2
    simp only [bdHi] at h1 h2
    cases e2 : evBd env lo with
    | bad => rw [e2] at hl; simp [isBad] at hl
    | no => have := evBd_no e2; subst this; simp [Instr.sliceBounds, bdLo, bdHi]
    | «at» i =>
      obtain ⟨y, k, rfl, hv⟩ := evBd_at he e2
      rw [e2] at h0 h1
      simp only [bdLo] at h0 h1
      simp [Instr.sliceBounds, bdLo, bdHi, hv, Instr.sliceBound, asIntOf, h0, h1]
  | «at» j =>
    obtain ⟨y', k', rfl, hv'⟩ := evBd_at he e1
    rw [e1] at h1 h2
    simp only [bdHi] at h1 h2
    have hj : 0 ≤ j := Int.le_trans h0 h1
    cases e2 : evBd env lo with
    | bad => rw [e2] at hl; simp [isBad] at hl
    | no => have := evBd_no e2; subst this; simp [Instr.sliceBounds, bdLo, bdHi, hv', Instr.sliceBound, asIntOf, hj, h2]
    | «at» i =>
      obtain ⟨y, k, rfl, hv⟩ := evBd_at he e2
      rw [e2] at h0 h1
      simp only [bdLo] at h0 h1
      have : i ≤ (j.toNat : Int) := by omega
      simp [Instr.sliceBounds, bdLo, bdHi, hv, hv', Instr.sliceBound, asIntOf, hj, h2, h0, this]
      intro hq; omega
end
end Go.AX

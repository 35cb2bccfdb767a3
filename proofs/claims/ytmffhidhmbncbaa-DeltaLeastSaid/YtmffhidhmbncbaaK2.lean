/- AX, part J: builtins, make, slice literals, cuts, conversions. -/
import Derived.Test.YtmffhidhmbncbaaK1
import Derived.Laws.IdiomStrings
import Derived.RangeFuncLeaves
import Derived.RangeFuncRecord
import Derived.TacticsIn
import Derived.OrdersIn
set_option linter.unusedVariables false
namespace Go.AX
section
variable {P : Program} {o : Oper} {a : Act} {c : Cf} {σ : List AObj} {env : List AV}

theorem exec_builtin {b : Builtin} {args : Array Operand} {ts : Array TypeId} (ho : o.op = .call { callee := .builtin b, args := args, argTypes := ts }) :
    execOp a.eval o = Go.builtin b ts o.type (args.map fun | .const _ => true | _ => false) (args.map a.eval) := by
  simp [execOp, ho, resolve, invoke]
  rfl

theorem evAppend_ok (H : Holds c σ) (he : ARs c env a.tmps.toList) {args : Array Operand} {ts : Array TypeId} (ho : o.op = .call { callee := .builtin .append, args := args, argTypes := ts }) :
    (evAppend P σ ts.toList (evAll env args.toList)).Ok P o a c σ := by
  have hargs := evAll_sound he args.toList
  unfold evAppend
  split
  · next t t' s x e1 e2 =>
    rw [e2] at hargs
    obtain ⟨vs, r1, q1, hs, hr1⟩ := ARs_cons_left hargs
    obtain ⟨vx, r2, rfl, hx, hr2⟩ := ARs_cons_left hr1
    have := ARs_nil_left hr2
    subst this
    have hts : ts = #[t, t'] := by rw [← Array.toArray_toList (xs := ts), e1]
    have hvs : args.map a.eval = #[vs, vx] := by
      apply Array.ext'; rw [Array.toList_map]; exact q1
    cases hV : (isV σ s || isV σ x)
    case false =>
      simp only []
      unfold evAppend1
      split
      · next es2 h2 =>
        split
        · next sz by' hei hst =>
          have key : ∀ es, ((s = .nil ∧ es = []) ∨ ∃ l, s = .own l ∧ ob σ l = .row sz es) → (∀ e ∈ es2, e.length = sz) → (es.length + es2.length) * by' ≤ 140737488355328 → es.length + es2.length ≤ 9223372036854775807 →
              (R1.to (.own σ.length) (dropL σ s ++ [.row sz (es ++ es2)])).Ok P o a c σ := fun es hc h1 h3 h4 => by
            obtain ⟨v, c', hrun, ha, hN⟩ := append_rel (ty := o.type) H hei hst hs hx h2 h1 h3 h4 hc
            refine ⟨.value v, v, c', ?_, .inl rfl, ha, hN⟩
            rw [exec_builtin ho, hts, hvs]
            simp [Go.builtin, hrun]
          unfold evAppend2
          split
          · rintro ⟨h1, h3, h4⟩
            have := key [] (.inl ⟨rfl, rfl⟩) h1 (by simpa using h3) (by simpa using h4)
            simpa [dropL] using this
          · next l =>
            split
            · next sz' es hO =>
              rintro ⟨rfl, h1, h3, h4⟩
              have := key es (.inr ⟨l, rfl, hO⟩) h1 h3 h4
              simpa [dropL, so_eq] using this
            · trivial
          · trivial
        · trivial
      · trivial
    case true =>
      simp only []
      unfold evAppV1
      split
      · next es2 h2 =>
        split
        · next sz by' hei hst =>
          have key : ∀ es, ((s = .nil ∧ es = []) ∨ ∃ l, s = .own l ∧ ob σ l = .vec sz es) → (∀ e ∈ es2, e.length = sz) → es2.flatten.all oneC = true → (es.length + es2.length) * by' ≤ 140737488355328 → es.length + es2.length ≤ 9223372036854775807 →
              (R1.to (.own σ.length) (dropL σ s ++ [.vec sz (es ++ es2)])).Ok P o a c σ := fun es hc h1 h2o h3 h4 => by
            obtain ⟨v, c', hrun, ha, hN⟩ := append_relV (ty := o.type) H hei hst hs hx h2 h1 h2o h3 h4 hc
            refine ⟨.value v, v, c', ?_, .inl rfl, ha, hN⟩
            rw [exec_builtin ho, hts, hvs]
            simp [Go.builtin, hrun]
          unfold evAppV2
          split
          · rintro ⟨h1, h2o, h3, h4⟩
            have := key [] (.inl ⟨rfl, rfl⟩) h1 h2o (by simpa using h3) (by simpa using h4)
            simpa [dropL] using this
          · next l =>
            split
            · next sz' es hO =>
              rintro ⟨rfl, h1, h2o, h3, h4⟩
              have := key es (.inr ⟨l, rfl, hO⟩) h1 h2o h3 h4
              simpa [dropL, so_eq] using this
            · trivial
          · trivial
        · trivial
      · trivial
  · trivial

/-! ### len, min, max -/
def evLen1 (σ : List AObj) : AV → R1
  | .d (.sl es) => .to (.d (.int .i64 es.length)) σ
  | .nil => .to (.d (.int .i64 0)) σ
  | .own l => match ob σ l with
    | .row _ es => .to (.d (.int .i64 es.length)) σ
    | .vec _ es => .to (.d (.int .i64 es.length)) σ
    | _ => .bad
  | .osl _ _ _ n => .to (.d (.int .i64 n)) σ
  | _ => .bad
def evLen2 (σ : List AObj) : AV → R1
  | .d (.str s) => .to (.d (.int .i64 s.size)) σ
  | _ => .bad
def evLen3 (σ : List AObj) : AV → R1
  | .mp l => match ob σ l with
    | .map _ _ es => .to (.d (.int .i64 es.length)) σ
    | _ => .bad
  | _ => .bad
def evLen (P : Program) (σ : List AObj) (ts : List TypeId) (xs : List AV) : R1 :=
  match ts, xs with
  | [t], [x] => match P.underlying t with
    | some (.slice _) => evLen1 σ x
    | some .string => evLen2 σ x
    | some (.map _ _) => evLen3 σ x
    | _ => .bad
  | _, _ => .bad
theorem Ents_length {ka va : Bool} : ∀ {es : List (List D × List D)} {ms : List MapEntry}, Ents c ka va es ms → es.length = ms.length
  | [], [], _ => rfl
  | (k, v) :: es, m :: ms, r => by simp only [Ents] at r; simp [Ents_length r.2.2]
  | [], _ :: _, r => by simp [Ents] at r
  | _ :: _, [], r => by simp [Ents] at r
theorem evLen_ok (H : Holds c σ) (he : ARs c env a.tmps.toList) {args : Array Operand} {ts : Array TypeId} (ho : o.op = .call { callee := .builtin .len, args := args, argTypes := ts }) :
    (evLen P σ ts.toList (evAll env args.toList)).Ok P o a c σ := by
  have hargs := evAll_sound he args.toList
  unfold evLen
  split
  · next t x e1 e2 =>
    rw [e2] at hargs
    obtain ⟨vx, r2, q1, hx, hr2⟩ := ARs_cons_left hargs
    have := ARs_nil_left hr2
    subst this
    have hts : ts = #[t] := by rw [← Array.toArray_toList (xs := ts), e1]
    have hvs : args.map a.eval = #[vx] := by apply Array.ext'; rw [Array.toList_map]; exact q1
    have fin : ∀ (n : Int), (Builtin.len_ #[t] o.type #[vx]).run P c.w = .ok (.int .i64 n) c.w → (R1.to (.d (.int .i64 n)) σ).Ok P o a c σ := fun n hrun => by
      refine R1.Ok_to H (x := .int .i64 n) ?_ (by simp [AR, DR])
      rw [exec_builtin ho, hts, hvs]
      simp [Go.builtin, hrun]
    split
    · next e hu =>
      have run : ∀ b n cap, vx = .slice b n cap → (Builtin.len_ #[t] o.type #[vx]).run P c.w = .ok (.int .i64 n) c.w := fun b n cap hv => by subst hv; simp [Builtin.len_, run_underlying hu, goInt]
      cases x <;> simp only [evLen1] <;> try trivial
      case d x =>
        cases x <;> simp only [evLen1] <;> try trivial
        case sl es => simp only [AR, DR] at hx; obtain ⟨A, cap, sz, hv, _⟩ := hx; exact fin _ (run _ _ _ hv)
      case osl l sz lo n => simp only [AR] at hx; obtain ⟨_, A, cap, hv, _⟩ := hx; exact fin _ (run _ _ _ hv)
      case own l =>
        generalize hO : ob σ l = O
        cases O <;> simp only [] <;> try trivial
        case row sz es =>
          simp only [AR] at hx
          obtain ⟨_, hv, _⟩ := hx
          rcases H.obj l _ (ob_some hO (by simp)) with ⟨rfl, A, e⟩ | ⟨cap, vs, ty, _, g1, _⟩
          · rw [e] at hv; exact fin _ (run _ _ _ hv)
          · rw [g1] at hv; exact fin _ (run _ _ _ hv)
        case vec sz es =>
          simp only [AR] at hx
          obtain ⟨_, hv, _⟩ := hx
          rcases H.obj l _ (ob_some hO (by simp)) with ⟨rfl, A, e⟩ | ⟨cap, vs, ty, _, g1, _⟩
          · rw [e] at hv; exact fin _ (run _ _ _ hv)
          · rw [g1] at hv; exact fin _ (run _ _ _ hv)
      case nil => simp only [AR] at hx; obtain ⟨A, hv⟩ := hx; exact fin 0 (run _ _ _ hv)
    · next hu =>
      cases x <;> simp only [evLen2] <;> try trivial
      case d x =>
        cases x <;> simp only [evLen2] <;> try trivial
        case str s => simp only [AR, DR] at hx; subst hx; exact fin _ (by simp [Builtin.len_, run_underlying hu, goInt])
    · next k e hu =>
      cases x <;> simp only [evLen3] <;> try trivial
      case mp l =>
        generalize hO : ob σ l = O
        cases O <;> simp only [] <;> try trivial
        case map ka va es =>
          simp only [AR] at hx
          obtain ⟨_, rfl⟩ := hx
          obtain ⟨ms, ck, e1, e2⟩ := H.obj l _ (ob_some hO (by simp))
          have := Ents_length e2
          exact fin _ (by simp [Builtin.len_, run_underlying hu, goInt, getObj, Sem.run, e1, this])
    · trivial
  · trivial

def mnA : IntKind → Int → List AV → Option (IntKind × Int)
  | k, x, [] => some (k, x)
  | k, x, .d (.int _ y) :: r => mnA k (if y < x then y else x) r
  | _, _, _ => none
def mxA : IntKind → Int → List AV → Option (IntKind × Int)
  | k, x, [] => some (k, x)
  | k, x, .d (.int _ y) :: r => mxA k (if x < y then y else x) r
  | _, _, _ => none
def toI (σ : List AObj) : Option (IntKind × Int) → R1
  | some (k, x) => .to (.d (.int k x)) σ
  | none => .bad
def evMn (σ : List AObj) : List AV → R1
  | .d (.int k x) :: r => toI σ (mnA k x r)
  | _ => .bad
def evMx (σ : List AObj) : List AV → R1
  | .d (.int k x) :: r => toI σ (mxA k x r)
  | _ => .bad
theorem mnA_ok : ∀ {xs : List AV} {vs : List Value} {k k' : IntKind} {x y : Int}, ARs c xs vs → mnA k x xs = some (k', y) → ∀ w, (vs.foldlM Builtin.min2 (.int k x) : Sem Value).run P w = .ok (.int k' y) w
  | [], vs, k, k', x, y, r, h, w => by simp [mnA] at h; rw [ARs_nil_left r]; simp [h]
  | z :: xs, vs, k, k', x, y, r, h, w => by
    obtain ⟨v, q, rfl, h1, h2⟩ := ARs_cons_left r
    cases z <;> (try simp only [mnA] at h) <;> try (simp at h; done)
    case d z =>
      cases z <;> (try simp only [mnA] at h) <;> try (simp at h; done)
      case int k2 n =>
        simp only [AR, DR] at h1; subst h1
        have := mnA_ok h2 h w
        simp only [List.foldlM_cons, Sem.run_bind, Builtin.min2, Sem.run_pure, Result.andThen_ok]; exact this
theorem mxA_ok : ∀ {xs : List AV} {vs : List Value} {k k' : IntKind} {x y : Int}, ARs c xs vs → mxA k x xs = some (k', y) → ∀ w, (vs.foldlM Builtin.max2 (.int k x) : Sem Value).run P w = .ok (.int k' y) w
  | [], vs, k, k', x, y, r, h, w => by simp [mxA] at h; rw [ARs_nil_left r]; simp [h]
  | z :: xs, vs, k, k', x, y, r, h, w => by
    obtain ⟨v, q, rfl, h1, h2⟩ := ARs_cons_left r
    cases z <;> (try simp only [mxA] at h) <;> try (simp at h; done)
    case d z =>
      cases z <;> (try simp only [mxA] at h) <;> try (simp at h; done)
      case int k2 n =>
        simp only [AR, DR] at h1; subst h1
        have := mxA_ok h2 h w
        simp only [List.foldlM_cons, Sem.run_bind, Builtin.max2, Sem.run_pure, Result.andThen_ok]; exact this
theorem toI_ok {r : Option (IntKind × Int)} (h : ∀ k x, r = some (k, x) → (R1.to (.d (.int k x)) σ).Ok P o a c σ) : (toI σ r).Ok P o a c σ := by
  cases r with
  | none => trivial
  | some p => exact h p.1 p.2 rfl
theorem evMn_ok (H : Holds c σ) (he : ARs c env a.tmps.toList) {args : Array Operand} {ts : Array TypeId} (ho : o.op = .call { callee := .builtin .min, args := args, argTypes := ts }) :
    (evMn σ (evAll env args.toList)).Ok P o a c σ := by
  have hargs := evAll_sound he args.toList
  unfold evMn
  split
  · next k x r e =>
    rw [e] at hargs
    obtain ⟨v, q, q1, h1, h2⟩ := ARs_cons_left hargs
    simp only [AR, DR] at h1; subst h1
    refine toI_ok fun k' y hk => ?_
    refine R1.Ok_to H (x := .int k' y) ?_ (by simp [AR, DR])
    rw [exec_builtin ho]
    simp [Go.builtin, Builtin.min_, q1, mnA_ok h2 hk]
  · trivial
theorem evMx_ok (H : Holds c σ) (he : ARs c env a.tmps.toList) {args : Array Operand} {ts : Array TypeId} (ho : o.op = .call { callee := .builtin .max, args := args, argTypes := ts }) :
    (evMx σ (evAll env args.toList)).Ok P o a c σ := by
  have hargs := evAll_sound he args.toList
  unfold evMx
  split
  · next k x r e =>
    rw [e] at hargs
    obtain ⟨v, q, q1, h1, h2⟩ := ARs_cons_left hargs
    simp only [AR, DR] at h1; subst h1
    refine toI_ok fun k' y hk => ?_
    refine R1.Ok_to H (x := .int k' y) ?_ (by simp [AR, DR])
    rw [exec_builtin ho]
    simp [Go.builtin, Builtin.max_, q1, mxA_ok h2 hk]
  · trivial

/-! ### cuts -/
/-- a bound of a cut: absent, or a number -/
inductive Bd where
  | no | at (i : Int) | bad
def evBd (env : List AV) : Option Operand → Bd
  | none => .no
  | some x => match evIx (evO env x) with
    | some (_, i) => .at i
    | none => .bad
def bdLo : Bd → Int
  | .at i => i
  | _ => 0
def bdHi (n : Nat) : Bd → Int
  | .at i => i
  | _ => n
def evSliceS (σ : List AObj) (s : ByteArray) (lo hi : Bd) : R1 :=
  .need (0 ≤ bdLo lo ∧ bdLo lo ≤ bdHi s.size hi ∧ bdHi s.size hi ≤ s.size) (.to (.d (.str (s.extract (bdLo lo).toNat (bdHi s.size hi).toNat))) σ)
def evSliceD (σ : List AObj) (es : List (List D)) (lo hi : Bd) : R1 :=
  .need (0 ≤ bdLo lo ∧ bdLo lo ≤ bdHi es.length hi ∧ bdHi es.length hi ≤ es.length) (.to (.d (.sl ((es.take (bdHi es.length hi).toNat).drop (bdLo lo).toNat))) σ)
def evSlice1 (P : Program) (σ : List AObj) (t : TypeId) (lo hi mx : Bd) : AV → R1
  | .d (.str s) => match P.underlying t, mx with
    | some .string, .no => evSliceS σ s lo hi
    | _, _ => .bad
  | .d (.sl es) => match ei P t, mx with
    | some (sz, _), .no => .need (∀ e ∈ es, e.length = sz) (evSliceD σ es lo hi)
    | some _, .at m => .need (m = 0 ∧ hi = .at 0 ∧ bdLo lo = 0) (.to .nil σ)
    | _, _ => .bad
  | .nil => match ei P t, mx with
    | some _, .no => .need (bdHi 0 hi = 0 ∧ bdLo lo = 0) (.to .nil σ)
    | some _, .at m => .need (m = 0 ∧ hi = .at 0 ∧ bdLo lo = 0) (.to .nil σ)
    | _, _ => .bad
  | _ => .bad
def isBad : Bd → Bool
  | .bad => true
  | _ => false
def evSlice2 (P : Program) (σ : List AObj) (t : TypeId) (lo hi mx : Bd) (x : AV) : R1 :=
  match isBad lo || isBad hi || isBad mx with
  | true => .bad
  | false => evSlice1 P σ t lo hi mx x
/-- slices of bool and of bytes are cut in place -/
def bsl (P : Program) (t : TypeId) : Bool :=
  match P.underlying t with
  | some (.slice e) => match P.underlying e with
    | some .bool => true
    | some (.int .u8) => true
    | _ => false
  | _ => false
def evSliceO (P : Program) (σ : List AObj) (t : TypeId) (l : Nat) (lo hi mx : Bd) : R1 :=
  match isBad lo || isBad hi, mx with
  | false, .no => match ei P t, ob σ l with
    | some (sz', _), .row sz es => .need (sz' = sz ∧ 0 ≤ bdLo lo ∧ bdLo lo ≤ bdHi es.length hi ∧ bdHi es.length hi ≤ es.length) (.to (.osl l sz (bdLo lo).toNat ((bdHi es.length hi).toNat - (bdLo lo).toNat)) σ)
    | _, _ => .bad
  | _, _ => .bad
/-- a part of a row that is cut again -/
def evSliceP (P : Program) (σ : List AObj) (t : TypeId) (l sz at' n : Nat) (lo hi mx : Bd) : R1 :=
  match isBad lo || isBad hi, mx with
  | false, .no => match ei P t with
    | some (sz', _) => .need (sz' = sz ∧ 0 ≤ bdLo lo ∧ bdLo lo ≤ bdHi n hi ∧ bdHi n hi ≤ n) (.to (.osl l sz (at' + (bdLo lo).toNat) ((bdHi n hi).toNat - (bdLo lo).toNat)) σ)
    | _ => .bad
  | _, _ => .bad
/-- a row that is cut is given up first -/
def evSlice (P : Program) (σ : List AObj) (t : TypeId) (lo hi mx : Bd) : AV → R1
  | .own l => match bsl P t with
    | true => evSliceO P σ t l lo hi mx
    | false => match asD σ (.own l) with
      | some (y, σ') => evSlice2 P σ' t lo hi mx (.d y)
      | none => .bad
  | .osl l sz at' n => evSliceP P σ t l sz at' n lo hi mx
  | x => evSlice2 P σ t lo hi mx x

theorem evBd_at (he : ARs c env a.tmps.toList) {x : Option Operand} {i : Int} (h : evBd env x = .at i) : ∃ y k, x = some y ∧ a.eval y = .int k i := by
  cases x with
  | none => simp [evBd] at h
  | some y =>
    simp only [evBd] at h
    split at h
    · next k j e => cases h; exact ⟨y, k, rfl, evIx_sound e (evO_sound he y)⟩
    · simp at h
theorem evBd_no {x : Option Operand} (h : evBd env x = .no) : x = none := by
  cases x with
  | none => rfl
  | some y => simp only [evBd] at h; split at h <;> simp at h

theorem sliceBounds_ok (he : ARs c env a.tmps.toList) {lo hi : Option Operand} {n cap : Nat} {b : Bool} {w : World} (hl : isBad (evBd env lo) = false) (hh : isBad (evBd env hi) = false)
    (h0 : 0 ≤ bdLo (evBd env lo)) (h1 : bdLo (evBd env lo) ≤ bdHi n (evBd env hi)) (h2 : bdHi n (evBd env hi) ≤ cap) :
    (Instr.sliceBounds b n cap (lo.map a.eval) (hi.map a.eval) none).run P w = .ok ((bdLo (evBd env lo)).toNat, (bdHi n (evBd env hi)).toNat, cap) w := by
  cases e1 : evBd env hi with
  | bad => rw [e1] at hh; simp [isBad] at hh
  | no =>
    have := evBd_no e1
    subst this
    rw [e1] at h1 h2
    simp only [bdHi] at h1 h2
    cases e2 : evBd env lo with
    | bad => rw [e2] at hl; simp [isBad] at hl
    | no => have := evBd_no e2; subst this; simp [Instr.sliceBounds, bdLo, bdHi]
    | «at» i =>
      obtain ⟨y, k, rfl, hv⟩ := evBd_at he e2
      rw [e2] at h0 h1
      simp only [bdLo] at h0 h1
      simp [Instr.sliceBounds, bdLo, bdHi, hv, Instr.sliceBound, asIntOf, h0, h1]
  | «at» j =>
    obtain ⟨y', k', rfl, hv'⟩ := evBd_at he e1
    rw [e1] at h1 h2
    simp only [bdHi] at h1 h2
    have hj : 0 ≤ j := Int.le_trans h0 h1
    cases e2 : evBd env lo with
    | bad => rw [e2] at hl; simp [isBad] at hl
    | no => have := evBd_no e2; subst this; simp [Instr.sliceBounds, bdLo, bdHi, hv', Instr.sliceBound, asIntOf, hj, h2]
    | «at» i =>
      obtain ⟨y, k, rfl, hv⟩ := evBd_at he e2
      rw [e2] at h0 h1
      simp only [bdLo] at h0 h1
      have : i ≤ (j.toNat : Int) := by omega
      simp [Instr.sliceBounds, bdLo, bdHi, hv, hv', Instr.sliceBound, asIntOf, hj, h2, h0, this]
      intro hq; omega
end
end Go.AX
/- AX, part K: cuts, make, slice literals, conversions, what a string is ranged over by. -/
set_option linter.unusedVariables false
set_option linter.unusedSimpArgs false
namespace Go.AX
section
variable {P : Program} {o : Oper} {a : Act} {c : Cf} {σ : List AObj} {env : List AV}

theorem evSlice2_ok (H : Holds c σ) (he : ARs c env a.tmps.toList) {t : TypeId} {x : Operand} {lo hi mx : Option Operand} (ho : o.op = .slice t x lo hi mx) {y : AV} (hy : AR c y (a.eval x)) :
    (evSlice2 P σ t (evBd env lo) (evBd env hi) (evBd env mx) y).Ok P o a c σ := by
  unfold evSlice2
  cases hb : (isBad (evBd env lo) || isBad (evBd env hi) || isBad (evBd env mx)) with
  | true => trivial
  | false =>
    simp only [Bool.or_eq_false_iff] at hb
    obtain ⟨⟨hl, hh⟩, hm⟩ := hb
    have nil : ∀ {e : TypeId} {by' sz : Nat} {A : Option Addr} {n cap : Nat}, ei P t = some (sz, by') → a.eval x = .slice A n cap → n ≤ cap →
        (∀ m, evBd env mx = .at m → m = 0) → (evBd env mx = .no → n = 0 ∧ cap = 0) → bdHi 0 (evBd env hi) = 0 → bdLo (evBd env lo) = 0 → (evBd env mx = .no ∨ ∃ m, evBd env mx = .at m) →
        (evBd env hi = .no → evBd env mx = .no) → (R1.to .nil σ).Ok P o a c σ := fun {e by' sz A n cap} hei hv hle h1 h2 h3 h4 h5 h6 => by
      obtain ⟨e, i, z, hu, hi', hz, g1, g2, g3, g4⟩ := ei_spec hei
      have hss : (sizeOf e).run P c.w = .ok sz c.w := by simp [sizeOf, typeInfo, hi', g2]
      have hbd : (Instr.sliceBounds true n cap (lo.map a.eval) (hi.map a.eval) (mx.map a.eval)).run P c.w = .ok (0, 0, 0) c.w := by
        rcases h5 with h5 | ⟨m, h5⟩
        · obtain ⟨rfl, rfl⟩ := h2 h5
          have := evBd_no h5
          subst this
          have hh3 : bdHi 0 (evBd env hi) = 0 := h3
          have := sliceBounds_ok (P := P) he (n := 0) (cap := 0) (b := true) (w := c.w) hl hh (by omega) (by rw [h4, hh3]; omega) (by rw [hh3]; omega)
          rw [h4, hh3] at this
          simpa using this
        · obtain ⟨y, k, rfl, hmv⟩ := evBd_at he h5
          have := h1 m h5
          subst this
          cases e1 : evBd env hi with
          | bad => rw [e1] at hh; simp [isBad] at hh
          | no => have := h6 e1; rw [h5] at this; simp at this
          | «at» j =>
            obtain ⟨y', k', rfl, hv'⟩ := evBd_at he e1
            rw [e1] at h3
            simp only [bdHi] at h3
            subst h3
            cases e2 : evBd env lo with
            | bad => rw [e2] at hl; simp [isBad] at hl
            | no => have := evBd_no e2; subst this; simp [Instr.sliceBounds, hmv, hv', Instr.sliceBound, asIntOf]
            | «at» i' =>
              obtain ⟨y2, k2, rfl, hv2⟩ := evBd_at he e2
              rw [e2] at h4
              simp only [bdLo] at h4
              subst h4
              simp [Instr.sliceBounds, hmv, hv', hv2, Instr.sliceBound, asIntOf]
      refine R1.Ok_to H (x := .slice A 0 0) ?_ (by simp only [AR]; exact ⟨A, rfl⟩)
      simp [execOp, ho, Instr.sliceAt, run_underlying' hu, Instr.slice, hv, hbd, hss]
    cases y <;> try trivial
    case d y =>
     cases y <;> try trivial
     case str s =>
      simp only [AR, DR] at hy
      simp only [evSlice1]
      split
      · next hu hmx =>
        have := evBd_no hmx
        subst this
        rintro ⟨h0, h1, h2⟩
        have hbd := sliceBounds_ok (P := P) he (b := false) (w := c.w) hl hh h0 h1 h2
        refine R1.Ok_to H (x := .string (s.extract (bdLo (evBd env lo)).toNat (bdHi s.size (evBd env hi)).toNat)) ?_ (by simp [AR, DR])
        simp [execOp, ho, Instr.sliceAt, run_underlying' hu, Instr.slice, hy, hbd]
      · trivial
     case sl es =>
      simp only [AR, DR] at hy
      simp only [evSlice1]
      obtain ⟨A, cap, sz', hv, hcap, hsp, hne, hrows⟩ := hy
      split
      · next sz by' hei hmx =>
        have := evBd_no hmx
        subst this
        rintro hsz ⟨h0, h1, h2⟩
        obtain ⟨e, i, z, hu, hi', hz, g1, g2, g3, g4⟩ := ei_spec hei
        have hss : (sizeOf e).run P c.w = .ok sz c.w := by simp [sizeOf, typeInfo, hi', g2]
        have hbd := sliceBounds_ok (P := P) he (b := true) (n := es.length) (cap := cap) (w := c.w) hl hh h0 h1 (by omega)
        have hszz : es ≠ [] → sz' = sz := fun hne => by
          cases es with
          | nil => exact absurd rfl hne
          | cons e es => simp only [DRows] at hrows; rw [← hrows.1]; exact hsz e (by simp)
        refine R1.Ok_to H (x := .slice (if cap = (bdLo (evBd env lo)).toNat then A else A.map (·.add ((bdLo (evBd env lo)).toNat * sz))) ((bdHi es.length (evBd env hi)).toNat - (bdLo (evBd env lo)).toNat) (cap - (bdLo (evBd env lo)).toNat)) ?_ ?_
        · simp [execOp, ho, Instr.sliceAt, run_underlying' hu, Instr.slice, hv, hbd, hss]
        · simp only [AR, DR]
          generalize hL : (bdLo (evBd env lo)).toNat = L at *
          generalize hHh : (bdHi es.length (evBd env hi)).toNat = Hh at *
          have hLH : L ≤ Hh := by omega
          have hHn : Hh ≤ es.length := by omega
          have hlen : ((es.take Hh).drop L).length = Hh - L := by simp [Nat.min_eq_left hHn]
          refine ⟨_, _, sz', by rw [hlen], by rw [hlen]; omega, ?_, ?_, ?_⟩
          · intro hne0 ad had
            have hne1 : es ≠ [] := fun q => hne0 (by subst q; simp)
            have hsp := hsp hne1
            split at had
            · exact hsp ad had
            · cases A with
              | none => simp at had
              | some a0 => simp at had; subst had; rw [addr_add' (hsp a0 rfl)]
          · intro had
            have hA : A = none := by
              split at had
              · exact had
              · cases A <;> simp_all
            have := hne hA
            subst this
            simp
          · have hr := DRows_drop L (DRows_take Hh hrows)
            split
            · next hc' =>
              have : ((es.take Hh).drop L) = [] := List.eq_nil_of_length_eq_zero (by rw [hlen]; omega)
              rw [this]; simp [DRows]
            · cases A with
              | none => have := hne rfl; subst this; simp [DRows]
              | some a0 =>
                by_cases q : es = []
                · subst q; simp [DRows]
                · rw [← hszz q]
                  exact DRows_shift (hsp q a0 rfl) _ hr
      · next r m hei hmx =>
        obtain ⟨sz, by'⟩ := r
        rintro ⟨rfl, h1, h2⟩
        exact nil (e := t) hei hv hcap (fun m' h => by rw [hmx] at h; cases h; rfl) (fun h => by rw [hmx] at h; simp at h) (by rw [h1]; rfl) h2 (.inr ⟨_, hmx⟩) (fun h => by rw [h1] at h; simp at h)
      · trivial
    case nil =>
      simp only [AR] at hy
      simp only [evSlice1]
      obtain ⟨A, hv⟩ := hy
      split
      · next r hei hmx =>
        obtain ⟨sz, by'⟩ := r
        rintro ⟨h1, h2⟩
        exact nil (e := t) hei hv (Nat.le_refl _) (fun m' h => by rw [hmx] at h; simp at h) (fun _ => ⟨rfl, rfl⟩) h1 h2 (.inl hmx) (fun _ => hmx)
      · next r m hei hmx =>
        obtain ⟨sz, by'⟩ := r
        rintro ⟨rfl, h1, h2⟩
        exact nil (e := t) hei hv (Nat.le_refl _) (fun m' h => by rw [hmx] at h; cases h; rfl) (fun h => by rw [hmx] at h; simp at h) (by rw [h1]; rfl) h2 (.inr ⟨_, hmx⟩) (fun h => by rw [h1] at h; simp at h)
      · trivial
end
end Go.AX
/- AX, part L: cuts of rows, make, slice literals, conversions, ranges over strings. -/
set_option linter.unusedVariables false
set_option linter.unusedSimpArgs false
namespace Go.AX
section
variable {P : Program} {o : Oper} {a : Act} {c : Cf} {σ : List AObj} {env : List AV}

def noCall : R1 → Prop
  | .to .. => True
  | .need _ r => noCall r
  | .all _ _ k => ∀ e, noCall (k e)
  | .ite _ x y => noCall x ∧ noCall y
  | .call .. => False
  | .ex _ k => ∀ b, noCall (k b)
  | .yld _ _ => False
  | .bad => True
theorem R1.Ok_after {c' : Cf} {σ' : List AObj} (hw : c'.w = c.w) (hN : Nxt c σ c' σ') : ∀ (r : R1), noCall r → r.Ok P o a c' σ' → r.Ok P o a c σ
  | .to v σ2, _, h => by
    obtain ⟨nx, x, c2, h1, h2, h3, h4⟩ := h
    exact ⟨nx, x, c2, by rw [← hw]; exact h1, h2, h3, hN.trans h4⟩
  | .need p r, hn, h => fun hp => Ok_after hw hN r hn (h hp)
  | .all es i k, hn, h => by obtain ⟨e, h1, h2⟩ := h; exact ⟨e, h1, Ok_after hw hN (k e) (hn e) h2⟩
  | .ite t x y, hn, h => ⟨fun q => Ok_after hw hN x hn.1 (h.1 q), fun q => Ok_after hw hN y hn.2 (h.2 q)⟩
  | .call f args, hn, _ => hn.elim
  | .ex p k, hn, h => by obtain ⟨b, h1, h2⟩ := h; exact ⟨b, h1, Ok_after hw hN (k b) (hn b) h2⟩
  | .yld _ _, hn, _ => hn.elim
  | .bad, _, _ => trivial
theorem evSlice2_noCall {t : TypeId} {lo hi mx : Bd} {x : AV} : noCall (evSlice2 P σ t lo hi mx x) := by
  unfold evSlice2
  split
  · trivial
  · unfold evSlice1
    repeat' split
    all_goals first | trivial | (simp only [noCall, evSliceS, evSliceD])
theorem evSliceO_ok (H : Holds c σ) (he : ARs c env a.tmps.toList) {t : TypeId} {x : Operand} {lo hi mx : Option Operand} {l : Nat} (ho : o.op = .slice t x lo hi mx) (hx : AR c (.own l) (a.eval x)) :
    (evSliceO P σ t l (evBd env lo) (evBd env hi) (evBd env mx)).Ok P o a c σ := by
  unfold evSliceO
  split
  · next hlh hm =>
    simp only [Bool.or_eq_false_iff] at hlh
    obtain ⟨hl, hh⟩ := hlh
    split
    · next sz' by' sz es hei hO =>
      rintro ⟨rfl, h0, h1, h2⟩
      have q2 := evBd_no hm
      subst q2
      obtain ⟨e, i, z, hu, hi', hz, g1, g2, g3, g4⟩ := ei_spec hei
      have hss : (sizeOf e).run P c.w = .ok sz' c.w := by simp [sizeOf, typeInfo, hi', g2]
      simp only [AR] at hx
      obtain ⟨hln, hv, _⟩ := hx
      have main : ∀ (A : Option Addr) (cap : Nat), c.u l = .slice A es.length cap → es.length ≤ cap → (es ≠ [] → A = some ⟨c.ν l, 0, none⟩) →
          (R1.to (.osl l sz' (bdLo (evBd env lo)).toNat ((bdHi es.length (evBd env hi)).toNat - (bdLo (evBd env lo)).toNat)) σ).Ok P o a c σ := fun A cap hA hcap hne => by
        rw [hA] at hv
        have hbd := sliceBounds_ok (P := P) he (b := true) (n := es.length) (cap := cap) (w := c.w) hl hh h0 h1 (by omega)
        generalize (bdLo (evBd env lo)).toNat = L at hbd ⊢
        have hU : (bdHi es.length (evBd env hi)).toNat ≤ es.length := by omega
        generalize (bdHi es.length (evBd env hi)).toNat = U at hbd hU ⊢
        refine R1.Ok_to H (x := .slice (if cap = L then A else A.map (·.add (L * sz'))) (U - L) (cap - L)) ?_ ?_
        · simp [execOp, ho, Instr.sliceAt, run_underlying' hu, Instr.slice, hv, hbd, hss]
        · simp only [AR]
          refine ⟨hln, _, _, rfl, by omega, fun hp => ?_⟩
          rw [if_neg (by omega), hne (fun q => by rw [q] at hU; simp at hU; omega)]
          simp [addr_add']
      rcases H.obj l _ (ob_some hO (by simp)) with ⟨rfl, A, e'⟩ | ⟨cap, vs, ty, g0, g1, g5, _⟩
      · exact main A 0 e' (Nat.le_refl _) (fun h => absurd rfl h)
      · exact main _ cap g1 (by omega) (fun _ => rfl)
    · trivial
  · trivial
theorem evSliceP_ok (H : Holds c σ) (he : ARs c env a.tmps.toList) {t : TypeId} {x : Operand} {lo hi mx : Option Operand} {l sz at' n : Nat} (ho : o.op = .slice t x lo hi mx) (hx : AR c (.osl l sz at' n) (a.eval x)) :
    (evSliceP P σ t l sz at' n (evBd env lo) (evBd env hi) (evBd env mx)).Ok P o a c σ := by
  unfold evSliceP
  split
  · next hlh hm =>
    simp only [Bool.or_eq_false_iff] at hlh
    obtain ⟨hl, hh⟩ := hlh
    split
    · next sz' by' hei =>
      rintro ⟨rfl, h0, h1, h2⟩
      have q2 := evBd_no hm
      subst q2
      obtain ⟨e, i, z, hu, hi', hz, g1, g2, g3, g4⟩ := ei_spec hei
      have hss : (sizeOf e).run P c.w = .ok sz' c.w := by simp [sizeOf, typeInfo, hi', g2]
      simp only [AR] at hx
      obtain ⟨hln, A, cap, hv, hcap, hA⟩ := hx
      have hbd := sliceBounds_ok (P := P) he (b := true) (n := n) (cap := cap) (w := c.w) hl hh h0 h1 (by omega)
      have hU : (bdHi n (evBd env hi)).toNat ≤ n := by omega
      generalize (bdLo (evBd env lo)).toNat = L at hbd ⊢
      generalize (bdHi n (evBd env hi)).toNat = U at hbd hU ⊢
      refine R1.Ok_to H (x := .slice (if cap = L then A else A.map (·.add (L * sz'))) (U - L) (cap - L)) ?_ ?_
      · simp [execOp, ho, Instr.sliceAt, run_underlying' hu, Instr.slice, hv, hbd, hss]
      · simp only [AR]
        refine ⟨hln, _, _, rfl, by omega, fun hp => ?_⟩
        rw [if_neg (by omega), hA (by omega)]
        simp [addr_add', Nat.add_mul]
    · trivial
  · trivial
theorem evSlice_ok (H : Holds c σ) (he : ARs c env a.tmps.toList) {t : TypeId} {x : Operand} {lo hi mx : Option Operand} (ho : o.op = .slice t x lo hi mx) :
    (evSlice P σ t (evBd env lo) (evBd env hi) (evBd env mx) (evO env x)).Ok P o a c σ := by
  have hx := evO_sound he x
  unfold evSlice
  split
  · next l e =>
    rw [e] at hx
    split
    · exact evSliceO_ok H he ho hx
    split
    · next y σ' hd =>
      obtain ⟨c', w1, n1, d1⟩ := asD_sound H hx hd
      refine R1.Ok_after w1 n1 _ evSlice2_noCall ?_
      exact evSlice2_ok n1.hold (ARs.mono n1.le _ he) ho (by simpa [AR] using d1)
    · trivial
  · next e => rw [e] at hx; exact evSliceP_ok H he ho hx
  · exact evSlice2_ok H he ho hx

/-! ### make -/
/-- data cells, an absent slice as an empty one -/
def dsN : List AV → Option (List D)
  | [] => some []
  | .d x :: r => match dsN r with
    | some xs => some (x :: xs)
    | none => none
  | .nil :: r => match dsN r with
    | some xs => some (.sl [] :: xs)
    | none => none
  | _ => none
theorem dsN_sound {c : Cf} : ∀ {xs : List AV} {ys : List D} {vs : List Value}, dsN xs = some ys → ARs c xs vs → DRs c.h ys vs
  | [], ys, vs, h, r => by simp [dsN] at h; subst h; rw [ARs_nil_left r]; simp [DRs]
  | x :: xs, ys, vs, h, r => by
    obtain ⟨v, q, rfl, h1, h2⟩ := ARs_cons_left r
    cases x <;> simp only [dsN] at h <;> try (simp at h; done)
    case d x =>
      split at h
      · next zs e => simp at h; subst h; simp only [DRs]; exact ⟨by simpa [AR] using h1, dsN_sound e h2⟩
      · simp at h
    case nil =>
      split at h
      · next zs e =>
        simp at h; subst h; simp only [DRs]
        simp only [AR] at h1
        obtain ⟨A, rfl⟩ := h1
        exact ⟨by simp only [DR]; exact ⟨A, 0, 0, rfl, Nat.le_refl _, fun h => absurd rfl h, by simp, by simp [DRows]⟩, dsN_sound e h2⟩
      · simp at h
def zd (P : Program) (t : TypeId) : Option (List D) :=
  match P.underlying t with
  | some (.slice e) => match zc P e with
    | some cs => dsN cs
    | none => none
  | _ => none
def evMake1 (σ : List AObj) (l k : Int) : Option (Nat × Nat) → Option (List D) → R1
  | some (sz, by'), some z => .need (0 ≤ l ∧ l ≤ k ∧ k * by' ≤ 140737488355328 ∧ k ≤ 9223372036854775807 ∧ z.length = sz) (.to (.own σ.length) (σ ++ [.row sz (List.replicate l.toNat z)]))
  | _, _ => .bad
def evMake (P : Program) (σ : List AObj) (t : TypeId) : Option (IntKind × Int) → Option (IntKind × Int) → R1
  | some (_, l), some (_, k) => evMake1 σ l k (ei P t) (zd P t)
  | _, _ => .bad
theorem dsOf_cv1 : ∀ {vs : List Value} {z : List D}, dsN (vs.map cv1) = some z → ∀ h, DRs h z vs
  | [], z, e, h => by simp [dsN] at e; subst e; simp [DRs]
  | v :: vs, z, e, h => by
    have r := dsN_sound (c := ⟨default, h, 0, fun _ => 0, fun _ => undef⟩) e (ARs_map_cv1 _ (v :: vs))
    exact r
theorem DRs_replicate {h : Snap} {z : List D} {vs : List Value} (r : DRs h z vs) : ∀ n, DRs h (List.replicate n z).flatten (List.replicate n vs).flatten
  | 0 => by simp [DRs]
  | n + 1 => by simp only [List.replicate_succ, List.flatten_cons]; exact DRs_append r (DRs_replicate r n)
theorem range_mod {z : Array Value} (hz : 0 < z.size) : ∀ n m, m ≤ n → ((Array.range (n * z.size)).map (z[· % z.size]!)).toList.take (m * z.size) = (List.replicate m z.toList).flatten := by
  intro n m hm
  apply List.ext_getElem?
  intro j
  rw [List.getElem?_take]
  have hlen : (List.replicate m z.toList).flatten.length = m * z.size := by simp
  by_cases hj : j < m * z.size
  · rw [if_pos hj]
    have hmn : m * z.size ≤ n * z.size := Nat.mul_le_mul_right _ hm
    have e1 : ((Array.range (n * z.size)).map (z[· % z.size]!)).toList[j]? = some (z[j % z.size]!) := by
      simp [show j < n * z.size by omega]
    rw [e1]
    have : ∀ (m j : Nat), j < m * z.size → (List.replicate m z.toList).flatten[j]? = some (z[j % z.size]!) := by
      intro m
      induction m with
      | zero => intro j h; simp at h
      | succ m ih =>
        intro j h
        simp only [List.replicate_succ, List.flatten_cons]
        rw [List.getElem?_append]
        simp only [Array.length_toList]
        by_cases q : j < z.size
        · rw [if_pos q, Nat.mod_eq_of_lt q]; simp [q]
        · have h' : j - z.size < m * z.size := by rw [Nat.add_mul] at h; omega
          rw [if_neg q, ih (j - z.size) h', ← Nat.mod_eq_sub_mod (by omega)]
    exact (this m j hj).symm
  · rw [if_neg hj, List.getElem?_eq_none (by omega)]
theorem evMake_ok (H : Holds c σ) (he : ARs c env a.tmps.toList) {t : TypeId} {l k : Operand} (ho : o.op = .makeSlice t l k) : (evMake P σ t (evIx (evO env l)) (evIx (evO env k))).Ok P o a c σ := by
  have hl := evO_sound he l
  have hk := evO_sound he k
  cases e1 : evIx (evO env l) with
  | none => trivial
  | some r1 =>
    cases e2 : evIx (evO env k) with
    | none => trivial
    | some r2 =>
      obtain ⟨k1, n⟩ := r1
      obtain ⟨k2, m⟩ := r2
      have hv1 := evIx_sound e1 hl
      have hv2 := evIx_sound e2 hk
      simp only [evMake]
      cases hei : ei P t with
      | none => trivial
      | some q =>
        obtain ⟨sz, by'⟩ := q
        cases hzd : zd P t with
        | none => trivial
        | some z =>
          rintro ⟨h0, h1, h2, h3, h4⟩
          obtain ⟨e, i, zv, hu, hi, hz, g1, g2, g3, g4⟩ := ei_spec hei
          have hzz : DRs c.h z zv.cells.toList := by
            simp only [zd, hu, zc, hi, hz, Option.map] at hzd
            exact dsOf_cv1 hzd _
          have hwl : IntKind.i64.wrap n = n := by simp [IntKind.wrap, IntKind.bits, IntKind.signed]; omega
          have hwk : IntKind.i64.wrap m = m := by simp [IntKind.wrap, IntKind.bits, IntKind.signed]; omega
          have hrun : (Instr.makeSlice t (.int k1 n) (.int k2 m)).run P c.w = .ok (.slice (some ⟨c.w.heap.size, 0, none⟩) n.toNat m.toNat)
              (c.w.alloc (.cells ((Array.range (m.toNat * sz)).map (zv.cells[· % zv.cells.size]!)) e)) := by
            have hm0 : ¬ m < 0 := by omega
            have hn0 : ¬ n < 0 := by omega
            have hnm : ¬ m < n := by omega
            have hbig : ¬ (281474976710656 < (i.bytes : Int) * m) := by rw [Int.mul_comm]; rw [g3]; omega
            by_cases q : m.toNat * sz = 0
            · have hmz : m.toNat = 0 := by rcases Nat.mul_eq_zero.1 q with q | q <;> omega
              simp [Instr.makeSlice, run_underlying' hu, asInt, asIntOf, typeInfo, hi, hwl, hwk, sizeOf, g2, q, hm0, hn0, hnm, hbig, newRow, hmz, show Array.range 0 = #[] from rfl]
            · simp [Instr.makeSlice, run_underlying' hu, asInt, asIntOf, typeInfo, hi, hwl, hwk, sizeOf, g2, q, hm0, hn0, hnm, hbig, newRow, zeroValue, hz]
          by_cases hm : m.toNat = 0
          · have hn : n.toNat = 0 := by omega
            have N := Nxt.new H (.cells ((Array.range (m.toNat * sz)).map (zv.cells[· % zv.cells.size]!)) e) (.slice (some ⟨c.w.heap.size, 0, none⟩) n.toNat m.toNat) (.row sz (List.replicate n.toNat z)) (.inl ⟨by simp [hn], some ⟨c.w.heap.size, 0, none⟩, by simp [Cf.put, hn, hm]⟩)
            refine ⟨.value (.slice (some ⟨c.w.heap.size, 0, none⟩) n.toNat m.toNat), _, _, ?_, .inl rfl, ?_, N⟩
            rotate_left
            · simp only [AR]; exact ⟨by simp [Cf.put, H.n], by simp [Cf.put, H.n], _, _, _, rfl⟩
            · simp [execOp, ho, hv1, hv2, hrun]; rfl
          · obtain ⟨c', w1, a1, N⟩ := Nxt.newRow H (sz := sz) (es := List.replicate n.toNat z) (vs := (Array.range (m.toNat * sz)).map (zv.cells[· % zv.cells.size]!)) (ty := e) (cap := m.toNat) (by omega) (by simp; omega) (by simp)
              (by intro x hx; rw [List.eq_of_mem_replicate hx]; exact h4) (by
                have := range_mod (z := zv.cells) (by omega) m.toNat n.toNat (by omega)
                rw [g1] at this
                simp only [List.length_replicate]
                rw [g1, this]
                exact DRs_replicate hzz _)
            rw [List.length_replicate] at a1
            refine ⟨_, _, c', ?_, .inl rfl, a1, N⟩
            rw [w1]
            simp [execOp, ho, hv1, hv2, hrun]
end
end Go.AX
/- AX, part M: slice literals, conversions, ranges over strings, calls. -/
set_option linter.unusedVariables false
set_option linter.unusedSimpArgs false
namespace Go.AX
section
variable {P : Program} {o : Oper} {a : Act} {c : Cf} {σ : List AObj} {env : List AV}

/-! ### slice literals -/
def evLits (σ : List AObj) (sz : Nat) : Nat → List (Nat × AV) → Option (List (List D) × List AObj)
  | _, [] => some ([], σ)
  | k, (i, x) :: r => if i = k then
      match cellsOf x with
      | some vs => match asDs σ vs with
        | some (ds, σ1) => if ds.length = sz then
            match evLits σ1 sz (k + 1) r with
            | some (es, σ2) => some (ds :: es, σ2)
            | none => none
          else none
        | none => none
      | none => none
    else none
def evLit2 (len sz : Nat) : Option (List (List D) × List AObj) → R1
  | some (es, σ') => .need (es.length = len ∧ len * sz ≤ 16777216) (.to (.own σ'.length) (σ' ++ [.row sz es]))
  | none => .bad
/-- the elements as they are, nothing frozen -/
def evLitV (sz : Nat) : Nat → List (Nat × AV) → Option (List (List AV))
  | _, [] => some []
  | k, (i, x) :: r => if i = k then
      match cellsOf x with
      | some vs => if vs.length = sz then
          match evLitV sz (k + 1) r with
          | some es => some (vs :: es)
          | none => none
        else none
      | none => none
    else none
def evLitV2 (σ : List AObj) (len sz : Nat) : Option (List (List AV)) → R1
  | some es => .need (es.length = len ∧ 0 < len ∧ len * sz ≤ 16777216) (.to (.own σ.length) (σ ++ [.vec sz es]))
  | none => .bad
def evLit3 (σ : List AObj) (len sz : Nat) (ps : List (Nat × AV)) : Option (List (List D) × List AObj) → R1
  | some r => evLit2 len sz (some r)
  | none => evLitV2 σ len sz (evLitV sz 0 ps)
def evBuildSlice (P : Program) (σ : List AObj) (t : TypeId) (len : Nat) (ps : List (Nat × AV)) : R1 :=
  match ei P t with
  | some (sz, _) => evLit3 σ len sz ps (evLits σ sz 0 ps)
  | none => .bad
theorem evLitV_sound {c : Cf} {sz : Nat} : ∀ {ps : List (Nat × AV)} {us : List (Nat × Value)} {k : Nat} {es : List (List AV)}, ps.map (·.1) = us.map (·.1) → ARs c (ps.map (·.2)) (us.map (·.2)) → evLitV sz k ps = some es →
    ARs c es.flatten (us.flatMap fun x => x.2.cells.toList) ∧ (∀ e ∈ es, e.length = sz) ∧ es.length = us.length ∧ (∀ x ∈ us, x.2.cells.size = sz) ∧ us.map (·.1) = List.range' k us.length
  | [], [], k, es, _, _, h => by
    simp [evLitV] at h; subst h
    exact ⟨ARs_nil, by simp, rfl, by simp, by simp⟩
  | [], _ :: _, _, _, e, _, _ => by simp at e
  | _ :: _, [], _, _, e, _, _ => by simp at e
  | (i, x) :: ps, (j, v) :: us, k, es, e1, e2, h => by
    simp at e1
    obtain ⟨rfl, e1⟩ := e1
    simp only [List.map_cons, ARs_cons] at e2
    simp only [evLitV] at h
    split at h
    · next hik =>
      subst hik
      split at h
      · next vs hc =>
        split at h
        · next hl =>
          split at h
          · next es' hr =>
            simp at h; subst h
            have d1 := cellsOf_sound hc e2.1
            obtain ⟨d2, g1, g2, g3, g4⟩ := evLitV_sound e1 e2.2 hr
            have hsz : v.cells.size = sz := by have := ARs_length d1; simp at this; omega
            refine ⟨?_, ?_, by simp [g2], ?_, ?_⟩
            · simp only [List.flatten_cons, List.flatMap_cons]; exact ARs_append d1 d2
            · intro e he; rcases List.mem_cons.1 he with rfl | q; exact hl; exact g1 e q
            · intro y hy; rcases List.mem_cons.1 hy with rfl | q; exact hsz; exact g3 y q
            · simp [List.range'_succ, g4]
          · simp at h
        · simp at h
      · simp at h
    · simp at h
theorem evLits_sound {sz : Nat} : ∀ {ps : List (Nat × AV)} {us : List (Nat × Value)} {c : Cf} {σ σ' : List AObj} {k : Nat} {es : List (List D)}, Holds c σ → ps.map (·.1) = us.map (·.1) → ARs c (ps.map (·.2)) (us.map (·.2)) → evLits σ sz k ps = some (es, σ') →
    ∃ c', c'.w = c.w ∧ Nxt c σ c' σ' ∧ DRs c'.h es.flatten (us.flatMap fun x => x.2.cells.toList) ∧ (∀ e ∈ es, e.length = sz) ∧ es.length = us.length ∧ (∀ x ∈ us, x.2.cells.size = sz) ∧ us.map (·.1) = List.range' k us.length
  | [], [], c, σ, σ', k, es, H, _, _, h => by
    simp [evLits] at h; obtain ⟨rfl, rfl⟩ := h
    exact ⟨c, rfl, .refl H, by simp [DRs], by simp, rfl, by simp, by simp⟩
  | [], _ :: _, _, _, _, _, _, _, e, _, _ => by simp at e
  | _ :: _, [], _, _, _, _, _, _, e, _, _ => by simp at e
  | (i, x) :: ps, (j, v) :: us, c, σ, σ', k, es, H, e1, e2, h => by
    simp at e1
    obtain ⟨rfl, e1⟩ := e1
    simp only [List.map_cons, ARs_cons] at e2
    simp only [evLits] at h
    split at h
    · next hik =>
      subst hik
      split at h
      · next vs hc =>
        split at h
        · next ds σ1 hd =>
          split at h
          · next hl =>
            split at h
            · next es' σ2 hr =>
              simp at h; obtain ⟨rfl, rfl⟩ := h
              obtain ⟨c1, w1, n1, d1⟩ := asDs_sound H (cellsOf_sound hc e2.1) hd
              obtain ⟨c2, w2, n2, d2, g1, g2, g3, g4⟩ := evLits_sound n1.hold e1 (ARs.mono n1.le _ e2.2) hr
              have hsz : v.cells.size = sz := by have := DRs_length d1; simp at this; omega
              refine ⟨c2, w2.trans w1, n1.trans n2, ?_, ?_, by simp [g2], ?_, ?_⟩
              · simp only [List.flatten_cons, List.flatMap_cons]; exact DRs_append (DRs.mono n2.le.h d1) d2
              · intro e he; rcases List.mem_cons.1 he with rfl | q; exact hl; exact g1 e q
              · intro y hy; rcases List.mem_cons.1 hy with rfl | q; exact hsz; exact g3 y q
              · simp [List.range'_succ, g4]
            · simp at h
          · simp at h
        · simp at h
      · simp at h
    · simp at h
theorem fill_seq {sz : Nat} : ∀ (us : List (Nat × Value)) (k : Nat) (cs : Array Value), us.map (·.1) = List.range' k us.length → (∀ x ∈ us, x.2.cells.size = sz) → (k + us.length) * sz ≤ cs.size →
    ∃ r, Instr.fill (fun i => some (i * sz, sz)) cs us = some r ∧ r.toList = cs.toList.take (k * sz) ++ (us.flatMap fun x => x.2.cells.toList) ++ cs.toList.drop ((k + us.length) * sz)
  | [], k, cs, _, _, _ => ⟨cs, rfl, by simp⟩
  | (i, v) :: us, k, cs, h1, h2, h3 => by
    simp [List.range'_succ] at h1
    obtain ⟨rfl, h1⟩ := h1
    have hv := h2 (i, v) (by simp)
    simp only at hv
    have hmul : (i + 1) * sz = i * sz + sz := by rw [Nat.add_mul]; omega
    have hmul2 : (i + 1 + us.length) * sz ≤ cs.size := by rw [show i + 1 + us.length = i + ((i, v) :: us).length by simp; omega]; exact h3
    have hle : (i + 1) * sz ≤ cs.size := Nat.le_trans (Nat.mul_le_mul_right _ (by omega)) hmul2
    have hf := fold_set v.cells.toList 0 cs (i * sz) (by simp; omega)
    simp only [Nat.add_zero] at hf
    generalize hcs' : (v.cells.toList.zipIdx 0).foldl (fun cs (x : Value × Nat) => cs.setIfInBounds (i * sz + x.2) x.1) cs = cs' at hf
    have hsz' : cs'.size = cs.size := by
      have := congrArg List.length hf
      rw [spl_length _ _ _ (by simp; omega)] at this
      simpa using this
    obtain ⟨r, q1, q2⟩ := fill_seq us (i + 1) cs' h1 (fun x hx => h2 x (by simp [hx])) (by rw [hsz']; exact hmul2)
    refine ⟨r, ?_, ?_⟩
    · simp only [Instr.fill, hv]
      have : ¬ (sz ≠ sz ∨ i * sz + sz > cs.size) := by omega
      simp only [ne_eq, not_true_eq_false, decide_false, Bool.false_or, decide_eq_true_eq]
      rw [if_neg (by omega), ← q1, ← hcs']
      congr 1
      rw [← Array.foldl_toList]
      simp [Array.toList_zipIdx]
    · rw [q2, hf]
      have hcl : v.cells.toList.length = sz := by simpa using hv
      rw [spl_eq _ _ _ (by rw [hcl]; simp; omega), hcl]
      have e1 : (cs.toList.take (i * sz) ++ v.cells.toList ++ cs.toList.drop (i * sz + sz)).take ((i + 1) * sz) = cs.toList.take (i * sz) ++ v.cells.toList := by
        rw [take_left']; simp [hcl, hmul]; omega
      have e2 : (cs.toList.take (i * sz) ++ v.cells.toList ++ cs.toList.drop (i * sz + sz)).drop ((i + 1 + us.length) * sz) = cs.toList.drop ((i + ((i, v) :: us).length) * sz) := by
        rw [List.drop_append]
        have hl : (cs.toList.take (i * sz) ++ v.cells.toList).length = (i + 1) * sz := by simp [hcl, hmul]; omega
        have hge : (i + 1) * sz ≤ (i + 1 + us.length) * sz := Nat.mul_le_mul_right _ (by omega)
        rw [List.drop_eq_nil_of_le (by rw [hl]; exact hge), hl, List.drop_drop, List.nil_append]
        congr 1
        rw [show i + ((i, v) :: us).length = i + 1 + us.length by simp; omega]
        omega
      rw [e1, e2]
      simp
theorem evBuildSlice_ok (H : Holds c σ) (he : ARs c env a.tmps.toList) {t : TypeId} {len : Nat} {ps : Array (Nat × Operand)} (ho : o.op = .buildSlice t len ps) : (evBuildSlice P σ t len (evParts env ps.toList)).Ok P o a c σ := by
  unfold evBuildSlice
  cases hei : ei P t with
  | none => trivial
  | some q =>
    obtain ⟨sz, by'⟩ := q
    simp only []
    cases hl : evLits σ sz 0 (evParts env ps.toList) with
    | none =>
      simp only [evLit3]
      cases hv : evLitV sz 0 (evParts env ps.toList) with
      | none => trivial
      | some es =>
      rintro ⟨h1, h0, h2⟩
      obtain ⟨e, i, z, hu, hi, hz, g1, g2, g3, g4⟩ := ei_spec hei
      have hargs : (ps.map fun (i, x) => (i, a.eval x)).toList.map (·.2) = ps.toList.map fun x => a.eval x.2 := by simp
      have hargs1 : (ps.map fun (i, x) => (i, a.eval x)).toList.map (·.1) = ps.toList.map (·.1) := by simp
      obtain ⟨d1, k1, k2, k3, k4⟩ := evLitV_sound (c := c) (us := (ps.map fun (i, x) => (i, a.eval x)).toList) (by rw [evParts_fst, hargs1]) (by rw [hargs]; exact evParts_snd he _) hv
      have hlen : (ps.map fun (i, x) => (i, a.eval x)).toList.length = len := by omega
      obtain ⟨r, q1, q2⟩ := fill_seq (sz := sz) _ 0 ((Array.range (len * sz)).map (z.cells[· % z.cells.size]!)) k4 k3 (by simp; rw [show ps.size = len by simpa using hlen]; omega)
      have hpos : ¬ len * i.size = 0 := by rw [g2]; intro q; rcases Nat.mul_eq_zero.1 q with q | q <;> omega
      have hrun := run_buildSlice c.w t e len _ r i z hu hi hz (by rw [g2]; omega) hpos (by rw [g2]; exact q1)
      have hrl : r.toList = (ps.map fun (i, x) => (i, a.eval x)).toList.flatMap fun x => x.2.cells.toList := by
        rw [q2, hlen]
        simp
      have hrs : r.size = len * sz := by
        have := congrArg List.length hrl
        have e2 := ARs_length d1
        rw [flatten_len k1, h1] at e2
        simp at this
        simp at e2
        omega
      obtain ⟨c', w2, a2, N2⟩ := Nxt.newVec H (sz := sz) (es := es) (vs := r) (ty := e) (cap := len) (by omega) (by omega) hrs k1 (by
        rw [h1, ← hrs]
        rw [List.take_of_length_le (by simp), hrl]
        exact d1)
      rw [h1] at a2
      refine ⟨_, _, c', ?_, .inl rfl, a2, N2⟩
      rw [w2]
      simp [execOp, ho, hrun]
    | some r =>
      obtain ⟨es, σ'⟩ := r
      rintro ⟨h1, h2⟩
      obtain ⟨e, i, z, hu, hi, hz, g1, g2, g3, g4⟩ := ei_spec hei
      have hargs : (ps.map fun (i, x) => (i, a.eval x)).toList.map (·.2) = ps.toList.map fun x => a.eval x.2 := by simp
      have hargs1 : (ps.map fun (i, x) => (i, a.eval x)).toList.map (·.1) = ps.toList.map (·.1) := by simp
      obtain ⟨c1, w1, N1, d1, k1, k2, k3, k4⟩ := evLits_sound (us := (ps.map fun (i, x) => (i, a.eval x)).toList) H (by rw [evParts_fst, hargs1]) (by rw [hargs]; exact evParts_snd he _) hl
      have hlen : (ps.map fun (i, x) => (i, a.eval x)).toList.length = len := by omega
      by_cases h0 : len = 0
      · subst h0
        have hes : es = [] := List.eq_nil_of_length_eq_zero h1
        subst hes
        have hps : (ps.map fun (i, x) => (i, a.eval x)) = #[] := by
          apply Array.ext'; exact List.eq_nil_of_length_eq_zero hlen
        have hrun : (Instr.buildSlice t 0 (ps.map fun (i, x) => (i, a.eval x))).run P c.w = .ok (.slice (some ⟨c.w.heap.size, 0, none⟩) 0 0) (c.w.alloc (.cells #[] e)) := by
          rw [hps]
          simp [Instr.buildSlice, run_underlying' hu, sizeOf, typeInfo, hi, Instr.fill, newRow, show Array.range 0 = #[] from rfl]
        have N := Nxt.new N1.hold (.cells #[] e) (.slice (some ⟨c1.w.heap.size, 0, none⟩) 0 0) (.row sz []) (.inl ⟨rfl, some ⟨c1.w.heap.size, 0, none⟩, by simp [Cf.put]⟩)
        refine ⟨.value (.slice (some ⟨c.w.heap.size, 0, none⟩) 0 0), _, _, ?_, .inl rfl, ?_, N1.trans N⟩
        rotate_left
        · simp only [AR]; exact ⟨by simp [Cf.put, N1.hold.n], by simp [Cf.put, N1.hold.n, w1], _, _, _, rfl⟩
        · simp [execOp, ho, hrun, Cf.put, w1]
      · obtain ⟨r, q1, q2⟩ := fill_seq (sz := sz) _ 0 ((Array.range (len * sz)).map (z.cells[· % z.cells.size]!)) k4 k3 (by simp; rw [show ps.size = len by simpa using hlen]; omega)
        have hpos : ¬ len * i.size = 0 := by rw [g2]; intro q; rcases Nat.mul_eq_zero.1 q with q | q <;> omega
        have hrun := run_buildSlice c.w t e len _ r i z hu hi hz (by rw [g2]; omega) hpos (by rw [g2]; exact q1)
        have hrl : r.toList = (ps.map fun (i, x) => (i, a.eval x)).toList.flatMap fun x => x.2.cells.toList := by
          rw [q2, hlen]
          simp
        have hrs : r.size = len * sz := by
          have := congrArg List.length hrl
          have e2 := DRs_length d1
          rw [flatten_len k1, h1] at e2
          simp at this
          simp at e2
          omega
        obtain ⟨c', w2, a2, N2⟩ := Nxt.newRow N1.hold (sz := sz) (es := es) (vs := r) (ty := e) (cap := len) (by omega) (by omega) hrs k1 (by
          rw [h1, ← hrs]
          rw [List.take_of_length_le (by simp), hrl]
          exact d1)
        rw [h1] at a2
        refine ⟨_, _, c', ?_, .inl rfl, a2, N1.trans N2⟩
        rw [w2, w1]
        simp [execOp, ho, hrun]

/-! ### calls -/
def evYld (args : List AV) : Value → R1
  | .func (.yield b) ⟨[]⟩ ⟨[]⟩ => .yld b args
  | _ => .bad
def evCall (env : List AV) (args : List Operand) : AV → R1
  | .fn g caps => .call g (evAll env args ++ caps)
  | .raw v => evYld (evAll env args) v
  | _ => .bad
theorem evCall_ok (H : Holds c σ) (he : ARs c env a.tmps.toList) {f : Operand} {args : Array Operand} {ts : Array TypeId} (ho : o.op = .call { callee := .value f, args := args, argTypes := ts }) :
    (evCall env args.toList (evO env f)).Ok P o a c σ := by
  have hf := evO_sound he f
  generalize evO env f = y at hf
  cases y <;> simp only [evCall] <;> try trivial
  case fn g caps =>
    simp only [AR] at hf
    obtain ⟨vs, e, hr⟩ := hf
    refine ⟨args.map a.eval ++ vs, ?_, ?_⟩
    · simp [execOp, ho, resolve, e, Deferred.ofValue, invoke]
    · rw [Array.toList_append, Array.toList_map]
      exact ARs_append (evAll_sound he args.toList) hr
  case raw v =>
    simp only [AR] at hf
    unfold evYld
    split
    · next b =>
      refine ⟨args.map a.eval, ?_, ?_⟩
      · simp [execOp, ho, resolve, hf, Deferred.ofValue, invoke]
      · rw [Array.toList_map]
        exact evAll_sound he args.toList
    · trivial

/-! ### ranges over strings -/
def evRange (P : Program) (σ : List AObj) (t : TypeId) : AV → R1
  | .d (.str s) => match P.underlying t with
    | some .string => .to (.ptr σ.length 0) (σ ++ [.iter s 0])
    | _ => .bad
  | _ => .bad
def evNext2 (σ : List AObj) (l : Nat) : AObj → R1
  | .iter s pos => .ite (decide (pos < s.size)) (.to (.tup [.d (.bool true), .d (.int .i64 pos), .d (.int .i32 (Utf8.decode s pos).1)]) (so σ l (.iter s (pos + (Utf8.decode s pos).2)))) (.to (.tup [.d (.bool false)]) σ)
  | _ => .bad
def evNext (σ : List AObj) (b : Bool) : AV → R1
  | .ptr l 0 => match b with
    | true => evNext2 σ l (ob σ l)
    | false => .bad
  | _ => .bad
theorem evRange_ok (H : Holds c σ) (he : ARs c env a.tmps.toList) {t : TypeId} {x : Operand} (ho : o.op = .range t x) : (evRange P σ t (evO env x)).Ok P o a c σ := by
  have hx := evO_sound he x
  generalize evO env x = y at hx
  cases y <;> try trivial
  case d y =>
    cases y <;> try trivial
    case str s =>
      simp only [evRange]
      split
      · next hu =>
        simp only [AR, DR] at hx
        have N := Nxt.new H (.stringIter s 0) undef (.iter s 0) (by
          show (c.w.alloc (.stringIter s 0)).heap[(c.put (c.w.alloc (.stringIter s 0)) c.w.heap.size undef).ν c.n]? = _
          have : (c.put (c.w.alloc (.stringIter s 0)) c.w.heap.size undef).ν c.n = c.w.heap.size := by simp [Cf.put]
          rw [this]
          show (c.w.heap.push _)[c.w.heap.size]? = _
          simp)
        refine ⟨.value (.pointer (some ⟨c.w.heap.size, 0, none⟩)), _, _, ?_, .inl rfl, ?_, N⟩
        · simp [execOp, ho, hx, Instr.range, run_underlying' hu, Cf.put]
        · simp only [AR]; exact ⟨by simp [Cf.put, H.n], by simp [Cf.put, H.n]⟩
      · trivial
theorem evNext_ok (H : Holds c σ) (he : ARs c env a.tmps.toList) {b : Bool} {x : Operand} (ho : o.op = .next x b) : (evNext σ b (evO env x)).Ok P o a c σ := by
  have hx := evO_sound he x
  generalize evO env x = y at hx
  cases y <;> try trivial
  case ptr l off =>
    cases off with
    | succ n => trivial
    | zero =>
      cases b with
      | false => trivial
      | true =>
        simp only [evNext]
        generalize hO : ob σ l = O
        cases O <;> try trivial
        case iter s pos =>
          simp only [AR] at hx
          have hl := ob_some hO (by simp)
          have hob : c.w.heap[c.ν l]? = some (.stringIter s pos) := H.obj l _ hl
          refine ⟨fun hp => ?_, fun hp => ?_⟩
          · have hp' : pos < s.size := of_decide_eq_true hp
            have hlt : c.ν l < c.w.heap.size := (Array.getElem?_eq_some_iff.1 hob).1
            have N := Nxt.upd H hl (by trivial) { c.w with heap := c.w.heap.setIfInBounds (c.ν l) (.stringIter s (pos + (Utf8.decode s pos).2)) } (fun b hb => by simp [Array.getElem?_setIfInBounds, Ne.symm hb]) (by simp) rfl rfl rfl (o' := .iter s (pos + (Utf8.decode s pos).2)) (by
              show (c.w.heap.setIfInBounds (c.ν l) _)[c.ν l]? = _
              simp [hlt])
            refine ⟨.value (.tuple #[.bool true, .int .i64 pos, .int .i32 (Utf8.decode s pos).1]), _, _, ?_, .inl rfl, ?_, by rw [so_eq]; exact N⟩
            · simp [execOp, ho, hx.2, Instr.next, getObj, setObj, Sem.run, hob, hp', goInt, Cf.at]
            · simp [AR, ARs, DR]
          · have hp' : ¬ pos < s.size := of_decide_eq_false hp
            refine R1.Ok_to H (x := .tuple #[.bool false]) ?_ (by simp [AR, ARs, DR])
            simp [execOp, ho, hx.2, Instr.next, getObj, Sem.run, hob, hp']
end
end Go.AX
/- AX, part N: conversions. -/
set_option linter.unusedVariables false
set_option linter.unusedSimpArgs false
namespace Go.AX
section
variable {P : Program} {o : Oper} {a : Act} {c : Cf} {σ : List AObj} {env : List AV}

/-- All that is new is given up at once. -/
theorem Nxt.absorb {c : Cf} {σ : List AObj} (H : Holds c σ) (w' : World) (hk : ∀ k, k < c.w.heap.size → w'.heap[k]? = c.w.heap[k]?) (hs : c.w.heap.size ≤ w'.heap.size) (ho : w'.os = c.w.os) (ht : w'.tape = c.w.tape) (hp : w'.output = c.w.output) :
    Nxt c σ { c with w := w', h := fun b k => if c.w.heap.size ≤ b then w'.cell? ⟨b, k, none⟩ else c.h b k } σ := by
  have le : c.Le { c with w := w', h := fun b k => if c.w.heap.size ≤ b then w'.cell? ⟨b, k, none⟩ else c.h b k } := by
    refine ⟨fun b k v h => ?_, Nat.le_refl _, fun _ _ => rfl, fun _ _ => rfl⟩
    have := cell_lt (H.snap b k v h)
    simp only at this
    show (if c.w.heap.size ≤ b then w'.cell? ⟨b, k, none⟩ else c.h b k) = some v
    rw [if_neg (by omega)]; exact h
  refine ⟨le, ⟨H.n, ?_, ?_, ?_, ?_, ?_⟩, ho, ht, hp, hs, fun b hb _ => hk b hb, ?_, ?_⟩
  · intro b k v h
    have h' : (if c.w.heap.size ≤ b then w'.cell? ⟨b, k, none⟩ else c.h b k) = some v := h
    split at h'
    · exact h'
    · have h1 := H.snap b k v h'
      rw [← h1]; exact heap_cell (hk b (cell_lt h1))
  · intro l x h
    exact ObjOk.mono le (by rw [H.n]; exact some_lt h) (fun hh => hk _ (H.lt l x h hh)) (H.obj l x h)
  · intro l x l' x' a1 a2 h h' hne
    exact H.sep l x l' x' a1 a2 ((Has.congr rfl).1 h) ((Has.congr rfl).1 h') hne
  · intro l x a1 h k
    have h1 := (Has.congr (c := c) rfl).1 h
    show (if c.w.heap.size ≤ c.ν l then w'.cell? ⟨c.ν l, k, none⟩ else c.h (c.ν l) k) = none
    rw [if_neg (by have := H.lt l x a1 h1; omega)]; exact H.apart l x a1 h1 k
  · intro l x a1 h
    have := H.lt l x a1 ((Has.congr rfl).1 h)
    show c.ν l < w'.heap.size
    omega
  · rintro b ⟨l, x, a1, h, rfl⟩
    exact .inl ⟨l, x, a1, (Has.congr rfl).1 h, rfl⟩
  · intro b k h
    by_cases q : c.w.heap.size ≤ b
    · exact .inr q
    · refine absurd ?_ h
      show (if c.w.heap.size ≤ b then w'.cell? ⟨b, k, none⟩ else c.h b k) = c.h b k
      rw [if_neg q]

def byteD : List D → UInt8
  | [.int _ n] => UInt8.ofNat n.toNat
  | _ => 0
def strOf (es : List (List D)) : ByteArray := ⟨(es.map byteD).toArray⟩
def isByte : List D → Prop
  | [.int .u8 _] => True
  | _ => False
def evConvB (σ : List AObj) (es : List (List D)) : R1 := .need (∀ e ∈ es, isByte e) (.to (.d (.str (strOf es))) σ)
/-- a literal's bytes, as a slice: given up -/
def evConvS (P : Program) (σ : List AObj) (s t e : TypeId) : AV → R1
  | .own l => match s == t, P.underlying e, ob σ l with
    | true, some (.int .u8), .row _ es => .need (0 < es.length) (.to (.d (.sl es)) (σ.set l .gone))
    | _, _, _ => .bad
  | _ => .bad
def evConv (P : Program) (σ : List AObj) (s t : TypeId) (x : AV) : R1 :=
  match P.underlying s, P.underlying t with
  | some d, some (.int k') => match x with
    | .d (.int k n) => .to (.d (.int k' (k'.wrap n))) σ
    | _ => .bad
  | some .string, some .string => match x with
    | .d (.str u) => .to x σ
    | _ => .bad
  | some (.slice e), some .string => match P.underlying e, src σ x, isStr x with
    | some (.int .u8), some es, false => evConvB σ es
    | _, _, _ => .bad
  | some .string, some (.slice e) => match P.underlying e, x with
    | some (.int .u8), .d (.str u) => .to (.d (.sl (bytesD u))) σ
    | _, _ => .bad
  | some (.slice _), some (.slice e) => evConvS P σ s t e x
  | _, _ => .bad
where isStr : AV → Bool
  | .d (.str _) => true
  | _ => false

theorem bytes_run {h : Snap} : ∀ {es : List (List D)} {vs : List Value}, DRs h es.flatten vs → (∀ e ∈ es, isByte e) → ∃ ns : List Int, vs = ns.map (Value.int .u8) ∧ es.map byteD = ns.map fun n => UInt8.ofNat n.toNat
  | [], [], _, _ => ⟨[], rfl, rfl⟩
  | [], _ :: _, r, _ => by simp [DRs] at r
  | e :: es, vs, r, hb => by
    have h1 := hb e (by simp)
    match e, h1 with
    | [.int .u8 n], _ =>
      cases vs with
      | nil => simp [DRs] at r
      | cons v vs =>
        simp only [List.flatten_cons, List.singleton_append, DRs] at r
        obtain ⟨ns, q1, q2⟩ := bytes_run r.2 (fun x hx => hb x (by simp [hx]))
        refine ⟨n :: ns, ?_, ?_⟩
        · have := r.1; simp only [DR] at this; simp [this, q1]
        · simp [byteD, q2]
theorem foldl_push : ∀ (ns : List Int) (s : ByteArray), ns.foldl (fun r n => r.push (UInt8.ofNat n.toNat)) s = ⟨s.data ++ (ns.map fun n => UInt8.ofNat n.toNat).toArray⟩
  | [], s => by simp
  | n :: ns, s => by
    rw [List.foldl_cons, foldl_push ns]
    simp [ByteArray.push]
theorem isByte_len {es : List (List D)} (h : ∀ e ∈ es, isByte e) : ∀ e ∈ es, e.length = 1 := fun e he => by
  have := h e he
  match e, this with
  | [.int .u8 n], _ => rfl
theorem src_val {x : AV} {v : Value} {es : List (List D)} (H : Holds c σ) (hx : AR c x v) (h : src σ x = some es) (hs : evConv.isStr x = false) : ∃ A n k, v = .slice A n k ∧ n = es.length := by
  cases x <;> simp only [src] at h <;> try (simp at h; done)
  case d x =>
    cases x <;> (try simp only [evConv.isStr] at hs) <;> (try simp only [src] at h) <;> try (simp at h hs; done)
    case sl es' => simp at h; subst h; simp only [AR, DR] at hx; obtain ⟨A, k, sz, e, _⟩ := hx; exact ⟨A, _, k, e, rfl⟩
  case own l =>
    split at h
    · next sz es' hO =>
      simp at h; subst h
      simp only [AR] at hx
      obtain ⟨_, e, _⟩ := hx
      rcases H.obj l _ (ob_some hO (by simp)) with ⟨rfl, A, e'⟩ | ⟨k, vs, ty, _, g1, _⟩
      · rw [e'] at e; exact ⟨A, 0, 0, e, rfl⟩
      · rw [g1] at e; exact ⟨_, _, k, e, rfl⟩
    · simp at h
  case osl l sz lo n =>
    split at h
    · next sz' es' hO =>
      split at h
      · next hb =>
        simp only [Bool.and_eq_true, beq_iff_eq, decide_eq_true_eq] at hb
        simp at h; subst h
        simp only [AR] at hx
        obtain ⟨_, A, k, e, _⟩ := hx
        exact ⟨A, n, k, e, by simp; omega⟩
      · simp at h
    · simp at h
  case nil => simp at h; subst h; simp only [AR] at hx; obtain ⟨A, e⟩ := hx; exact ⟨A, 0, 0, e, rfl⟩

theorem cell_freeze (w : World) (b : Addr) (n : Nat) (a : Addr) : (w.freeze b n).cell? a = w.cell? a := by
  unfold World.freeze
  split
  · rfl
  · simp only [World.cell?, Array.getElem?_modify]
    by_cases h : b.block = a.block
    · rw [if_pos h, ← h]
      cases hb : w.heap[b.block]? with
      | none => simp
      | some o => cases o <;> simp
    · rw [if_neg h]
theorem freeze_at {w : World} {b : Nat} {vs : Array Value} {ty : TypeId} (n : Nat) (h : w.heap[b]? = some (.cells vs ty (0, 0))) : (w.freeze ⟨b, n, none⟩ 1).heap[b]? = some (.cells vs ty (n, n + 1)) := by
  unfold World.freeze
  rw [if_neg (by decide)]
  simp only [Array.getElem?_modify, if_pos, h]
  simp
theorem freeze_off {w : World} {b : Nat} (n k : Nat) (h : k ≠ b) : (w.freeze ⟨b, n, none⟩ 1).heap[k]? = w.heap[k]? := by
  unfold World.freeze
  rw [if_neg (by decide)]
  simp only [Array.getElem?_modify]
  rw [if_neg (fun e => h e.symm)]
theorem freeze_size {w : World} {b : Nat} (n : Nat) : (w.freeze ⟨b, n, none⟩ 1).heap.size = w.heap.size := by
  unfold World.freeze
  rw [if_neg (by decide)]
  simp only [Array.size_modify]
theorem evConvS_ok (H : Holds c σ) {s t e0 e : TypeId} {x : Operand} (ho : o.op = .convert s t x) (hs : P.underlying s = some (.slice e0)) (hd : P.underlying t = some (.slice e)) {y : AV} (hx : AR c y (a.eval x)) : (evConvS P σ s t e y).Ok P o a c σ := by
  unfold evConvS
  split
  · next l =>
    split
    · next sz es hst he hO =>
      intro h0
      have hl := ob_some hO (by simp)
      simp only [AR] at hx
      obtain ⟨_, hv, _⟩ := hx
      rcases H.obj l _ hl with ⟨rfl, _⟩ | hb
      · simp at h0
      have hb' := hb
      obtain ⟨cap, vs, ty, g0, g1, g2, g3, g4, g5, g6⟩ := hb'
      rw [g1] at hv
      have hh : Has c l (.row sz es) := ⟨_, _, _, g1, g0⟩
      have hsh : c.w.shape? (c.ν l) = some (ty, vs.size) := by simp [World.shape?, g3]
      have hts : s = t := by simpa using hst
      let w' := c.w.freeze ⟨c.ν l, vs.size, none⟩ 1
      have N1 : Nxt c σ (c.at w') (σ.set l (.obj (c.ν l) (.cells vs ty (vs.size, vs.size + 1)))) := by
        refine Nxt.upd H hl hh w' (fun b hb => ?_) ?_ ?_ ?_ ?_ ⟨rfl, ?_⟩
        · exact freeze_off _ _ hb
        · exact freeze_size _
        · show (c.w.freeze ⟨c.ν l, vs.size, none⟩ 1).os = _
          unfold World.freeze; rw [if_neg (by decide)]
        · show (c.w.freeze ⟨c.ν l, vs.size, none⟩ 1).tape = _
          unfold World.freeze; rw [if_neg (by decide)]
        · show (c.w.freeze ⟨c.ν l, vs.size, none⟩ 1).output = _
          unfold World.freeze; rw [if_neg (by decide)]
        · exact freeze_at _ g3
      have hlt := some_lt hl
      have N2 := Nxt.froze N1.hold (l := l) (o := .obj (c.ν l) (.cells vs ty (vs.size, vs.size + 1))) (by rw [List.getElem?_set_self hlt]) trivial
      rw [List.set_set] at N2
      have hD := hb.data H.snap
      have hh2 : ((c.at w').froze (c.ν l)).h = (c.froze (c.ν l)).h := by
        funext x k
        show (if x = c.ν l then w'.cell? ⟨x, k, none⟩ else c.h x k) = (if x = c.ν l then c.w.cell? ⟨x, k, none⟩ else c.h x k)
        rw [show w'.cell? ⟨x, k, none⟩ = c.w.cell? ⟨x, k, none⟩ from cell_freeze _ _ _ _]
      refine ⟨.value (.slice (some ⟨c.ν l, 0, none⟩) es.length cap), _, _, ?_, .inl rfl, ?_, N1.trans N2⟩
      · subst hts
        have e1 : e0 = e := by rw [hs] at hd; simpa using hd
        subst e1
        simp [execOp, ho, hv, convert, run_underlying' hs, run_underlying' he, markStringish, hsh]
        rfl
      · simp only [AR]
        show DR ((c.at w').froze (c.ν l)).h (.sl es) _
        rw [hh2, ← g1]; exact hD
    · trivial
  · trivial
theorem evConv_ok (H : Holds c σ) (he : ARs c env a.tmps.toList) {s t : TypeId} {x : Operand} (ho : o.op = .convert s t x) : (evConv P σ s t (evO env x)).Ok P o a c σ := by
  have hx := evO_sound he x
  generalize evO env x = y at hx
  unfold evConv
  split
  · next d k' hs hd =>
    cases y <;> try trivial
    case d y =>
      cases y <;> try trivial
      case int k n =>
        simp only [AR, DR] at hx
        refine R1.Ok_to H (x := .int k' (k'.wrap n)) ?_ (by simp [AR, DR])
        simp [execOp, ho, hx, convert, run_underlying' hs, run_underlying' hd, Conv.intToInt]
  · next hs hd =>
    cases y <;> try trivial
    case d y =>
      cases y <;> try trivial
      case str u =>
        have hx' := hx
        simp only [AR, DR] at hx
        rw [hx] at hx'
        refine R1.Ok_to H (x := .string u) ?_ hx'
        simp [execOp, ho, hx, convert, run_underlying' hs, run_underlying' hd]
  · next e hs hd =>
    split
    · next es he1 h2 h3 =>
      intro hb
      obtain ⟨news, n1, n2, n3⟩ := src_ok (P := P) H hx h2 (isByte_len hb) (by omega)
      obtain ⟨ns, q1, q2⟩ := bytes_run n1 hb
      obtain ⟨A, n, k, hv, hn⟩ := src_val H hx h2 h3
      have h4 := (n3 c.w rfl).2
      have hstr : strOf es = ⟨(ns.map fun n => UInt8.ofNat n.toNat).toArray⟩ := by simp [strOf, q2]
      refine R1.Ok_to H (x := .string (strOf es)) ?_ (by simp [AR, DR])
      rw [hstr]
      rw [hv] at h4
      simp only [execOp, ho, hv, Sem.run_bind, run_convert_bytes_string c.w s t e A n k hs he1 hd]
      cases A with
      | none =>
        have : news = [] := by
          have : (Result.ok #[] c.w : Result (Array Value)) = .ok news.toArray c.w := by rw [← h4]; simp [Builtin.firstCells]
          simpa using this.symm
        subst this
        have : ns = [] := by
          cases ns with
          | nil => rfl
          | cons n ns => simp at q1
        subst this
        simp [Conv.bytesToString]
        rfl
      | some ad =>
        have h5 : (loadCells ad n).run P c.w = .ok (ns.map (Value.int .u8)).toArray c.w := by
          rw [← q1, ← h4, hn]; simp [Builtin.firstCells]
        rw [run_bytesToString c.w ad n k ns h5, foldl_push]
        simp
    · trivial
  · next e hs hd =>
    split
    · next u he1 =>
      simp only [AR, DR] at hx
      have hrun := run_bytes_of_string c.w s t e u hs hd he1
      generalize hk : grownCap c.w u.size 0 e = k at hrun
      have hle : u.size ≤ k := by rw [← hk]; exact grownCap_le _ _ _ _
      generalize hob : (Obj.cells (bytesRow u k) e ((bytesRow u k).size, (bytesRow u k).size + 1)) = oo at hrun
      have hblk : (c.w.drew.alloc oo).heap[c.w.heap.size]? = some oo := by
        show (c.w.heap.push oo)[c.w.heap.size]? = _
        simp
      have N := Nxt.absorb H (c.w.drew.alloc oo) (fun k hk => by show (c.w.heap.push oo)[k]? = _; rw [Array.getElem?_push, if_neg (by omega)]) (by show _ ≤ (c.w.heap.push oo).size; simp) rfl rfl rfl
      refine ⟨.value (.slice (some ⟨c.w.heap.size, 0, none⟩) u.size k), _, _, ?_, .inl rfl, ?_, N⟩
      · simp [execOp, ho, hx, hrun]
      · simp only [AR, DR]
        refine ⟨_, k, 1, by simp [bytesD]; rfl, by simp [bytesD]; exact hle, fun _ a e => by cases e; rfl, fun e => by simp at e, ?_⟩
        refine DRows_of (vs := u.data.toList.map fun b => .int .u8 (b.toNat : Int)) (by intro x hx; simp [bytesD] at hx; obtain ⟨b, _, rfl⟩ := hx; rfl) (bytes_vals _) fun i v hv => ?_
        show (if c.w.heap.size ≤ c.w.heap.size then (c.w.drew.alloc oo).cell? ⟨c.w.heap.size, 0 + (0 + i), none⟩ else _) = some v
        rw [if_pos (Nat.le_refl _)]
        simp only [World.cell?, hblk]
        subst hob
        simp only [bytesRow]
        have hi : i < u.data.size := by
          have := (List.getElem?_eq_some_iff.1 hv).1
          simpa using this
        rw [show 0 + (0 + i) = i by omega]
        have : (u.data.map (fun b => Value.int .u8 b.toNat) ++ Array.replicate (k - u.size) (Value.int .u8 0))[i]? = some v := by
          rw [Array.getElem?_append_left (by simpa using hi)]
          simpa using hv
        simpa using this
    · trivial
  · next e hs hd => exact evConvS_ok H ho hs hd hx
  · trivial
end
end Go.AX
/- AX, part O: maps that the call makes. -/
set_option linter.unusedVariables false
set_option linter.unusedSimpArgs false
namespace Go.AX
section
variable {P : Program} {o : Oper} {a : Act} {c : Cf} {σ : List AObj} {env : List AV}

/-- a key, a value of a map: its cells, as one value -/
def vv (b : Bool) (cs : List D) : Value := if b then .agg (cs.map toV).toArray else toV (cs.headD (.bool false))
def kindOk (b : Bool) (ks : List DK) (cs : List D) : Prop := cs.map dk = ks.map some ∧ (b = false → ks.length = 1)
/-- keys of this type are plain: what a look for one does -/
structure KeyT (P : Program) (kt : TypeId) (b : Bool) (ks : List DK) : Prop where
  check : ∀ (k : List D) (e : Bool) (w : World), kindOk b ks k → (Instr.checkKey e 10000 kt (vv b k)).run P w = .ok () w
  find : ∀ (k : List D) (kds : List (List D)) (es : List MapEntry) (w : World), kindOk b ks k → (∀ x ∈ kds, kindOk b ks x) → es.map (·.key) = kds.map (vv b) →
    (Instr.findKey kt (vv b k) es).run P w = .ok ((kds.findIdx? (deqs k)).map fun i => (i, ((es[i]?).map (·.val)).getD undef)) w

def lkM (k : List D) : List (List D × List D) → Option (List D)
  | [] => none
  | (k', v) :: es => if deqs k k' then some v else lkM k es
def upM (k v : List D) : List (List D × List D) → List (List D × List D)
  | [] => [(k, v)]
  | (k', v') :: es => if deqs k k' then (k, v) :: es else (k', v') :: upM k v es
def keyOf : AV → Option (Bool × List D)
  | .d x => some (false, [x])
  | .agg cs => match dsOf cs with
    | some ds => some (true, ds)
    | none => none
  | _ => none
def mt (P : Program) (t : TypeId) : Option (TypeId × TypeId) :=
  match P.underlying t with
  | some (.map k e) => some (k, e)
  | _ => none
def zv1 (b : Bool) : Value → Option (List D)
  | .agg cs => if b then dsOf (cs.toList.map cv1) else none
  | v => if b then none else dsOf [cv1 v]
def zv (P : Program) (t : TypeId) : Option (Bool × List D) :=
  match tk P t, P.info? t with
  | some (b, _), some i => match i.zero with
    | some z => match zv1 b z with
      | some ds => some (b, ds)
      | none => none
    | none => none
  | _, _ => none
theorem dsOf_map : ∀ {cs : List AV} {ds : List D}, dsOf cs = some ds → cs = ds.map .d
  | [], ds, h => by simp [dsOf] at h; subst h; rfl
  | x :: xs, ds, h => by
    cases x <;> simp only [dsOf] at h <;> try (simp at h; done)
    case d x =>
      split at h
      · next zs e => simp at h; subst h; simp [dsOf_map e]
      · simp at h
theorem AR_dv {b : Bool} {ds : List D} {v : Value} {z : Value} (h : zv1 b z = some ds) (c : Cf) : AR c (dv b ds) z := by
  cases z <;> simp only [zv1] at h <;> cases b <;> simp at h
  case agg.true cs =>
    have := dsOf_map h
    simp only [dv, if_true, ← this, AR]
    exact ⟨cs, rfl, ARs_map_cv1 c _⟩
  all_goals
    have := dsOf_map h
    cases ds with
    | nil => simp at this
    | cons d ds =>
      simp at this
      simp only [dv, Bool.false_eq_true, if_false, List.headD_cons, ← this.1]
      exact AR_cv1 c _
theorem kinds_some {ds : List D} {ks : List DK} (h : ds.map dk = ks.map some) : ∀ d ∈ ds, dk d ≠ none := fun d hd => by
  have : dk d ∈ ks.map some := by rw [← h]; exact List.mem_map_of_mem hd
  obtain ⟨k, _, e⟩ := List.mem_map.1 this
  rw [← e]; simp
theorem ARs_toV : ∀ (cs : List D) (ks : List DK), cs.map dk = ks.map some → ARs c (cs.map .d) (cs.map toV)
  | [], _, _ => by simp [ARs]
  | x :: xs, [], e => by simp at e
  | x :: xs, k :: ks, e => by
    simp at e
    simp only [List.map_cons, ARs_cons]
    refine ⟨?_, ARs_toV xs ks e.2⟩
    cases x <;> simp [dk] at e <;> simp [AR, DR, toV]
theorem AR_vv {b : Bool} {ks : List DK} {cs : List D} {v : Value} (hk : kindOk b ks cs) : AR c (dv b cs) v ↔ v = vv b cs := by
  obtain ⟨h1, h2⟩ := hk
  cases b with
  | true =>
    simp only [dv, vv, if_true, AR]
    constructor
    · rintro ⟨vs, rfl, hr⟩
      have r := dsOf_sound (ys := cs) (by clear h1 h2 hr; induction cs with | nil => rfl | cons x xs ih => simp [dsOf, ih]) hr
      rw [← DRs_toV r h1]
    · rintro rfl
      refine ⟨_, rfl, ?_⟩
      simpa using ARs_toV cs ks h1
  | false =>
    have hl := h2 rfl
    cases cs with
    | nil => simp at h1; rw [h1] at hl; simp at hl
    | cons x xs =>
      have hd : dk x ≠ none := kinds_some h1 x (by simp)
      simp only [dv, vv, Bool.false_eq_true, if_false, List.headD_cons, AR]
      cases x <;> simp [dk] at hd <;> simp [DR, toV]

theorem ents_keys {ka va : Bool} {ks : List DK} : ∀ {es : List (List D × List D)} {ms : List MapEntry}, Ents c ka va es ms → (∀ x ∈ es, kindOk ka ks x.1) → ms.map (·.key) = (es.map (·.1)).map (vv ka)
  | [], [], _, _ => rfl
  | (k, v) :: es, m :: ms, r, h => by
    simp only [Ents] at r
    simp only [List.map_cons]
    rw [ents_keys r.2.2 fun x hx => h x (by simp [hx]), (AR_vv (h (k, v) (by simp))).1 r.1]
  | [], _ :: _, r, _ => by simp [Ents] at r
  | _ :: _, [], r, _ => by simp [Ents] at r
theorem ents_find {ka va : Bool} {k : List D} : ∀ {es : List (List D × List D)} {ms : List MapEntry}, Ents c ka va es ms →
    match (es.map (·.1)).findIdx? (deqs k) with
    | some i => ∃ m v, ms[i]? = some m ∧ lkM k es = some v ∧ AR c (dv va v) m.val
    | none => lkM k es = none
  | [], [], _ => by simp [lkM]
  | (k', v) :: es, m :: ms, r => by
    simp only [Ents] at r
    have ih := ents_find (k := k) r.2.2
    simp only [List.map_cons, List.findIdx?_cons, lkM]
    by_cases q : deqs k k' = true
    · simp only [q, if_true]
      exact ⟨m, v, rfl, rfl, r.2.1⟩
    · simp only [q, if_false]
      cases h : (es.map (·.1)).findIdx? (deqs k) with
      | none => rw [h] at ih; simpa using ih
      | some i => rw [h] at ih; simpa using ih
  | [], _ :: _, r => by simp [Ents] at r
  | _ :: _, [], r => by simp [Ents] at r

theorem keyOf_sound2 {x : AV} {v : Value} {b : Bool} {ds : List D} {ks : List DK} (h : keyOf x = some (b, ds)) (hx : AR c x v) (hk : kindOk b ks ds) : v = vv b ds := by
  have : dv b ds = x := by
    cases x <;> simp only [keyOf] at h <;> try (simp at h; done)
    case d x => simp at h; obtain ⟨rfl, rfl⟩ := h; simp [dv]
    case agg cs =>
      split at h
      · next ds' e => simp at h; obtain ⟨rfl, rfl⟩ := h; simp [dv, ← dsOf_map e]
      · simp at h
  rw [← this] at hx
  exact (AR_vv hk).1 hx

/-! ### make -/
def evMakeMap (σ : List AObj) (P : Program) (t : TypeId) : Option (TypeId × TypeId) → Option AV → R1
  | some (k, e), none => match tk P k, tk P e with
    | some (ka, _), some (va, _) => .to (.mp σ.length) (σ ++ [.map ka va []])
    | _, _ => .bad
  | some (k, e), some h => match tk P k, tk P e, evIx h with
    | some (ka, _), some (va, _), some _ => .to (.mp σ.length) (σ ++ [.map ka va []])
    | _, _, _ => .bad
  | none, _ => .bad
def oEv (env : List AV) : Option Operand → Option AV
  | some x => some (evO env x)
  | none => none
theorem mt_spec {t k e : TypeId} (h : mt P t = some (k, e)) : P.underlying t = some (.map k e) := by
  unfold mt at h
  split at h
  · next k' e' hu => simp at h; obtain ⟨rfl, rfl⟩ := h; exact hu
  · simp at h
theorem evMakeMap_ok (H : Holds c σ) (he : ARs c env a.tmps.toList) {t : TypeId} {r : Option Operand} (ho : o.op = .makeMap t r) : (evMakeMap σ P t (mt P t) (oEv env r)).Ok P o a c σ := by
  have fin : ∀ ka va, (Instr.makeMap t (r.map a.eval)).run P c.w = .ok (.map (some c.w.heap.size)) (c.w.alloc (.map #[] 0)) → (R1.to (.mp σ.length) (σ ++ [.map ka va []])).Ok P o a c σ := fun ka va hrun => by
    have N := Nxt.new H (.map #[] 0) undef (.map ka va []) ⟨#[], 0, by
      have : (c.put (c.w.alloc (.map #[] 0)) c.w.heap.size undef).ν c.n = c.w.heap.size := by simp [Cf.put]
      rw [this]
      show (c.w.heap.push _)[c.w.heap.size]? = _
      simp, by simp [Ents]⟩
    refine ⟨.value (.map (some c.w.heap.size)), _, _, ?_, .inl rfl, ?_, N⟩
    · simp [execOp, ho, hrun]; rfl
    · simp only [AR]; exact ⟨by simp [Cf.put, H.n], by simp [Cf.put, H.n]⟩
  cases hm : mt P t with
  | none => trivial
  | some q =>
    obtain ⟨k, e⟩ := q
    have hu := mt_spec hm
    cases r with
    | none =>
      simp only [oEv, evMakeMap]
      split
      · exact fin _ _ (by simp [Instr.makeMap])
      · trivial
    | some x =>
      simp only [oEv, evMakeMap]
      split
      · next hix =>
        rename_i q' _ _
        obtain ⟨kk, i⟩ := q'
        have := evIx_sound hix (evO_sound he x)
        exact fin _ _ (by simp [Instr.makeMap, run_underlying' hu, this, asInt, asIntOf])
      · trivial

/-! ### look up -/
def lkV (va ok : Bool) (z : List D) (r : Option (List D)) : AV :=
  if ok then .tup [dv va (r.getD z), .d (.bool r.isSome)] else dv va (r.getD z)
def evLookup2 (P : Program) (σ : List AObj) (ok : Bool) (kt : TypeId) (b : Bool) (kc : List D) (vb : Bool) (z : List D) : AObj → R1
  | .map ka va es => .need (b = ka ∧ vb = va ∧ ∃ ks, KeyT P kt b ks ∧ kindOk b ks kc ∧ ∀ x ∈ es, kindOk b ks x.1) (.to (lkV vb ok z (lkM kc es)) σ)
  | _ => .bad
def evLookup (P : Program) (σ : List AObj) (ok : Bool) (k : Option (Bool × List D)) : Option (TypeId × TypeId) → AV → R1
  | some (kt, et), .mp l => match k, zv P et with
    | some (b, kc), some (vb, z) => evLookup2 P σ ok kt b kc vb z (ob σ l)
    | _, _ => .bad
  | _, _ => .bad
theorem zv_spec {t : TypeId} {b : Bool} {ds : List D} (h : zv P t = some (b, ds)) (c : Cf) (w : World) : ∃ z, (zeroValue t).run P w = .ok z w ∧ AR c (dv b ds) z := by
  unfold zv at h
  split at h
  · next b' n i h1 h2 =>
    split at h
    · next z hz =>
      split at h
      · next ds' h3 =>
        simp at h; obtain ⟨rfl, rfl⟩ := h
        exact ⟨z, by simp [zeroValue, typeInfo, h2, hz], AR_dv (v := z) h3 c⟩
      · simp at h
    · simp at h
  · simp at h
theorem evLookup_ok (H : Holds c σ) (he : ARs c env a.tmps.toList) {t : TypeId} {x y : Operand} {ok : Bool} (ho : o.op = .lookup t x y ok) : (evLookup P σ ok (keyOf (evO env y)) (mt P t) (evO env x)).Ok P o a c σ := by
  have hx := evO_sound he x
  have hy := evO_sound he y
  unfold evLookup
  split
  · next q kt et l hm e1 =>
    rw [e1] at hx
    simp only [AR] at hx
    have hu := mt_spec hm
    split
    · next r1 r2 b kc vb z hk hz =>
      generalize hO : ob σ l = O
      cases O <;> try trivial
      case map ka va es =>
        rintro ⟨rfl, rfl, ks, hKT, hkc, hes⟩
        obtain ⟨ms, ck, hob, hE⟩ := H.obj l _ (ob_some hO (by simp))
        obtain ⟨zval, hzr, hza⟩ := zv_spec hz c c.w
        have hky := (keyOf_sound2 hk hy hkc)
        have hfind := hKT.find kc (es.map (·.1)) ms.toList c.w hkc (by intro x hx; obtain ⟨y, hy, rfl⟩ := List.mem_map.1 hx; exact hes y hy) (ents_keys hE hes)
        have hchk := hKT.check kc ms.isEmpty c.w hkc
        have hL := ents_find (k := kc) hE
        have hres : ∃ v, (Instr.lookup t (a.eval x) (a.eval y) ok).run P c.w = .ok v c.w ∧ AR c (lkV vb ok z (lkM kc es)) v := by
          cases hi : (es.map (·.1)).findIdx? (deqs kc) with
          | none =>
            rw [hi] at hL hfind
            simp only [Option.map_none] at hfind
            simp only at hL
            rw [hL]
            cases ok with
            | true =>
              refine ⟨.tuple #[zval, .bool false], ?_, by simp [lkV, AR, ARs, DR, hza]⟩
              simp [Instr.lookup, run_underlying' hu, hx.2, getObj, Sem.run, hob, hky, hchk, hfind, hzr]
            | false =>
              refine ⟨zval, ?_, by simp [lkV, hza]⟩
              simp [Instr.lookup, run_underlying' hu, hx.2, getObj, Sem.run, hob, hky, hchk, hfind, hzr]
          | some i =>
            rw [hi] at hL hfind
            simp only [Option.map_some] at hfind
            simp only at hL
            obtain ⟨m, v, q1, q2, q3⟩ := hL
            rw [q2]
            have q1' : ms.toList[i]? = some m := q1
            cases ok with
            | true =>
              refine ⟨.tuple #[m.val, .bool true], ?_, by simp [lkV, AR, ARs, DR, q3]⟩
              simp [Instr.lookup, run_underlying' hu, hx.2, getObj, Sem.run, hob, hky, hchk, hfind]
              simpa using congrArg (fun z => (z.map (·.val)).getD undef) q1'
            | false =>
              refine ⟨m.val, ?_, by simp [lkV, q3]⟩
              simp [Instr.lookup, run_underlying' hu, hx.2, getObj, Sem.run, hob, hky, hchk, hfind]
              simpa using congrArg (fun z => (z.map (·.val)).getD undef) q1'
        obtain ⟨v, h1, h2⟩ := hres
        exact R1.Ok_to H (by simp [execOp, ho, h1]) h2
    · trivial
  · trivial

/-! ### store into a map -/
theorem deq_eq {x y : D} {k : DK} (hx : dk x = some k) (hy : dk y = some k) (h : deq x y = true) : x = y := by
  cases x <;> cases y <;> simp [dk] at hx hy <;> simp [deq] at h
  case int.int k1 n1 k2 n2 => rw [← hx] at hy; simp at hy; rw [hy, h]
  case bool.bool => rw [h]
  case str.str s u =>
    have : s = u := by
      apply ByteArray.ext
      rw [ByteArray.toList_eq, ByteArray.toList_eq] at h
      exact Array.toList_inj.1 h
    rw [this]
theorem deqs_eq : ∀ {xs ys : List D} {ks : List DK}, xs.map dk = ks.map some → ys.map dk = ks.map some → deqs xs ys = true → xs = ys
  | [], [], _, _, _, _ => rfl
  | x :: xs, y :: ys, [], h, _, _ => by simp at h
  | x :: xs, y :: ys, k :: ks, hx, hy, h => by
    simp at hx hy
    simp [deqs] at h
    rw [deq_eq hx.1 hy.1 h.1, deqs_eq hx.2 hy.2 h.2]
  | [], _ :: _, _, _, _, h => by simp [deqs] at h
  | _ :: _, [], _, _, _, h => by simp [deqs] at h
theorem sameBits_one {x : D} (h : dk x ≠ none) (n : Nat) : Instr.sameBits n (toV x) (toV x) = true := by
  cases x <;> simp [dk] at h <;> cases n <;> simp [toV, Instr.sameBits, beq_toListBytes]
theorem sameBits_vv {b : Bool} {ks : List DK} {cs : List D} (h : kindOk b ks cs) (n : Nat) : Instr.sameBits (n + 1) (vv b cs) (vv b cs) = true := by
  obtain ⟨h1, h2⟩ := h
  have hd := kinds_some h1
  cases b with
  | false =>
    simp only [vv, Bool.false_eq_true, if_false]
    have hl := h2 rfl
    cases cs with
    | nil => simp at h1; rw [h1] at hl; simp at hl
    | cons x xs => exact sameBits_one (hd x (by simp)) _
  | true =>
    simp only [vv, if_true, Instr.sameBits]
    simp only [beq_self_eq_true, Bool.true_and]
    clear h1 h2
    have : ∀ (cs : List D), (∀ d ∈ cs, dk d ≠ none) → ((cs.map toV).zip (cs.map toV)).all (fun (x, y) => Instr.sameBits n x y) = true := by
      intro cs
      induction cs with
      | nil => intro _; rfl
      | cons x xs ih => intro hd; simp only [List.map_cons, List.zip_cons_cons, List.all_cons, sameBits_one (hd x (by simp)), Bool.true_and]; exact ih fun d hd' => hd d (by simp [hd'])
    simpa using this cs hd
theorem ents_up {ka va : Bool} {k v : List D} {kx vx : Value} {born : Nat} (hk : AR c (dv ka k) kx) (hv : AR c (dv va v) vx) : ∀ {es : List (List D × List D)} {ms : List MapEntry}, Ents c ka va es ms →
    Ents c ka va (upM k v es) (match (es.map (·.1)).findIdx? (deqs k) with
    | some i => ms.modify i fun e => { e with key := kx, val := vx }
    | none => ms ++ [{ key := kx, val := vx, born := born }])
  | [], [], _ => by simp [upM, Ents, hk, hv]
  | (k', v') :: es, m :: ms, r => by
    simp only [Ents] at r
    have ih := ents_up (born := born) hk hv r.2.2
    simp only [List.map_cons, List.findIdx?_cons, upM]
    by_cases q : deqs k k' = true
    · simp only [q, if_true, List.modify_zero_cons, Ents]
      exact ⟨hk, hv, r.2.2⟩
    · simp only [q, if_false, Bool.false_eq_true]
      cases h : (es.map (·.1)).findIdx? (deqs k) with
      | none => rw [h] at ih; simp only [Option.map_none, List.cons_append, Ents]; exact ⟨r.1, r.2.1, ih⟩
      | some i => rw [h] at ih; simp only [Option.map_some, List.modify_succ_cons, Ents]; exact ⟨r.1, r.2.1, ih⟩
  | [], _ :: _, r => by simp [Ents] at r
  | _ :: _, [], r => by simp [Ents] at r
def evMapUp2 (P : Program) (σ : List AObj) (l : Nat) (kt : TypeId) (b : Bool) (kc : List D) (vb : Bool) (vc : List D) : AObj → R1
  | .map ka va es => .need (b = ka ∧ vb = va ∧ ∃ ks, KeyT P kt b ks ∧ kindOk b ks kc ∧ ∀ x ∈ es, kindOk b ks x.1) (.to .any (so σ l (.map ka va (upM kc vc es))))
  | _ => .bad
def evMapUp (P : Program) (σ : List AObj) (k v : Option (Bool × List D)) : Option (TypeId × TypeId) → AV → R1
  | some (kt, _), .mp l => match k, v with
    | some (b, kc), some (vb, vc) => evMapUp2 P σ l kt b kc vb vc (ob σ l)
    | _, _ => .bad
  | _, _ => .bad
theorem keyOf_dv {x : AV} {b : Bool} {ds : List D} (h : keyOf x = some (b, ds)) : dv b ds = x := by
  cases x <;> simp only [keyOf] at h <;> try (simp at h; done)
  case d x => simp at h; obtain ⟨rfl, rfl⟩ := h; simp [dv]
  case agg cs =>
    split at h
    · next ds' e => simp at h; obtain ⟨rfl, rfl⟩ := h; simp [dv, ← dsOf_map e]
    · simp at h
theorem evMapUp_ok (H : Holds c σ) (he : ARs c env a.tmps.toList) {t : TypeId} {x y z : Operand} (ho : o.op = .mapUpdate t x y z ∨ o.op = .insert t x y z) :
    (evMapUp P σ (keyOf (evO env y)) (keyOf (evO env z)) (mt P t) (evO env x)).Ok P o a c σ := by
  have hx := evO_sound he x
  have hy := evO_sound he y
  have hz := evO_sound he z
  unfold evMapUp
  split
  · next q kt et l hm e1 =>
    rw [e1] at hx
    simp only [AR] at hx
    have hu := mt_spec hm
    split
    · next r1 r2 b kc vb vc hk hv =>
      generalize hO : ob σ l = O
      cases O <;> try trivial
      case map ka va es =>
        rintro ⟨rfl, rfl, ks, hKT, hkc, hes⟩
        have hl := ob_some hO (by simp)
        obtain ⟨ms, ck, hob, hE⟩ := H.obj l _ hl
        have hky := (keyOf_sound2 hk hy hkc)
        have hfind := hKT.find kc (es.map (·.1)) ms.toList c.w hkc (by intro x hx; obtain ⟨y, hy, rfl⟩ := List.mem_map.1 hx; exact hes y hy) (ents_keys hE hes)
        have hchk := hKT.check kc false c.w hkc
        have hkeys := ents_keys hE hes
        have hlt : c.ν l < c.w.heap.size := (Array.getElem?_eq_some_iff.1 hob).1
        have hup := ents_up (born := ck) (by rw [keyOf_dv hk]; exact hy : AR c (dv b kc) (a.eval y)) (by rw [keyOf_dv hv]; exact hz : AR c (dv vb vc) (a.eval z)) hE
        have fin : ∀ (ms' : Array MapEntry) (ck' : Nat), (Instr.mapUpdate t (a.eval x) (a.eval y) (a.eval z)).run P c.w = .ok () { c.w with heap := c.w.heap.setIfInBounds (c.ν l) (.map ms' ck') } →
            Ents c b vb (upM kc vc es) ms'.toList → (R1.to .any (so σ l (.map b vb (upM kc vc es)))).Ok P o a c σ := fun ms' ck' hrun hE' => by
          have N := Nxt.upd H hl (by trivial) { c.w with heap := c.w.heap.setIfInBounds (c.ν l) (.map ms' ck') } (fun b hb => by simp [Array.getElem?_setIfInBounds, Ne.symm hb]) (by simp) rfl rfl rfl (o' := .map b vb (upM kc vc es)) ⟨ms', ck', by
            show (c.w.heap.setIfInBounds (c.ν l) _)[c.ν l]? = _
            simp [hlt], Ents.mono (c.le_at _) hE'⟩
          refine ⟨.skip, undef, _, ?_, .inr ⟨rfl, rfl⟩, by simp [AR], by rw [so_eq]; exact N⟩
          rcases ho with ho | ho <;> simp [execOp, ho, hrun, Cf.at]
        cases hi : (es.map (·.1)).findIdx? (deqs kc) with
        | none =>
          rw [hi] at hup hfind
          simp only [Option.map_none] at hfind
          refine fin (ms.push { key := a.eval y, val := a.eval z, born := ck }) (ck + 1) ?_ (by simpa using hup)
          rw [hky]
          simp [Instr.mapUpdate, run_underlying' hu, hx.2, getObj, setObj, Sem.run, hob, hchk, hfind]
        | some i =>
          rw [hi] at hup hfind
          simp only [Option.map_some] at hfind
          refine fin (ms.modify i fun e => { e with key := a.eval y, val := a.eval z }) ck ?_ (by simpa using hup)
          obtain ⟨hlt2, hde⟩ := List.findIdx?_eq_some_iff_findIdx_eq.1 hi
          have hdq : deqs kc ((es.map (·.1))[i]) = true := by
            have := List.findIdx_getElem (w := by rw [hde]; exact hlt2) (xs := es.map (·.1)) (p := deqs kc)
            simpa [hde] using this
          have hkk : kc = (es.map (·.1))[i] := by
            refine deqs_eq hkc.1 (ks := ks) ?_ hdq
            have : (es.map (·.1))[i] ∈ es.map (·.1) := List.getElem_mem _
            obtain ⟨y', hy', e'⟩ := List.mem_map.1 this
            rw [← e']; exact (hes y' hy').1
          have hold : (ms[i]?).map (·.key) = some (vv b kc) := by
            have : (ms.toList.map (·.key))[i]? = some (vv b kc) := by
              rw [hkeys, List.getElem?_map, List.getElem?_eq_getElem hlt2, ← hkk]; rfl
            simpa using this
          have hkst : ∀ w, (Instr.keyThatStays (vv b kc) (vv b kc)).run P w = .ok (vv b kc) w := fun w => by
            simp [Instr.keyThatStays, sameBits_vv hkc]
          rw [hky]
          simp [Instr.mapUpdate, run_underlying' hu, hx.2, getObj, setObj, Sem.run, hob, hchk, hfind, hold, hkst]
    · trivial
  · trivial
end
end Go.AX
/- AX, part P: the evaluator, and that it is sound. -/
set_option linter.unusedVariables false
set_option linter.unusedSimpArgs false
namespace Go.AX

/-! ### one operation -/
def evNil (σ : List AObj) (op : BinOp) : AV → R1
  | .d (.sl es) => match op with
    | .eql => .ex (fun b => b = true → es = []) fun b => .to (.d (.bool b)) σ
    | .neq => .ex (fun b => b = false → es = []) fun b => .to (.d (.bool b)) σ
    | _ => .bad
  | .own l => match ob σ l with
    | .row _ es => match op with
      | .eql => .ex (fun b => b = true → es = []) fun b => .to (.d (.bool b)) σ
      | .neq => .ex (fun b => b = false → es = []) fun b => .to (.d (.bool b)) σ
      | _ => .bad
    | _ => .bad
  | .osl _ _ _ n => match op with
    | .eql => .ex (fun b => b = true → n = 0) fun b => .to (.d (.bool b)) σ
    | .neq => .ex (fun b => b = false → n = 0) fun b => .to (.d (.bool b)) σ
    | _ => .bad
  | .nil => match op with
    | .eql => .ex (fun _ => True) fun b => .to (.d (.bool b)) σ
    | .neq => .ex (fun _ => True) fun b => .to (.d (.bool b)) σ
    | _ => .bad
  | _ => .bad
def isNil : Operand → Bool
  | .const (.slice none 0 0) => true
  | _ => false
def evBin2 (P : Program) (env : List AV) (σ : List AObj) (op : BinOp) (t : TypeId) (x y : Operand) : R1 :=
  match isNil y with
  | true => match P.underlying t with
    | some (.slice _) => evNil σ op (evO env x)
    | _ => .bad
  | false => evBin P σ op t (evO env x) (evO env y)
def evBuiltin (P : Program) (env : List AV) (σ : List AObj) (ts : List TypeId) (args : List Operand) : Builtin → R1
  | .append => evAppend P σ ts (evAll env args)
  | .len => evLen P σ ts (evAll env args)
  | .min => evMn σ (evAll env args)
  | .max => evMx σ (evAll env args)
  | _ => .bad
def evCallee (P : Program) (env : List AV) (σ : List AObj) (ts : List TypeId) (args : List Operand) : Callee → R1
  | .value f => evCall env args (evO env f)
  | .builtin b => evBuiltin P env σ ts args b
  | _ => .bad
def evOp (P : Program) (env : List AV) (σ : List AObj) : Op → R1
  | .move x => .to (evO env x) σ
  | .assign x => .to (evO env x) σ
  | .pick c x y => evPick σ (evO env x) (evO env y) (evO env c)
  | .alloc t => evNew σ (zc P t)
  | .box _ x => evNew σ (cellsOf (evO env x))
  | .build t ps => evBuild P σ t (evParts env ps.toList)
  | .buildSlice t len ps => evBuildSlice P σ t len (evParts env ps.toList)
  | .load t x => evLoad P σ t (evO env x)
  | .store t x y => evStore P σ t (evO env y) (evO env x)
  | .nilCheck x => evNilCheck σ (evO env x)
  | .binOp op t x y _ => evBin2 P env σ op t x y
  | .unOp op _ x => evUn σ op (evO env x)
  | .convert s t x => evConv P σ s t (evO env x)
  | .makeFunc f first caps => evMakeFunc σ env caps.toList f first.toList
  | .makeMap t r => evMakeMap σ P t (mt P t) (oEv env r)
  | .makeSlice t l k => evMake P σ t (evIx (evO env l)) (evIx (evO env k))
  | .slice t x lo hi mx => evSlice P σ t (evBd env lo) (evBd env hi) (evBd env mx) (evO env x)
  | .fieldAddr s x f => evFieldAddr P σ s f (evO env x)
  | .field s x f => evField P σ s f (evO env x)
  | .indexAddr t x y => evIndexAddr P σ t (evO env x) (evIx (evO env y))
  | .index t x y => evIndex P σ t (evO env x) (evIx (evO env y))
  | .lookup t x y ok => evLookup P σ ok (keyOf (evO env y)) (mt P t) (evO env x)
  | .mapUpdate t x y z => evMapUp P σ (keyOf (evO env y)) (keyOf (evO env z)) (mt P t) (evO env x)
  | .insert t x y z => evMapUp P σ (keyOf (evO env y)) (keyOf (evO env z)) (mt P t) (evO env x)
  | .range t x => evRange P σ t (evO env x)
  | .next x b => evNext σ b (evO env x)
  | .extract x i => evExtract σ i (evO env x)
  | .call c => evCallee P env σ c.argTypes.toList c.args.toList c.callee
  | _ => .bad

section
variable {P : Program} {o : Oper} {a : Act} {c : Cf} {σ : List AObj} {env : List AV}
theorem run_equalIn_nil (w : World) (d : Nat) (t e : TypeId) (A : Option Addr) (l k : Nat) (h : P.underlying t = some (.slice e)) : (Op.equalIn (d + 1) t (.slice A l k) (.slice none 0 0)).run P w = .ok A.isNone w := by
  cases A <;> simp [Op.equalIn, run_underlying h]
theorem run_equal_nil (w : World) (t e : TypeId) (A : Option Addr) (l k : Nat) (h : P.underlying t = some (.slice e)) : (Op.equal t (.slice A l k) (.slice none 0 0)).run P w = .ok A.isNone w := run_equalIn_nil w 9999 t e A l k h
theorem evNil_ok (H : Holds c σ) (he : ARs c env a.tmps.toList) {op : BinOp} {t t2 e : TypeId} {x y : Operand} (ho : o.op = .binOp op t x y t2) (hn : isNil y = true) (hu : P.underlying t = some (.slice e)) : (evNil σ op (evO env x)).Ok P o a c σ := by
  have hx := evO_sound he x
  have hy : y = .const (.slice none 0 0) := by
    unfold isNil at hn
    split at hn
    · rfl
    · simp at hn
  subst hy
  have run : ∀ (A : Option Addr) (n k : Nat), a.eval x = .slice A n k →
      (op = .eql → (execOp a.eval o).run P c.w = .ok (.value (.bool A.isNone)) c.w) ∧ (op = .neq → (execOp a.eval o).run P c.w = .ok (.value (.bool (!A.isNone))) c.w) := fun A n k hv => by
    have r1 : (binOp .eql t (.slice A n k) (.slice none 0 0)).run P c.w = .ok (.bool A.isNone) c.w := by
      simp [binOp, run_equal_nil c.w t e A n k hu]
    have r2 : (binOp .neq t (.slice A n k) (.slice none 0 0)).run P c.w = .ok (.bool (!A.isNone)) c.w := by
      simp [binOp, run_equal_nil c.w t e A n k hu]
    constructor
    · rintro rfl
      have hc : a.eval (.const (.slice none 0 0)) = .slice none 0 0 := rfl
      simp only [execOp, ho, hv, hc, eqGuard_at_slice, Sem.run_bind, Sem.run_pure, Result.andThen_ok, r1]
    · rintro rfl
      have hc : a.eval (.const (.slice none 0 0)) = .slice none 0 0 := rfl
      simp only [execOp, ho, hv, hc, eqGuard_at_slice, Sem.run_bind, Sem.run_pure, Result.andThen_ok, r2]
  have fin : ∀ (A : Option Addr) (n k : Nat) (es : List (List D)), a.eval x = .slice A n k → (A = none → es = []) →
      (match op with
      | .eql => R1.ex (fun b => b = true → es = []) fun b => .to (.d (.bool b)) σ
      | .neq => R1.ex (fun b => b = false → es = []) fun b => .to (.d (.bool b)) σ
      | _ => .bad).Ok P o a c σ := fun A n k es hv h0 => by
    have := run A n k hv
    cases op <;> try trivial
    · exact ⟨A.isNone, fun h => h0 (by simpa using h), R1.Ok_to H (this.1 rfl) (by simp [AR, DR])⟩
    · exact ⟨!A.isNone, fun h => h0 (by simpa using h), R1.Ok_to H (this.2 rfl) (by simp [AR, DR])⟩
  generalize evO env x = z at hx
  cases z <;> try trivial
  case d z =>
    cases z <;> try trivial
    case sl es =>
      simp only [AR, DR] at hx
      obtain ⟨A, k, sz, hv, _, _, h0, _⟩ := hx
      exact fin A _ k es hv h0
  case own l =>
    simp only [evNil]
    generalize hO : ob σ l = O
    cases O <;> try trivial
    case row sz es =>
      simp only [AR] at hx
      obtain ⟨_, hv, _⟩ := hx
      rcases H.obj l _ (ob_some hO (by simp)) with ⟨rfl, A, e'⟩ | ⟨k, vs, ty, _, g1, _⟩
      · rw [e'] at hv; exact fin A _ _ [] hv (fun _ => rfl)
      · rw [g1] at hv; exact fin _ _ _ es hv (fun h => by simp at h)
  case osl l sz lo n =>
    simp only [AR] at hx
    obtain ⟨_, A, k, hv, _, hA⟩ := hx
    have := run A n k hv
    have h0 : A = none → n = 0 := fun h => by
      cases n with
      | zero => rfl
      | succ n => rw [h] at hA; simp at hA
    cases op <;> try trivial
    · exact ⟨A.isNone, fun h => h0 (by simpa using h), R1.Ok_to H (this.1 rfl) (by simp [AR, DR])⟩
    · exact ⟨!A.isNone, fun h => h0 (by simpa using h), R1.Ok_to H (this.2 rfl) (by simp [AR, DR])⟩
  case nil =>
    simp only [AR] at hx
    obtain ⟨A, hv⟩ := hx
    have := run A 0 0 hv
    cases op <;> try trivial
    · exact ⟨A.isNone, trivial, R1.Ok_to H (this.1 rfl) (by simp [AR, DR])⟩
    · exact ⟨!A.isNone, trivial, R1.Ok_to H (this.2 rfl) (by simp [AR, DR])⟩

theorem evOp_ok (H : Holds c σ) (he : ARs c env a.tmps.toList) (op : Op) (ho : o.op = op) : (evOp P env σ op).Ok P o a c σ := by
  cases op <;> simp only [evOp] <;> try trivial
  case move x => exact evMove_ok H he (.inl ho)
  case assign x => exact evMove_ok H he (.inr ho)
  case pick => exact evPick_ok H he ho
  case alloc => exact evAlloc_ok H he ho
  case box => exact evBox_ok H he ho
  case build => exact evBuild_ok H he ho
  case buildSlice => exact evBuildSlice_ok H he ho
  case load => exact evLoad_ok H he ho
  case store => exact evStore_ok H he ho
  case nilCheck => exact evNilCheck_ok H he ho
  case binOp op t x y t2 =>
    unfold evBin2
    split
    · next hn =>
      split
      · next e hu => exact evNil_ok H he ho hn hu
      · trivial
    · exact evBin_ok H he ho
  case unOp => exact evUn_ok H he ho
  case convert => exact evConv_ok H he ho
  case makeFunc => exact evMakeFunc_ok H he ho
  case makeMap => exact evMakeMap_ok H he ho
  case makeSlice => exact evMake_ok H he ho
  case slice => exact evSlice_ok H he ho
  case fieldAddr => exact evFieldAddr_ok H he ho
  case field => exact evField_ok H he ho
  case indexAddr => exact evIndexAddr_ok H he ho
  case index => exact evIndex_ok H he ho
  case lookup => exact evLookup_ok H he ho
  case mapUpdate => exact evMapUp_ok H he (.inl ho)
  case insert => exact evMapUp_ok H he (.inr ho)
  case range => exact evRange_ok H he ho
  case next => exact evNext_ok H he ho
  case extract => exact evExtract_ok H he ho
  case call cl =>
    obtain ⟨callee, args, ts⟩ := cl
    cases callee <;> simp only [evCallee] <;> try trivial
    case value f => exact evCall_ok H he ho
    case builtin b =>
      cases b <;> simp only [evBuiltin] <;> try trivial
      case append => exact evAppend_ok H he ho
      case len => exact evLen_ok H he ho
      case max => exact evMx_ok H he ho
      case min => exact evMn_ok H he ho
end

/-! ### calls -/
/-- called with these, in these blocks of the call's own, the function hands back that, and leaves those -/
def Spec (P : Program) (f : FuncId) (args : List AV) (σ : List AObj) (r : AV) (σ' : List AObj) : Prop :=
  (∃ fn, P.funcs[f]? = some fn ∧ fn.body.isNone = false ∧ (fn.name == "runtime.NumGoroutine") = false) ∧
  ∀ (c : Cf) (vs : Array Value), Holds c σ → ARs c args vs.toList → Calls P f vs c.w fun e w' => ∃ c' v, c'.w = w' ∧ e = .returned v ∧ AR c' r v ∧ Nxt c σ c' σ'

/-- a label handed over, or a new one -/
def rn (ls : List Nat) (n : Nat) (i : Nat) : Nat := if i < ls.length then ls.getD i 0 else n + (i - ls.length)
mutual
def ren (f : Nat → Nat) : AV → AV
  | .any => .any
  | .d x => .d x
  | .agg cs => .agg (rens f cs)
  | .tup cs => .tup (rens f cs)
  | .own l => .own (f l)
  | .ptr l off => .ptr (f l) off
  | .rptr l sz i j => .rptr (f l) sz i j
  | .eptr cs => .eptr cs
  | .mp l => .mp (f l)
  | .fn g caps => .fn g (rens f caps)
  | .nil => .nil
  | .raw v => .raw v
  | .osl l sz lo n => .osl (f l) sz lo n
def rens (f : Nat → Nat) : List AV → List AV
  | [] => []
  | x :: xs => ren f x :: rens f xs
end
def renss (f : Nat → Nat) : List (List AV) → List (List AV)
  | [] => []
  | e :: es => rens f e :: renss f es
def renO (f : Nat → Nat) : AObj → AObj
  | .gone => .gone
  | .cells cs => .cells (rens f cs)
  | .row sz es => .row sz es
  | .map ka va es => .map ka va es
  | .iter s pos => .iter s pos
  | .vec sz es => .vec sz (renss f es)
  | .obj b o => .obj b o

end Go.AX
/- AX, part Q: labels renamed; a call as the caller sees it. -/
set_option linter.unusedVariables false
set_option linter.unusedSimpArgs false
namespace Go.AX

def Cf.via (c : Cf) (f : Nat → Nat) (k : Nat) : Cf := { c with n := k, ν := fun l => c.ν (f l), u := fun l => c.u (f l) }
mutual
/-- all labels are less than k -/
def bd (k : Nat) : AV → Prop
  | .agg cs => bds k cs
  | .tup cs => bds k cs
  | .own l => l < k
  | .ptr l _ => l < k
  | .rptr l _ _ _ => l < k
  | .mp l => l < k
  | .osl l _ _ _ => l < k
  | .fn _ caps => bds k caps
  | _ => True
def bds (k : Nat) : List AV → Prop
  | [] => True
  | x :: xs => bd k x ∧ bds k xs
end
def bdss (k : Nat) : List (List AV) → Prop
  | [] => True
  | e :: es => bds k e ∧ bdss k es
def bdO (k : Nat) : AObj → Prop
  | .cells cs => bds k cs
  | .vec _ es => bdss k es
  | _ => True
theorem rens_app (f : Nat → Nat) : ∀ xs ys : List AV, rens f (xs ++ ys) = rens f xs ++ rens f ys
  | [], ys => by simp [rens]
  | x :: xs, ys => by simp [rens, rens_app f xs ys]
theorem bds_app {k : Nat} : ∀ {xs ys : List AV}, bds k xs → bds k ys → bds k (xs ++ ys)
  | [], _, _, h => h
  | _ :: _, _, h, h2 => ⟨h.1, bds_app h.2 h2⟩
theorem renss_flat (f : Nat → Nat) : ∀ es : List (List AV), (renss f es).flatten = rens f es.flatten
  | [] => by simp [renss, rens]
  | e :: es => by simp [renss, rens_app, renss_flat f es]
theorem rens_len (f : Nat → Nat) : ∀ xs : List AV, (rens f xs).length = xs.length
  | [] => rfl
  | x :: xs => by simp [rens, rens_len f xs]
theorem renss_len (f : Nat → Nat) : ∀ es : List (List AV), (renss f es).length = es.length
  | [] => rfl
  | e :: es => by simp [renss, renss_len f es]
theorem renss_all (f : Nat → Nat) {sz : Nat} : ∀ {es : List (List AV)}, (∀ e ∈ renss f es, e.length = sz) ↔ ∀ e ∈ es, e.length = sz
  | [] => by simp [renss]
  | e :: es => by simp [renss, rens_len, renss_all f (es := es)]
theorem bdss_flat {k : Nat} : ∀ {es : List (List AV)}, bdss k es → bds k es.flatten
  | [], _ => trivial
  | e :: es, h => bds_app h.1 (bdss_flat h.2)
theorem renss_nil {f : Nat → Nat} {es : List (List AV)} : renss f es = [] ↔ es = [] := by cases es <;> simp [renss]

mutual
theorem AR_via {c : Cf} {f : Nat → Nat} {k : Nat} : ∀ (x : AV) {v : Value}, bd k x → AR c (ren f x) v → AR (c.via f k) x v
  | .any, _, _, _ => by simp [AR]
  | .d x, _, _, e => by simpa [AR, ren, Cf.via] using e
  | .agg cs, _, b, e => by simp only [AR, ren, bd] at *; obtain ⟨vs, e1, e2⟩ := e; exact ⟨vs, e1, ARs_via cs b e2⟩
  | .tup cs, _, b, e => by simp only [AR, ren, bd] at *; obtain ⟨vs, e1, e2⟩ := e; exact ⟨vs, e1, ARs_via cs b e2⟩
  | .own l, _, b, e => by simp only [AR, ren, bd] at *; exact ⟨b, e.2⟩
  | .ptr l o, _, b, e => by simp only [AR, ren, bd] at *; exact ⟨b, e.2⟩
  | .rptr l s i j, _, b, e => by simp only [AR, ren, bd] at *; exact ⟨b, e.2⟩
  | .eptr cs, _, b, e => by simpa [AR, ren, Cf.via] using e
  | .mp l, _, b, e => by simp only [AR, ren, bd] at *; exact ⟨b, e.2⟩
  | .fn g caps, _, b, e => by simp only [AR, ren, bd] at *; obtain ⟨vs, e1, e2⟩ := e; exact ⟨vs, e1, ARs_via caps b e2⟩
  | .nil, _, _, e => by simpa [AR, ren] using e
  | .raw _, _, _, e => by simpa [AR, ren] using e
  | .osl l s i j, _, b, e => by simp only [AR, ren, bd] at *; exact ⟨b, e.2⟩
theorem ARs_via {c : Cf} {f : Nat → Nat} {k : Nat} : ∀ (xs : List AV) {vs : List Value}, bds k xs → ARs c (rens f xs) vs → ARs (c.via f k) xs vs
  | [], vs, _, e => by simp only [rens] at e; rw [ARs_nil_left e]; simp [ARs]
  | x :: xs, vs, b, e => by
    simp only [rens] at e
    simp only [bds] at b
    obtain ⟨v, r, rfl, h1, h2⟩ := ARs_cons_left e
    exact ARs_cons.2 ⟨AR_via x b.1 h1, ARs_via xs b.2 h2⟩
end
/-- c' sees by f what c sees -/
structure Sees (c c' : Cf) (f : Nat → Nat) : Prop where
  w : c'.w = c.w
  h : c'.h = c.h
  n : ∀ l, l < c.n → f l < c'.n
  ν : ∀ l, l < c.n → c'.ν (f l) = c.ν l
  u : ∀ l, l < c.n → c'.u (f l) = c.u l
mutual
theorem AR_sees {c c' : Cf} {f : Nat → Nat} (S : Sees c c' f) : ∀ (x : AV) {v : Value}, AR c x v → AR c' (ren f x) v
  | .any, _, _ => by simp [AR, ren]
  | .d x, _, e => by simpa [AR, ren, S.h] using e
  | .agg cs, _, e => by simp only [AR, ren] at *; obtain ⟨vs, e1, e2⟩ := e; exact ⟨vs, e1, ARs_sees S cs e2⟩
  | .tup cs, _, e => by simp only [AR, ren] at *; obtain ⟨vs, e1, e2⟩ := e; exact ⟨vs, e1, ARs_sees S cs e2⟩
  | .own l, _, e => by simp only [AR, ren] at *; exact ⟨S.n l e.1, by rw [S.u l e.1]; exact e.2.1, e.2.2⟩
  | .ptr l o, _, e => by simp only [AR, ren] at *; exact ⟨S.n l e.1, by rw [S.ν l e.1]; exact e.2⟩
  | .rptr l s i j, _, e => by simp only [AR, ren] at *; exact ⟨S.n l e.1, by rw [S.ν l e.1]; exact e.2⟩
  | .eptr cs, _, e => by simpa [AR, ren, S.h] using e
  | .mp l, _, e => by simp only [AR, ren] at *; exact ⟨S.n l e.1, by rw [S.ν l e.1]; exact e.2⟩
  | .fn g caps, _, e => by simp only [AR, ren] at *; obtain ⟨vs, e1, e2⟩ := e; exact ⟨vs, e1, ARs_sees S caps e2⟩
  | .nil, _, e => by simpa [AR, ren] using e
  | .raw _, _, e => by simpa [AR, ren] using e
  | .osl l s i j, _, e => by simp only [AR, ren] at *; exact ⟨S.n l e.1, by rw [S.ν l e.1]; exact e.2⟩
theorem ARs_sees {c c' : Cf} {f : Nat → Nat} (S : Sees c c' f) : ∀ (xs : List AV) {vs : List Value}, ARs c xs vs → ARs c' (rens f xs) vs
  | [], vs, e => by rw [ARs_nil_left e]; simp [ARs, rens]
  | x :: xs, vs, e => by
    obtain ⟨v, r, rfl, h1, h2⟩ := ARs_cons_left e
    simp only [rens]
    exact ARs_cons.2 ⟨AR_sees S x h1, ARs_sees S xs h2⟩
end
mutual
theorem ren_congr {f g : Nat → Nat} {k : Nat} (h : ∀ l, l < k → f l = g l) : ∀ x : AV, bd k x → ren f x = ren g x
  | .any, _ => rfl
  | .d x, _ => rfl
  | .agg cs, b => by simp only [ren, bd] at *; rw [rens_congr h cs b]
  | .tup cs, b => by simp only [ren, bd] at *; rw [rens_congr h cs b]
  | .own l, b => by simp only [ren, bd] at *; rw [h l b]
  | .ptr l o, b => by simp only [ren, bd] at *; rw [h l b]
  | .rptr l s i j, b => by simp only [ren, bd] at *; rw [h l b]
  | .eptr cs, _ => rfl
  | .mp l, b => by simp only [ren, bd] at *; rw [h l b]
  | .fn g' caps, b => by simp only [ren, bd] at *; rw [rens_congr h caps b]
  | .nil, _ => rfl
  | .raw _, _ => rfl
  | .osl l s i j, b => by simp only [ren, bd] at *; rw [h l b]
theorem rens_congr {f g : Nat → Nat} {k : Nat} (h : ∀ l, l < k → f l = g l) : ∀ xs : List AV, bds k xs → rens f xs = rens g xs
  | [], _ => rfl
  | x :: xs, b => by simp only [rens, bds] at *; rw [ren_congr h x b.1, rens_congr h xs b.2]
end
theorem dv_ren (f : Nat → Nat) (b : Bool) (ds : List D) : ren f (dv b ds) = dv b ds := by
  cases b with
  | false => simp [dv, ren]
  | true =>
    simp only [dv, if_true, ren]
    congr 1
    induction ds with
    | nil => rfl
    | cons d ds ih => simp [rens, ren, ih]
theorem Ents_sees {c c' : Cf} {f : Nat → Nat} (S : Sees c c' f) {ka va : Bool} : ∀ {es : List (List D × List D)} {ms : List MapEntry}, Ents c ka va es ms → Ents c' ka va es ms
  | [], [], _ => by simp [Ents]
  | (k, v) :: es, m :: ms, r => by
    simp only [Ents] at r ⊢
    refine ⟨?_, ?_, Ents_sees S r.2.2⟩
    · have := AR_sees S _ r.1; rwa [dv_ren] at this
    · have := AR_sees S _ r.2.1; rwa [dv_ren] at this
  | [], _ :: _, r => by simp [Ents] at r
  | _ :: _, [], r => by simp [Ents] at r
theorem ObjOk_sees {c c' : Cf} {f : Nat → Nat} (S : Sees c c' f) {l : Nat} (hl : l < c.n) {o : AObj} (h : ObjOk c l o) : ObjOk c' (f l) (renO f o) := by
  have hν := S.ν l hl
  have hu := S.u l hl
  cases o with
  | gone => trivial
  | cells cs => obtain ⟨vs, ty, e1, e2⟩ := h; exact ⟨vs, ty, by rw [S.w, hν]; exact e1, ARs_sees S cs e2⟩
  | row sz es =>
    rcases h with ⟨e1, A, e2⟩ | ⟨cap, vs, ty, e0, e1, e2, e3, e4, e5, e6⟩
    · exact .inl ⟨e1, A, by rw [hu]; exact e2⟩
    · exact .inr ⟨cap, vs, ty, e0, by rw [hu, hν]; exact e1, e2, by rw [S.w, hν]; exact e3, e4, e5, by rw [S.h]; exact e6⟩
  | map ka va es => obtain ⟨ms, ck, e1, e2⟩ := h; exact ⟨ms, ck, by rw [S.w, hν]; exact e1, Ents_sees S e2⟩
  | iter s pos => simp only [ObjOk, renO] at h ⊢; rw [S.w, hν]; exact h
  | obj b o => exact ⟨hν.trans h.1, by rw [S.w]; exact h.2⟩
  | vec sz es =>
    rcases h with ⟨e1, A, e2⟩ | ⟨cap, vs, ty, e0, e1, e2, e3, e4, e5, e6⟩
    · exact .inl ⟨renss_nil.2 e1, A, by rw [hu]; exact e2⟩
    · exact .inr ⟨cap, vs, ty, e0, by rw [hu, hν, renss_len]; exact e1, by rw [renss_len]; exact e2, by rw [S.w, hν]; exact e3, e4, (renss_all f).2 e5, by rw [renss_flat, renss_len]; exact ARs_sees S _ e6⟩
theorem Has_renO {c c' : Cf} {f : Nat → Nat} {l : Nat} (hu : c'.u (f l) = c.u l) {o : AObj} : Has c' (f l) (renO f o) ↔ Has c l o := by cases o <;> simp [Has, renO, hu]

/-! ### what the caller hands over, and what it gets back -/
def at0 (ls : List Nat) (i : Nat) : Nat := ls.getD i 0
def obs (σ : List AObj) : List Nat → List AObj
  | [] => []
  | l :: ls => ob σ l :: obs σ ls
def setAll (σ : List AObj) : List Nat → List AObj → List AObj
  | l :: ls, o :: os => setAll (so σ l o) ls os
  | _, _ => σ
def mapO (f : Nat → Nat) : List AObj → List AObj
  | [] => []
  | o :: os => renO f o :: mapO f os
def bdOs (k : Nat) : List AObj → Prop
  | [] => True
  | o :: os => bdO k o ∧ bdOs k os
/-- the caller's blocks behind a call that was handed those of ls -/
def back (σ : List AObj) (ls : List Nat) (τ : List AObj) : List AObj :=
  setAll σ ls (mapO (rn ls σ.length) (τ.take ls.length)) ++ mapO (rn ls σ.length) (τ.drop ls.length)
theorem mapO_get (f : Nat → Nat) : ∀ (os : List AObj) (i : Nat), (mapO f os)[i]? = (os[i]?).map (renO f)
  | [], i => by simp [mapO]
  | o :: os, 0 => by simp [mapO]
  | o :: os, i + 1 => by simp [mapO, mapO_get f os i]
theorem mapO_length (f : Nat → Nat) : ∀ (os : List AObj), (mapO f os).length = os.length
  | [] => rfl
  | o :: os => by simp [mapO, mapO_length f os]
theorem setAll_length : ∀ (ls : List Nat) (os : List AObj) (σ : List AObj), (setAll σ ls os).length = σ.length
  | [], _, _ => by simp [setAll]
  | _ :: _, [], _ => by simp [setAll]
  | l :: ls, o :: os, σ => by rw [setAll, setAll_length ls os]; simp [so_eq]
theorem setAll_other : ∀ (ls : List Nat) (os : List AObj) (σ : List AObj) (l : Nat), l ∉ ls → (setAll σ ls os)[l]? = σ[l]?
  | [], _, _, _, _ => by simp [setAll]
  | _ :: _, [], _, _, _ => by simp [setAll]
  | k :: ls, o :: os, σ, l, h => by
    simp only [List.mem_cons, not_or] at h
    rw [setAll, setAll_other ls os _ l h.2, so_eq, List.getElem?_set, if_neg (fun e => h.1 e.symm)]
theorem setAll_at : ∀ (ls : List Nat) (os : List AObj) (σ : List AObj) (i : Nat) (o : AObj), ls.Nodup → (∀ l ∈ ls, l < σ.length) → i < ls.length → os[i]? = some o → (setAll σ ls os)[at0 ls i]? = some o
  | [], _, _, i, _, _, _, h, _ => by simp at h
  | _ :: _, [], _, i, _, _, _, _, h => by simp at h
  | k :: ls, o :: os, σ, 0, o', hn, hl, _, h => by
    simp at h; subst h
    simp only [List.nodup_cons] at hn
    simp only [at0, List.getD_cons_zero]
    rw [setAll, setAll_other ls os _ k hn.1, so_eq, List.getElem?_set, if_pos rfl, if_pos (hl k (by simp))]
  | k :: ls, o :: os, σ, i + 1, o', hn, hl, hi, h => by
    simp only [List.nodup_cons] at hn
    have := setAll_at ls os (so σ k o) i o' hn.2 (fun l hl' => by rw [so_eq]; simpa using hl l (by simp [hl'])) (by simpa using hi) (by simpa using h)
    simpa [setAll, at0] using this
theorem obs_get {σ : List AObj} : ∀ (ls : List Nat) (i : Nat), i < ls.length → (obs σ ls)[i]? = some (ob σ (at0 ls i))
  | [], i, h => by simp at h
  | l :: ls, 0, _ => by simp [obs, at0]
  | l :: ls, i + 1, h => by have := obs_get (σ := σ) ls i (by simpa using h); simpa [obs, at0] using this
theorem obs_length {σ : List AObj} : ∀ (ls : List Nat), (obs σ ls).length = ls.length
  | [] => rfl
  | l :: ls => by simp [obs, obs_length ls]
theorem at0_mem {ls : List Nat} {i : Nat} (h : i < ls.length) : at0 ls i ∈ ls := by simp [at0, h]
theorem at0_inj {ls : List Nat} (hn : ls.Nodup) {i j : Nat} (hi : i < ls.length) (hj : j < ls.length) (h : at0 ls i = at0 ls j) : i = j := by
  simp [at0, hi, hj] at h
  have hp := List.pairwise_iff_getElem.1 hn
  rcases Nat.lt_trichotomy i j with q | q | q
  · exact absurd h (hp i j hi hj q)
  · exact q
  · exact absurd h.symm (hp j i hj hi q)
theorem bdO_via {c : Cf} {f : Nat → Nat} {k : Nat} {l : Nat} {o : AObj} (hb : bdO k o) (h : ObjOk c (f l) (renO f o)) : ObjOk (c.via f k) l o := by
  cases o with
  | gone => trivial
  | cells cs => obtain ⟨vs, ty, e1, e2⟩ := h; exact ⟨vs, ty, e1, ARs_via cs hb e2⟩
  | row sz es => exact h
  | map ka va es =>
    obtain ⟨ms, ck, e1, e2⟩ := h
    refine ⟨ms, ck, e1, ?_⟩
    have : ∀ {es : List (List D × List D)} {ms : List MapEntry}, Ents c ka va es ms → Ents (c.via f k) ka va es ms := by
      intro es
      induction es with
      | nil => intro ms r; cases ms <;> simp_all [Ents]
      | cons x es ih =>
        intro ms r
        obtain ⟨k1, v1⟩ := x
        cases ms with
        | nil => simp [Ents] at r
        | cons m ms =>
          simp only [Ents] at r ⊢
          have bdv : ∀ (b : Bool) (ds : List D), bd k (dv b ds) := fun b ds => by
            cases b with
            | false => simp [dv, bd]
            | true =>
              simp only [dv, if_true, bd]
              induction ds with
              | nil => trivial
              | cons d ds ih => exact ⟨by simp [bd], ih⟩
          exact ⟨AR_via _ (bdv _ _) (by rw [dv_ren]; exact r.1), AR_via _ (bdv _ _) (by rw [dv_ren]; exact r.2.1), ih r.2.2⟩
    exact this e2
  | iter s pos => exact h
  | obj b o => exact h
  | vec sz es =>
    rcases h with ⟨e1, A, e2⟩ | ⟨cap, vs, ty, e0, e1, e2, e3, e4, e5, e6⟩
    · exact .inl ⟨renss_nil.1 e1, A, e2⟩
    · rw [renss_len] at e1 e2 e6
      rw [renss_flat] at e6
      exact .inr ⟨cap, vs, ty, e0, e1, e2, e3, e4, (renss_all f).1 e5, ARs_via _ (bdss_flat hb) e6⟩
theorem bdOs_get {k : Nat} : ∀ {os : List AObj} {i : Nat} {o : AObj}, bdOs k os → os[i]? = some o → bdO k o
  | [], i, o, _, h => by simp at h
  | x :: xs, 0, o, b, h => by simp at h; subst h; exact b.1
  | x :: xs, i + 1, o, b, h => by simp at h; exact bdOs_get b.2 h

/-- THE CALL: in the callee's eyes, and back in the caller's. -/
theorem call_frame {c : Cf} {σ σ0 σ1 : List AObj} {ls : List Nat} (H : Holds c σ) (hn : ls.Nodup) (hl : ∀ l ∈ ls, l < σ.length) (hs : obs σ ls = mapO (at0 ls) σ0) (hb : bdOs ls.length σ0) :
    Holds (c.via (at0 ls) ls.length) σ0 ∧ ∀ c1 : Cf, Nxt (c.via (at0 ls) ls.length) σ0 c1 σ1 →
      ∃ c2 : Cf, c2.w = c1.w ∧ Sees c1 c2 (rn ls σ.length) ∧ Nxt c σ c2 (back σ ls σ1) := by
  have hlen0 : σ0.length = ls.length := by
    have := congrArg List.length hs
    rw [obs_length, mapO_length] at this
    exact this.symm
  have hget : ∀ i o, σ0[i]? = some o → i < ls.length ∧ ob σ (at0 ls i) = renO (at0 ls) o := fun i o h => by
    have hi : i < ls.length := by rw [← hlen0]; exact some_lt h
    refine ⟨hi, ?_⟩
    have h1 := obs_get (σ := σ) ls i hi
    rw [hs, mapO_get, h] at h1
    simpa using h1.symm
  have hlt : ∀ i, i < ls.length → at0 ls i < σ.length := fun i hi => hl _ (at0_mem hi)
  have hsome : ∀ i o, σ0[i]? = some o → σ[at0 ls i]? = some (renO (at0 ls) o) := fun i o h => by
    obtain ⟨hi, e⟩ := hget i o h
    rw [ob_eq] at e
    have := hlt i hi
    rw [List.getElem?_eq_getElem this] at e ⊢
    simpa using e
  have hhas : ∀ i o, Has (c.via (at0 ls) ls.length) i o ↔ Has c (at0 ls i) (renO (at0 ls) o) := fun i o => by
    cases o <;> simp [Has, renO, Cf.via]
  have H0 : Holds (c.via (at0 ls) ls.length) σ0 := by
    refine ⟨hlen0.symm, H.snap, ?_, ?_, ?_, ?_⟩
    · intro i o h
      exact bdO_via (bdOs_get hb h) (H.obj _ _ (hsome i o h))
    · intro i o j o' h h' g g' hne
      exact H.sep _ _ _ _ (hsome i o h) (hsome j o' h') ((hhas i o).1 g) ((hhas j o').1 g') (fun e => hne (at0_inj hn (hget i o h).1 (hget j o' h').1 e))
    · intro i o h g k
      exact H.apart _ _ (hsome i o h) ((hhas i o).1 g) k
    · intro i o h g
      exact H.lt _ _ (hsome i o h) ((hhas i o).1 g)
  refine ⟨H0, fun c1 N => ?_⟩
  have hn1 : c1.n = σ1.length := N.hold.n
  have hk1 : ls.length ≤ σ1.length := by rw [← hn1]; exact N.le.n
  have hcn : c.n = σ.length := H.n
  let c2 : Cf := { w := c1.w, h := c1.h, n := σ.length + (σ1.length - ls.length), ν := fun l => if l < σ.length then c.ν l else c1.ν (l - σ.length + ls.length), u := fun l => if l < σ.length then c.u l else c1.u (l - σ.length + ls.length) }
  have hνlow : ∀ i, i < ls.length → c1.ν i = c.ν (at0 ls i) := fun i hi => N.le.ν i hi
  have hulow : ∀ i, i < ls.length → c1.u i = c.u (at0 ls i) := fun i hi => N.le.u i hi
  have S : Sees c1 c2 (rn ls σ.length) := by
    refine ⟨rfl, rfl, fun l hl1 => ?_, fun l hl1 => ?_, fun l hl1 => ?_⟩
    · rw [hn1] at hl1
      show rn ls σ.length l < σ.length + (σ1.length - ls.length)
      unfold rn
      split
      · next q => have := hlt l q; unfold at0 at this; omega
      · omega
    · rw [hn1] at hl1
      show (if rn ls σ.length l < σ.length then c.ν (rn ls σ.length l) else c1.ν (rn ls σ.length l - σ.length + ls.length)) = c1.ν l
      unfold rn
      by_cases q : l < ls.length
      · have := hlt l q
        unfold at0 at this
        simp only [q, if_true, this]
        exact (hνlow l q).symm
      · simp only [q, if_false]
        rw [if_neg (by omega)]
        congr 1; omega
    · rw [hn1] at hl1
      show (if rn ls σ.length l < σ.length then c.u (rn ls σ.length l) else c1.u (rn ls σ.length l - σ.length + ls.length)) = c1.u l
      unfold rn
      by_cases q : l < ls.length
      · have := hlt l q
        unfold at0 at this
        simp only [q, if_true, this]
        exact (hulow l q).symm
      · simp only [q, if_false]
        rw [if_neg (by omega)]
        congr 1; omega
  have le2 : c.Le c2 := by
    refine ⟨N.le.h, ?_, fun l hl1 => ?_, fun l hl1 => ?_⟩
    · show c.n ≤ σ.length + _; omega
    · show (if l < σ.length then c.ν l else _) = _; rw [if_pos (by omega)]
    · show (if l < σ.length then c.u l else _) = _; rw [if_pos (by omega)]
  -- each block of the caller's, behind the call: untouched, or one of the callee's
  have split : ∀ l o, (back σ ls σ1)[l]? = some o → (l ∉ ls ∧ l < σ.length ∧ σ[l]? = some o) ∨ ∃ i o', i < c1.n ∧ l = rn ls σ.length i ∧ σ1[i]? = some o' ∧ o = renO (rn ls σ.length) o' := fun l o h => by
    unfold back at h
    rcases Nat.lt_or_ge l σ.length with q | q
    · rw [List.getElem?_append_left (by rw [setAll_length]; exact q)] at h
      by_cases hm : l ∈ ls
      · obtain ⟨i, hi, e⟩ := List.getElem_of_mem hm
        have hat : at0 ls i = l := by simp [at0, hi, e]
        have hi1 : i < σ1.length := by omega
        have := setAll_at ls (mapO (rn ls σ.length) (σ1.take ls.length)) σ i (renO (rn ls σ.length) σ1[i]) hn hl hi (by rw [mapO_get, List.getElem?_take, if_pos hi, List.getElem?_eq_getElem hi1]; rfl)
        rw [hat, h] at this
        refine .inr ⟨i, σ1[i], by omega, by simp [rn, hi]; exact e.symm, by simp [hi1], by simpa using this⟩
      · rw [setAll_other _ _ _ _ hm] at h; exact .inl ⟨hm, q, h⟩
    · rw [List.getElem?_append_right (by rw [setAll_length]; exact q), setAll_length, mapO_get, List.getElem?_drop] at h
      cases e : σ1[ls.length + (l - σ.length)]? with
      | none => rw [e] at h; simp at h
      | some o' =>
        rw [e] at h
        simp at h
        have := some_lt e
        exact .inr ⟨ls.length + (l - σ.length), o', by omega, by unfold rn; rw [if_neg (by omega)]; omega, e, h.symm⟩
  have has2 : ∀ i o', i < c1.n → (Has c2 (rn ls σ.length i) (renO (rn ls σ.length) o') ↔ Has c1 i o') := fun i o' hi => Has_renO (S.u i hi)
  have hasU : ∀ l o, l < σ.length → (Has c2 l o ↔ Has c l o) := fun l o hl1 => Has.congr (le2.u l (by omega))
  have fpvia : ∀ b, Fp (c.via (at0 ls) ls.length) σ0 b → ∃ l o, l ∈ ls ∧ σ[l]? = some o ∧ Has c l o ∧ c.ν l = b := fun b ⟨i, o, h, g, e⟩ =>
    ⟨at0 ls i, _, at0_mem (hget i o h).1, hsome i o h, (hhas i o).1 g, e⟩
  have untouched : ∀ l o, l ∉ ls → σ[l]? = some o → Has c l o → ¬ Fp (c.via (at0 ls) ls.length) σ0 (c.ν l) := fun l o hm h g hf => by
    obtain ⟨l', o', hm', h', g', e⟩ := fpvia _ hf
    exact H.sep l o l' o' h h' g g' (fun q => hm (q ▸ hm')) e.symm
  refine ⟨c2, rfl, S, le2, ⟨?_, N.hold.snap, ?_, ?_, ?_, ?_⟩, N.os, N.tape, N.output, N.size, ?_, ?_, ?_⟩
  · show σ.length + (σ1.length - ls.length) = (back σ ls σ1).length
    simp [back, setAll_length, mapO_length]
  · intro l o h
    rcases split l o h with ⟨hm, hl1, e⟩ | ⟨i, o', hi, rfl, e, rfl⟩
    · exact ObjOk.mono le2 (by omega) (fun g => N.kept _ (H.lt l o e g) (untouched l o hm e g)) (H.obj l o e)
    · exact ObjOk_sees S hi (N.hold.obj i o' e)
  · intro l o l' o' h h' g g' hne
    rcases split l o h with ⟨hm, hl1, e⟩ | ⟨i, p, hi, rfl, e, rfl⟩
    · have g1 := (hasU l o hl1).1 g
      rcases split l' o' h' with ⟨hm', hl1', e'⟩ | ⟨i', p', hi', rfl, e', rfl⟩
      · have g1' := (hasU l' o' hl1').1 g'
        rw [le2.ν l (by omega), le2.ν l' (by omega)]; exact H.sep l o l' o' e e' g1 g1' hne
      · rw [le2.ν l (by omega), S.ν i' hi']
        intro q
        rcases N.fp (c1.ν i') ⟨i', p', e', (has2 i' p' hi').1 g', rfl⟩ with r | r
        · rw [← q] at r; exact untouched l o hm e g1 r
        · have := H.lt l o e g1; rw [q] at this; exact absurd r (Nat.not_le_of_lt this)
    · rcases split l' o' h' with ⟨hm', hl1', e'⟩ | ⟨i', p', hi', rfl, e', rfl⟩
      · have g1' := (hasU l' o' hl1').1 g'
        rw [le2.ν l' (by omega), S.ν i hi]
        intro q
        rcases N.fp (c1.ν i) ⟨i, p, e, (has2 i p hi).1 g, rfl⟩ with r | r
        · rw [q] at r; exact untouched l' o' hm' e' g1' r
        · have := H.lt l' o' e' g1'; rw [← q] at this; exact absurd r (Nat.not_le_of_lt this)
      · rw [S.ν i hi, S.ν i' hi']
        exact N.hold.sep i p i' p' e e' ((has2 i p hi).1 g) ((has2 i' p' hi').1 g') (fun q => hne (by rw [q]))
  · intro l o h g k
    rcases split l o h with ⟨hm, hl1, e⟩ | ⟨i, p, hi, rfl, e, rfl⟩
    · have g1 := (hasU l o hl1).1 g
      rw [le2.ν l (by omega)]
      show c1.h (c.ν l) k = none
      by_cases q : c1.h (c.ν l) k = c.h (c.ν l) k
      · rw [q]; exact H.apart l o e g1 k
      · exfalso
        rcases N.hn (c.ν l) k q with r | r
        · exact untouched l o hm e g1 r
        · have := H.lt l o e g1; exact absurd r (Nat.not_le_of_lt this)
    · rw [S.ν i hi]; exact N.hold.apart i p e ((has2 i p hi).1 g) k
  · intro l o h g
    rcases split l o h with ⟨hm, hl1, e⟩ | ⟨i, p, hi, rfl, e, rfl⟩
    · rw [le2.ν l (by omega)]
      exact Nat.lt_of_lt_of_le (H.lt l o e ((hasU l o hl1).1 g)) N.size
    · rw [S.ν i hi]; exact N.hold.lt i p e ((has2 i p hi).1 g)
  · intro b hb1 hf
    refine N.kept b hb1 fun q => hf ?_
    obtain ⟨l, o, _, h, g, e⟩ := fpvia b q
    exact ⟨l, o, h, g, e⟩
  · rintro b ⟨l, o, h, g, rfl⟩
    rcases split l o h with ⟨hm, hl1, e⟩ | ⟨i, p, hi, rfl, e, rfl⟩
    · rw [le2.ν l (by omega)]; exact .inl ⟨l, o, e, (hasU l o hl1).1 g, rfl⟩
    · rw [S.ν i hi]
      rcases N.fp _ ⟨i, p, e, (has2 i p hi).1 g, rfl⟩ with r | r
      · obtain ⟨l, o, _, h, g, e⟩ := fpvia _ r; exact .inl ⟨l, o, h, g, e⟩
      · exact .inr r
  · intro b k hbk
    rcases N.hn b k hbk with r | r
    · obtain ⟨l, o, _, h, g, e⟩ := fpvia b r; exact .inl ⟨l, o, h, g, e⟩
    · exact .inr r
end Go.AX
/- AX, part R: the evaluator, and that it is sound. -/
set_option linter.unusedVariables false
set_option linter.unusedSimpArgs false
namespace Go.AX

/-- what was known, said with less (or with other labels from n0 on) -/
def Wk (n0 : Nat) (xs : List AV) (σ : List AObj) (ys : List AV) (τ : List AObj) : Prop :=
  ∀ (c : Cf) (vs : List Value), Holds c σ → n0 ≤ c.n → ARs c xs vs → ∃ c' : Cf, c'.w = c.w ∧ n0 ≤ c'.n ∧ (∀ l, l < n0 → c'.ν l = c.ν l ∧ c'.u l = c.u l) ∧
    (∀ b o v, c.h b o = some v → c'.h b o = some v) ∧ Holds c' τ ∧ ARs c' ys vs ∧ (∀ b, Fp c' τ b → Fp c σ b) ∧ (∀ b o, c'.h b o ≠ c.h b o → Fp c σ b)
theorem Wk.refl (n0 : Nat) (xs : List AV) (σ : List AObj) : Wk n0 xs σ xs σ :=
  fun c vs H hn h => ⟨c, rfl, hn, fun _ _ => ⟨rfl, rfl⟩, fun _ _ _ h => h, H, h, fun _ h => h, fun _ _ h => absurd rfl h⟩
theorem Wk.trans {n0 : Nat} {xs ys zs : List AV} {σ τ ρ : List AObj} (h : Wk n0 xs σ ys τ) (k : Wk n0 ys τ zs ρ) : Wk n0 xs σ zs ρ := fun c vs H hn hx => by
  obtain ⟨c1, w1, n1, l1, m1, H1, a1, f1, g1⟩ := h c vs H hn hx
  obtain ⟨c2, w2, n2, l2, m2, H2, a2, f2, g2⟩ := k c1 vs H1 n1 a1
  refine ⟨c2, w2.trans w1, n2, fun l hl => ⟨(l2 l hl).1.trans (l1 l hl).1, (l2 l hl).2.trans (l1 l hl).2⟩, fun b o v e => m2 _ _ _ (m1 _ _ _ e), H2, a2, fun b hb => f1 b (f2 b hb), fun b o hb => ?_⟩
  by_cases e : c1.h b o = c.h b o
  · exact f1 b (g2 b o (by rw [e]; exact hb))
  · exact g1 b o e
theorem Wk.nxt {c0 c : Cf} {σ0 σ τ : List AObj} {xs ys : List AV} {vs : List Value} (h : Wk c0.n xs σ ys τ) (N : Nxt c0 σ0 c σ) (hx : ARs c xs vs) : ∃ c' : Cf, c'.w = c.w ∧ Nxt c0 σ0 c' τ ∧ ARs c' ys vs := by
  obtain ⟨c', w1, n1, l1, m1, H1, a1, f1, g1⟩ := h c vs N.hold N.le.n hx
  refine ⟨c', w1, ⟨⟨fun b o v e => m1 _ _ _ (N.le.h _ _ _ e), n1, fun l hl => (l1 l hl).1.trans (N.le.ν l hl), fun l hl => (l1 l hl).2.trans (N.le.u l hl)⟩, H1, by rw [w1]; exact N.os, by rw [w1]; exact N.tape, by rw [w1]; exact N.output, by rw [w1]; exact N.size, fun b hb hf => by rw [w1]; exact N.kept b hb hf, fun b hb => N.fp b (f1 b hb), fun b o hb => ?_⟩, a1⟩
  by_cases e : c'.h b o = c.h b o
  · exact N.hn b o (by rw [← e]; exact hb)
  · exact N.fp b (g1 b o e)

theorem Wk.nxtF {c0 c : Cf} {σ0 σ τ : List AObj} {xs ys : List AV} {vs : List Value} (h : Wk c0.n xs σ ys τ) (N : Nxt c0 σ0 c σ) (hx : ARs c xs vs) : ∃ c' : Cf, c'.w = c.w ∧ Nxt c0 σ0 c' τ ∧ ARs c' ys vs ∧ ∀ b, Fp c' τ b → Fp c σ b := by
  obtain ⟨c', w1, n1, l1, m1, H1, a1, f1, g1⟩ := h c vs N.hold N.le.n hx
  refine ⟨c', w1, ⟨⟨fun b o v e => m1 _ _ _ (N.le.h _ _ _ e), n1, fun l hl => (l1 l hl).1.trans (N.le.ν l hl), fun l hl => (l1 l hl).2.trans (N.le.u l hl)⟩, H1, by rw [w1]; exact N.os, by rw [w1]; exact N.tape, by rw [w1]; exact N.output, by rw [w1]; exact N.size, fun b hb hf => by rw [w1]; exact N.kept b hb hf, fun b hb => N.fp b (f1 b hb), fun b o hb => ?_⟩, a1, f1⟩
  by_cases e : c'.h b o = c.h b o
  · exact N.hn b o (by rw [← e]; exact hb)
  · exact N.fp b (g1 b o e)

/-! ### the marks of ranges over functions that have ended -/
def mark (b : Nat) : Deferred := { target := .collected b, args := #[] }
def DOk (c0 c : Cf) (σ : List AObj) (ds : List Deferred) : Prop :=
  ∃ bs : List Nat, ds = bs.map mark ∧ bs.Nodup ∧ ∀ b ∈ bs, c0.w.heap.size ≤ b ∧ c.w.heap[b]? = some (.deferred (some [])) ∧ ¬ Fp c σ b
theorem DOk.nil {c0 c : Cf} {σ : List AObj} : DOk c0 c σ [] := ⟨[], rfl, .nil, fun _ h => by cases h⟩
theorem DOk.nxt {c0 c c' : Cf} {σ σ' : List AObj} {ds : List Deferred} (N : Nxt c σ c' σ') (h : DOk c0 c σ ds) : DOk c0 c' σ' ds := by
  obtain ⟨bs, e, hn, hb⟩ := h
  refine ⟨bs, e, hn, fun b hm => ?_⟩
  obtain ⟨h1, h2, h3⟩ := hb b hm
  have hlt : b < c.w.heap.size := (Array.getElem?_eq_some_iff.1 h2).1
  refine ⟨h1, (N.kept b hlt h3).trans h2, fun q => ?_⟩
  rcases N.fp b q with q | q
  · exact h3 q
  · omega
theorem DOk.same {c0 c c' : Cf} {σ σ' : List AObj} {ds : List Deferred} (hw : c'.w = c.w) (hf : ∀ b, Fp c' σ' b → Fp c σ b) (h : DOk c0 c σ ds) : DOk c0 c' σ' ds := by
  obtain ⟨bs, e, hn, hb⟩ := h
  refine ⟨bs, e, hn, fun b hm => ?_⟩
  obtain ⟨h1, h2, h3⟩ := hb b hm
  exact ⟨h1, by rw [hw]; exact h2, fun q => h3 (hf b q)⟩

structure Good (c0 : Cf) (σ0 : List AObj) (c : Cf) (env : List AV) (σ : List AObj) (a : Act) : Prop where
  nxt : Nxt c0 σ0 c σ
  env : ARs c env a.tmps.toList
  defers : DOk c0 c σ a.defers
theorem Good.wk {c0 c : Cf} {σ0 σ σ' : List AObj} {env env' : List AV} {a : Act} (w : Wk c0.n env σ env' σ') (G : Good c0 σ0 c env σ a) : ∃ c', c'.w = c.w ∧ Good c0 σ0 c' env' σ' a := by
  obtain ⟨c', w1, N, he, f⟩ := w.nxtF G.nxt G.env
  exact ⟨c', w1, N, he, G.defers.same w1 f⟩
theorem Good.nx {c0 c c' : Cf} {σ0 σ σ' : List AObj} {env : List AV} {a : Act} (G : Good c0 σ0 c env σ a) (N : Nxt c σ c' σ') : Good c0 σ0 c' env σ' a :=
  ⟨G.nxt.trans N, ARs.mono N.le _ G.env, G.defers.nxt N⟩

/-- wide open, in a round's frame or not -/
def FW (ro : Option Nat) : Fence := { Fence.wide with round := ro }
theorem FW_depth {ro : Option Nat} {n : Nat} : (FW ro).depth.isSome = true → 1 ≤ n := fun h => by simp [FW, Fence.wide] at h
theorem callsIn_FW {ro : Option Nat} {n : Nat} {P : Program} {f : FuncId} {args : Array Value} {w : World} {R : Ending → World → Prop} (h : Calls P f args w R) : CallsIn (FW ro) n P f args w R :=
  (callsIn_wide (n := n)).2 h

abbrev YRel := Nat → List AV → List AObj → (AV → List AObj → Prop) → Prop
structure Ctx where
  P : Program
  n0 : Nat
  res : List ResultVar
  post : AV → List AObj → Prop
  ro : Option Nat
  jret : Option (List AV → List AObj → Prop)
  jex : Nat → List AV → List AObj → Prop
  Y : YRel
/-- what a call of yield does -/
def YOk (P : Program) (Y : YRel) (c0 : Cf) (σ0 : List AObj) : Prop :=
  ∀ b xs σ K, Y b xs σ K → ∀ (c : Cf) (vs : Array Value), Nxt c0 σ0 c σ → ARs c xs vs.toList →
    ∃ fn tmps assign body, (Instr.yield b vs).run P c.w = .ok (.round b fn tmps assign body) c.w ∧
      RoundIn Fence.wide 0 P b fn tmps assign body c.w fun e w' => ∃ v r c' σ', c'.w = w' ∧ e = .returned v ∧ AR c' r v ∧ Nxt c σ c' σ' ∧ K r σ'
def noY : YRel := fun _ _ _ _ => False
def noJ : Nat → List AV → List AObj → Prop := fun _ _ _ => False
theorem noY_ok {P : Program} {c0 : Cf} {σ0 : List AObj} : YOk P noY c0 σ0 := fun _ _ _ _ h => h.elim

inductive It where
  | ops (l : List Oper) (all : Array Oper)
  | code (c : Code)
  | blk (id : Nat)
  | back (J : List AV → List AObj → Prop)
  | scp

def putO (env : List AV) : Option Tmp → AV → List AV
  | some d, v => st env d v
  | none, _ => env

/-- a call: by the callee's spec; before it, what is known may be weakened (a row given up) -/
inductive ECall (Γ : Ctx) (E : List AV → List AObj → Prop) (dst : Option Tmp) (f : FuncId) : List AV → List AV → List AObj → Prop where
  | mk (ls : List Nat) (args' : List AV) (σ0 : List AObj) (r : AV) (σ1 : List AObj) {env args : List AV} {σ : List AObj} (h1 : args = rens (at0 ls) args') (h2 : bds ls.length args') (h3 : ls.Nodup) (h4 : ∀ l ∈ ls, l < σ.length)
      (h5 : obs σ ls = mapO (at0 ls) σ0) (h6 : bdOs ls.length σ0) (h7 : Spec Γ.P f args' σ0 r σ1) (h8 : E (putO env dst (ren (rn ls σ.length) r)) (back σ ls σ1)) : ECall Γ E dst f env args σ
  | all (r : AV) (σ1 : List AObj) {env args : List AV} {σ : List AObj} (h7 : Spec Γ.P f args σ r σ1) (h8 : E (putO env dst r) σ1) : ECall Γ E dst f env args σ
  | wk {env args env' args' : List AV} {σ σ' : List AObj} (h1 : args'.length = args.length) (h2 : Wk Γ.n0 (args ++ env) σ (args' ++ env') σ') (h3 : ECall Γ E dst f env' args' σ') : ECall Γ E dst f env args σ

def fin (Γ : Ctx) (E : List AV → List AObj → Prop) (dst : Option Tmp) (env : List AV) (σ : List AObj) : R1 → Prop
  | .to v σ' => E (putO env dst v) σ'
  | .need p r => p ∧ fin Γ E dst env σ r
  | .all es i k => ∀ e, es[i]? = some e → fin Γ E dst env σ (k e)
  | .ite t x y => (t = true → fin Γ E dst env σ x) ∧ (t = false → fin Γ E dst env σ y)
  | .call f args => ECall Γ E dst f env args σ
  | .ex p k => ∀ b, p b → fin Γ E dst env σ (k b)
  | .yld b xs => Γ.Y b xs σ fun r σ' => E (putO env dst r) σ'
  | .bad => False

/-- an operation under a guard -/
def evGb (Γ : Ctx) (E : List AV → List AObj → Prop) (o : Oper) (d : Tmp) (env : List AV) (σ : List AObj) : Bool → Bool → Prop
  | true, true => fin Γ E o.dst (st env d (.d (.bool true))) σ (evOp Γ.P (st env d (.d (.bool true))) σ o.op)
  | false, false => fin Γ E o.dst (st env d (.d (.bool false))) σ (evOp Γ.P (st env d (.d (.bool false))) σ o.op)
  | true, false => E (putO (st env d (.d (.bool true))) o.dst (.tup [])) σ
  | false, true => E (putO (st env d (.d (.bool false))) o.dst (.tup [])) σ
def evG1 (Γ : Ctx) (E : List AV → List AObj → Prop) (o : Oper) (want : Bool) (d : Tmp) (env : List AV) (σ : List AObj) : AV → Prop
  | .d (.bool b) => evGb Γ E o d env σ b want
  | .tup _ => E (putO env o.dst (.tup [])) σ
  | _ => False
def evG (Γ : Ctx) (E : List AV → List AObj → Prop) (o : Oper) (want : Bool) (env : List AV) (σ : List AObj) : Option Tmp → Prop
  | some d => evG1 Γ E o want d env σ (lk env d)
  | none => False
def gslot (all : Array Oper) (j : Nat) : Option Tmp := (all[j]?).bind (·.dst)
def evOper (Γ : Ctx) (E : List AV → List AObj → Prop) (o : Oper) (all : Array Oper) (env : List AV) (σ : List AObj) : Option (Nat × Bool) → Prop
  | none => fin Γ E o.dst env σ (evOp Γ.P env σ o.op)
  | some (j, want) => evG Γ E o want env σ (gslot all j)

def resV (P : Program) (env : List AV) (σ : List AObj) : ResultVar → Option AV
  | .tmp t => some (lk env t)
  | .cell x t => match lk env x with
    | .ptr l off => match ob σ l with
      | .cells cs => match tk P t with
        | some k => ldA (drA cs off) k
        | none => none
      | _ => none
    | _ => none
def resVs (P : Program) (env : List AV) (σ : List AObj) : List ResultVar → Option (List AV)
  | [] => some []
  | r :: rs => match resV P env σ r with
    | some v => match resVs P env σ rs with
      | some vs => some (v :: vs)
      | none => none
    | none => none
def one : List AV → AV
  | [v] => v
  | vs => .tup vs
def endR (Γ : Ctx) (σ : List AObj) : Option (List AV) → Prop
  | some vs => Γ.post (one vs) σ
  | none => False
def endP (Γ : Ctx) (env : List AV) (σ : List AObj) : Prop := endR Γ σ (resVs Γ.P env σ Γ.res)

def popTo (id : Nat) : List It → Option (List It)
  | [] => none
  | .blk i :: k => if i = id then some k else popTo id k
  | _ :: k => popTo id k
def goto (X : Prop) (E : List It → List AV → List AObj → Prop) (env : List AV) (σ : List AObj) : Option (List It) → Prop
  | some k => E k env σ
  | none => X
def retP (Γ : Ctx) (env : List AV) (σ : List AObj) : Option (List AV → List AObj → Prop) → Prop
  | none => endP Γ env σ
  | some J => J env σ

/-! ### a range over a function -/
/-- a piece of a round, walked -/
def RoundOk (P : Program) (L n0 : Nat) (env : List AV) (σ : List AObj) (code : Code) (N : List AV → List AObj → Prop) (J : Code → List AV → List AObj → Prop) : Prop :=
  ∀ (c0 : Cf) (σ0 : List AObj), c0.n = n0 → ∀ (c : Cf) (a : Act), Good c0 σ0 c env σ a → code.wpIn (FW (some L)) 0 P (fun e a' w' => ∃ c' env' σ', c'.w = w' ∧ Good c0 σ0 c' env' σ' a' ∧
    match e with
    | .normal => N env' σ'
    | .ret => J .ret env' σ'
    | .exit id => J (.exit id) env' σ'
    | _ => False) a c.w
/-- an iterator's contract -/
def SpecI (P : Program) (f : FuncId) (args : List AV) (σ : List AObj) (Y : YRel) (post : List AObj → Prop) : Prop :=
  ∀ (c : Cf) (vs : Array Value), Holds c σ → ARs c args vs.toList → YOk P Y c σ → Calls P f vs c.w fun e w' => ∃ c' v σ', c'.w = w' ∧ e = .returned v ∧ post σ' ∧ Nxt c σ c' σ'
def setPs : List AV → List Tmp → List AV → List AV
  | env, p :: ps, x :: xs => setPs (st env p x) ps xs
  | env, _, _ => env
/-- the rounds: what yield is called with, and what it finds -/
def YH (L n : Nat) (ok : Nat → Prop) (args : Nat → List AV) (H : Nat → List AObj) (Sp : Code → List AObj → Prop) : YRel := fun b xs s K =>
  ∃ i, i < n ∧ ok i ∧ b = L ∧ xs = args i ∧ s = H i ∧ (ok (i + 1) → K (.d (.bool true)) (H (i + 1))) ∧ ∀ c τ, Sp c τ → K (.d (.bool false)) τ
def rcd (L : Nat) (rec : LoopState → Option Code → Loop) (st : LoopState) (j : Option Code) : AObj := .obj L (.loop (rec st j))
def ERange (Γ : Ctx) (E : List It → List AV → List AObj → Prop) (k : List It) (env : List AV) (σ : List AObj) (g : Operand) (ps : Array Tmp) (assign body : Code) : Prop :=
  Γ.ro = none ∧ ∃ gf caps, evO env g = .fn gf caps ∧ (∃ fn, Γ.P.funcs[gf]? = some fn ∧ fn.body.isNone = false ∧ (fn.name == "runtime.NumGoroutine") = false) ∧
    ∀ (L : Nat) (rec : LoopState → Option Code → Loop), ∃ (n : Nat) (ok : Nat → Prop) (args : Nat → List AV) (H : Nat → List AObj) (Sp : Code → List AObj → Prop),
      ok 0 ∧ H 0 = σ ++ [rcd L rec .ready none] ∧
      (∀ i, i < n → ok i → (args i).length = ps.size ∧ (H i)[σ.length]? = some (rcd L rec .ready none) ∧
        ∃ env1 σ1, σ1[σ.length]? = some (rcd L rec .ready none) ∧ RoundOk Γ.P L (H i).length (setPs env ps.toList (args i)) (H i) assign (fun e s => Wk (H i).length e s env1 σ1) (fun _ _ _ => False) ∧
          RoundOk Γ.P L (H i).length env1 (σ1.set σ.length (rcd L rec .busy none)) body
            (fun e s => ∃ e' s', Wk (H i).length e s e' s' ∧ s'[σ.length]? = some (rcd L rec .busy none) ∧ s'.set σ.length (rcd L rec .ready none) = H (i + 1) ∧ ok (i + 1))
            (fun c e s => ∃ e' s', Wk (H i).length e s e' s' ∧ s'[σ.length]? = some (rcd L rec .busy none) ∧ Sp c (s'.set σ.length (rcd L rec .done (some c))))) ∧
      SpecI Γ.P gf (.raw (.func (.yield L) #[] #[]) :: caps) (H 0) (YH L n ok args H Sp) (fun s => (s = H n ∧ ok n) ∨ ∃ c, Sp c s) ∧
      (ok n → (H n)[σ.length]? = some (rcd L rec .ready none) ∧ E k env ((H n).set σ.length .gone)) ∧
      ∀ c s, Sp c s → s[σ.length]? = some (rcd L rec .done (some c)) ∧ E (.code c :: k) env (s.set σ.length .gone)

def ELoop (Γ : Ctx) (E : List It → List AV → List AObj → Prop) (b : Code) (k : List It) (env : List AV) (σ : List AObj) : Prop :=
  ∃ I : Nat → List AV → List AObj → Prop, (∃ m env' σ', Wk Γ.n0 env σ env' σ' ∧ I m env' σ') ∧
    ∀ m env σ, I m env σ → E (.code b :: .back (fun env σ => ∃ m', m' < m ∧ ∃ env' σ', Wk Γ.n0 env σ env' σ' ∧ I m' env' σ') :: k) env σ
def evCb (E : List It → List AV → List AObj → Prop) (x y : Code) (k : List It) (d : Tmp) (env : List AV) (σ : List AObj) : Bool → Prop
  | true => E (.code x :: k) (st env d (.d (.bool true))) σ
  | false => E (.code y :: k) (st env d (.d (.bool false))) σ
def evC1 (E : List It → List AV → List AObj → Prop) (x y : Code) (k : List It) (d : Tmp) (env : List AV) (σ : List AObj) : AV → Prop
  | .d (.bool b) => evCb E x y k d env σ b
  | _ => False
def evC (E : List It → List AV → List AObj → Prop) (x y : Code) (k : List It) (env : List AV) (σ : List AObj) : Operand → Prop
  | .tmp d => evC1 E x y k d env σ (lk env d)
  | .const (.bool true) => E (.code x :: k) env σ
  | .const (.bool false) => E (.code y :: k) env σ
  | _ => False
def evCode (Γ : Ctx) (E : List It → List AV → List AObj → Prop) (D : List It → List Oper → Array Oper → List AV → List AObj → Prop) (k : List It) (env : List AV) (σ : List AObj) : Code → Prop
  | .skip => E k env σ
  | .region _ ops false => E (.ops ops.toList ops :: k) env σ
  | .region _ ops true => D k ops.toList ops env σ
  | .seq x y => E (.code x :: .code y :: k) env σ
  | .cond q x y => evC E x y k env σ q
  | .block id b => E (.code b :: .blk id :: k) env σ
  | .loop b => ELoop Γ E b k env σ
  | .exit id => goto (Γ.jex id env σ) E env σ (popTo id k)
  | .ret => retP Γ env σ Γ.jret
  | .rangeFunc g ps assign body => ERange Γ E k env σ g ps assign body
  | .label _ => E k env σ
  | .scope c => E (.code c :: .scp :: k) env σ
  | _ => False

/-- a region that draws its order: see part T -/
def Draw := Ctx → (List It → List AV → List AObj → Prop) → List It → List Oper → Array Oper → List AV → List AObj → Prop
def ev (Γ : Ctx) (D : Draw) : Nat → List It → List AV → List AObj → Prop
  | 0, _, _, _ => False
  | n + 1, k, env, σ => match k with
    | [] => endP Γ env σ
    | .ops [] _ :: k => ev Γ D n k env σ
    | .ops (o :: r) all :: k => evOper Γ (ev Γ D n (.ops r all :: k)) o all env σ o.guard
    | .code c :: k => evCode Γ (ev Γ D n) (D Γ (ev Γ D n)) k env σ c
    | .blk _ :: k => ev Γ D n k env σ
    | .back J :: _ => J env σ
    | .scp :: k => ev Γ D n k env σ
theorem ev_nil (Γ : Ctx) (D : Draw) (n : Nat) (env : List AV) (σ : List AObj) : ev Γ D (n + 1) [] env σ = endP Γ env σ := rfl
theorem ev_ops0 (Γ : Ctx) (D : Draw) (n : Nat) (all : Array Oper) (k : List It) (env : List AV) (σ : List AObj) : ev Γ D (n + 1) (.ops [] all :: k) env σ = ev Γ D n k env σ := rfl
theorem ev_ops (Γ : Ctx) (D : Draw) (n : Nat) (dst : Option Tmp) (op : Op) (ty : TypeId) (pos : String) (aft : Array Edge) (g : Option (Nat × Bool)) (r : List Oper) (all : Array Oper) (k : List It) (env : List AV) (σ : List AObj) :
    ev Γ D (n + 1) (.ops (⟨dst, op, ty, pos, aft, g⟩ :: r) all :: k) env σ = evOper Γ (ev Γ D n (.ops r all :: k)) ⟨dst, op, ty, pos, aft, g⟩ all env σ g := rfl
theorem ev_code (Γ : Ctx) (D : Draw) (n : Nat) (c : Code) (k : List It) (env : List AV) (σ : List AObj) : ev Γ D (n + 1) (.code c :: k) env σ = evCode Γ (ev Γ D n) (D Γ (ev Γ D n)) k env σ c := rfl
theorem ev_blk (Γ : Ctx) (D : Draw) (n : Nat) (id : Nat) (k : List It) (env : List AV) (σ : List AObj) : ev Γ D (n + 1) (.blk id :: k) env σ = ev Γ D n k env σ := rfl
theorem ev_scp (Γ : Ctx) (D : Draw) (n : Nat) (k : List It) (env : List AV) (σ : List AObj) : ev Γ D (n + 1) (.scp :: k) env σ = ev Γ D n k env σ := rfl
theorem ev_back (Γ : Ctx) (D : Draw) (n : Nat) (J : List AV → List AObj → Prop) (k : List It) (env : List AV) (σ : List AObj) : ev Γ D (n + 1) (.back J :: k) env σ = J env σ := rfl

section
variable {Γ : Ctx} {ro : Option Nat} {c0 : Cf} {σ0 : List AObj} {Q0 : Exit → Act → World → Prop}

def Hits (c0 : Cf) (σ0 : List AObj) (J : List AV → List AObj → Prop) (a : Act) (w : World) : Prop := ∃ c env σ, J env σ ∧ Good c0 σ0 c env σ a ∧ c.w = w
/-- what stands behind, as the machine's own condition -/
def scQ (Q : Exit → Act → World → Prop) : Exit → Act → World → Prop
  | .goto _, _, _ => False
  | e, a, w => Q e a w
def SemK (ro : Option Nat) (P : Program) (c0 : Cf) (σ0 : List AObj) (Q0 : Exit → Act → World → Prop) : List It → Exit → Act → World → Prop
  | [] => Q0
  | .ops l all :: k => fun e a w => match e with
    | .normal => wpListIn (FW ro) 0 P all (SemK ro P c0 σ0 Q0 k) l a w
    | e => SemK ro P c0 σ0 Q0 k e a w
  | .code c :: k => Exit.then (c.wpIn (FW ro) 0 P (SemK ro P c0 σ0 Q0 k)) (SemK ro P c0 σ0 Q0 k)
  | .blk id :: k => Exit.inBlock id (SemK ro P c0 σ0 Q0 k)
  | .back J :: k => Exit.then (Hits c0 σ0 J) (SemK ro P c0 σ0 Q0 k)
  | .scp :: k => scQ (SemK ro P c0 σ0 Q0 k)
/-- the ends of the function are met -/
def RetOk (Γ : Ctx) (c0 : Cf) (σ0 : List AObj) (R : Ending → World → Prop) : Prop :=
  ∀ (r : AV) (σ : List AObj) (c : Cf) (v : Value), Γ.post r σ → Nxt c0 σ0 c σ → AR c r v → R (.returned v) c.w
structure EndOk (Γ : Ctx) (c0 : Cf) (σ0 : List AObj) (Q0 : Exit → Act → World → Prop) : Prop where
  nrm : ∀ c env σ a, Good c0 σ0 c env σ a → endP Γ env σ → Q0 .normal a c.w
  ret : ∀ c env σ a, Good c0 σ0 c env σ a → retP Γ env σ Γ.jret → Q0 .ret a c.w
  ex : ∀ id c env σ a, Good c0 σ0 c env σ a → Γ.jex id env σ → Q0 (.exit id) a c.w
/-- a drawn region is sound -/
def DrawOk (D : Draw) : Prop :=
  ∀ (Γ : Ctx) (c0 : Cf) (σ0 : List AObj) (Q0 : Exit → Act → World → Prop), c0.n = Γ.n0 →
    ∀ (E : List It → List AV → List AObj → Prop), (∀ k env σ, E k env σ → ∀ c a, Good c0 σ0 c env σ a → SemK Γ.ro Γ.P c0 σ0 Q0 k .normal a c.w) →
      ∀ id k ops env σ, D Γ E k ops.toList ops env σ → ∀ c a, Good c0 σ0 c env σ a → (Code.region id ops true).wpIn (FW Γ.ro) 0 Γ.P (SemK Γ.ro Γ.P c0 σ0 Q0 k) a c.w

theorem popTo_sound {P : Program} {id : Nat} : ∀ {k k' : List It} {a : Act} {w : World}, popTo id k = some k' → SemK ro P c0 σ0 Q0 k' .normal a w → SemK ro P c0 σ0 Q0 k (.exit id) a w
  | [], _, _, _, h, _ => by simp [popTo] at h
  | .ops l all :: k, k', a, w, h, hk => by simp only [popTo] at h; simp only [SemK]; exact popTo_sound h hk
  | .code c :: k, k', a, w, h, hk => by simp only [popTo] at h; simp only [SemK, Exit.then]; exact popTo_sound h hk
  | .blk i :: k, k', a, w, h, hk => by
    simp only [popTo] at h
    simp only [SemK, Exit.inBlock]
    split at h
    · next e => simp at h; subst h; subst e; simpa using hk
    · next e => rw [if_neg (fun q => e q.symm)]; exact popTo_sound h hk
  | .back J :: k, k', a, w, h, hk => by simp only [popTo] at h; simp only [SemK, Exit.then]; exact popTo_sound h hk
  | .scp :: k, k', a, w, h, hk => by simp only [popTo] at h; simp only [SemK, scQ]; exact popTo_sound h hk
theorem exit_down {P : Program} {id : Nat} : ∀ {k : List It} {a : Act} {w : World}, popTo id k = none → Q0 (.exit id) a w → SemK ro P c0 σ0 Q0 k (.exit id) a w
  | [], _, _, _, h => h
  | .ops l all :: k, a, w, h, hk => by simp only [popTo] at h; simp only [SemK]; exact exit_down h hk
  | .code c :: k, a, w, h, hk => by simp only [popTo] at h; simp only [SemK, Exit.then]; exact exit_down h hk
  | .blk i :: k, a, w, h, hk => by
    simp only [popTo] at h
    simp only [SemK, Exit.inBlock]
    split at h
    · simp at h
    · next e => rw [if_neg (fun q => e q.symm)]; exact exit_down h hk
  | .back J :: k, a, w, h, hk => by simp only [popTo] at h; simp only [SemK, Exit.then]; exact exit_down h hk
  | .scp :: k, a, w, h, hk => by simp only [popTo] at h; simp only [SemK, scQ]; exact exit_down h hk
theorem ret_down {P : Program} : ∀ {k : List It} {a : Act} {w : World}, Q0 .ret a w → SemK ro P c0 σ0 Q0 k .ret a w
  | [], _, _, h => h
  | .ops l all :: k, a, w, h => by simp only [SemK]; exact ret_down h
  | .code c :: k, a, w, h => by simp only [SemK, Exit.then]; exact ret_down h
  | .blk i :: k, a, w, h => by simp only [SemK, Exit.inBlock]; exact ret_down h
  | .back J :: k, a, w, h => by simp only [SemK, Exit.then]; exact ret_down h
  | .scp :: k, a, w, h => by simp only [SemK, scQ]; exact ret_down h

def resF (tmps : Array Value) : ResultVar → Sem Value
  | .tmp t => pure (tmps.getD t undef)
  | .cell a t => do loadVar t (← asAddr (tmps.getD a undef))
theorem results_eq (fn : Func) (tmps : Array Value) : results fn tmps = (do let vs ← fn.results.mapM (resF tmps); pure (if h : vs.size = 1 then vs[0] else .tuple vs)) := rfl
theorem resV_sound {P : Program} {c : Cf} {σ : List AObj} {env : List AV} {a : Act} (H : Holds c σ) (he : ARs c env a.tmps.toList) {r : ResultVar} {x : AV} (h : resV P env σ r = some x) :
    ∃ v, (resF a.tmps r).run P c.w = .ok v c.w ∧ AR c x v := by
  cases r with
  | tmp t =>
    simp [resV] at h; subst h
    exact ⟨a.tmps.getD t undef, by simp [resF], by simpa [Array.getD_eq_getD_getElem?] using ARs_lk he t undef⟩
  | cell y t =>
    simp only [resV] at h
    have hy := ARs_lk he y undef
    split at h
    · next l off e1 =>
      rw [e1] at hy
      simp only [AR] at hy
      split at h
      · next cs hO =>
        split at h
        · next k hk =>
          obtain ⟨vs, ty, e2, e3⟩ := H.obj l _ (ob_some hO (by simp))
          rw [drA_eq] at h
          obtain ⟨u, h1, h2⟩ := load_cells (P := P) H (ad := ⟨c.ν l, off, none⟩) hk h (ARs_drop off e3) (fun j u hu => by
            rw [addr_add]; simp only [World.cell?, e2]; simpa [List.getElem?_drop] using hu)
          refine ⟨u, ?_, h2⟩
          have : a.tmps.getD y undef = .pointer (some ⟨c.ν l, off, none⟩) := by rw [Array.getD_eq_getD_getElem?]; simpa using hy.2
          simp only [resF, this, asAddr, Sem.run_bind, Sem.run_pure, Result.andThen_ok]
          exact h1
        · simp at h
      · simp at h
    · simp at h
theorem resVs_sound {P : Program} {c : Cf} {σ : List AObj} {env : List AV} {a : Act} (H : Holds c σ) (he : ARs c env a.tmps.toList) : ∀ {rs : List ResultVar} {xs : List AV}, resVs P env σ rs = some xs →
    ∃ vs, (rs.mapM (resF a.tmps)).run P c.w = .ok vs c.w ∧ ARs c xs vs
  | [], xs, h => by simp [resVs] at h; subst h; exact ⟨[], by simp, by simp [ARs]⟩
  | r :: rs, xs, h => by
    simp only [resVs] at h
    split at h
    · next x hx =>
      split at h
      · next ys hy =>
        simp at h; subst h
        obtain ⟨v, h1, h2⟩ := resV_sound (P := P) H he hx
        obtain ⟨vs, h3, h4⟩ := resVs_sound H he hy
        refine ⟨v :: vs, ?_, ARs_cons.2 ⟨h2, h4⟩⟩
        simp only [List.mapM_cons, Sem.run_bind, h3, h1, Result.andThen_ok, Sem.run_pure]
      · simp at h
    · simp at h
/-- the marks are shut, one after the other -/
theorem shut {P : Program} {fn : Func} {R : Ending → World → Prop} {env : List AV} {σ : List AObj} : ∀ (bs : List Nat) (c : Cf) (a : Act), bs.Nodup → (∀ b ∈ bs, c0.w.heap.size ≤ b ∧ c.w.heap[b]? = some (.deferred (some [])) ∧ ¬ Fp c σ b) → Nxt c0 σ0 c σ → ARs c env a.tmps.toList →
    (∀ c', Nxt c0 σ0 c' σ → ARs c' env a.tmps.toList → ∃ v, (results fn a.tmps).run P c'.w = .ok v c'.w ∧ R (.returned v) c'.w) → LeavesInM (FW none) 0 P fn a.tmps R (bs.map mark) .returning c.w
  | [], c, a, _, _, N, he, h => h c N he
  | b :: bs, c, a, hn, hb, N, he, h => by
    obtain ⟨h1, h2, h3⟩ := hb b (by simp)
    simp only [List.nodup_cons] at hn
    have hlt : b < c.w.heap.size := (Array.getElem?_eq_some_iff.1 h2).1
    have same : ∀ k, k ≠ b → (c.w.putObj b (.deferred none)).heap[k]? = c.w.heap[k]? := fun k hk => World.putObj_heap_other (fun e => hk e)
    refine ⟨by simp, .inl ⟨b, c.w.putObj b (.deferred none), rfl, run_takeDeferred h2, ?_⟩⟩
    have sz : (c.w.putObj b (.deferred none)).heap.size = c.w.heap.size := by simp [World.putObj]
    have H := N.hold
    have fp : ∀ k, Fp (c.at (c.w.putObj b (.deferred none))) σ k ↔ Fp c σ k := fun k => ⟨fun ⟨l, o, x, y, z⟩ => ⟨l, o, x, (Has.congr rfl).1 y, z⟩, fun ⟨l, o, x, y, z⟩ => ⟨l, o, x, (Has.congr rfl).1 y, z⟩⟩
    have le : c.Le (c.at (c.w.putObj b (.deferred none))) := ⟨fun _ _ _ h => h, Nat.le_refl _, fun _ _ => rfl, fun _ _ => rfl⟩
    have H' : Holds (c.at (c.w.putObj b (.deferred none))) σ := by
      refine ⟨H.n, fun k o v hv => ?_, fun l o hl => ?_, fun l o l' o' x y z t hne => H.sep l o l' o' x y ((Has.congr rfl).1 z) ((Has.congr rfl).1 t) hne, fun l o x y k => H.apart l o x ((Has.congr rfl).1 y) k, fun l o x y => ?_⟩
      · have e := H.snap k o v hv
        by_cases q : k = b
        · subst q; simp [World.cell?, h2] at e
        · rw [← e]; exact heap_cell (same k q)
      · exact ObjOk.mono le (by rw [H.n]; exact some_lt hl) (fun hh => same _ fun e => h3 ⟨l, o, hl, hh, e⟩) (H.obj l o hl)
      · have := H.lt l o x ((Has.congr rfl).1 y)
        show c.ν l < (c.w.putObj b (.deferred none)).heap.size
        rw [sz]; exact this
    have N' : Nxt c0 σ0 (c.at (c.w.putObj b (.deferred none))) σ := by
      refine ⟨N.le.trans le, H', N.os, N.tape, N.output, ?_, fun k hk hf => ?_, fun k hk => N.fp k ((fp k).1 hk), N.hn⟩
      · show c0.w.heap.size ≤ (c.w.putObj b (.deferred none)).heap.size
        rw [sz]; exact N.size
      · exact (same k (by omega)).trans (N.kept k hk hf)
    refine shut bs (c.at (c.w.putObj b (.deferred none))) a hn.2 (fun k hk => ?_) N' (ARs.mono le _ he) h
    obtain ⟨g1, g2, g3⟩ := hb k (by simp [hk])
    exact ⟨g1, (same k fun e => hn.1 (e ▸ hk)).trans g2, fun q => g3 ((fp k).1 q)⟩
theorem end_sound {fn : Func} {R : Ending → World → Prop} (hfn : Γ.res = fn.results.toList) (hR : RetOk Γ c0 σ0 R) {c : Cf} {env : List AV} {σ : List AObj} {a : Act} (G : Good c0 σ0 c env σ a) (h : endP Γ env σ) {e : Exit} (hE : e = .normal ∨ e = .ret) : bodyPostM (FW none) 0 Γ.P fn R e a c.w := by
  unfold endP at h
  cases hr : resVs Γ.P env σ Γ.res with
  | none => rw [hr] at h; exact h.elim
  | some xs =>
    rw [hr] at h
    simp only [endR] at h
    rw [hfn] at hr
    obtain ⟨bs, hds, hnd, hbs⟩ := G.defers
    have key : LeavesInM (FW none) 0 Γ.P fn a.tmps R a.defers .returning c.w := by
     rw [hds]
     refine shut bs c a hnd hbs G.nxt G.env fun c' N' he' => ?_
     obtain ⟨vs, h1, h2⟩ := resVs_sound (P := Γ.P) N'.hold he' hr
     have hl := ARs_length h2
     have hres : (results fn a.tmps).run Γ.P c'.w = .ok (if h : vs.toArray.size = 1 then vs.toArray[0] else .tuple vs.toArray) c'.w := by
      rw [results_eq, Array.mapM_eq_mapM_toList]
      simp only [map_eq_pure_bind, Sem.run_bind, h1, Result.andThen_ok, Sem.run_pure]
     have hone : AR c' (one xs) (if h : vs.toArray.size = 1 then vs.toArray[0] else .tuple vs.toArray) := by
      match xs, vs, h2, hl with
      | [], [], _, _ => simp [one, AR, ARs]
      | [x], [v], h2, _ => simpa [one, ARs] using h2
      | x :: y :: r, v :: u :: s, h2, _ =>
        simp only [one]
        rw [dif_neg (by simp)]
        simp only [AR]
        exact ⟨_, rfl, h2⟩
     exact ⟨_, hres, hR _ _ c' _ h N' hone⟩
    rcases hE with rfl | rfl
    · exact key
    · exact key
end
end Go.AX
/- AX, part S: the evaluator is sound. -/
set_option linter.unusedVariables false
set_option linter.unusedSimpArgs false
namespace Go.AX
section
variable {Γ : Ctx} {c0 : Cf} {σ0 : List AObj} {Q0 : Exit → Act → World → Prop} {D : Draw}

theorem ARs_st_same {c : Cf} : ∀ {xs : List AV} {vs : List Value} (_ : ARs c xs vs) (i : Nat) {x : AV} {v : Value}, vs[i]? = some v → AR c x v → ARs c (st xs i x) vs
  | [], _, h, i, x, v, e, _ => by rw [ARs_nil_left h] at e; simp at e
  | y :: ys, _, h, i, x, v, e, hx => by
    obtain ⟨u, r, rfl, h1, h2⟩ := ARs_cons_left h
    cases i with
    | zero => simp at e; subst e; simpa [st, ARs_cons] using ⟨hx, h2⟩
    | succ i => simpa [st, ARs_cons] using ⟨h1, ARs_st_same h2 i (by simpa using e) hx⟩
theorem ARs_putO {c : Cf} {env : List AV} {a : Act} (h : ARs c env a.tmps.toList) (dst : Option Tmp) {x : AV} {v : Value} (hx : AR c x v) : ARs c (putO env dst x) (a.put dst v).tmps.toList := by
  cases dst with
  | none => exact h
  | some d => simpa [putO, Act.put] using ARs_st h d hx
theorem lk_val {c : Cf} {env : List AV} {vs : List Value} (h : ARs c env vs) {d : Nat} {x : AV} (e : lk env d = x) (hne : x ≠ .any) : ∃ v, vs[d]? = some v ∧ AR c x v := by
  rw [lk_eq] at e
  cases q : env[d]? with
  | none => simp [q] at e; exact absurd e.symm hne
  | some y => simp [q] at e; subst e; exact ARs_get h d q
theorem Good.put {c c' : Cf} {env : List AV} {σ σ' : List AObj} {a : Act} (G : Good c0 σ0 c env σ a) (N : Nxt c σ c' σ') (dst : Option Tmp) {x : AV} {v : Value} (hx : AR c' x v) : Good c0 σ0 c' (putO env dst x) σ' (a.put dst v) :=
  ⟨G.nxt.trans N, ARs_putO (ARs.mono N.le _ G.env) dst hx, by cases dst <;> exact G.defers.nxt N⟩

theorem ecall_sound {E : List AV → List AObj → Prop} {dst : Option Tmp} {f : FuncId} (hn : c0.n = Γ.n0) {env args : List AV} {σ : List AObj} (h : ECall Γ E dst f env args σ) :
    ∀ (c : Cf) (a : Act) (vs : Array Value), Nxt c0 σ0 c σ → ARs c args vs.toList → ARs c env a.tmps.toList →
      (∃ fn, Γ.P.funcs[f]? = some fn ∧ fn.body.isNone = false ∧ (fn.name == "runtime.NumGoroutine") = false) ∧
      Calls Γ.P f vs c.w fun e w' => ∃ c' env' σ' v, c'.w = w' ∧ e = .returned v ∧ Nxt c0 σ0 c' σ' ∧ ARs c' env' (a.put dst v).tmps.toList ∧ E env' σ' ∧ ∀ ds, DOk c0 c σ ds → DOk c0 c' σ' ds := by
  induction h with
  | mk ls args' σi r σ1 h1 h2 h3 h4 h5 h6 h7 h8 =>
    intro c a vs N hargs henv
    subst h1
    obtain ⟨hf, hcalls⟩ := h7
    refine ⟨hf, ?_⟩
    obtain ⟨H0, back⟩ := call_frame (σ1 := σ1) N.hold h3 h4 h5 h6
    refine (hcalls _ vs H0 (ARs_via args' h2 hargs)).mono ?_
    rintro e w' ⟨c1, v, rfl, rfl, hv, N1⟩
    obtain ⟨c2, w2, S, N2⟩ := back c1 N1
    exact ⟨c2, _, _, v, w2, rfl, N.trans N2, ARs_putO (ARs.mono N2.le _ henv) dst (AR_sees S _ hv), h8, fun _ d => d.nxt N2⟩
  | all r σ1 h7 h8 =>
    intro c a vs N hargs henv
    obtain ⟨hf, hcalls⟩ := h7
    refine ⟨hf, (hcalls _ vs N.hold hargs).mono ?_⟩
    rintro e w' ⟨c1, v, rfl, rfl, hv, N1⟩
    exact ⟨c1, _, _, v, rfl, rfl, N.trans N1, ARs_putO (ARs.mono N1.le _ henv) dst hv, h8, fun _ d => d.nxt N1⟩
  | @wk env args env' args' σ σ' h1 h2 h3 ih =>
    intro c a vs N hargs henv
    rw [← hn] at h2
    obtain ⟨c', w1, N1, hx, hfp⟩ := h2.nxtF N (ARs_append hargs henv)
    have hlen := ARs_length hargs
    have ha : ARs c' args' vs.toList := by
      have := ARs_take args'.length hx
      rwa [List.take_left, h1, hlen, List.take_left] at this
    have he : ARs c' env' a.tmps.toList := by
      have := ARs_drop args'.length hx
      rwa [List.drop_left, h1, hlen, List.drop_left] at this
    obtain ⟨hf, hc⟩ := ih c' a vs N1 ha he
    rw [w1] at hc
    refine ⟨hf, hc.mono ?_⟩
    rintro e w' ⟨c2, env2, σ2, v, q1, q2, q3, q4, q5, q6⟩
    exact ⟨c2, env2, σ2, v, q1, q2, q3, q4, q5, fun ds d => q6 ds (d.same w1 hfp)⟩
theorem not_defer {P : Program} {o : Oper} {ρ : Operand → Value} {w : World} {r : Result Next} (h : (execOp ρ o).run P w = r) (hr : ∀ d w', r ≠ .ok (.defer d) w') (hh : ∃ nx w', r = .ok nx w') : ∀ c, o.op ≠ .defer c := fun c e => by
  obtain ⟨nx, w', e2⟩ := hh
  subst e2
  simp only [execOp, e, Sem.run_bind] at h
  cases q : (resolve ρ c o.type).run P w with
  | ok d w1 => rw [q] at h; simp only [Result.andThen, Sem.run_pure] at h; cases h; exact hr _ _ rfl
  | halt x w1 => rw [q] at h; simp only [Result.andThen] at h; cases h

theorem sem_ok {ro : Option Nat} {P : Program} {o : Oper} {a : Act} {w w' : World} {nx : Next} (h : (execOp a.eval o).run P w = .ok nx w') (hn : ∀ d, nx ≠ .defer d) : (o.semAt ro a.eval).run P w = .ok nx w' := by
  rw [Oper.semAt_eq ro a.eval o (not_defer h (fun d w1 e => by cases e; exact hn d rfl) ⟨_, _, rfl⟩)]
  exact h
theorem wpIn_of {ro : Option Nat} {P : Program} {o : Oper} {a : Act} {w : World} {next : Act → World → Prop} {Q : Exit → Act → World → Prop} (h : o.uponIn (FW ro) 0 P a next Q ((o.semAt ro a.eval).run P w)) : o.wpIn (FW ro) 0 P a w next Q := ⟨fun _ _ => trivial, h⟩
theorem fin_sound {E : List AV → List AObj → Prop} {o : Oper} {a : Act} {c : Cf} {env : List AV} {σ : List AObj} {next : Act → World → Prop} {Q : Exit → Act → World → Prop} (hn : c0.n = Γ.n0) (hY : YOk Γ.P Γ.Y c0 σ0) (G : Good c0 σ0 c env σ a)
    (hE : ∀ env σ, E env σ → ∀ c a, Good c0 σ0 c env σ a → next a c.w) : ∀ (r : R1), r.Ok Γ.P o a c σ → fin Γ E o.dst env σ r → o.wpIn (FW Γ.ro) 0 Γ.P a c.w next Q
  | .to v σ', h, hf => by
    obtain ⟨nx, x, c', h1, h2, h3, h4⟩ := h
    refine wpIn_of ?_
    rcases h2 with rfl | ⟨rfl, rfl⟩
    · rw [sem_ok h1 (by simp)]
      exact hE _ _ hf c' _ (G.put h4 o.dst h3)
    · rw [sem_ok h1 (by simp)]
      exact hE _ _ hf c' _ (G.put h4 o.dst h3)
  | .need p r, h, hf => fin_sound hn hY G hE r (h hf.1) hf.2
  | .all es i k, h, hf => by obtain ⟨e, h1, h2⟩ := h; exact fin_sound hn hY G hE (k e) h2 (hf e h1)
  | .ite t x y, h, hf => by
    cases t with
    | true => exact fin_sound hn hY G hE x (h.1 rfl) (hf.1 rfl)
    | false => exact fin_sound hn hY G hE y (h.2 rfl) (hf.2 rfl)
  | .ex p k, h, hf => by obtain ⟨b, h1, h2⟩ := h; exact fin_sound hn hY G hE (k b) h2 (hf b h1)
  | .bad, _, hf => hf.elim
  | .yld b xs, h, hf => by
    obtain ⟨vs, h1, h2⟩ := h
    obtain ⟨fn, tmps, assign, body, h3, h4⟩ := hY b xs σ _ hf c vs G.nxt h2
    refine wpIn_of ?_
    rw [h3] at h1
    rw [sem_ok h1 (by simp)]
    simp only [Oper.uponIn_round]
    refine ⟨FW_depth, ?_⟩
    have h5 : RoundIn (FW Γ.ro) (0 - 1) Γ.P b fn tmps assign body c.w _ := h4
    refine h5.mono ?_
    rintro e w' ⟨v, r, c', σ', rfl, rfl, hv, N, hK⟩
    exact hE _ _ hK c' _ (G.put N o.dst hv)
  | .call f args, h, hf => by
    obtain ⟨vs, h1, h2⟩ := h
    obtain ⟨⟨fn, f1, f2, f3⟩, hc⟩ := ecall_sound hn hf c a vs G.nxt h2 G.env
    refine wpIn_of ?_
    have hcf : (callFunc f vs).run Γ.P c.w = .ok (.enter f vs) c.w := by
      simp only [callFunc, Sem.run_bind, run_program, Result.andThen_ok, f1, f2, f3, Bool.false_eq_true, if_false, Sem.run_pure]
    rw [hcf] at h1
    rw [sem_ok h1 (by simp)]
    simp only [Oper.uponIn_enter]
    refine ⟨FW_depth, callsIn_FW (hc.mono ?_)⟩
    rintro e w' ⟨c', env', σ', v, rfl, rfl, N, he, hE', hds⟩
    exact hE _ _ hE' c' _ ⟨N, he, by cases hd : o.dst <;> exact hds _ G.defers⟩

theorem ops_step {E : List AV → List AObj → Prop} {o : Oper} {all : Array Oper} {rest : List Oper} {a : Act} {c : Cf} {env : List AV} {σ : List AObj} {Q : Exit → Act → World → Prop} (hn : c0.n = Γ.n0) (hY : YOk Γ.P Γ.Y c0 σ0) (G : Good c0 σ0 c env σ a)
    (hE : ∀ env σ, E env σ → ∀ c a, Good c0 σ0 c env σ a → wpListIn (FW Γ.ro) 0 Γ.P all Q rest a c.w) (h : evOper Γ E o all env σ o.guard) : wpListIn (FW Γ.ro) 0 Γ.P all Q (o :: rest) a c.w := by
  unfold wpListIn
  cases hg : o.guard with
  | none =>
    rw [hg] at h
    simp only [evOper] at h
    rw [if_pos (by simp [Region.wanted, hg])]
    exact (fin_sound hn hY G hE _ (evOp_ok G.nxt.hold G.env o.op rfl) h)
  | some jw =>
    obtain ⟨j, want⟩ := jw
    rw [hg] at h
    simp only [evOper] at h
    cases hs : gslot all j with
    | none => rw [hs] at h; exact h.elim
    | some d =>
      rw [hs] at h
      simp only [evG] at h
      have hy : yielded all a.tmps j = match a.tmps[d]? with | some (.bool b) => some b | _ => none := by
        unfold yielded
        unfold gslot at hs
        rw [hs]
        rfl
      generalize hx : lk env d = x at h
      have skip : ∀ (env' : List AV), ARs c env' a.tmps.toList → E (putO env' o.dst (.tup [])) σ → (∀ f, o.about Γ.P c.w a.eval = some f → (FW Γ.ro).fn f) ∧ wpListIn (FW Γ.ro) 0 Γ.P all Q rest (a.put o.dst undef) c.w := fun env' he hE' =>
        ⟨fun _ _ => trivial, hE _ _ hE' c _ ⟨G.nxt, ARs_putO he o.dst (by simp [AR, ARs, undef]), by cases hd : o.dst <;> exact G.defers⟩⟩
      cases x <;> try exact h.elim
      case d y =>
        cases y <;> try exact h.elim
        case bool b =>
          obtain ⟨v, hv, ha⟩ := lk_val G.env hx (by simp)
          simp only [AR, DR] at ha
          subst ha
          have hv' : a.tmps[d]? = some (.bool b) := by simpa using hv
          rw [hv'] at hy
          simp only at hy
          simp only [evG1] at h
          have henv : ARs c (st env d (.d (.bool b))) a.tmps.toList := ARs_st_same G.env d hv (by simp [AR, DR])
          have G' : Good c0 σ0 c (st env d (.d (.bool b))) σ a := ⟨G.nxt, henv, G.defers⟩
          cases b <;> cases want <;> simp only [evGb] at h
          · rw [if_pos (by simp [Region.wanted, hg, hy])]; exact (fin_sound hn hY G' hE _ (evOp_ok G'.nxt.hold G'.env o.op rfl) h)
          · rw [if_neg (by simp [Region.wanted, hg, hy])]; exact skip _ henv h
          · rw [if_neg (by simp [Region.wanted, hg, hy])]; exact skip _ henv h
          · rw [if_pos (by simp [Region.wanted, hg, hy])]; exact (fin_sound hn hY G' hE _ (evOp_ok G'.nxt.hold G'.env o.op rfl) h)
      case tup cs =>
        obtain ⟨v, hv, ha⟩ := lk_val G.env hx (by simp)
        simp only [AR] at ha
        obtain ⟨vs, rfl, _⟩ := ha
        have hv' : a.tmps[d]? = some (.tuple vs) := by simpa using hv
        rw [hv'] at hy
        simp only at hy
        simp only [evG1] at h
        rw [if_neg (by simp [Region.wanted, hg, hy])]
        exact skip _ G.env h

theorem least {p : Nat → Prop} (h : ∃ m, p m) : ∃ m, p m ∧ ∀ k, p k → m ≤ k := by
  obtain ⟨m, hm⟩ := h
  induction m using Nat.strongRecOn with
  | _ m ih =>
    by_cases q : ∃ k, k < m ∧ p k
    · obtain ⟨k, hk, hp⟩ := q; exact ih k hk hp
    · exact ⟨m, hm, fun k hk => Nat.le_of_not_lt fun hlt => q ⟨k, hlt, hk⟩⟩
theorem loop_sound {E : List It → List AV → List AObj → Prop} {b : Code} {k : List It} {env : List AV} {σ : List AObj} {a : Act} {c : Cf} (hn : c0.n = Γ.n0)
    (hE : ∀ k env σ, E k env σ → ∀ c a, Good c0 σ0 c env σ a → SemK Γ.ro Γ.P c0 σ0 Q0 k .normal a c.w) (G : Good c0 σ0 c env σ a) (h : ELoop Γ E b k env σ) : (Code.loop b).wpIn (FW Γ.ro) 0 Γ.P (SemK Γ.ro Γ.P c0 σ0 Q0 k) a c.w := by
  classical
  obtain ⟨I, ⟨m, env', σ', hw, hI⟩, hround⟩ := h
  have weak : ∀ {env : List AV} {σ : List AObj} {env' : List AV} {σ' : List AObj} {c : Cf} {a : Act}, Wk Γ.n0 env σ env' σ' → Good c0 σ0 c env σ a → ∃ c', c'.w = c.w ∧ Good c0 σ0 c' env' σ' a := fun hw G => by
    rw [← hn] at hw
    exact G.wk hw
  let In : Nat → Act → World → Prop := fun m a w => ∃ c env σ, I m env σ ∧ Good c0 σ0 c env σ a ∧ c.w = w
  let μ : Act → World → Nat := fun a w => if h : ∃ m, In m a w then Classical.choose (least h) else 0
  have hμ : ∀ m a w, In m a w → μ a w ≤ m := fun m a w hm => by
    have : ∃ m, In m a w := ⟨m, hm⟩
    simp only [μ, dif_pos this]
    exact (Classical.choose_spec (least this)).2 m hm
  refine wpIn_loop (fun a w => ∃ m, In m a w) μ ?_ ?_
  · obtain ⟨c', w1, G'⟩ := weak hw G
    exact ⟨m, c', env', σ', hI, G', w1⟩
  · intro a1 w1 hex
    obtain ⟨c1, env1, σ1, hI1, G1, rfl⟩ : In (Classical.choose (least hex)) a1 w1 := (Classical.choose_spec (least hex)).1
    have hm1 : μ a1 c1.w = Classical.choose (least hex) := by simp only [μ, dif_pos hex]
    have := hE _ _ _ (hround _ _ _ hI1) c1 a1 G1
    simp only [SemK] at this
    refine wpIn_mono this fun e a w he => ?_
    cases e <;> try exact he
    case normal =>
      obtain ⟨c2, env2, σ2, ⟨m', hlt, env3, σ3, hw3, hI3⟩, G2, rfl⟩ := he
      obtain ⟨c3, w3, G3⟩ := weak hw3 G2
      have hin : In m' a c2.w := ⟨c3, env3, σ3, hI3, G3, w3⟩
      exact ⟨⟨m', hin⟩, by rw [hm1]; exact Nat.lt_of_le_of_lt (hμ _ _ _ hin) hlt⟩

/-! ### a range over a function is sound -/
theorem Fp_at {c : Cf} {σ : List AObj} {w : World} {b : Nat} : Fp (c.at w) σ b ↔ Fp c σ b := ⟨fun ⟨l, o, x, y, z⟩ => ⟨l, o, x, (Has.congr rfl).1 y, z⟩, fun ⟨l, o, x, y, z⟩ => ⟨l, o, x, (Has.congr rfl).1 y, z⟩⟩
theorem Nxt.lay {c : Cf} {σ : List AObj} (H : Holds c σ) (ob : Obj) : Nxt c σ (c.at (c.w.alloc ob)) σ := by
  have old : ∀ k, k < c.w.heap.size → (c.w.alloc ob).heap[k]? = c.w.heap[k]? := fun k hk => by
    show (c.w.heap.push ob)[k]? = _
    rw [Array.getElem?_push, if_neg (by omega)]
  have hsz : (c.w.alloc ob).heap.size = c.w.heap.size + 1 := by show (c.w.heap.push ob).size = _; simp
  have le : c.Le (c.at (c.w.alloc ob)) := ⟨fun _ _ _ h => h, Nat.le_refl _, fun _ _ => rfl, fun _ _ => rfl⟩
  refine ⟨le, ⟨H.n, fun k o v hv => ?_, fun l o hl => ?_, fun l o l' o' x y z t hne => H.sep l o l' o' x y ((Has.congr rfl).1 z) ((Has.congr rfl).1 t) hne, fun l o x y k => H.apart l o x ((Has.congr rfl).1 y) k, fun l o x y => ?_⟩, rfl, rfl, rfl, ?_, fun k hk _ => old k hk, fun k hk => .inl (Fp_at.1 hk), fun k o hk => absurd rfl hk⟩
  · have e := H.snap k o v hv
    rw [← e]; exact heap_cell (old k (cell_lt e))
  · exact ObjOk.mono le (by rw [H.n]; exact some_lt hl) (fun hh => old _ (H.lt l o hl hh)) (H.obj l o hl)
  · have := H.lt l o x ((Has.congr rfl).1 y)
    show c.ν l < (c.w.alloc ob).heap.size
    omega
  · show c.w.heap.size ≤ (c.w.alloc ob).heap.size
    omega
theorem DOk.add {c : Cf} {σ : List AObj} {ds : List Deferred} (H : Holds c σ) (hs : c0.w.heap.size ≤ c.w.heap.size) (h : DOk c0 c σ ds) : DOk c0 (c.at (c.w.alloc (.deferred (some [])))) σ (mark c.w.heap.size :: ds) := by
  obtain ⟨bs, rfl, hn, hb⟩ := DOk.nxt (Nxt.lay H (.deferred (some []))) h
  have lt : ∀ b ∈ h.choose, True := fun _ _ => trivial
  obtain ⟨bs', e', hn', hb'⟩ := h
  have hinj : bs' = bs := by
    have : ∀ (x y : List Nat), x.map mark = y.map mark → x = y := by
      intro x
      induction x with
      | nil => intro y h; cases y with
        | nil => rfl
        | cons => simp at h
      | cons a x ih => intro y h; cases y with
        | nil => simp at h
        | cons b y => simp only [List.map_cons, List.cons.injEq] at h; have := ih y h.2; have h1 := h.1; simp only [mark, Deferred.mk.injEq, Target.collected.injEq] at h1; rw [this, h1.1]
    exact this _ _ e'.symm
  subst hinj
  refine ⟨c.w.heap.size :: bs', rfl, List.nodup_cons.2 ⟨fun hm => ?_, hn⟩, fun b hm => ?_⟩
  · have := (Array.getElem?_eq_some_iff.1 (hb' _ hm).2.1).1
    omega
  · rcases List.mem_cons.1 hm with rfl | hm
    · refine ⟨hs, ?_, fun q => ?_⟩
      · show (c.w.heap.push _)[c.w.heap.size]? = _
        simp
      · obtain ⟨l, o, x, y, z⟩ := Fp_at.1 q
        have := H.lt l o x y
        omega
    · exact hb b hm
theorem rec_at {c : Cf} {s : List AObj} {l L : Nat} {r : Loop} (H : Holds c s) (hl : s[l]? = some (.obj L (.loop r))) : c.w.heap[L]? = some (.loop r) ∧ c.ν l = L := by
  obtain ⟨e1, e2⟩ := H.obj l _ hl
  exact ⟨e2, e1⟩
theorem rec_set {c : Cf} {s : List AObj} {l L : Nat} {r : Loop} (H : Holds c s) (hl : s[l]? = some (.obj L (.loop r))) (r' : Loop) : Nxt c s (c.at (c.w.putObj L (.loop r'))) (s.set l (.obj L (.loop r'))) := by
  obtain ⟨e2, e1⟩ := rec_at H hl
  have hlt : L < c.w.heap.size := (Array.getElem?_eq_some_iff.1 e2).1
  refine Nxt.upd H hl trivial _ (fun b hb => World.putObj_heap_other (by rw [← e1]; exact hb)) (by simp [World.putObj]) rfl rfl rfl ⟨e1, ?_⟩
  exact World.putObj_heap_same hlt
theorem ARs_setPs {c : Cf} : ∀ (ps : List Tmp) (xs : List AV) (env : List AV) (tmps : Array Value) (vs : List Value), ARs c env tmps.toList → ARs c xs vs → ARs c (setPs env ps xs) ((ps.zip vs).foldl (fun t (x : Tmp × Value) => t.setIfInBounds x.1 x.2) tmps).toList
  | [], xs, env, tmps, vs, h, _ => by cases xs <;> simpa [setPs] using h
  | p :: ps, [], env, tmps, vs, h, hx => by rw [ARs_nil_left hx]; simpa [setPs] using h
  | p :: ps, x :: xs, env, tmps, vs, h, hx => by
    obtain ⟨v, r, rfl, h1, h2⟩ := ARs_cons_left hx
    simp only [setPs, List.zip_cons_cons, List.foldl_cons]
    exact ARs_setPs ps xs _ _ r (by simpa using ARs_st h p h1) h2
theorem range_sound {E : List It → List AV → List AObj → Prop} {k : List It} {env : List AV} {σ : List AObj} {a : Act} {c : Cf} {g : Operand} {ps : Array Tmp} {assign body : Code} (hn : c0.n = Γ.n0)
    (hE : ∀ k env σ, E k env σ → ∀ c a, Good c0 σ0 c env σ a → SemK Γ.ro Γ.P c0 σ0 Q0 k .normal a c.w) (G : Good c0 σ0 c env σ a) (h : ERange Γ E k env σ g ps assign body) :
    (Code.rangeFunc g ps assign body).wpIn (FW Γ.ro) 0 Γ.P (SemK Γ.ro Γ.P c0 σ0 Q0 k) a c.w := by
  obtain ⟨hro, gf, caps, hg, ⟨fn', f1, f2, f3⟩, h⟩ := h
  rw [hro] at hE ⊢
  refine wpIn_rangeFunc ?_
  intro fn _
  have hv := evO_sound G.env g
  rw [hg] at hv
  simp only [AR] at hv
  obtain ⟨cs, hge, hcs⟩ := hv
  obtain ⟨rec, hrec⟩ : ∃ rec : LoopState → Option Code → Loop, rec = fun st pe => { state := st, pending := pe, fn, tmps := a.tmps, params := ps, assign, body, defers := c.w.heap.size } := ⟨_, rfl⟩
  obtain ⟨n, ok, args, H, Sp, hok0, h0, hround, hspec, hdone, hstop⟩ := h (c.w.heap.size + 1) rec
  have Hc := G.nxt.hold
  have N1 := Nxt.lay Hc (.deferred (some []))
  have D1 := DOk.add (c0 := c0) Hc G.nxt.size G.defers
  obtain ⟨c1, hc1⟩ : ∃ c1, c1 = c.at (c.w.alloc (.deferred (some []))) := ⟨_, rfl⟩
  have hw1 : c1.w = c.w.alloc (.deferred (some [])) := by rw [hc1]; rfl
  rw [← hc1] at N1 D1
  have hsz : c1.w.heap.size = c.w.heap.size + 1 := by rw [hw1]; show (c.w.heap.push _).size = _; simp
  have N2 : Nxt c1 σ (c1.put (c1.w.alloc (.loop (rec .ready none))) c1.w.heap.size undef) (σ ++ [rcd (c.w.heap.size + 1) rec .ready none]) := by
    refine Nxt.new N1.hold (.loop (rec .ready none)) undef _ ⟨by simp [Cf.put, hsz], ?_⟩
    show (c1.w.heap.push _)[c.w.heap.size + 1]? = _
    rw [← hsz]; simp
  obtain ⟨c2, hc2⟩ : ∃ c2, c2 = c1.put (c1.w.alloc (.loop (rec .ready none))) c1.w.heap.size undef := ⟨_, rfl⟩
  have hw2 : c2.w = (c.w.alloc (.deferred (some []))).alloc (.loop (rec .ready none)) := by rw [hc2, ← hw1]; rfl
  rw [← hc2, ← h0] at N2
  have G1 : Good c0 σ0 c1 env σ { a with defers := mark c.w.heap.size :: a.defers } := ⟨G.nxt.trans N1, ARs.mono N1.le _ G.env, D1⟩
  have G2 := G1.nx N2
  have eg : ∀ args w, (callFunc gf args).run Γ.P w = .ok (.enter gf args) w := fun args w => by
    simp only [callFunc, Sem.run_bind, run_program, Result.andThen_ok, f1, f2, f3, Bool.false_eq_true, if_false, Sem.run_pure]
  refine ⟨c.w.heap.size + 1, [mark c.w.heap.size], c2.w, { target := .fn (.func gf) cs, args := #[.func (.yield (c.w.heap.size + 1)) #[] #[]] }, c2.w, gf, #[.func (.yield (c.w.heap.size + 1)) #[] #[]] ++ cs, c2.w, ?_, ?_, fun _ _ => trivial, ?_, FW_depth, ?_⟩
  · rw [hw2, hrec]; exact run_enterLoop_outer _ _ _ _ _
  · simp only [resolve, hge]
    simp [go_sem]
  · simp [invoke, go_sem, eg]
  refine callsIn_FW ((hspec c2 _ G2.nxt.hold ?_ ?_).mono ?_)
  · rw [Array.toList_append]
    exact ARs_append (xs := [_]) (by simp [ARs, AR]) (ARs.mono (N1.trans N2).le _ hcs)
  · rintro b xs s K ⟨i, hi, hok, rfl, rfl, rfl, Kt, Kf⟩ c3 vs N3 hx
    obtain ⟨hlen, hrd, env1, σ1, hrd1, ha, hb⟩ := hround i hi hok
    have hL3 := (rec_at N3.hold hrd).1
    have hvs : vs.size = ps.size := by have := ARs_length hx; simp at this; omega
    have hy := run_yield (P := Γ.P) (args := vs) hL3 (by rw [hrec]; exact hvs)
    rw [hrec] at hy
    refine ⟨fn, _, assign, body, hy, ?_⟩
    have Gr : Good c3 (H i) c3 (setPs env ps.toList (args i)) (H i) { tmps := (ps.zip vs).foldl (fun tmps (t, a) => tmps.setIfInBounds t a) a.tmps, defers := [] } := by
      refine ⟨.refl N3.hold, ?_, .nil⟩
      have := ARs_setPs ps.toList (args i) env a.tmps vs.toList (ARs.mono ((N1.trans N2).trans N3).le _ G.env) hx
      rw [← Array.foldl_toList, Array.toList_zip]
      exact this
    refine roundIn_of_wpIn (F := Fence.wide) trivial ?_
    refine wpIn_mono (F := FW (some (c.w.heap.size + 1))) (ha c3 (H i) N3.hold.n c3 _ Gr) ?_
    rintro e a4 w4 ⟨c4, env4, σ4, rfl, G4, he⟩
    cases e <;> try exact he.elim
    rw [← N3.hold.n] at he
    obtain ⟨c4', w4', G4'⟩ := G4.wk he
    have hL4 := (rec_at G4'.nxt.hold hrd1).1
    have N5 := rec_set G4'.nxt.hold hrd1 (rec .busy none)
    have G5 := G4'.nx N5
    rw [w4'] at hL4
    refine ⟨_, run_beginRound hL4 (by rw [hrec]), ?_⟩
    have hbs := hb c3 (H i) N3.hold.n _ _ G5
    have hwb : (c4'.at (c4'.w.putObj (c.w.heap.size + 1) (.loop (rec .busy none)))).w = c4.w.putObj (c.w.heap.size + 1) (.loop { rec .ready none with state := .busy }) := by
      show c4'.w.putObj _ _ = _
      rw [w4', hrec]
    rw [hwb] at hbs
    refine wpIn_mono (F := FW (some (c.w.heap.size + 1))) hbs ?_
    rintro e a6 w6 ⟨c6, env6, σ6, rfl, G6, he⟩
    have jump : ∀ cc : Code, (∃ e' s', Wk (H i).length env6 σ6 e' s' ∧ s'[σ.length]? = some (rcd (c.w.heap.size + 1) rec .busy none) ∧ Sp cc (s'.set σ.length (rcd (c.w.heap.size + 1) rec .done (some cc)))) →
        ∃ v w', (Instr.endRound (c.w.heap.size + 1) (some cc)).run Γ.P c6.w = .ok v w' ∧ ∃ v' r c' σ', c'.w = w' ∧ Ending.returned v = .returned v' ∧ AR c' r v' ∧ Nxt c3 (H i) c' σ' ∧ K r σ' := fun cc he => by
      obtain ⟨e', s', hw, hs1, hs2⟩ := he
      rw [← N3.hold.n] at hw
      obtain ⟨c7, w7, N7, _⟩ := hw.nxt G6.nxt G6.env
      have hL7 := (rec_at N7.hold hs1).1
      rw [w7] at hL7
      have N8 := rec_set N7.hold hs1 (rec .done (some cc))
      refine ⟨_, _, run_endRound (some cc) hL7, _, .d (.bool false), _, _, ?_, rfl, by simp [AR, DR], N7.trans N8, Kf cc _ hs2⟩
      show c7.w.putObj _ _ = _
      rw [w7, hrec]; rfl
    cases e <;> try exact he.elim
    case normal =>
      obtain ⟨e', s', hw, hs1, hs2, hok1⟩ := he
      rw [← N3.hold.n] at hw
      obtain ⟨c7, w7, N7, _⟩ := hw.nxt G6.nxt G6.env
      have hL7 := (rec_at N7.hold hs1).1
      rw [w7] at hL7
      have N8 := rec_set N7.hold hs1 (rec .ready none)
      have hs2' : s'.set σ.length (.obj (c.w.heap.size + 1) (.loop (rec .ready none))) = H (i + 1) := hs2
      rw [hs2'] at N8
      refine ⟨_, _, run_endRound none hL7, _, .d (.bool true), _, _, ?_, rfl, by simp [AR, DR], N7.trans N8, Kt hok1⟩
      show c7.w.putObj _ _ = _
      rw [w7, hrec]; rfl
    case ret => exact jump .ret he
    case exit id => exact jump (.exit id) he
  · rintro e w' ⟨c9, v, s, rfl, rfl, hp, N9⟩
    rcases hp with ⟨rfl, hokn⟩ | ⟨cc, hp⟩
    · obtain ⟨hN, hdone⟩ := hdone hokn
      have hL9 := (rec_at N9.hold hN).1
      have N10 := rec_set N9.hold hN { rec .ready none with state := .exhausted, pending := none }
      have N11 := Nxt.drop N10.hold σ.length
      rw [List.set_set] at N11
      have hrun := run_endLoop (P := Γ.P) hL9 (by rw [hrec]; simp)
      have hpend : (rec .ready none).pending = none := by rw [hrec]
      rw [hpend] at hrun
      exact ⟨none, _, hrun, hE k env _ hdone _ _ (G2.nx (N9.trans (N10.trans N11)))⟩
    · obtain ⟨hs1, hs2⟩ := hstop cc s hp
      have hL9 := (rec_at N9.hold hs1).1
      have N10 := rec_set N9.hold hs1 { rec .done (some cc) with state := .exhausted, pending := some cc }
      have N11 := Nxt.drop N10.hold σ.length
      rw [List.set_set] at N11
      have hrun := run_endLoop (P := Γ.P) hL9 (by rw [hrec]; simp)
      have hpend : (rec .done (some cc)).pending = some cc := by rw [hrec]
      rw [hpend] at hrun
      have := hE (.code cc :: k) env _ hs2 _ _ (G2.nx (N9.trans (N10.trans N11)))
      simp only [SemK, Exit.then] at this
      exact ⟨some cc, _, hrun, this⟩
theorem stepR_scp {P : Program} {b : Frame} {a : Act} {k : List Item} {cs : List Frame} {w : World} {c : Code} : step P (lone (b.atR a (.code (.scope c) :: k)) cs w) = .next (lone (b.atR a (.code c :: .inScope c :: k)) cs w) :=
  step_lone_go (by simp [stepG, stepG.exec, Frame.atR])
theorem stepR_inScp {P : Program} {b : Frame} {a : Act} {k : List Item} {cs : List Frame} {w : World} {c : Code} : step P (lone (b.atR a (.inScope c :: k)) cs w) = .next (lone (b.atR a k) cs w) :=
  step_lone_go (by simp [stepG, stepG.exec, Frame.atR])
/-- a scope through which the run goes without a goto -/
theorem wpIn_scp {F : Fence} {n : Nat} {P : Program} {Q : Exit → Act → World → Prop} {a : Act} {w : World} {c : Code} (h : c.wpIn F n P (scQ Q) a w) : (Code.scope c).wpIn F n P Q a w := by
  intro b k cs hro hb hr
  have h0 : (lone (b.atR a (.code (.scope c) :: k)) cs w).fenced P F := fenced_calm hb hr rfl
  obtain ⟨e, a₁, w₁, hq, harr⟩ := h b (.inScope c :: k) cs hro hb hr
  cases e with
  | normal => exact ⟨.normal, a₁, w₁, hq, .head h0 stepR_scp (StepsIn.trans harr (.one (fenced_calm hb hr rfl) stepR_inScp))⟩
  | exit id =>
    have hx : exitTo id (.inScope c :: k) = exitTo id k := by simp [exitTo]
    exact ⟨.exit id, a₁, w₁, hq, fun k' hk => .head h0 stepR_scp (harr.1 k' (by rw [hx]; exact hk)),
      fun hr' hk => let ⟨k₁, h1, h2⟩ := harr.2 hr' (by rw [hx]; exact hk); ⟨k₁, h1, .head h0 stepR_scp h2⟩⟩
  | goto l => exact hq.elim
  | ret => exact ⟨_, a₁, w₁, hq, .of_steps (.one h0 stepR_scp) harr⟩
  | panic ch => exact ⟨_, a₁, w₁, hq, .of_steps (.one h0 stepR_scp) harr⟩
  | outgrown => exact ⟨_, a₁, w₁, hq, .of_steps (.one h0 stepR_scp) harr⟩
theorem ev_sound (hD : DrawOk D) (hn : c0.n = Γ.n0) (hQ : EndOk Γ c0 σ0 Q0) (hY : YOk Γ.P Γ.Y c0 σ0) : ∀ (n : Nat) (k : List It) (env : List AV) (σ : List AObj), ev Γ D n k env σ → ∀ c a, Good c0 σ0 c env σ a → SemK Γ.ro Γ.P c0 σ0 Q0 k .normal a c.w
  | 0, _, _, _, h, _, _, _ => h.elim
  | n + 1, [], env, σ, h, c, a, G => hQ.nrm _ _ _ _ G h
  | n + 1, .ops [] all :: k, env, σ, h, c, a, G => ev_sound hD hn hQ hY n k env σ h c a G
  | n + 1, .ops (o :: r) all :: k, env, σ, h, c, a, G => by
    simp only [SemK]
    exact ops_step hn hY G (fun env σ hE c a G => by have := ev_sound hD hn hQ hY n _ env σ hE c a G; simpa only [SemK] using this) h
  | n + 1, .blk id :: k, env, σ, h, c, a, G => by
    simp only [SemK, Exit.inBlock]
    exact ev_sound hD hn hQ hY n k env σ h c a G
  | n + 1, .back J :: k, env, σ, h, c, a, G => by
    simp only [SemK, Exit.then]
    exact ⟨c, env, σ, h, G, rfl⟩
  | n + 1, .scp :: k, env, σ, h, c, a, G => by
    simp only [SemK, scQ]
    exact ev_sound hD hn hQ hY n k env σ h c a G
  | n + 1, .code cd :: k, env, σ, h, c, a, G => by
    have ih := ev_sound hD hn hQ hY n
    have h' : evCode Γ (ev Γ D n) (D Γ (ev Γ D n)) k env σ cd := h
    simp only [SemK, Exit.then]
    cases cd <;> try exact h'.elim
    case skip => exact wpIn_skip (ih k env σ h' c a G)
    case region id ops draw =>
      cases draw with
      | false =>
        refine wpIn_region_list ?_
        have := ih _ env σ h' c a G
        simpa only [SemK] using this
      | true => exact hD Γ c0 σ0 Q0 hn (ev Γ D n) ih id k ops env σ h' c a G
    case seq x y =>
      refine wpIn_seq ?_
      exact ih _ env σ h' c a G
    case cond q x y =>
      simp only [evCode] at h'
      cases q <;> try exact h'.elim
      case tmp d =>
        simp only [evC] at h'
        generalize hx : lk env d = z at h'
        cases z <;> try exact h'.elim
        case d z =>
          cases z <;> try exact h'.elim
          case bool b =>
            obtain ⟨v, hv, ha⟩ := lk_val G.env hx (by simp)
            simp only [AR, DR] at ha
            subst ha
            have henv : ARs c (st env d (.d (.bool b))) a.tmps.toList := ARs_st_same G.env d hv (by simp [AR, DR])
            have hev : a.eval (.tmp d) = .bool b := by
              have : a.tmps[d]? = some (.bool b) := by simpa using hv
              simp [Act.eval, Array.getD_eq_getD_getElem?, this]
            refine wpIn_cond_split hev (fun hb => ?_) (fun hb => ?_)
            · subst hb
              have := ih _ _ σ h' c a ⟨G.nxt, henv, G.defers⟩
              simpa only [SemK, Exit.then] using this
            · subst hb
              have := ih _ _ σ h' c a ⟨G.nxt, henv, G.defers⟩
              simpa only [SemK, Exit.then] using this
      case const v =>
        cases v <;> try exact h'.elim
        case bool b =>
          cases b with
          | true => refine wpIn_cond_true rfl ?_; have := ih _ env σ h' c a G; simpa only [SemK, Exit.then] using this
          | false => refine wpIn_cond_false rfl ?_; have := ih _ env σ h' c a G; simpa only [SemK, Exit.then] using this
    case block id b =>
      refine wpIn_block ?_
      have := ih _ env σ h' c a G
      simpa only [SemK, Exit.then] using this
    case loop b => exact loop_sound hn ih G h'
    case exit id =>
      refine wpIn_exit ?_
      simp only [evCode] at h'
      cases hp : popTo id k with
      | none => rw [hp] at h'; exact exit_down hp (hQ.ex id _ _ _ _ G h')
      | some k' => rw [hp] at h'; exact popTo_sound hp (ih k' env σ h' c a G)
    case ret => exact wpIn_ret (ret_down (hQ.ret _ _ _ _ G h'))
    case rangeFunc g ps assign body => exact range_sound hn ih G h'
    case label l => exact wpIn_label (ih k env σ h' c a G)
    case scope b =>
      refine wpIn_scp ?_
      have := ih _ env σ h' c a G
      simp only [SemK, Exit.then] at this
      exact this

/-- A FUNCTION's SPEC, by running its body. -/
theorem spec_of_ev {P : Program} {f : FuncId} {fn : Func} {body : Code} {args : List AV} {σ σ' : List AObj} {r : AV} (hD : DrawOk D) (n : Nat) (hf : P.funcs[f]? = some fn) (hb : fn.body = some body) (hname : (fn.name == "runtime.NumGoroutine") = false)
    (hlen : args.length ≤ fn.ntmps)
    (h : ev ⟨P, σ.length, fn.results.toList, fun r' τ => Wk σ.length [r'] τ [r] σ', none, none, noJ, noY⟩ D n [.code body] (args ++ List.replicate (fn.ntmps - args.length) .any) σ) : Spec P f args σ r σ' := by
  refine ⟨⟨fn, hf, by rw [hb]; rfl, hname⟩, fun c vs H ha => ?_⟩
  have hvl := ARs_length ha
  have hvs : vs.size = args.length := by simpa using hvl.symm
  refine callsIn_wide.1 (callsIn_of_wp_marks (F := FW none) (n := 0) hf hb trivial ?_)
  have hG : Good c σ c (args ++ List.replicate (fn.ntmps - args.length) .any) σ { tmps := vs ++ Array.replicate (fn.ntmps - vs.size) undef, defers := [] } := by
    refine ⟨.refl H, ?_, .nil⟩
    rw [Array.toList_append, hvs]
    refine ARs_append ha (ARs_mk (by simp) fun i x v hx hv => ?_)
    rw [List.eq_of_mem_replicate (List.mem_of_getElem? hx)]
    simp [AR]
  have hR : RetOk ⟨P, σ.length, fn.results.toList, fun r' τ => Wk σ.length [r'] τ [r] σ', none, none, noJ, noY⟩ c σ (fun e w' => ∃ c' v, c'.w = w' ∧ e = .returned v ∧ AR c' r v ∧ Nxt c σ c' σ') := fun r' τ c' v hp N hv => by
    have hp' : Wk c.n [r'] τ [r] σ' := by rw [H.n]; exact hp
    obtain ⟨c2, w2, N2, hx⟩ := hp'.nxt N (vs := [v]) (by simpa [ARs] using hv)
    exact ⟨c2, v, w2, rfl, by simpa [ARs] using hx, N2⟩
  have := ev_sound (Q0 := bodyPostM (FW none) 0 P fn (fun e w' => ∃ c' v, c'.w = w' ∧ e = .returned v ∧ AR c' r v ∧ Nxt c σ c' σ')) (c0 := c) (σ0 := σ) hD (by rw [H.n]) ⟨fun c1 env1 σ1 a1 G1 h1 => end_sound rfl hR G1 h1 (.inl rfl), fun c1 env1 σ1 a1 G1 h1 => end_sound rfl hR G1 h1 (.inr rfl), fun id c1 env1 σ1 a1 G1 h1 => h1.elim⟩ noY_ok n _ _ _ h c _ hG
  simp only [SemK] at this
  refine wpIn_mono this fun e a w he => ?_
  cases e <;> exact he
end
end Go.AX

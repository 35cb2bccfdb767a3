/- AX, part G: fields, elements, plain operations. -/
import Derived.Test.YtnmgmlmiijljmaaAxF
set_option linter.unusedVariables false
namespace Go.AX
section
variable {P : Program} {o : Oper} {a : Act} {c : Cf} {σ : List AObj} {env : List AV}

theorem evFieldAddr_ok (H : Holds c σ) (he : ARs c env a.tmps.toList) {s f : Nat} {x : Operand} (ho : o.op = .fieldAddr s x f) : (evFieldAddr P σ s f (evO env x)).Ok P o a c σ := by
  have hx := evO_sound he x
  unfold evFieldAddr
  split
  · next off b n h =>
    obtain ⟨fs, fl, h1, h2, h3, h4⟩ := fo_spec h
    refine shiftA_ok H hx fun ad e hs => ?_
    subst h3
    simp [execOp, ho, e, Instr.fieldAt, run_underlying' h1, h2, Instr.sureAddr, fieldPlace, run_sizeOf' h4]
  · trivial

/-! ### a part of a struct by value -/
def evField (P : Program) (σ : List AObj) (s f : Nat) : AV → R1
  | .agg cs => match fo P s f with
    | some (off, b, n) => toO σ (ldA (drA cs off) (b, n))
    | none => .bad
  | _ => .bad
theorem part_ok {t : TypeId} {b : Bool} {n off : Nat} {cs : List AV} {vs : Array Value} {v : AV} {w : World} (hk : tk P t = some (b, n)) (hr : ARs c cs vs.toList) (h : ldA (drA cs off) (b, n) = some v) :
    ∃ x, (part t vs off).run P w = .ok x w ∧ AR c v x := by
  rw [drA_eq] at h
  have hd := ARs_drop off hr
  cases b with
  | true =>
    simp only [ldA] at h
    split at h
    · simp at h; subst h
      refine ⟨.agg (vs.extract off (off + n)), by simp [part, run_isAgg hk, run_sizeOf' hk], ?_⟩
      simp only [AR]
      refine ⟨_, rfl, ?_⟩
      have := ARs_take n hd
      rw [Array.toList_extract]
      simpa [List.extract_eq_take_drop] using this
    · simp at h
  | false =>
    cases hq : cs.drop off with
    | nil => simp [hq, ldA] at h
    | cons y ys =>
      simp [hq, ldA] at h; subst h
      rw [hq] at hd
      obtain ⟨u, r, e, h1, _⟩ := ARs_cons_left hd
      have : vs[off]? = some u := by
        have : (vs.toList.drop off)[0]? = some u := by rw [e]; rfl
        simpa using this
      exact ⟨u, by simp [part, run_isAgg hk, this], h1⟩
theorem evField_ok (H : Holds c σ) (he : ARs c env a.tmps.toList) {s f : Nat} {x : Operand} (ho : o.op = .field s x f) : (evField P σ s f (evO env x)).Ok P o a c σ := by
  have hx := evO_sound he x
  generalize evO env x = y at hx
  cases y <;> simp only [evField] <;> try trivial
  case agg cs =>
    cases h : fo P s f with
    | none => trivial
    | some r =>
      obtain ⟨off, b, n⟩ := r
      obtain ⟨fs, fl, h1, h2, h3, h4⟩ := fo_spec h
      refine toO_ok fun v hv => ?_
      simp only [AR] at hx
      obtain ⟨vs, e, hr⟩ := hx
      subst h3
      obtain ⟨u, g1, g2⟩ := part_ok (P := P) (w := c.w) h4 hr hv
      refine R1.Ok_to H (x := u) ?_ g2
      simp [execOp, ho, e, Instr.field, run_underlying' h1, h2, asAgg, g1]

/-! ### elements -/
def it (P : Program) (t : TypeId) : Option (Option Nat × Bool × Nat) :=
  match P.underlying t with
  | some (.slice e) => match tk P e with
    | some k => some (none, k)
    | none => none
  | some (.array n e) => match tk P e with
    | some k => some (some n, k)
    | none => none
  | _ => none
theorem it_slice {t : TypeId} {k : Bool × Nat} (h : it P t = some (none, k)) : ∃ e, P.underlying t = some (.slice e) ∧ tk P e = some k := by
  unfold it at h
  split at h
  · next e hu => split at h <;> simp at h; subst h; exact ⟨e, hu, by assumption⟩
  · next n e hu => split at h <;> simp at h
  · simp at h
theorem it_array {t : TypeId} {n : Nat} {k : Bool × Nat} (h : it P t = some (some n, k)) : ∃ e, P.underlying t = some (.array n e) ∧ tk P e = some k := by
  unfold it at h
  split at h
  · next e hu => split at h <;> simp at h
  · next n' e hu => split at h <;> simp at h; obtain ⟨rfl, rfl⟩ := h; exact ⟨e, hu, by assumption⟩
  · simp at h

def evIx : AV → Option (IntKind × Int)
  | .d (.int k i) => some (k, i)
  | _ => none
theorem evIx_sound {y : AV} {v : Value} {k : IntKind} {i : Int} (h : evIx y = some (k, i)) (hy : AR c y v) : v = .int k i := by
  cases y <;> simp only [evIx] at h <;> try (simp at h; done)
  case d x => cases x <;> simp only [evIx] at h <;> try (simp at h; done)
              case int k' i' => simp at h; obtain ⟨rfl, rfl⟩ := h; simpa [AR, DR] using hy
def evIdxS (σ : List AObj) (sz : Nat) (i : Int) : AV → R1
  | .d (.sl es) => .need (0 ≤ i ∧ i < es.length) (.all es i.toNat fun e => .need (e.length = sz) (.to (.eptr e) σ))
  | .own l => match ob σ l with
    | .row sz' es => .need (sz' = sz ∧ 0 ≤ i ∧ i < es.length) (.to (.rptr l sz i.toNat 0) σ)
    | _ => .bad
  | _ => .bad
def evIndexAddr (P : Program) (σ : List AObj) (t : TypeId) (x : AV) : Option (IntKind × Int) → R1
  | some (_, i) => match it P t with
    | some (none, _, sz) => evIdxS σ sz i x
    | some (some n, _, sz) => .need (0 ≤ i ∧ i < n) (shiftA σ (i.toNat * sz) x)
    | none => .bad
  | none => .bad

theorem evIndexAddr_ok (H : Holds c σ) (he : ARs c env a.tmps.toList) {t : TypeId} {x y : Operand} (ho : o.op = .indexAddr t x y) : (evIndexAddr P σ t (evO env x) (evIx (evO env y))).Ok P o a c σ := by
  have hx := evO_sound he x
  have hy := evO_sound he y
  cases hi : evIx (evO env y) with
  | none => trivial
  | some r =>
    obtain ⟨k, i⟩ := r
    have hiv := evIx_sound hi hy
    simp only [evIndexAddr]
    split
    · next ag sz hit =>
      obtain ⟨e, hu, ht⟩ := it_slice hit
      generalize hz : evO env x = z at hx
      cases z <;> simp only [evIdxS] <;> try trivial
      case d z =>
        cases z <;> simp only [evIdxS] <;> try trivial
        case sl es =>
          simp only [AR, DR] at hx
          obtain ⟨A, cap, sz', hv, hcap, hsp, hne, hrows⟩ := hx
          rintro ⟨h0, h1⟩
          have hlt : i.toNat < es.length := by omega
          have hes : es[i.toNat]? = some es[i.toNat] := by simp [hlt]
          refine ⟨es[i.toNat], hes, fun hlen => ?_⟩
          obtain ⟨q1, q2⟩ := DRows_at hrows i.toNat hes
          cases A with
          | none =>
            have := hne rfl
            subst this
            simp at hlt
          | some ad =>
            have hs := hsp (fun q => by rw [q] at hlt; simp at hlt) ad rfl
            refine R1.Ok_to H (x := .pointer (some (ad.add (i.toNat * sz)))) ?_ ?_
            · simp [execOp, ho, hv, hiv, Instr.indexAt, asIntOf, run_underlying' hu, h0, h1, run_sizeOf' ht]
            · simp only [AR]
              refine ⟨_, rfl, by rw [addr_add' hs], DCells_shift hs _ ?_⟩
              rw [q1] at hlen; subst hlen; exact q2
      case own l =>
        generalize hO : ob σ l = O
        cases O <;> simp only [] <;> try trivial
        case row sz' es =>
          rintro ⟨rfl, h0, h1⟩
          simp only [AR] at hx
          obtain ⟨hl, hv, _⟩ := hx
          rcases H.obj l _ (ob_some hO (by simp)) with ⟨rfl, _⟩ | ⟨cap, vs, ty, g0, g1, _⟩
          · simp at h1; omega
          · refine R1.Ok_to H (x := .pointer (some ⟨c.ν l, i.toNat * sz', none⟩)) ?_ (by simp [AR, hl])
            rw [g1] at hv
            simp [execOp, ho, hv, hiv, Instr.indexAt, asIntOf, run_underlying' hu, h0, h1, run_sizeOf' ht, addr_add]
    · next n ag sz hit =>
      obtain ⟨e, hu, ht⟩ := it_array hit
      rintro ⟨h0, h1⟩
      refine shiftA_ok H hx fun ad e' hs => ?_
      simp [execOp, ho, e', hiv, Instr.indexAt, asIntOf, run_underlying' hu, h0, h1, run_sizeOf' ht, Instr.sureAddr]
    · trivial

def bt (s : ByteArray) (i : Nat) : Int := ((s[i]?).map fun b => (b.toNat : Int)).getD 0
def evIndex (P : Program) (σ : List AObj) (t : TypeId) (x : AV) : Option (IntKind × Int) → R1
  | some (_, i) => match x with
    | .d (.str s) => match P.underlying t with
      | some .string => .need (0 ≤ i ∧ i < s.size) (.to (.d (.int .u8 (bt s i.toNat))) σ)
      | _ => .bad
    | .agg cs => match it P t with
      | some (some n, b, sz) => .need (0 ≤ i ∧ i < n) (toO σ (ldA (drA cs (i.toNat * sz)) (b, sz)))
      | _ => .bad
    | _ => .bad
  | none => .bad
theorem evIndex_ok (H : Holds c σ) (he : ARs c env a.tmps.toList) {t : TypeId} {x y : Operand} (ho : o.op = .index t x y) : (evIndex P σ t (evO env x) (evIx (evO env y))).Ok P o a c σ := by
  have hx := evO_sound he x
  have hy := evO_sound he y
  cases hi : evIx (evO env y) with
  | none => trivial
  | some r =>
    obtain ⟨k, i⟩ := r
    have hiv := evIx_sound hi hy
    simp only [evIndex]
    split
    · next s hs =>
      rw [hs] at hx
      simp only [AR, DR] at hx
      split
      · next hu =>
        rintro ⟨h0, h1⟩
        have hlt : i.toNat < s.size := by omega
        refine R1.Ok_to H (x := .int .u8 (bt s i.toNat)) ?_ (by simp [AR, DR])
        have e : s[i.toNat]? = some (s[i.toNat]'hlt) := by simp [hlt]
        simp [execOp, ho, hx, hiv, Instr.index, asIntOf, run_underlying' hu, h0, e, bt]
      · trivial
    · next cs hs =>
      rw [hs] at hx
      simp only [AR] at hx
      obtain ⟨vs, hv, hr⟩ := hx
      split
      · next n b sz hit =>
        obtain ⟨e, hu, ht⟩ := it_array hit
        rintro ⟨h0, h1⟩
        refine toO_ok fun v hv' => ?_
        obtain ⟨u, g1, g2⟩ := part_ok (P := P) (w := c.w) ht hr hv'
        refine R1.Ok_to H (x := u) ?_ g2
        simp [execOp, ho, hv, hiv, Instr.index, asIntOf, run_underlying' hu, h0, h1, run_sizeOf' ht, g1]
      · trivial
    · trivial

/-! ### operands handed on -/
theorem evMove_ok (H : Holds c σ) (he : ARs c env a.tmps.toList) {x : Operand} (ho : o.op = .move x ∨ o.op = .assign x) : (R1.to (evO env x) σ).Ok P o a c σ :=
  R1.Ok_to H (by rcases ho with ho | ho <;> simp [execOp, ho]) (evO_sound he x)
def evPick (σ : List AObj) (x y : AV) : AV → R1
  | .d (.bool t) => .ite t (.to x σ) (.to y σ)
  | _ => .bad
theorem evPick_ok (H : Holds c σ) (he : ARs c env a.tmps.toList) {q x y : Operand} (ho : o.op = .pick q x y) : (evPick σ (evO env x) (evO env y) (evO env q)).Ok P o a c σ := by
  have hq := evO_sound he q
  generalize evO env q = z at hq
  cases z <;> simp only [evPick] <;> try trivial
  case d z =>
    cases z <;> simp only [evPick] <;> try trivial
    case bool t =>
      simp only [AR, DR] at hq
      refine ⟨fun ht => ?_, fun ht => ?_⟩
      · subst ht; exact R1.Ok_to H (by simp [execOp, ho, hq, asBool]) (evO_sound he x)
      · subst ht; exact R1.Ok_to H (by simp [execOp, ho, hq, asBool]) (evO_sound he y)
def evNilCheck (σ : List AObj) (x : AV) : R1 :=
  match x with
  | .ptr .. | .rptr .. | .eptr _ | .fn .. => .to x σ
  | _ => .bad
theorem evNilCheck_ok (H : Holds c σ) (he : ARs c env a.tmps.toList) {x : Operand} (ho : o.op = .nilCheck x) : (evNilCheck σ (evO env x)).Ok P o a c σ := by
  have hx := evO_sound he x
  generalize evO env x = z at hx
  cases z <;> simp only [evNilCheck] <;> try trivial
  case ptr l off => have hx' := hx; simp only [AR] at hx; exact R1.Ok_to H (by simp [execOp, ho, hx.2]) hx'
  case rptr l s i j => have hx' := hx; simp only [AR] at hx; exact R1.Ok_to H (by simp [execOp, ho, hx.2]) hx'
  case eptr cs => have hx' := hx; simp only [AR] at hx; obtain ⟨ad, e, _⟩ := hx; rw [e] at hx'; exact R1.Ok_to H (by simp [execOp, ho, e]) hx'
  case fn f caps => have hx' := hx; simp only [AR] at hx; obtain ⟨vs, e, _⟩ := hx; rw [e] at hx'; exact R1.Ok_to H (by simp [execOp, ho, e]) hx'
def evExtract (σ : List AObj) (i : Nat) : AV → R1
  | .tup vs => .need (i < vs.length) (.to (lk vs i) σ)
  | _ => .bad
theorem evExtract_ok (H : Holds c σ) (he : ARs c env a.tmps.toList) {x : Operand} {i : Nat} (ho : o.op = .extract x i) : (evExtract σ i (evO env x)).Ok P o a c σ := by
  have hx := evO_sound he x
  generalize evO env x = z at hx
  cases z <;> simp only [evExtract] <;> try trivial
  case tup vs =>
    intro hi
    simp only [AR] at hx
    obtain ⟨us, e, hr⟩ := hx
    have hl := ARs_length hr
    have hlt : i < us.size := by simp at hl; omega
    have := ARs_lk hr i undef
    refine R1.Ok_to H (x := us[i]) ?_ (by simpa [hlt] using this)
    simp [execOp, ho, e, Instr.extract, hlt]
def evAll (env : List AV) : List Operand → List AV
  | [] => []
  | x :: xs => evO env x :: evAll env xs
theorem evAll_sound {c : Cf} {env : List AV} {a : Act} (h : ARs c env a.tmps.toList) : ∀ xs : List Operand, ARs c (evAll env xs) (xs.map a.eval)
  | [] => by simp [evAll, ARs]
  | x :: xs => by simp only [evAll, List.map_cons, ARs_cons]; exact ⟨evO_sound h x, evAll_sound h xs⟩
def evMakeFunc (σ : List AObj) (env : List AV) (caps : List Operand) : Fn → List Operand → R1
  | .func f, [] => .to (.fn f (evAll env caps)) σ
  | _, _ => .bad
theorem evMakeFunc_ok (H : Holds c σ) (he : ARs c env a.tmps.toList) {f : Fn} {first caps : Array Operand} (ho : o.op = .makeFunc f first caps) : (evMakeFunc σ env caps.toList f first.toList).Ok P o a c σ := by
  unfold evMakeFunc
  split
  · next f hfi =>
    have : first = #[] := by simpa using hfi
    subst this
    refine R1.Ok_to H (x := .func (.func f) #[] (caps.map a.eval)) (by simp [execOp, ho, Instr.makeFunc]) ?_
    simp only [AR]
    exact ⟨_, rfl, by simpa using evAll_sound he caps.toList⟩
  · trivial

/-! ### arithmetic -/
def evInt (σ : List AObj) (op : BinOp) (k : IntKind) (x y : Int) : R1 :=
  match op with
  | .add => .to (.d (.int k (k.wrap (x + y)))) σ
  | .sub => .to (.d (.int k (k.wrap (x - y)))) σ
  | .mul => .to (.d (.int k (k.wrap (x * y)))) σ
  | .quo => .need (y ≠ 0) (.to (.d (.int k (k.wrap (x.tdiv y)))) σ)
  | .rem => .need (y ≠ 0) (.to (.d (.int k (x.tmod y))) σ)
  | .and => .to (.d (.int k (k.wrap (BitVec.ofInt k.bits x &&& BitVec.ofInt k.bits y).toNat))) σ
  | .or => .to (.d (.int k (k.wrap (BitVec.ofInt k.bits x ||| BitVec.ofInt k.bits y).toNat))) σ
  | .xor => .to (.d (.int k (k.wrap (BitVec.ofInt k.bits x ^^^ BitVec.ofInt k.bits y).toNat))) σ
  | .andNot => .to (.d (.int k (k.wrap (BitVec.ofInt k.bits x &&& ~~~BitVec.ofInt k.bits y).toNat))) σ
  | .eql => .to (.d (.bool (x == y))) σ
  | .neq => .to (.d (.bool (x != y))) σ
  | .lss => .to (.d (.bool (decide (x < y)))) σ
  | .leq => .to (.d (.bool (decide (x ≤ y)))) σ
  | .gtr => .to (.d (.bool (decide (y < x)))) σ
  | .geq => .to (.d (.bool (decide (y ≤ x)))) σ
  | _ => .bad
def evShift (σ : List AObj) (op : BinOp) (k : IntKind) (x y : Int) : R1 :=
  match op with
  | .shl => .need (0 ≤ y) (.to (.d (.int k (k.wrap (x * 2 ^ (min y.toNat k.bits))))) σ)
  | .shr => .need (0 ≤ y) (.to (.d (.int k (x.fdiv (2 ^ (min y.toNat k.bits))))) σ)
  | _ => .bad
def isShift : BinOp → Bool
  | .shl => true
  | .shr => true
  | _ => false
def evStr (σ : List AObj) (op : BinOp) (x y : ByteArray) : R1 :=
  match op with
  | .add => .need (x.size + y.size ≤ 9223372036854775807) (.to (.d (.str (x ++ y))) σ)
  | .eql => .to (.d (.bool (x.toList == y.toList))) σ
  | .neq => .to (.d (.bool (!(x.toList == y.toList)))) σ
  | .lss => .to (.d (.bool (Op.bytesLess x.toList y.toList))) σ
  | .leq => .to (.d (.bool (Op.bytesLess x.toList y.toList || x.toList == y.toList))) σ
  | .gtr => .to (.d (.bool (!(Op.bytesLess x.toList y.toList || x.toList == y.toList)))) σ
  | .geq => .to (.d (.bool (!(Op.bytesLess x.toList y.toList)))) σ
  | _ => .bad
/-- data that '==' compares cell by cell -/
def deq : D → D → Bool
  | .int _ x, .int _ y => x == y
  | .bool x, .bool y => x == y
  | .str x, .str y => x.toList == y.toList
  | _, _ => false
def deqs : List D → List D → Bool
  | [], [] => true
  | x :: xs, y :: ys => deq x y && deqs xs ys
  | _, _ => false
inductive DK where
  | int (k : IntKind) | bool | str
  deriving DecidableEq
def dk : D → Option DK
  | .int k _ => some (.int k)
  | .bool _ => some .bool
  | .str _ => some .str
  | .sl _ => none
def toV : D → Value
  | .int k n => .int k n
  | .bool b => .bool b
  | .str s => .string s
  | .sl _ => undef
/-- '==' at a type of several cells of these kinds -/
def EqT (P : Program) (t : TypeId) (ks : List DK) : Prop :=
  ∀ (xs ys : List D) (x y : Operand) (w : World), xs.map dk = ks.map some → ys.map dk = ks.map some →
    (do eqGuard .eql t x y (.agg (xs.map toV).toArray) (.agg (ys.map toV).toArray); binOp .eql t (.agg (xs.map toV).toArray) (.agg (ys.map toV).toArray) : Sem Value).run P w = .ok (.bool (deqs xs ys)) w ∧
    (do eqGuard .neq t x y (.agg (xs.map toV).toArray) (.agg (ys.map toV).toArray); binOp .neq t (.agg (xs.map toV).toArray) (.agg (ys.map toV).toArray) : Sem Value).run P w = .ok (.bool (!deqs xs ys)) w
def dsOf : List AV → Option (List D)
  | [] => some []
  | .d x :: r => match dsOf r with
    | some xs => some (x :: xs)
    | none => none
  | _ => none
/-- the kinds that a type's cells have -/
def KT (P : Program) (t : TypeId) (ks : List DK) : Prop := EqT P t ks
def evEqA (P : Program) (σ : List AObj) (op : BinOp) (t : TypeId) : Option (List D) → Option (List D) → R1
  | some xs, some ys => match op with
    | .eql => .need (∃ ks, EqT P t ks ∧ xs.map dk = ks.map some ∧ ys.map dk = ks.map some) (.to (.d (.bool (deqs xs ys))) σ)
    | .neq => .need (∃ ks, EqT P t ks ∧ xs.map dk = ks.map some ∧ ys.map dk = ks.map some) (.to (.d (.bool (!deqs xs ys))) σ)
    | _ => .bad
  | _, _ => .bad
def evBin (P : Program) (σ : List AObj) (op : BinOp) (t : TypeId) : AV → AV → R1
  | .d (.int k x), .d (.int k' y) => if isShift op then evShift σ op k x y else if k = k' then evInt σ op k x y else .bad
  | .d (.str x), .d (.str y) => evStr σ op x y
  | .d (.bool x), .d (.bool y) => match P.underlying t with
    | some .bool => match op with
      | .eql => .to (.d (.bool (x == y))) σ
      | .neq => .to (.d (.bool (!(x == y)))) σ
      | _ => .bad
    | _ => .bad
  | .agg xs, .agg ys => evEqA P σ op t (dsOf xs) (dsOf ys)
  | _, _ => .bad

theorem dsOf_sound : ∀ {xs : List AV} {ys : List D} {vs : List Value}, dsOf xs = some ys → ARs c xs vs → DRs c.h ys vs
  | [], ys, vs, h, r => by simp [dsOf] at h; subst h; rw [ARs_nil_left r]; simp [DRs]
  | x :: xs, ys, vs, h, r => by
    obtain ⟨v, q, rfl, h1, h2⟩ := ARs_cons_left r
    cases x <;> simp only [dsOf] at h <;> try (simp at h; done)
    case d x =>
      split at h
      · next zs e => simp at h; subst h; simp only [DRs]; exact ⟨by simpa [AR] using h1, dsOf_sound e h2⟩
      · simp at h
theorem DRs_toV {h : Snap} : ∀ {xs : List D} {vs : List Value} {ks : List DK}, DRs h xs vs → xs.map dk = ks.map some → vs = xs.map toV
  | [], [], _, _, _ => rfl
  | x :: xs, v :: vs, ks, r, e => by
    simp only [DRs] at r
    cases ks with
    | nil => simp at e
    | cons k ks =>
      simp at e
      rw [DRs_toV r.2 e.2]
      cases x <;> simp [DR, dk, toV] at * <;> simp [r.1]
  | [], _ :: _, _, r, _ => by simp [DRs] at r
  | _ :: _, [], _, r, _ => by simp [DRs] at r

theorem evBin_ok (H : Holds c σ) (he : ARs c env a.tmps.toList) {op : BinOp} {t t2 : TypeId} {x y : Operand} (ho : o.op = .binOp op t x y t2) : (evBin P σ op t (evO env x) (evO env y)).Ok P o a c σ := by
  have hx := evO_sound he x
  have hy := evO_sound he y
  unfold evBin
  split
  · next k n k' m e1 e2 =>
    rw [e1] at hx; rw [e2] at hy
    simp only [AR, DR] at hx hy
    split
    · next hsh =>
      cases op <;> simp [isShift] at hsh <;> simp only [evShift] <;> intro h0
      · refine R1.Ok_to H (x := .int k (k.wrap (n * 2 ^ (min m.toNat k.bits)))) ?_ (by simp [AR, DR])
        simp [execOp, ho, hx, hy, eqGuard_at_int, Go.binOp, Op.shift, Int.not_lt.2 h0]
      · refine R1.Ok_to H (x := .int k (n.fdiv (2 ^ (min m.toNat k.bits)))) ?_ (by simp [AR, DR])
        simp [execOp, ho, hx, hy, eqGuard_at_int, Go.binOp, Op.shift, Int.not_lt.2 h0]
    · split
      · next hsh hk =>
        subst hk
        cases op <;> simp [isShift] at hsh <;> simp only [evInt]
        case quo => intro h0; exact R1.Ok_to H (x := .int k (k.wrap (n.tdiv m))) (by simp [execOp, ho, hx, hy, eqGuard_at_int, Go.binOp, Op.intDiv, h0]) (by simp [AR, DR])
        case rem => intro h0; exact R1.Ok_to H (x := .int k (n.tmod m)) (by simp [execOp, ho, hx, hy, eqGuard_at_int, Go.binOp, Op.intDiv, h0]) (by simp [AR, DR])
        all_goals exact R1.Ok_to H (by simp [execOp, ho, hx, hy, eqGuard_at_int, Go.binOp, Op.intArith, Op.intBits, Op.intCmp]; rfl) (by simp [AR, DR])
      · trivial
  · next s u e1 e2 =>
    rw [e1] at hx; rw [e2] at hy
    simp only [AR, DR] at hx hy
    cases op <;> simp only [evStr] <;> try trivial
    case add =>
      intro h0
      refine R1.Ok_to H (x := .string (s ++ u)) ?_ (by simp [AR, DR])
      have h1 : ¬ (IntKind.i64.max < (s.size : Int) + (u.size : Int)) := by rw [IntKind.max_i64]; omega
      have h2 : ¬ ((s.size + u.size : Nat) : Int) > IntKind.i64.max := by rw [IntKind.max_i64]; omega
      simp only [execOp, ho, hx, hy, eqGuard_at_string, Go.binOp, Op.stringOp, if_neg h2, Sem.run_bind, Sem.run_pure, Result.andThen_ok]
    all_goals exact R1.Ok_to H (by simp [execOp, ho, hx, hy, eqGuard_at_string, Go.binOp, Op.stringOp]; rfl) (by simp [AR, DR])
  · next s u e1 e2 =>
    rw [e1] at hx; rw [e2] at hy
    simp only [AR, DR] at hx hy
    split
    · next hu =>
      cases op <;> simp only [] <;> try trivial
      · exact R1.Ok_to H (x := .bool (s == u)) (by simp [execOp, ho, hx, hy, eqGuard_at_bool, run_eql_bool c.w t s u hu]) (by simp [AR, DR])
      · exact R1.Ok_to H (x := .bool (!(s == u))) (by simp [execOp, ho, hx, hy, eqGuard_at_bool, run_neq_bool c.w t s u hu]) (by simp [AR, DR])
    · trivial
  · next xs ys e1 e2 =>
    rw [e1] at hx; rw [e2] at hy
    simp only [AR] at hx hy
    obtain ⟨us, hx, rx⟩ := hx
    obtain ⟨vs, hy, ry⟩ := hy
    cases h1 : dsOf xs with
    | none => simp only [evEqA]; trivial
    | some ds =>
      cases h2 : dsOf ys with
      | none => simp only [evEqA]; trivial
      | some es =>
        have r1 := dsOf_sound h1 rx
        have r2 := dsOf_sound h2 ry
        cases op <;> simp only [evEqA] <;> try trivial
        all_goals
          rintro ⟨ks, hE, k1, k2⟩
          have q1 := DRs_toV r1 k1
          have q2 := DRs_toV r2 k2
          have u1 : us = (ds.map toV).toArray := by rw [← q1]
          have u2 : vs = (es.map toV).toArray := by rw [← q2]
          subst u1; subst u2
          have := hE ds es x y c.w k1 k2
        · refine R1.Ok_to H (x := .bool (deqs ds es)) ?_ (by simp [AR, DR])
          simp only [execOp, ho, hx, hy, Sem.run_bind, this.1, Result.andThen_ok, Sem.run_pure]
        · refine R1.Ok_to H (x := .bool (!deqs ds es)) ?_ (by simp [AR, DR])
          simp only [execOp, ho, hx, hy, Sem.run_bind, this.2, Result.andThen_ok, Sem.run_pure]
  · trivial

def evUn (σ : List AObj) (op : UnOp) : AV → R1
  | .d (.int k n) => match op with
    | .neg => .to (.d (.int k (k.wrap (0 - n)))) σ
    | .xor => .to (.d (.int k (k.wrap (BitVec.ofInt k.bits (if k.signed then -1 else k.max) ^^^ BitVec.ofInt k.bits n).toNat))) σ
    | _ => .bad
  | .d (.bool b) => match op with
    | .not => .to (.d (.bool (!b))) σ
    | _ => .bad
  | _ => .bad
theorem evUn_ok (H : Holds c σ) (he : ARs c env a.tmps.toList) {op : UnOp} {t : TypeId} {x : Operand} (ho : o.op = .unOp op t x) : (evUn σ op (evO env x)).Ok P o a c σ := by
  have hx := evO_sound he x
  unfold evUn
  split
  · next k n e =>
    rw [e] at hx
    simp only [AR, DR] at hx
    cases op <;> simp only [] <;> try trivial
    all_goals exact R1.Ok_to H (by simp [execOp, ho, hx, Op.unary, Op.intArith, Op.intBits]; rfl) (by simp [AR, DR])
  · next b e =>
    rw [e] at hx
    simp only [AR, DR] at hx
    cases op <;> simp only [] <;> try trivial
    all_goals exact R1.Ok_to H (by simp [execOp, ho, hx, Op.unary]; rfl) (by simp [AR, DR])
  · trivial
end
end Go.AX

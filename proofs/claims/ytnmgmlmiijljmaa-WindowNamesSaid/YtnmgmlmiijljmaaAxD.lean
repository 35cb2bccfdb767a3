/- AX, part D: what an operation gives. -/
import Derived.Test.YtnmgmlmiijljmaaAxC
import Derived.Laws.CopyRow
import Derived.Laws.StructEq
set_option linter.unusedVariables false
namespace Go.AX

inductive R1 where
  | to (v : AV) (σ : List AObj)
  | need (p : Prop) (r : R1)
  | all (es : List (List D)) (i : Nat) (k : List D → R1)
  | ite (t : Bool) (a b : R1)
  | call (f : FuncId) (args : List AV)
  | ex (p : Bool → Prop) (k : Bool → R1)
  | bad

def R1.Ok (P : Program) (o : Oper) (a : Act) (c : Cf) (σ : List AObj) : R1 → Prop
  | .to v σ' => ∃ nx x c', (execOp a.eval o).run P c.w = .ok nx c'.w ∧ (nx = .value x ∨ (nx = .skip ∧ x = undef)) ∧ AR c' v x ∧ Nxt c σ c' σ'
  | .need p r => p → r.Ok P o a c σ
  | .all es i k => ∃ e, es[i]? = some e ∧ (k e).Ok P o a c σ
  | .ite t x y => (t = true → x.Ok P o a c σ) ∧ (t = false → y.Ok P o a c σ)
  | .call f args => ∃ vs, (execOp a.eval o).run P c.w = (callFunc f vs).run P c.w ∧ ARs c args vs.toList
  | .ex p k => ∃ b, p b ∧ (k b).Ok P o a c σ
  | .bad => True

/-! ### operands -/
def cv1 : Value → AV
  | .int k n => .d (.int k n)
  | .bool b => .d (.bool b)
  | .string s => .d (.str s)
  | .slice none 0 0 => .nil
  | v => .raw v
def cv : Value → AV
  | .agg cs => .agg (cs.toList.map cv1)
  | v => cv1 v
theorem AR_cv1 (c : Cf) (v : Value) : AR c (cv1 v) v := by
  unfold cv1
  split <;> simp [AR, DR]
theorem ARs_map_cv1 (c : Cf) : ∀ vs : List Value, ARs c (vs.map cv1) vs
  | [] => by simp [ARs]
  | v :: vs => ARs_cons.2 ⟨AR_cv1 c v, ARs_map_cv1 c vs⟩
theorem AR_cv (c : Cf) (v : Value) : AR c (cv v) v := by
  unfold cv
  split
  · simp only [AR]; exact ⟨_, rfl, ARs_map_cv1 c _⟩
  · exact AR_cv1 c _

def evO (env : List AV) : Operand → AV
  | .tmp t => lk env t
  | .const v => cv v
  | .func f => .fn f []
  | .global g => .raw (.pointer (some ⟨g, 0, none⟩))
theorem evO_sound {c : Cf} {env : List AV} {a : Act} (h : ARs c env a.tmps.toList) (x : Operand) : AR c (evO env x) (a.eval x) := by
  cases x with
  | tmp t =>
    have := ARs_lk h t undef
    simpa [evO, Act.eval, Array.getD_eq_getD_getElem?] using this
  | const v => exact AR_cv c v
  | global g => simp [evO, Act.eval, AR]
  | func f => simp [evO, Act.eval, AR, ARs]

theorem R1.Ok_to {P : Program} {o : Oper} {a : Act} {c : Cf} {σ : List AObj} (H : Holds c σ) {v : AV} {x : Value} (hr : (execOp a.eval o).run P c.w = .ok (.value x) c.w) (hx : AR c v x) :
    (R1.to v σ).Ok P o a c σ := ⟨_, x, c, hr, .inl rfl, hx, .refl H⟩

/-! ### types -/
def isAggD : TypeDesc → Bool
  | .struct _ => true
  | .array _ _ => true
  | _ => false
def tk (P : Program) (t : TypeId) : Option (Bool × Nat) :=
  match P.underlying t, P.info? t with
  | some d, some i => some (isAggD d, i.size)
  | _, _ => none
section
variable {P : Program} {w : World} {t : TypeId} {b : Bool} {n : Nat}
theorem run_underlying' {d : TypeDesc} (h : P.underlying t = some d) : (underlying t).run P w = .ok d w := by
  simp [underlying, h]
theorem tk_spec (h : tk P t = some (b, n)) : ∃ d i, P.underlying t = some d ∧ P.info? t = some i ∧ isAggD d = b ∧ i.size = n := by
  unfold tk at h
  split at h
  · next d i h1 h2 => simp at h; exact ⟨d, i, h1, h2, h.1, h.2⟩
  · simp at h
theorem run_isAgg (h : tk P t = some (b, n)) : (isAgg t).run P w = .ok b w := by
  obtain ⟨d, i, h1, _, h3, _⟩ := tk_spec h
  subst h3
  simp only [isAgg, Sem.run_bind, run_underlying' h1, Result.andThen_ok]
  cases d <;> rfl
theorem run_sizeOf' (h : tk P t = some (b, n)) : (sizeOf t).run P w = .ok n w := by
  obtain ⟨d, i, _, h2, _, h4⟩ := tk_spec h
  subst h4
  simp [sizeOf, typeInfo, h2]
end

/-! ### cells of a value -/
def cellsOf : AV → Option (List AV)
  | .agg cs => some cs
  | .any => none
  | .tup _ => none
  | .raw v => match v with
    | .agg _ => none
    | .tuple _ => none
    | v => some [.raw v]
  | x => some [x]
/-- surely a value of one cell -/
def oneC : AV → Bool
  | .d _ | .own _ | .ptr .. | .rptr .. | .eptr _ | .mp _ | .fn .. | .nil => true
  | .raw v => match v with
    | .agg _ => false
    | .tuple _ => false
    | _ => true
  | _ => false
theorem DR_cells {h : Snap} {x : D} {v : Value} (e : DR h x v) : v.cells = #[v] ∧ v.oneCell' = true := by
  cases x <;> simp only [DR] at e
  case sl es => obtain ⟨A, c, sz, rfl, _⟩ := e; exact ⟨rfl, rfl⟩
  all_goals (subst e; exact ⟨rfl, rfl⟩)
theorem oneC_sound {c : Cf} {x : AV} {v : Value} (h : oneC x = true) (e : AR c x v) : v.cells = #[v] ∧ v.oneCell' = true := by
  cases x <;> simp only [oneC] at h <;> simp only [AR] at e <;> try (simp at h; done)
  case d x => exact DR_cells e
  case own l => obtain ⟨_, _, a, k, p, rfl⟩ := e; exact ⟨rfl, rfl⟩
  case ptr l o => obtain ⟨_, rfl⟩ := e; exact ⟨rfl, rfl⟩
  case rptr l s i j => obtain ⟨_, rfl⟩ := e; exact ⟨rfl, rfl⟩
  case eptr cs => obtain ⟨a, rfl, _⟩ := e; exact ⟨rfl, rfl⟩
  case mp l => obtain ⟨_, rfl⟩ := e; exact ⟨rfl, rfl⟩
  case fn f caps => obtain ⟨vs, rfl, _⟩ := e; exact ⟨rfl, rfl⟩
  case nil => obtain ⟨A, rfl, _⟩ := e; exact ⟨rfl, rfl⟩
  case raw v' => subst e; cases v <;> first | (simp at h; done) | exact ⟨rfl, rfl⟩
theorem cellsOf_sound {c : Cf} {x : AV} {v : Value} {cs : List AV} (h : cellsOf x = some cs) (e : AR c x v) : ARs c cs v.cells.toList := by
  by_cases h1 : oneC x = true
  · have hc := (oneC_sound h1 e).1
    rw [hc]
    have : cs = [x] := by
      cases x <;> simp only [cellsOf, oneC] at h h1 <;> try (simp at h1; done)
      case raw v' => cases v' <;> simp_all
      all_goals (simpa using h.symm)
    subst this
    simpa [ARs] using e
  · cases x <;> simp only [cellsOf, oneC] at h h1 <;> try (simp at h; done)
    case agg cs' =>
      simp at h; subst h
      simp only [AR] at e
      obtain ⟨vs, rfl, e2⟩ := e
      exact e2
    case raw v' => cases v' <;> simp_all
    all_goals (simp at h1)

/-! ### objects -/
def ob : List AObj → Nat → AObj
  | [], _ => .gone
  | o :: _, 0 => o
  | _ :: os, n + 1 => ob os n
def so : List AObj → Nat → AObj → List AObj
  | [], _, _ => []
  | _ :: os, 0, x => x :: os
  | o :: os, n + 1, x => o :: so os n x
theorem ob_eq : ∀ (σ : List AObj) (l : Nat), ob σ l = (σ[l]?).getD .gone
  | [], _ => by simp [ob]
  | o :: os, 0 => by simp [ob]
  | o :: os, n + 1 => by simp [ob, ob_eq os n]
theorem so_eq : ∀ (σ : List AObj) (l : Nat) (x : AObj), so σ l x = σ.set l x
  | [], _, _ => by simp [so]
  | o :: os, 0, _ => by simp [so]
  | o :: os, n + 1, x => by simp [so, so_eq os n x]
theorem ob_some {σ : List AObj} {l : Nat} {o : AObj} (h : ob σ l = o) (hg : o ≠ .gone) : σ[l]? = some o := by
  rw [ob_eq] at h
  cases e : σ[l]? with
  | none => simp [e] at h; exact absurd h.symm hg
  | some x => simp [e] at h; rw [h]

/-- some cells, written over from a place on -/
def spl {α : Type} : List α → Nat → List α → List α
  | cs, 0, [] => cs
  | _ :: cs, 0, v :: vs => v :: spl cs 0 vs
  | c :: cs, n + 1, vs => c :: spl cs n vs
  | [], _, _ => []
theorem spl_eq {α : Type} : ∀ (cs : List α) (n : Nat) (vs : List α), n + vs.length ≤ cs.length → spl cs n vs = cs.take n ++ vs ++ cs.drop (n + vs.length)
  | cs, 0, [], _ => by cases cs <;> simp [spl]
  | _ :: cs, 0, v :: vs, h => by
    have := spl_eq cs 0 vs (by simp at h ⊢; omega)
    simp [spl, this]
  | c :: cs, n + 1, vs, h => by
    have := spl_eq cs n vs (by simp at h ⊢; omega)
    simp [spl, this, show n + 1 + vs.length = n + vs.length + 1 by omega]
  | [], 0, v :: vs, h => by simp at h
  | [], n + 1, vs, h => by simp at h

theorem ARs_take {c : Cf} (n : Nat) : ∀ {xs : List AV} {vs : List Value}, ARs c xs vs → ARs c (xs.take n) (vs.take n) := by
  induction n with
  | zero => intro xs vs _; simp [ARs]
  | succ n ih =>
    intro xs vs h
    cases xs with
    | nil => rw [ARs_nil_left h]; simp [ARs]
    | cons x xs => obtain ⟨v, r, rfl, h1, h2⟩ := ARs_cons_left h; simpa [ARs_cons] using ⟨h1, ih h2⟩
theorem ARs_drop {c : Cf} (n : Nat) : ∀ {xs : List AV} {vs : List Value}, ARs c xs vs → ARs c (xs.drop n) (vs.drop n) := by
  induction n with
  | zero => intro xs vs h; simpa using h
  | succ n ih =>
    intro xs vs h
    cases xs with
    | nil => rw [ARs_nil_left h]; simp [ARs]
    | cons x xs => obtain ⟨v, r, rfl, h1, h2⟩ := ARs_cons_left h; simpa using ih h2
theorem ARs_dcells {c : Cf} : ∀ {xs : List D} {vs : List Value}, DRs c.h xs vs → ARs c (xs.map .d) vs
  | [], [], _ => by simp [ARs]
  | x :: xs, v :: vs, h => by simp only [DRs] at h; simp only [List.map_cons]; exact ARs_cons.2 ⟨by simpa [AR] using h.1, ARs_dcells h.2⟩
  | [], _ :: _, r => by simp [DRs] at r
  | _ :: _, [], r => by simp [DRs] at r

/-! ### load -/
theorem addr_add (b o n : Nat) : (⟨b, o, none⟩ : Addr).add n = ⟨b, o + n, none⟩ := by
  unfold Addr.add; split
  · next h => subst h; simp
  · rfl
theorem addr_add' {a : Addr} (h : a.spot = none) (n : Nat) : a.add n = ⟨a.block, a.off + n, none⟩ := by
  cases a with
  | mk b o s => simp at h; subst h; exact addr_add b o n
theorem run_loadVar_one {P : Program} {t : TypeId} {n : Nat} (h : tk P t = some (false, n)) {w : World} {a : Addr} {v : Value} (hv : w.cell? a = some v) : (loadVar t a).run P w = .ok v w := by
  simp [loadVar, run_isAgg h, hv, run_load]
theorem run_loadVar_agg {P : Program} {t : TypeId} {n : Nat} (h : tk P t = some (true, n)) {w : World} {a : Addr} {vs : List Value} (hn : vs.length = n) (hv : ∀ j v, vs[j]? = some v → w.cell? (a.add j) = some v) :
    (loadVar t a).run P w = .ok (.agg vs.toArray) w := by
  have := run_loadCells_list (P := P) w a vs hv
  rw [hn] at this
  simp [loadVar, run_isAgg h, run_sizeOf' h, this]

def ldD (cs : List D) : Bool × Nat → Option AV
  | (true, n) => if n ≤ cs.length then some (.agg ((cs.take n).map .d)) else none
  | (false, _) => match cs with
    | x :: _ => some (.d x)
    | [] => none
def ldA (cs : List AV) : Bool × Nat → Option AV
  | (true, n) => if n ≤ cs.length then some (.agg (cs.take n)) else none
  | (false, _) => match cs with
    | x :: _ => some x
    | [] => none
def toO (σ : List AObj) : Option AV → R1
  | some v => .to v σ
  | none => .bad
def drA : List AV → Nat → List AV
  | cs, 0 => cs
  | [], _ => []
  | _ :: cs, n + 1 => drA cs n
theorem drA_eq : ∀ (cs : List AV) (n : Nat), drA cs n = cs.drop n
  | cs, 0 => by cases cs <;> simp [drA]
  | [], n + 1 => by simp [drA]
  | _ :: cs, n + 1 => by simp [drA, drA_eq cs n]
def drD : List D → Nat → List D
  | cs, 0 => cs
  | [], _ => []
  | _ :: cs, n + 1 => drD cs n
theorem drD_eq : ∀ (cs : List D) (n : Nat), drD cs n = cs.drop n
  | cs, 0 => by cases cs <;> simp [drD]
  | [], n + 1 => by simp [drD]
  | _ :: cs, n + 1 => by simp [drD, drD_eq cs n]
def evLoadO (σ : List AObj) (k : Option (Bool × Nat)) (off : Nat) : AObj → R1
  | .cells cs => match k with
    | some k => toO σ (ldA (drA cs off) k)
    | none => .bad
  | _ => .bad
def evLoadR (σ : List AObj) (k : Option (Bool × Nat)) (i j : Nat) : AObj → R1
  | .row _ es => match k with
    | some k => .need (i < es.length) (.all es i fun e => toO σ (ldD (drD e j) k))
    | none => .bad
  | _ => .bad
def evLoad (P : Program) (σ : List AObj) (t : TypeId) : AV → R1
  | .ptr l off => evLoadO σ (tk P t) off (ob σ l)
  | .rptr l sz i j => .need (∃ es, ob σ l = .row sz es) (evLoadR σ (tk P t) i j (ob σ l))
  | .eptr cs => match tk P t with
    | some k => toO σ (ldD cs k)
    | none => .bad
  | _ => .bad

theorem DCells_vals {h : Snap} {A : Option Addr} : ∀ {xs : List D} {k : Nat}, DCells h xs A k → ∃ vs, DRs h xs vs ∧ ∀ j v, vs[j]? = some v → ∃ a, A = some a ∧ a.spot = none ∧ h a.block (a.off + (k + j)) = some v
  | [], _, _ => ⟨[], by simp [DRs], by simp⟩
  | x :: xs, k, r => by
    simp only [DCells] at r
    obtain ⟨⟨a, v, e1, e2, e3, e4⟩, r2⟩ := r
    obtain ⟨vs, h1, h2⟩ := DCells_vals r2
    refine ⟨v :: vs, by simpa [DRs] using ⟨e4, h1⟩, fun j u hu => ?_⟩
    cases j with
    | zero => simp at hu; subst hu; exact ⟨a, e1, e2, by simpa using e3⟩
    | succ j =>
      obtain ⟨a', q1, q2, q3⟩ := h2 j u (by simpa using hu)
      exact ⟨a', q1, q2, by rw [← q3]; congr 1; omega⟩

theorem flatten_len {α : Type} {sz : Nat} : ∀ {es : List (List α)}, (∀ e ∈ es, e.length = sz) → es.flatten.length = es.length * sz
  | [], _ => by simp
  | e :: es, h => by
    have := flatten_len (es := es) fun x hx => h x (by simp [hx])
    simp [this, h e (by simp), Nat.add_mul, Nat.add_comm]
section
variable {P : Program} {o : Oper} {a : Act} {c : Cf} {σ : List AObj} {env : List AV}

theorem run_loadAt {t : TypeId} {ad : Addr} {v : Value} {w : World} (h : (loadVar t ad).run P w = .ok v w) : (Instr.loadAt t (.pointer (some ad))).run P w = .ok v w := by
  simp [Instr.loadAt, Instr.sureAddr, h]

theorem load_cells (H : Holds c σ) {t : TypeId} {ad : Addr} {k : Bool × Nat} {v : AV} {cs : List AV} {vs : List Value} (hk : tk P t = some k) (hl : ldA cs k = some v) (hr : ARs c cs vs)
    (hv : ∀ j u, vs[j]? = some u → c.w.cell? (ad.add j) = some u) : ∃ x, (loadVar t ad).run P c.w = .ok x c.w ∧ AR c v x := by
  obtain ⟨b, n⟩ := k
  cases b with
  | true =>
    simp only [ldA] at hl
    split at hl
    · next hle =>
      simp at hl; subst hl
      have h1 := ARs_take n hr
      have hlen := ARs_length h1
      simp only [List.length_take] at hlen
      refine ⟨_, run_loadVar_agg hk (vs := vs.take n) (by rw [List.length_take]; omega) fun j u hu => hv j u ?_, by simp only [AR]; exact ⟨_, rfl, by simpa using h1⟩⟩
      rw [List.getElem?_take] at hu
      split at hu
      · exact hu
      · simp at hu
    · simp at hl
  | false =>
    cases cs with
    | nil => simp [ldA] at hl
    | cons x xs =>
      simp [ldA] at hl; subst hl
      obtain ⟨u, r, rfl, h1, _⟩ := ARs_cons_left hr
      exact ⟨u, run_loadVar_one hk (by have := hv 0 u rfl; rwa [show ad.add 0 = ad from rfl] at this), h1⟩

theorem ldD_ldA {cs : List D} {k : Bool × Nat} {v : AV} (h : ldD cs k = some v) : ldA (cs.map .d) k = some v := by
  obtain ⟨b, n⟩ := k
  cases b with
  | true => simp only [ldD] at h; simp only [ldA, List.length_map]; split at h <;> simp_all [List.map_take]
  | false => cases cs <;> simp_all [ldD, ldA]

theorem toO_ok {r : Option AV} (h : ∀ v, r = some v → (R1.to v σ).Ok P o a c σ) : (toO σ r).Ok P o a c σ := by
  cases r with
  | none => trivial
  | some v => exact h v rfl

theorem exec_load {t : TypeId} {x : Operand} {ad : Addr} {v : Value} (ho : o.op = .load t x) (hx : a.eval x = .pointer (some ad)) (h : (loadVar t ad).run P c.w = .ok v c.w) :
    (execOp a.eval o).run P c.w = .ok (.value v) c.w := by
  simp [execOp, ho, hx, run_loadAt h]

theorem evLoad_ok (H : Holds c σ) (he : ARs c env a.tmps.toList) {t : TypeId} {x : Operand} (ho : o.op = .load t x) : (evLoad P σ t (evO env x)).Ok P o a c σ := by
  have hx := evO_sound he x
  generalize evO env x = y at hx
  cases y <;> simp only [evLoad] <;> try trivial
  case ptr l off =>
    simp only [AR] at hx
    obtain ⟨_, hx⟩ := hx
    generalize hO : ob σ l = O
    cases O <;> simp only [evLoadO] <;> try trivial
    case cells cs =>
      generalize hk : tk P t = k
      cases k with
      | none => trivial
      | some k =>
        refine toO_ok fun v hv => ?_
        obtain ⟨vs, ty, e1, e2⟩ := H.obj l _ (ob_some hO (by simp))
        rw [drA_eq] at hv
        obtain ⟨u, h1, h2⟩ := load_cells (P := P) H (ad := ⟨c.ν l, off, none⟩) hk hv (ARs_drop off e2) (fun j u hu => by
          rw [addr_add]; simp only [World.cell?, e1]; simpa [List.getElem?_drop] using hu)
        exact R1.Ok_to H (exec_load ho hx h1) h2
  case rptr l sz i j =>
    simp only [AR] at hx
    obtain ⟨_, hx⟩ := hx
    rintro ⟨es, hO⟩
    rw [hO]
    simp only [evLoadR]
    generalize hk : tk P t = k
    cases k with
    | none => trivial
    | some k =>
      intro hi
      refine ⟨es[i], by simp [hi], ?_⟩
      refine toO_ok fun v hv => ?_
      rcases H.obj l _ (ob_some hO (by simp)) with ⟨rfl, _⟩ | ⟨cap, vs, ty, h0, h1, h2, h3, h4, h5, h6⟩
      · simp at hi
      · have hes : es[i]? = some es[i] := by simp [hi]
        have hlen : es[i].length = sz := h5 _ (List.getElem_mem hi)
        have hd : DRs c.h es[i] ((vs.toList.drop (i * sz)).take sz) := by
          have hsplit : es.flatten = (es.take i).flatten ++ (es[i] ++ (es.drop (i + 1)).flatten) := by
            have e1 : es = es.take i ++ es[i] :: es.drop (i + 1) := by simp
            exact (congrArg List.flatten e1).trans (by rw [List.flatten_append, List.flatten_cons])
          have hpre : (es.take i).flatten.length = i * sz := by
            rw [flatten_len fun e he => h5 e (List.mem_of_mem_take he), List.length_take, Nat.min_eq_left (Nat.le_of_lt hi)]
          rw [hsplit] at h6
          have h7 := DRs_drop (i * sz) h6
          rw [← hpre, List.drop_left, hpre] at h7
          have h8 := DRs_take sz h7
          rw [← hlen, List.take_left, hlen] at h8
          have hmul : i * sz + sz ≤ es.length * sz := by rw [← Nat.succ_mul]; exact Nat.mul_le_mul_right _ hi
          have : ((vs.toList.take (es.length * sz)).drop (i * sz)).take sz = (vs.toList.drop (i * sz)).take sz := by
            rw [List.drop_take, List.take_take, Nat.min_eq_left (by omega)]
          rwa [this] at h8
        rw [drD_eq] at hv
        obtain ⟨u, g1, g2⟩ := load_cells (P := P) H (ad := ⟨c.ν l, i * sz + j, none⟩) hk (ldD_ldA hv) (ARs_dcells (DRs_drop j hd)) (fun q u hu => by
          rw [addr_add]; simp only [World.cell?, h3]
          rw [List.getElem?_drop, List.getElem?_take] at hu
          split at hu
          · rw [List.getElem?_drop] at hu; simpa [Nat.add_assoc] using hu
          · simp at hu)
        exact R1.Ok_to H (exec_load ho hx g1) g2
  case eptr cs =>
    simp only [AR] at hx
    obtain ⟨ad, hx, _, hc⟩ := hx
    generalize hk : tk P t = k
    cases k with
    | none => trivial
    | some k =>
      refine toO_ok fun v hv => ?_
      obtain ⟨vs, h1, h2⟩ := DCells_vals hc
      obtain ⟨u, g1, g2⟩ := load_cells (P := P) H (ad := ad) hk (ldD_ldA hv) (ARs_dcells h1) (fun q u hu => by
        obtain ⟨a', e1, e2, e3⟩ := h2 q u hu
        obtain rfl := Option.some.inj e1
        have := H.snap _ _ _ e3
        rw [addr_add' e2]; simpa using this)
      exact R1.Ok_to H (exec_load ho hx g1) g2
end
end Go.AX

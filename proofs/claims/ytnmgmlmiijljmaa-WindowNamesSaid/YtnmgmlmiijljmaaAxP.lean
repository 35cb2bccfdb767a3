/- AX, part P: the evaluator, and that it is sound. -/
import Derived.Test.YtnmgmlmiijljmaaAxO
set_option linter.unusedVariables false
set_option linter.unusedSimpArgs false
namespace Go.AX

/-! ### one operation -/
def evNil (σ : List AObj) (op : BinOp) : AV → R1
  | .d (.sl es) => match op with
    | .eql => .ex (fun b => b = true → es = []) fun b => .to (.d (.bool b)) σ
    | .neq => .ex (fun b => b = false → es = []) fun b => .to (.d (.bool b)) σ
    | _ => .bad
  | .own l => match ob σ l with
    | .row _ es => match op with
      | .eql => .ex (fun b => b = true → es = []) fun b => .to (.d (.bool b)) σ
      | .neq => .ex (fun b => b = false → es = []) fun b => .to (.d (.bool b)) σ
      | _ => .bad
    | _ => .bad
  | .nil => match op with
    | .eql => .ex (fun _ => True) fun b => .to (.d (.bool b)) σ
    | .neq => .ex (fun _ => True) fun b => .to (.d (.bool b)) σ
    | _ => .bad
  | _ => .bad
def isNil : Operand → Bool
  | .const (.slice none 0 0) => true
  | _ => false
def evBin2 (P : Program) (env : List AV) (σ : List AObj) (op : BinOp) (t : TypeId) (x y : Operand) : R1 :=
  match isNil y with
  | true => match P.underlying t with
    | some (.slice _) => evNil σ op (evO env x)
    | _ => .bad
  | false => evBin P σ op t (evO env x) (evO env y)
def evBuiltin (P : Program) (env : List AV) (σ : List AObj) (ts : List TypeId) (args : List Operand) : Builtin → R1
  | .append => evAppend P σ ts (evAll env args)
  | .len => evLen P σ ts (evAll env args)
  | .min => evMn σ (evAll env args)
  | .max => evMx σ (evAll env args)
  | _ => .bad
def evCallee (P : Program) (env : List AV) (σ : List AObj) (ts : List TypeId) (args : List Operand) : Callee → R1
  | .value f => evCall env args (evO env f)
  | .builtin b => evBuiltin P env σ ts args b
  | _ => .bad
def evOp (P : Program) (env : List AV) (σ : List AObj) : Op → R1
  | .move x => .to (evO env x) σ
  | .assign x => .to (evO env x) σ
  | .pick c x y => evPick σ (evO env x) (evO env y) (evO env c)
  | .alloc t => evNew σ (zc P t)
  | .box _ x => evNew σ (cellsOf (evO env x))
  | .build t ps => evBuild P σ t (evParts env ps.toList)
  | .buildSlice t len ps => evBuildSlice P σ t len (evParts env ps.toList)
  | .load t x => evLoad P σ t (evO env x)
  | .store t x y => evStore P σ t (evO env y) (evO env x)
  | .nilCheck x => evNilCheck σ (evO env x)
  | .binOp op t x y _ => evBin2 P env σ op t x y
  | .unOp op _ x => evUn σ op (evO env x)
  | .convert s t x => evConv P σ s t (evO env x)
  | .makeFunc f first caps => evMakeFunc σ env caps.toList f first.toList
  | .makeMap t r => evMakeMap σ P t (mt P t) (oEv env r)
  | .makeSlice t l k => evMake P σ t (evIx (evO env l)) (evIx (evO env k))
  | .slice t x lo hi mx => evSlice P σ t (evBd env lo) (evBd env hi) (evBd env mx) (evO env x)
  | .fieldAddr s x f => evFieldAddr P σ s f (evO env x)
  | .field s x f => evField P σ s f (evO env x)
  | .indexAddr t x y => evIndexAddr P σ t (evO env x) (evIx (evO env y))
  | .index t x y => evIndex P σ t (evO env x) (evIx (evO env y))
  | .lookup t x y ok => evLookup P σ ok (keyOf (evO env y)) (mt P t) (evO env x)
  | .mapUpdate t x y z => evMapUp P σ (keyOf (evO env y)) (keyOf (evO env z)) (mt P t) (evO env x)
  | .insert t x y z => evMapUp P σ (keyOf (evO env y)) (keyOf (evO env z)) (mt P t) (evO env x)
  | .range t x => evRange P σ t (evO env x)
  | .next x b => evNext σ b (evO env x)
  | .extract x i => evExtract σ i (evO env x)
  | .call c => evCallee P env σ c.argTypes.toList c.args.toList c.callee
  | _ => .bad

section
variable {P : Program} {o : Oper} {a : Act} {c : Cf} {σ : List AObj} {env : List AV}
theorem run_equalIn_nil (w : World) (d : Nat) (t e : TypeId) (A : Option Addr) (l k : Nat) (h : P.underlying t = some (.slice e)) : (Op.equalIn (d + 1) t (.slice A l k) (.slice none 0 0)).run P w = .ok A.isNone w := by
  cases A <;> simp [Op.equalIn, run_underlying h]
theorem run_equal_nil (w : World) (t e : TypeId) (A : Option Addr) (l k : Nat) (h : P.underlying t = some (.slice e)) : (Op.equal t (.slice A l k) (.slice none 0 0)).run P w = .ok A.isNone w := run_equalIn_nil w 9999 t e A l k h
theorem evNil_ok (H : Holds c σ) (he : ARs c env a.tmps.toList) {op : BinOp} {t t2 e : TypeId} {x y : Operand} (ho : o.op = .binOp op t x y t2) (hn : isNil y = true) (hu : P.underlying t = some (.slice e)) : (evNil σ op (evO env x)).Ok P o a c σ := by
  have hx := evO_sound he x
  have hy : y = .const (.slice none 0 0) := by
    unfold isNil at hn
    split at hn
    · rfl
    · simp at hn
  subst hy
  have run : ∀ (A : Option Addr) (n k : Nat), a.eval x = .slice A n k →
      (op = .eql → (execOp a.eval o).run P c.w = .ok (.value (.bool A.isNone)) c.w) ∧ (op = .neq → (execOp a.eval o).run P c.w = .ok (.value (.bool (!A.isNone))) c.w) := fun A n k hv => by
    have r1 : (binOp .eql t (.slice A n k) (.slice none 0 0)).run P c.w = .ok (.bool A.isNone) c.w := by
      simp [binOp, run_equal_nil c.w t e A n k hu]
    have r2 : (binOp .neq t (.slice A n k) (.slice none 0 0)).run P c.w = .ok (.bool (!A.isNone)) c.w := by
      simp [binOp, run_equal_nil c.w t e A n k hu]
    constructor
    · rintro rfl
      have hc : a.eval (.const (.slice none 0 0)) = .slice none 0 0 := rfl
      simp only [execOp, ho, hv, hc, eqGuard_at_slice, Sem.run_bind, Sem.run_pure, Result.andThen_ok, r1]
    · rintro rfl
      have hc : a.eval (.const (.slice none 0 0)) = .slice none 0 0 := rfl
      simp only [execOp, ho, hv, hc, eqGuard_at_slice, Sem.run_bind, Sem.run_pure, Result.andThen_ok, r2]
  have fin : ∀ (A : Option Addr) (n k : Nat) (es : List (List D)), a.eval x = .slice A n k → (A = none → es = []) →
      (match op with
      | .eql => R1.ex (fun b => b = true → es = []) fun b => .to (.d (.bool b)) σ
      | .neq => R1.ex (fun b => b = false → es = []) fun b => .to (.d (.bool b)) σ
      | _ => .bad).Ok P o a c σ := fun A n k es hv h0 => by
    have := run A n k hv
    cases op <;> try trivial
    · exact ⟨A.isNone, fun h => h0 (by simpa using h), R1.Ok_to H (this.1 rfl) (by simp [AR, DR])⟩
    · exact ⟨!A.isNone, fun h => h0 (by simpa using h), R1.Ok_to H (this.2 rfl) (by simp [AR, DR])⟩
  generalize evO env x = z at hx
  cases z <;> try trivial
  case d z =>
    cases z <;> try trivial
    case sl es =>
      simp only [AR, DR] at hx
      obtain ⟨A, k, sz, hv, _, _, h0, _⟩ := hx
      exact fin A _ k es hv h0
  case own l =>
    simp only [evNil]
    generalize hO : ob σ l = O
    cases O <;> try trivial
    case row sz es =>
      simp only [AR] at hx
      obtain ⟨_, hv, _⟩ := hx
      rcases H.obj l _ (ob_some hO (by simp)) with ⟨rfl, A, e'⟩ | ⟨k, vs, ty, _, g1, _⟩
      · rw [e'] at hv; exact fin A _ _ [] hv (fun _ => rfl)
      · rw [g1] at hv; exact fin _ _ _ es hv (fun h => by simp at h)
  case nil =>
    simp only [AR] at hx
    obtain ⟨A, hv⟩ := hx
    have := run A 0 0 hv
    cases op <;> try trivial
    · exact ⟨A.isNone, trivial, R1.Ok_to H (this.1 rfl) (by simp [AR, DR])⟩
    · exact ⟨!A.isNone, trivial, R1.Ok_to H (this.2 rfl) (by simp [AR, DR])⟩

theorem evOp_ok (H : Holds c σ) (he : ARs c env a.tmps.toList) (op : Op) (ho : o.op = op) : (evOp P env σ op).Ok P o a c σ := by
  cases op <;> simp only [evOp] <;> try trivial
  case move x => exact evMove_ok H he (.inl ho)
  case assign x => exact evMove_ok H he (.inr ho)
  case pick => exact evPick_ok H he ho
  case alloc => exact evAlloc_ok H he ho
  case box => exact evBox_ok H he ho
  case build => exact evBuild_ok H he ho
  case buildSlice => exact evBuildSlice_ok H he ho
  case load => exact evLoad_ok H he ho
  case store => exact evStore_ok H he ho
  case nilCheck => exact evNilCheck_ok H he ho
  case binOp op t x y t2 =>
    unfold evBin2
    split
    · next hn =>
      split
      · next e hu => exact evNil_ok H he ho hn hu
      · trivial
    · exact evBin_ok H he ho
  case unOp => exact evUn_ok H he ho
  case convert => exact evConv_ok H he ho
  case makeFunc => exact evMakeFunc_ok H he ho
  case makeMap => exact evMakeMap_ok H he ho
  case makeSlice => exact evMake_ok H he ho
  case slice => exact evSlice_ok H he ho
  case fieldAddr => exact evFieldAddr_ok H he ho
  case field => exact evField_ok H he ho
  case indexAddr => exact evIndexAddr_ok H he ho
  case index => exact evIndex_ok H he ho
  case lookup => exact evLookup_ok H he ho
  case mapUpdate => exact evMapUp_ok H he (.inl ho)
  case insert => exact evMapUp_ok H he (.inr ho)
  case range => exact evRange_ok H he ho
  case next => exact evNext_ok H he ho
  case extract => exact evExtract_ok H he ho
  case call cl =>
    obtain ⟨callee, args, ts⟩ := cl
    cases callee <;> simp only [evCallee] <;> try trivial
    case value f => exact evCall_ok H he ho
    case builtin b =>
      cases b <;> simp only [evBuiltin] <;> try trivial
      case append => exact evAppend_ok H he ho
      case len => exact evLen_ok H he ho
      case max => exact evMx_ok H he ho
      case min => exact evMn_ok H he ho
end

/-! ### calls -/
/-- called with these, in these blocks of the call's own, the function hands back that, and leaves those -/
def Spec (P : Program) (f : FuncId) (args : List AV) (σ : List AObj) (r : AV) (σ' : List AObj) : Prop :=
  (∃ fn, P.funcs[f]? = some fn ∧ fn.body.isNone = false ∧ (fn.name == "runtime.NumGoroutine") = false) ∧
  ∀ (c : Cf) (vs : Array Value), Holds c σ → ARs c args vs.toList → Calls P f vs c.w fun e w' => ∃ c' v, c'.w = w' ∧ e = .returned v ∧ AR c' r v ∧ Nxt c σ c' σ'

/-- a label handed over, or a new one -/
def rn (ls : List Nat) (n : Nat) (i : Nat) : Nat := if i < ls.length then ls.getD i 0 else n + (i - ls.length)
mutual
def ren (f : Nat → Nat) : AV → AV
  | .any => .any
  | .d x => .d x
  | .agg cs => .agg (rens f cs)
  | .tup cs => .tup (rens f cs)
  | .own l => .own (f l)
  | .ptr l off => .ptr (f l) off
  | .rptr l sz i j => .rptr (f l) sz i j
  | .eptr cs => .eptr cs
  | .mp l => .mp (f l)
  | .fn g caps => .fn g (rens f caps)
  | .nil => .nil
  | .raw v => .raw v
def rens (f : Nat → Nat) : List AV → List AV
  | [] => []
  | x :: xs => ren f x :: rens f xs
end
def renO (f : Nat → Nat) : AObj → AObj
  | .gone => .gone
  | .cells cs => .cells (rens f cs)
  | .row sz es => .row sz es
  | .map ka va es => .map ka va es
  | .iter s pos => .iter s pos

end Go.AX

/- AX, part R: the evaluator, and that it is sound. -/
import Derived.Test.YtnmgmlmiijljmaaAxQ
set_option linter.unusedVariables false
set_option linter.unusedSimpArgs false
namespace Go.AX

/-- what was known, said with less (or with other labels from n0 on) -/
def Wk (n0 : Nat) (xs : List AV) (σ : List AObj) (ys : List AV) (τ : List AObj) : Prop :=
  ∀ (c : Cf) (vs : List Value), Holds c σ → n0 ≤ c.n → ARs c xs vs → ∃ c' : Cf, c'.w = c.w ∧ n0 ≤ c'.n ∧ (∀ l, l < n0 → c'.ν l = c.ν l ∧ c'.u l = c.u l) ∧
    (∀ b o v, c.h b o = some v → c'.h b o = some v) ∧ Holds c' τ ∧ ARs c' ys vs ∧ (∀ b, Fp c' τ b → Fp c σ b) ∧ (∀ b o, c'.h b o ≠ c.h b o → Fp c σ b)
theorem Wk.refl (n0 : Nat) (xs : List AV) (σ : List AObj) : Wk n0 xs σ xs σ :=
  fun c vs H hn h => ⟨c, rfl, hn, fun _ _ => ⟨rfl, rfl⟩, fun _ _ _ h => h, H, h, fun _ h => h, fun _ _ h => absurd rfl h⟩
theorem Wk.trans {n0 : Nat} {xs ys zs : List AV} {σ τ ρ : List AObj} (h : Wk n0 xs σ ys τ) (k : Wk n0 ys τ zs ρ) : Wk n0 xs σ zs ρ := fun c vs H hn hx => by
  obtain ⟨c1, w1, n1, l1, m1, H1, a1, f1, g1⟩ := h c vs H hn hx
  obtain ⟨c2, w2, n2, l2, m2, H2, a2, f2, g2⟩ := k c1 vs H1 n1 a1
  refine ⟨c2, w2.trans w1, n2, fun l hl => ⟨(l2 l hl).1.trans (l1 l hl).1, (l2 l hl).2.trans (l1 l hl).2⟩, fun b o v e => m2 _ _ _ (m1 _ _ _ e), H2, a2, fun b hb => f1 b (f2 b hb), fun b o hb => ?_⟩
  by_cases e : c1.h b o = c.h b o
  · exact f1 b (g2 b o (by rw [e]; exact hb))
  · exact g1 b o e
theorem Wk.nxt {c0 c : Cf} {σ0 σ τ : List AObj} {xs ys : List AV} {vs : List Value} (h : Wk c0.n xs σ ys τ) (N : Nxt c0 σ0 c σ) (hx : ARs c xs vs) : ∃ c' : Cf, c'.w = c.w ∧ Nxt c0 σ0 c' τ ∧ ARs c' ys vs := by
  obtain ⟨c', w1, n1, l1, m1, H1, a1, f1, g1⟩ := h c vs N.hold N.le.n hx
  refine ⟨c', w1, ⟨⟨fun b o v e => m1 _ _ _ (N.le.h _ _ _ e), n1, fun l hl => (l1 l hl).1.trans (N.le.ν l hl), fun l hl => (l1 l hl).2.trans (N.le.u l hl)⟩, H1, by rw [w1]; exact N.os, by rw [w1]; exact N.tape, by rw [w1]; exact N.output, by rw [w1]; exact N.size, fun b hb hf => by rw [w1]; exact N.kept b hb hf, fun b hb => N.fp b (f1 b hb), fun b o hb => ?_⟩, a1⟩
  by_cases e : c'.h b o = c.h b o
  · exact N.hn b o (by rw [← e]; exact hb)
  · exact N.fp b (g1 b o e)

structure Good (c0 : Cf) (σ0 : List AObj) (c : Cf) (env : List AV) (σ : List AObj) (a : Act) : Prop where
  nxt : Nxt c0 σ0 c σ
  env : ARs c env a.tmps.toList
  defers : a.defers = []

structure Ctx where
  P : Program
  n0 : Nat
  res : List ResultVar
  post : AV → List AObj → Prop

inductive It where
  | ops (l : List Oper) (all : Array Oper)
  | code (c : Code)
  | blk (id : Nat)
  | back (J : List AV → List AObj → Prop)

def putO (env : List AV) : Option Tmp → AV → List AV
  | some d, v => st env d v
  | none, _ => env

/-- a call: by the callee's spec; before it, what is known may be weakened (a row given up) -/
inductive ECall (Γ : Ctx) (E : List AV → List AObj → Prop) (dst : Option Tmp) (f : FuncId) : List AV → List AV → List AObj → Prop where
  | mk (ls : List Nat) (args' : List AV) (σ0 : List AObj) (r : AV) (σ1 : List AObj) {env args : List AV} {σ : List AObj} (h1 : args = rens (at0 ls) args') (h2 : bds ls.length args') (h3 : ls.Nodup) (h4 : ∀ l ∈ ls, l < σ.length)
      (h5 : obs σ ls = mapO (at0 ls) σ0) (h6 : bdOs ls.length σ0) (h7 : Spec Γ.P f args' σ0 r σ1) (h8 : E (putO env dst (ren (rn ls σ.length) r)) (back σ ls σ1)) : ECall Γ E dst f env args σ
  | all (r : AV) (σ1 : List AObj) {env args : List AV} {σ : List AObj} (h7 : Spec Γ.P f args σ r σ1) (h8 : E (putO env dst r) σ1) : ECall Γ E dst f env args σ
  | wk {env args env' args' : List AV} {σ σ' : List AObj} (h1 : args'.length = args.length) (h2 : Wk Γ.n0 (args ++ env) σ (args' ++ env') σ') (h3 : ECall Γ E dst f env' args' σ') : ECall Γ E dst f env args σ

def fin (Γ : Ctx) (E : List AV → List AObj → Prop) (dst : Option Tmp) (env : List AV) (σ : List AObj) : R1 → Prop
  | .to v σ' => E (putO env dst v) σ'
  | .need p r => p ∧ fin Γ E dst env σ r
  | .all es i k => ∀ e, es[i]? = some e → fin Γ E dst env σ (k e)
  | .ite t x y => (t = true → fin Γ E dst env σ x) ∧ (t = false → fin Γ E dst env σ y)
  | .call f args => ECall Γ E dst f env args σ
  | .ex p k => ∀ b, p b → fin Γ E dst env σ (k b)
  | .bad => False

/-- an operation under a guard -/
def evGb (Γ : Ctx) (E : List AV → List AObj → Prop) (o : Oper) (d : Tmp) (env : List AV) (σ : List AObj) : Bool → Bool → Prop
  | true, true => fin Γ E o.dst (st env d (.d (.bool true))) σ (evOp Γ.P (st env d (.d (.bool true))) σ o.op)
  | false, false => fin Γ E o.dst (st env d (.d (.bool false))) σ (evOp Γ.P (st env d (.d (.bool false))) σ o.op)
  | true, false => E (putO (st env d (.d (.bool true))) o.dst (.tup [])) σ
  | false, true => E (putO (st env d (.d (.bool false))) o.dst (.tup [])) σ
def evG1 (Γ : Ctx) (E : List AV → List AObj → Prop) (o : Oper) (want : Bool) (d : Tmp) (env : List AV) (σ : List AObj) : AV → Prop
  | .d (.bool b) => evGb Γ E o d env σ b want
  | .tup _ => E (putO env o.dst (.tup [])) σ
  | _ => False
def evG (Γ : Ctx) (E : List AV → List AObj → Prop) (o : Oper) (want : Bool) (env : List AV) (σ : List AObj) : Option Tmp → Prop
  | some d => evG1 Γ E o want d env σ (lk env d)
  | none => False
def gslot (all : Array Oper) (j : Nat) : Option Tmp := (all[j]?).bind (·.dst)
def evOper (Γ : Ctx) (E : List AV → List AObj → Prop) (o : Oper) (all : Array Oper) (env : List AV) (σ : List AObj) : Option (Nat × Bool) → Prop
  | none => fin Γ E o.dst env σ (evOp Γ.P env σ o.op)
  | some (j, want) => evG Γ E o want env σ (gslot all j)

def resV (P : Program) (env : List AV) (σ : List AObj) : ResultVar → Option AV
  | .tmp t => some (lk env t)
  | .cell x t => match lk env x with
    | .ptr l off => match ob σ l with
      | .cells cs => match tk P t with
        | some k => ldA (drA cs off) k
        | none => none
      | _ => none
    | _ => none
def resVs (P : Program) (env : List AV) (σ : List AObj) : List ResultVar → Option (List AV)
  | [] => some []
  | r :: rs => match resV P env σ r with
    | some v => match resVs P env σ rs with
      | some vs => some (v :: vs)
      | none => none
    | none => none
def one : List AV → AV
  | [v] => v
  | vs => .tup vs
def endR (Γ : Ctx) (σ : List AObj) : Option (List AV) → Prop
  | some vs => Γ.post (one vs) σ
  | none => False
def endP (Γ : Ctx) (env : List AV) (σ : List AObj) : Prop := endR Γ σ (resVs Γ.P env σ Γ.res)

def popTo (id : Nat) : List It → Option (List It)
  | [] => none
  | .blk i :: k => if i = id then some k else popTo id k
  | _ :: k => popTo id k
def goto (E : List It → List AV → List AObj → Prop) (env : List AV) (σ : List AObj) : Option (List It) → Prop
  | some k => E k env σ
  | none => False

def ELoop (Γ : Ctx) (E : List It → List AV → List AObj → Prop) (b : Code) (k : List It) (env : List AV) (σ : List AObj) : Prop :=
  ∃ I : Nat → List AV → List AObj → Prop, (∃ m env' σ', Wk Γ.n0 env σ env' σ' ∧ I m env' σ') ∧
    ∀ m env σ, I m env σ → E (.code b :: .back (fun env σ => ∃ m', m' < m ∧ ∃ env' σ', Wk Γ.n0 env σ env' σ' ∧ I m' env' σ') :: k) env σ
def evCb (E : List It → List AV → List AObj → Prop) (x y : Code) (k : List It) (d : Tmp) (env : List AV) (σ : List AObj) : Bool → Prop
  | true => E (.code x :: k) (st env d (.d (.bool true))) σ
  | false => E (.code y :: k) (st env d (.d (.bool false))) σ
def evC1 (E : List It → List AV → List AObj → Prop) (x y : Code) (k : List It) (d : Tmp) (env : List AV) (σ : List AObj) : AV → Prop
  | .d (.bool b) => evCb E x y k d env σ b
  | _ => False
def evC (E : List It → List AV → List AObj → Prop) (x y : Code) (k : List It) (env : List AV) (σ : List AObj) : Operand → Prop
  | .tmp d => evC1 E x y k d env σ (lk env d)
  | .const (.bool true) => E (.code x :: k) env σ
  | .const (.bool false) => E (.code y :: k) env σ
  | _ => False
def evCode (Γ : Ctx) (E : List It → List AV → List AObj → Prop) (D : List It → List Oper → Array Oper → List AV → List AObj → Prop) (k : List It) (env : List AV) (σ : List AObj) : Code → Prop
  | .skip => E k env σ
  | .region _ ops false => E (.ops ops.toList ops :: k) env σ
  | .region _ ops true => D k ops.toList ops env σ
  | .seq x y => E (.code x :: .code y :: k) env σ
  | .cond q x y => evC E x y k env σ q
  | .block id b => E (.code b :: .blk id :: k) env σ
  | .loop b => ELoop Γ E b k env σ
  | .exit id => goto E env σ (popTo id k)
  | .ret => endP Γ env σ
  | _ => False

/-- a region that draws its order: see part T -/
def Draw := Ctx → (List It → List AV → List AObj → Prop) → List It → List Oper → Array Oper → List AV → List AObj → Prop
def ev (Γ : Ctx) (D : Draw) : Nat → List It → List AV → List AObj → Prop
  | 0, _, _, _ => False
  | n + 1, k, env, σ => match k with
    | [] => endP Γ env σ
    | .ops [] _ :: k => ev Γ D n k env σ
    | .ops (o :: r) all :: k => evOper Γ (ev Γ D n (.ops r all :: k)) o all env σ o.guard
    | .code c :: k => evCode Γ (ev Γ D n) (D Γ (ev Γ D n)) k env σ c
    | .blk _ :: k => ev Γ D n k env σ
    | .back J :: _ => J env σ
theorem ev_nil (Γ : Ctx) (D : Draw) (n : Nat) (env : List AV) (σ : List AObj) : ev Γ D (n + 1) [] env σ = endP Γ env σ := rfl
theorem ev_ops0 (Γ : Ctx) (D : Draw) (n : Nat) (all : Array Oper) (k : List It) (env : List AV) (σ : List AObj) : ev Γ D (n + 1) (.ops [] all :: k) env σ = ev Γ D n k env σ := rfl
theorem ev_ops (Γ : Ctx) (D : Draw) (n : Nat) (dst : Option Tmp) (op : Op) (ty : TypeId) (pos : String) (aft : Array Edge) (g : Option (Nat × Bool)) (r : List Oper) (all : Array Oper) (k : List It) (env : List AV) (σ : List AObj) :
    ev Γ D (n + 1) (.ops (⟨dst, op, ty, pos, aft, g⟩ :: r) all :: k) env σ = evOper Γ (ev Γ D n (.ops r all :: k)) ⟨dst, op, ty, pos, aft, g⟩ all env σ g := rfl
theorem ev_code (Γ : Ctx) (D : Draw) (n : Nat) (c : Code) (k : List It) (env : List AV) (σ : List AObj) : ev Γ D (n + 1) (.code c :: k) env σ = evCode Γ (ev Γ D n) (D Γ (ev Γ D n)) k env σ c := rfl
theorem ev_blk (Γ : Ctx) (D : Draw) (n : Nat) (id : Nat) (k : List It) (env : List AV) (σ : List AObj) : ev Γ D (n + 1) (.blk id :: k) env σ = ev Γ D n k env σ := rfl
theorem ev_back (Γ : Ctx) (D : Draw) (n : Nat) (J : List AV → List AObj → Prop) (k : List It) (env : List AV) (σ : List AObj) : ev Γ D (n + 1) (.back J :: k) env σ = J env σ := rfl

section
variable {Γ : Ctx} {fn : Func} {c0 : Cf} {σ0 : List AObj} {R : Ending → World → Prop}

def Hits (c0 : Cf) (σ0 : List AObj) (J : List AV → List AObj → Prop) (a : Act) (w : World) : Prop := ∃ c env σ, J env σ ∧ Good c0 σ0 c env σ a ∧ c.w = w
/-- what stands behind, as the machine's own condition -/
def SemK (P : Program) (fn : Func) (c0 : Cf) (σ0 : List AObj) (R : Ending → World → Prop) : List It → Exit → Act → World → Prop
  | [] => bodyPost P fn R
  | .ops l all :: k => fun e a w => match e with
    | .normal => wpList P all (SemK P fn c0 σ0 R k) l a w
    | e => SemK P fn c0 σ0 R k e a w
  | .code c :: k => Exit.then (c.wp P (SemK P fn c0 σ0 R k)) (SemK P fn c0 σ0 R k)
  | .blk id :: k => Exit.inBlock id (SemK P fn c0 σ0 R k)
  | .back J :: k => Exit.then (Hits c0 σ0 J) (SemK P fn c0 σ0 R k)
/-- the ends of the function are met -/
def RetOk (Γ : Ctx) (c0 : Cf) (σ0 : List AObj) (R : Ending → World → Prop) : Prop :=
  ∀ (r : AV) (σ : List AObj) (c : Cf) (v : Value), Γ.post r σ → Nxt c0 σ0 c σ → AR c r v → R (.returned v) c.w
/-- a drawn region is sound -/
def DrawOk (D : Draw) : Prop :=
  ∀ (Γ : Ctx) (fn : Func) (c0 : Cf) (σ0 : List AObj) (R : Ending → World → Prop), c0.n = Γ.n0 →
    ∀ (E : List It → List AV → List AObj → Prop), (∀ k env σ, E k env σ → ∀ c a, Good c0 σ0 c env σ a → SemK Γ.P fn c0 σ0 R k .normal a c.w) →
      ∀ id k ops env σ, D Γ E k ops.toList ops env σ → ∀ c a, Good c0 σ0 c env σ a → (Code.region id ops true).wp Γ.P (SemK Γ.P fn c0 σ0 R k) a c.w

theorem popTo_sound {P : Program} {id : Nat} : ∀ {k k' : List It} {a : Act} {w : World}, popTo id k = some k' → SemK P fn c0 σ0 R k' .normal a w → SemK P fn c0 σ0 R k (.exit id) a w
  | [], _, _, _, h, _ => by simp [popTo] at h
  | .ops l all :: k, k', a, w, h, hk => by simp only [popTo] at h; simp only [SemK]; exact popTo_sound h hk
  | .code c :: k, k', a, w, h, hk => by simp only [popTo] at h; simp only [SemK, Exit.then]; exact popTo_sound h hk
  | .blk i :: k, k', a, w, h, hk => by
    simp only [popTo] at h
    simp only [SemK, Exit.inBlock]
    split at h
    · next e => simp at h; subst h; subst e; simpa using hk
    · next e => rw [if_neg (fun q => e q.symm)]; exact popTo_sound h hk
  | .back J :: k, k', a, w, h, hk => by simp only [popTo] at h; simp only [SemK, Exit.then]; exact popTo_sound h hk
theorem ret_down {P : Program} : ∀ {k : List It} {a : Act} {w : World}, bodyPost P fn R .ret a w → SemK P fn c0 σ0 R k .ret a w
  | [], _, _, h => h
  | .ops l all :: k, a, w, h => by simp only [SemK]; exact ret_down h
  | .code c :: k, a, w, h => by simp only [SemK, Exit.then]; exact ret_down h
  | .blk i :: k, a, w, h => by simp only [SemK, Exit.inBlock]; exact ret_down h
  | .back J :: k, a, w, h => by simp only [SemK, Exit.then]; exact ret_down h

def resF (tmps : Array Value) : ResultVar → Sem Value
  | .tmp t => pure (tmps.getD t undef)
  | .cell a t => do loadVar t (← asAddr (tmps.getD a undef))
theorem results_eq (fn : Func) (tmps : Array Value) : results fn tmps = (do let vs ← fn.results.mapM (resF tmps); pure (if h : vs.size = 1 then vs[0] else .tuple vs)) := rfl
theorem resV_sound {P : Program} {c : Cf} {σ : List AObj} {env : List AV} {a : Act} (H : Holds c σ) (he : ARs c env a.tmps.toList) {r : ResultVar} {x : AV} (h : resV P env σ r = some x) :
    ∃ v, (resF a.tmps r).run P c.w = .ok v c.w ∧ AR c x v := by
  cases r with
  | tmp t =>
    simp [resV] at h; subst h
    exact ⟨a.tmps.getD t undef, by simp [resF], by simpa [Array.getD_eq_getD_getElem?] using ARs_lk he t undef⟩
  | cell y t =>
    simp only [resV] at h
    have hy := ARs_lk he y undef
    split at h
    · next l off e1 =>
      rw [e1] at hy
      simp only [AR] at hy
      split at h
      · next cs hO =>
        split at h
        · next k hk =>
          obtain ⟨vs, ty, e2, e3⟩ := H.obj l _ (ob_some hO (by simp))
          rw [drA_eq] at h
          obtain ⟨u, h1, h2⟩ := load_cells (P := P) H (ad := ⟨c.ν l, off, none⟩) hk h (ARs_drop off e3) (fun j u hu => by
            rw [addr_add]; simp only [World.cell?, e2]; simpa [List.getElem?_drop] using hu)
          refine ⟨u, ?_, h2⟩
          have : a.tmps.getD y undef = .pointer (some ⟨c.ν l, off, none⟩) := by rw [Array.getD_eq_getD_getElem?]; simpa using hy.2
          simp only [resF, this, asAddr, Sem.run_bind, Sem.run_pure, Result.andThen_ok]
          exact h1
        · simp at h
      · simp at h
    · simp at h
theorem resVs_sound {P : Program} {c : Cf} {σ : List AObj} {env : List AV} {a : Act} (H : Holds c σ) (he : ARs c env a.tmps.toList) : ∀ {rs : List ResultVar} {xs : List AV}, resVs P env σ rs = some xs →
    ∃ vs, (rs.mapM (resF a.tmps)).run P c.w = .ok vs c.w ∧ ARs c xs vs
  | [], xs, h => by simp [resVs] at h; subst h; exact ⟨[], by simp, by simp [ARs]⟩
  | r :: rs, xs, h => by
    simp only [resVs] at h
    split at h
    · next x hx =>
      split at h
      · next ys hy =>
        simp at h; subst h
        obtain ⟨v, h1, h2⟩ := resV_sound (P := P) H he hx
        obtain ⟨vs, h3, h4⟩ := resVs_sound H he hy
        refine ⟨v :: vs, ?_, ARs_cons.2 ⟨h2, h4⟩⟩
        simp only [List.mapM_cons, Sem.run_bind, h3, h1, Result.andThen_ok, Sem.run_pure]
      · simp at h
    · simp at h
theorem end_sound (hfn : Γ.res = fn.results.toList) (hR : RetOk Γ c0 σ0 R) {c : Cf} {env : List AV} {σ : List AObj} {a : Act} (G : Good c0 σ0 c env σ a) (h : endP Γ env σ) {e : Exit} (hE : e = .normal ∨ e = .ret) : bodyPost Γ.P fn R e a c.w := by
  unfold endP at h
  cases hr : resVs Γ.P env σ Γ.res with
  | none => rw [hr] at h; exact h.elim
  | some xs =>
    rw [hr] at h
    simp only [endR] at h
    rw [hfn] at hr
    obtain ⟨vs, h1, h2⟩ := resVs_sound (P := Γ.P) G.nxt.hold G.env hr
    have hl := ARs_length h2
    have hres : (results fn a.tmps).run Γ.P c.w = .ok (if h : vs.toArray.size = 1 then vs.toArray[0] else .tuple vs.toArray) c.w := by
      rw [results_eq, Array.mapM_eq_mapM_toList]
      simp only [map_eq_pure_bind, Sem.run_bind, h1, Result.andThen_ok, Sem.run_pure]
    have hone : AR c (one xs) (if h : vs.toArray.size = 1 then vs.toArray[0] else .tuple vs.toArray) := by
      match xs, vs, h2, hl with
      | [], [], _, _ => simp [one, AR, ARs]
      | [x], [v], h2, _ => simpa [one, ARs] using h2
      | x :: y :: r, v :: u :: s, h2, _ =>
        simp only [one]
        rw [dif_neg (by simp)]
        simp only [AR]
        exact ⟨_, rfl, h2⟩
    have := hR _ _ c _ h G.nxt hone
    rcases hE with rfl | rfl
    · exact ⟨G.defers, _, hres, this⟩
    · exact ⟨G.defers, _, hres, this⟩
end
end Go.AX

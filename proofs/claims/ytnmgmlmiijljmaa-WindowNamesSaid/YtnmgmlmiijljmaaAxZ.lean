/- AX, part Z: a row given up within a call. -/
import Derived.Test.YtnmgmlmiijljmaaAxY
set_option linter.unusedVariables false
set_option linter.unusedSimpArgs false
namespace Go.AX
/-- before a call, what is known may be said with less -/
theorem Spec.pre {P : Program} {f : FuncId} {args args' : List AV} {σ σ' τ : List AObj} {r : AV} (k : Wk σ.length args σ args' σ') (h : Spec P f args' σ' r τ) : Spec P f args σ r τ := by
  obtain ⟨hf, hc⟩ := h
  refine ⟨hf, fun c vs H ha => ?_⟩
  rw [← H.n] at k
  obtain ⟨c1, w1, N1, hx⟩ := k.nxt (.refl H) ha
  have := hc c1 vs N1.hold hx
  rw [w1] at this
  refine this.mono ?_
  rintro e w' ⟨c2, v, rfl, rfl, hv, N2⟩
  exact ⟨c2, v, rfl, rfl, hv, N1.trans N2⟩
theorem Spec.frz {P : Program} {f : FuncId} {args : List AV} {σ τ : List AObj} {r : AV} (l : Nat) {sz : Nat} {es : List (List D)} (hl : σ[l]? = some (.row sz es)) (h : Spec P f (sbs l (.sl es) args) (σ.set l .gone) r τ) : Spec P f args σ r τ :=
  Spec.pre (Wk.frz l hl) h
theorem Spec.liftN {P : Program} {f : FuncId} {args : List AV} {r : AV} {τ : List AObj} (h : Spec P f args [] r τ) (σ : List AObj) (hb : bds 0 args) : Spec P f args σ (ren (rn [] σ.length) r) (σ ++ mapO (rn [] σ.length) τ) := by
  have := Spec.frame (σ := σ) [] h hb (by simp) (by simp) rfl trivial
  rw [rens_id hb] at this
  simpa [back, setAll] using this
theorem idx_get {α : Type} {p : α → Bool} {l : List α} (h : 0 ≤ idx p l) : ∃ (i : Nat) (x : α), idx p l = i ∧ l[i]? = some x ∧ p x = true := by
  unfold idx at *
  cases q : l.findIdx? p with
  | none => rw [q] at h; simp at h
  | some k =>
    obtain ⟨hk, hp, _⟩ := List.findIdx?_eq_some_iff_getElem.1 q
    exact ⟨k, _, rfl, List.getElem?_eq_getElem hk, hp⟩
theorem wf_u8 {i : Int} (h : (Lit.int .u8 i).wf = true) : 0 ≤ i ∧ i ≤ 255 := by
  simp only [Lit.wf, Bool.and_eq_true, decide_eq_true_eq] at h
  exact h
/-! ### what is known, said with less in the midst of a region -/
/-- from here on, all is well -/
def EvS (Γ : Ctx) (k : List It) (env : List AV) (σ : List AObj) : Prop :=
  ∀ (fn : Func) (c0 : Cf) (σ0 : List AObj) (R : Ending → World → Prop), c0.n = Γ.n0 → Γ.res = fn.results.toList → RetOk Γ c0 σ0 R → ∀ c a, Good c0 σ0 c env σ a → SemK Γ.P fn c0 σ0 R k .normal a c.w
theorem EvS.of_ev {Γ : Ctx} {D : Draw} (hD : DrawOk D) (n : Nat) {k : List It} {env : List AV} {σ : List AObj} (h : ev Γ D n k env σ) : EvS Γ k env σ :=
  fun fn c0 σ0 R hn hfn hR => ev_sound hD hn hfn hR n k env σ h
theorem EvS.wk {Γ : Ctx} {k : List It} {env env' : List AV} {σ σ' : List AObj} (w : Wk Γ.n0 env σ env' σ') (h : EvS Γ k env' σ') : EvS Γ k env σ := fun fn c0 σ0 R hn hfn hR c a G => by
  rw [← hn] at w
  obtain ⟨c', w1, N, he⟩ := w.nxt G.nxt G.env
  rw [← w1]
  exact h fn c0 σ0 R hn hfn hR c' a ⟨N, he, G.defers⟩
theorem EvS.seq {Γ : Ctx} {x y : Code} {k : List It} {env : List AV} {σ : List AObj} (h : EvS Γ (.code x :: .code y :: k) env σ) : EvS Γ (.code (.seq x y) :: k) env σ := fun fn c0 σ0 R hn hfn hR c a G => by
  simp only [SemK, Exit.then]
  exact wp_seq (h fn c0 σ0 R hn hfn hR c a G)
theorem EvS.region {Γ : Ctx} {id : Nat} {ops : Array Oper} {k : List It} {env : List AV} {σ : List AObj} (h : EvS Γ (.ops ops.toList ops :: k) env σ) : EvS Γ (.code (.region id ops false) :: k) env σ := fun fn c0 σ0 R hn hfn hR c a G => by
  simp only [SemK, Exit.then]
  refine wp_region_list ?_
  have := h fn c0 σ0 R hn hfn hR c a G
  simpa only [SemK] using this
/-- operations in a row, and what is to hold behind them -/
def runOps (Γ : Ctx) (all : Array Oper) (F : List AV → List AObj → Prop) : List Oper → List AV → List AObj → Prop
  | [], env, σ => F env σ
  | o :: r, env, σ => evOper Γ (runOps Γ all F r) o all env σ o.guard
theorem runOps_nil {Γ : Ctx} {all : Array Oper} {F : List AV → List AObj → Prop} {env : List AV} {σ : List AObj} : runOps Γ all F [] env σ = F env σ := rfl
theorem runOps_cons {Γ : Ctx} {all : Array Oper} {F : List AV → List AObj → Prop} {dst : Option Tmp} {op : Op} {ty : TypeId} {pos : String} {aft : Array Edge} {g : Option (Nat × Bool)} {r : List Oper} {env : List AV} {σ : List AObj} :
    runOps Γ all F (⟨dst, op, ty, pos, aft, g⟩ :: r) env σ = evOper Γ (runOps Γ all F r) ⟨dst, op, ty, pos, aft, g⟩ all env σ g := rfl
attribute [go_sem] runOps_nil runOps_cons
theorem EvS.split {Γ : Ctx} {all : Array Oper} {k : List It} {l2 : List Oper} : ∀ (l1 : List Oper) {env : List AV} {σ : List AObj}, runOps Γ all (EvS Γ (.ops l2 all :: k)) l1 env σ → EvS Γ (.ops (l1 ++ l2) all :: k) env σ
  | [], env, σ, h => h
  | o :: r, env, σ, h => fun fn c0 σ0 R hn hfn hR c a G => by
    simp only [List.cons_append, SemK]
    refine ops_step hn G (fun env σ hE c a G => ?_) h
    have := EvS.split r hE fn c0 σ0 R hn hfn hR c a G
    simpa only [SemK] using this
theorem EvS.at {Γ : Ctx} {id : Nat} {ops : List Oper} {k : List It} {env : List AV} {σ : List AObj} (n : Nat) (h : runOps Γ ops.toArray (EvS Γ (.ops (ops.drop n) ops.toArray :: k)) (ops.take n) env σ) : EvS Γ (.code (.region id ops.toArray false) :: k) env σ := by
  refine EvS.region ?_
  have := EvS.split (ops.take n) h
  rwa [List.take_append_drop] at this
/-- A FUNCTION's SPEC, by running its body. -/
theorem spec_of_evS {P : Program} {f : FuncId} {fn : Func} {body : Code} {args : List AV} {σ σ' : List AObj} {r : AV} (hf : P.funcs[f]? = some fn) (hb : fn.body = some body) (hname : (fn.name == "runtime.NumGoroutine") = false)
    (hlen : args.length ≤ fn.ntmps)
    (h : EvS ⟨P, σ.length, fn.results.toList, fun r' τ => Wk σ.length [r'] τ [r] σ'⟩ [.code body] (args ++ List.replicate (fn.ntmps - args.length) .any) σ) : Spec P f args σ r σ' := by
  refine ⟨⟨fn, hf, by rw [hb]; rfl, hname⟩, fun c vs H ha => ?_⟩
  have hvl := ARs_length ha
  have hvs : vs.size = args.length := by simpa using hvl.symm
  refine calls_of_wp hf hb ?_
  have hG : Good c σ c (args ++ List.replicate (fn.ntmps - args.length) .any) σ { tmps := vs ++ Array.replicate (fn.ntmps - vs.size) undef, defers := [] } := by
    refine ⟨.refl H, ?_, rfl⟩
    rw [Array.toList_append, hvs]
    refine ARs_append ha (ARs_mk (by simp) fun i x v hx hv => ?_)
    rw [List.eq_of_mem_replicate (List.mem_of_getElem? hx)]
    simp [AR]
  have := h fn c σ (fun e w' => ∃ c' v, c'.w = w' ∧ e = .returned v ∧ AR c' r v ∧ Nxt c σ c' σ') (by rw [H.n]) rfl (fun r' τ c' v hp N hv => by
    have hp' : Wk c.n [r'] τ [r] σ' := by rw [H.n]; exact hp
    obtain ⟨c2, w2, N2, hx⟩ := hp'.nxt N (vs := [v]) (by simpa [ARs] using hv)
    exact ⟨c2, v, w2, rfl, by simpa [ARs] using hx, N2⟩) c _ hG
  simp only [SemK] at this
  refine wp_mono this fun e a w he => ?_
  cases e <;> exact he
/-- before a call, all that is handed over is data -/
theorem ECall.dat {Γ : Ctx} {E : List AV → List AObj → Prop} {dst : Option Tmp} {f : FuncId} {env args args' : List AV} {σ σ' : List AObj} (h : dats σ args = some (args', σ')) (hl : args'.length = args.length) (h2 : ECall Γ E dst f env args' σ') : ECall Γ E dst f env args σ :=
  .wk hl (Wk.tail (dats_sound args h) _ env) h2
/-! ### a row lent out: the caller keeps it -/
def scalD : D → Bool
  | .sl _ => false
  | _ => true
mutual
def scal : AV → Bool
  | .d x => scalD x
  | .agg cs => scals cs
  | .tup cs => scals cs
  | .fn _ caps => scals caps
  | .eptr _ => false
  | _ => true
def scals : List AV → Bool
  | [] => true
  | x :: xs => scal x && scals xs
end
def scalO : AObj → Bool
  | .cells cs => scals cs
  | .row _ es => es.all fun e => e.all scalD
  | .map _ _ es => es.all fun e => e.1.all scalD && e.2.all scalD
  | _ => true
theorem DR_scal {h h' : Snap} {x : D} {v : Value} (hs : scalD x = true) (e : DR h x v) : DR h' x v := by
  cases x with
  | sl es => simp [scalD] at hs
  | int k n => simpa [DR] using e
  | bool b => simpa [DR] using e
  | str s => simpa [DR] using e
theorem DRs_scal {h h' : Snap} : ∀ {xs : List D} {vs : List Value}, xs.all scalD = true → DRs h xs vs → DRs h' xs vs
  | [], [], _, _ => by simp [DRs]
  | x :: xs, v :: vs, hs, e => by
    simp only [List.all_cons, Bool.and_eq_true] at hs
    simp only [DRs] at e ⊢
    exact ⟨DR_scal hs.1 e.1, DRs_scal hs.2 e.2⟩
  | [], _ :: _, _, e => by simp [DRs] at e
  | _ :: _, [], _, e => by simp [DRs] at e
/-- the world with less that is known to stay -/
def Cf.thaw (c : Cf) (b : Nat) : Cf := { c with h := fun x o => if x = b then none else c.h x o }
section
variable {c : Cf} {b : Nat}
mutual
theorem AR_scal : ∀ (x : AV) {v : Value}, scal x = true → AR c x v → AR (c.thaw b) x v
  | .any, _, _, _ => by simp [AR]
  | .d x, _, hs, e => by simp only [AR] at e ⊢; exact DR_scal (by simpa [scal] using hs) e
  | .agg cs, _, hs, e => by simp only [AR] at e ⊢; obtain ⟨vs, e1, e2⟩ := e; exact ⟨vs, e1, ARs_scal cs (by simpa [scal] using hs) e2⟩
  | .tup cs, _, hs, e => by simp only [AR] at e ⊢; obtain ⟨vs, e1, e2⟩ := e; exact ⟨vs, e1, ARs_scal cs (by simpa [scal] using hs) e2⟩
  | .fn f cs, _, hs, e => by simp only [AR] at e ⊢; obtain ⟨vs, e1, e2⟩ := e; exact ⟨vs, e1, ARs_scal cs (by simpa [scal] using hs) e2⟩
  | .own l, _, _, e => by simpa [AR, Cf.thaw] using e
  | .ptr l off, _, _, e => by simpa [AR, Cf.thaw] using e
  | .rptr l sz i j, _, _, e => by simpa [AR, Cf.thaw] using e
  | .eptr cs, _, hs, _ => by simp [scal] at hs
  | .mp l, _, _, e => by simpa [AR, Cf.thaw] using e
  | .nil, _, _, e => by simpa [AR] using e
  | .raw _, _, _, e => by simpa [AR] using e
theorem ARs_scal : ∀ (xs : List AV) {vs : List Value}, scals xs = true → ARs c xs vs → ARs (c.thaw b) xs vs
  | [], vs, _, r => by rw [ARs_nil_left r]; simp [ARs]
  | x :: xs, vs, hs, r => by
    obtain ⟨v, r', rfl, h1, h2⟩ := ARs_cons_left r
    simp only [scals, Bool.and_eq_true] at hs
    exact ARs_cons.2 ⟨AR_scal x hs.1 h1, ARs_scal xs hs.2 h2⟩
end
theorem AR_dv_scal {a : Bool} {cs : List D} {v : Value} (hs : cs.all scalD = true) (e : AR c (dv a cs) v) : AR (c.thaw b) (dv a cs) v := by
  refine AR_scal _ ?_ e
  cases a with
  | true =>
    simp only [dv, if_true, scal]
    clear e
    induction cs with
    | nil => rfl
    | cons x xs ih => simp only [List.all_cons, Bool.and_eq_true] at hs; simp only [List.map_cons, scals, scal, hs.1, Bool.true_and]; exact ih hs.2
  | false =>
    simp only [dv, Bool.false_eq_true, if_false, scal]
    cases cs with
    | nil => rfl
    | cons x xs => simp only [List.all_cons, Bool.and_eq_true] at hs; exact hs.1
theorem Ents_scal {ka va : Bool} : ∀ {es : List (List D × List D)} {ms : List MapEntry}, (es.all fun e => e.1.all scalD && e.2.all scalD) = true → Ents c ka va es ms → Ents (c.thaw b) ka va es ms
  | [], [], _, _ => by simp [Ents]
  | (k, v) :: es, m :: ms, hs, r => by
    simp only [List.all_cons, Bool.and_eq_true] at hs
    simp only [Ents] at r ⊢
    exact ⟨AR_dv_scal hs.1.1 r.1, AR_dv_scal hs.1.2 r.2.1, Ents_scal (by simpa using hs.2) r.2.2⟩
  | [], _ :: _, _, r => by simp [Ents] at r
  | _ :: _, [], _, r => by simp [Ents] at r
theorem ObjOk_scal {l : Nat} {o : AObj} (hs : scalO o = true) (h : ObjOk c l o) : ObjOk (c.thaw b) l o := by
  cases o with
  | gone => trivial
  | cells cs =>
    obtain ⟨vs, ty, e1, e2⟩ := h
    exact ⟨vs, ty, e1, ARs_scal cs (by simpa [scalO] using hs) e2⟩
  | row sz es =>
    rcases h with h | ⟨cap, vs, ty, e0, e1, e2, e3, e4, e5, e6⟩
    · exact .inl h
    · refine .inr ⟨cap, vs, ty, e0, e1, e2, e3, e4, e5, DRs_scal ?_ e6⟩
      simp only [scalO, List.all_eq_true] at hs
      simp only [List.all_eq_true, List.mem_flatten]
      rintro x ⟨e, he, hx⟩
      exact hs e he x hx
  | map ka va es =>
    obtain ⟨ms, ck, e1, e2⟩ := h
    exact ⟨ms, ck, e1, Ents_scal (by simpa [scalO] using hs) e2⟩
  | iter s pos => exact h
end
theorem set_get {τ : List AObj} {l k : Nat} {o x : AObj} (h : (τ.set l o)[k]? = some x) : (k = l ∧ x = o ∧ l < τ.length) ∨ (k ≠ l ∧ τ[k]? = some x) := by
  rw [List.getElem?_set] at h
  by_cases e : l = k
  · subst e
    rw [if_pos rfl] at h
    by_cases q : l < τ.length
    · rw [if_pos q] at h; exact .inl ⟨rfl, by simpa using h.symm, q⟩
    · rw [if_neg q] at h; simp at h
  · rw [if_neg e] at h; exact .inr ⟨fun e' => e e'.symm, h⟩
theorem Fp_gone {c : Cf} {σ : List AObj} {l b : Nat} {c1 : Cf} (hu : c1.u = c.u) (hν : c1.ν = c.ν) (h : Fp c1 (σ.set l .gone) b) : ∃ k o, k ≠ l ∧ σ[k]? = some o ∧ Has c k o ∧ c.ν k = b := by
  obtain ⟨k, o, e, g, q⟩ := h
  rcases set_get e with ⟨_, rfl, _⟩ | ⟨hne, e'⟩
  · exact g.elim
  · exact ⟨k, o, hne, e', (Has.congr (by rw [hu])).1 g, by rw [← hν]; exact q⟩
theorem Nxt.thaw {c : Cf} {σ τ : List AObj} {l sz : Nat} {es : List (List D)} (H : Holds c σ) (hl : σ[l]? = some (.row sz es)) (hh : Has c l (.row sz es)) {c' : Cf} (N : Nxt (c.froze (c.ν l)) (σ.set l .gone) c' τ) (ht : τ[l]? = some .gone) (hs : τ.all scalO = true) :
    Nxt c σ (c'.thaw (c.ν l)) (τ.set l (.row sz es)) := by
  have hln : l < c.n := by rw [H.n]; exact some_lt hl
  have hlt := H.lt l _ hl hh
  have νl : c'.ν l = c.ν l := N.le.ν l hln
  have ul : c'.u l = c.u l := N.le.u l hln
  have nfp : ∀ k o, τ[k]? = some o → Has c' k o → k ≠ l → c'.ν k ≠ c.ν l := fun k o e g hne q => by
    rcases N.fp _ ⟨k, o, e, g, rfl⟩ with hf | hf
    · obtain ⟨m, o', m1, m2, m3, m4⟩ := Fp_gone (c := c) rfl rfl hf
      exact H.sep m o' l _ m2 hl m3 hh m1 (m4.trans q)
    · have : c.w.heap.size ≤ c'.ν k := hf
      omega
  have notin : ¬ Fp (c.froze (c.ν l)) (σ.set l .gone) (c.ν l) := fun hf => by
    obtain ⟨m, o', m1, m2, m3, m4⟩ := Fp_gone (c := c) rfl rfl hf
    exact H.sep m o' l _ m2 hl m3 hh m1 m4
  have heapl : c'.w.heap[c.ν l]? = c.w.heap[c.ν l]? := N.kept _ hlt notin
  have hle : ∀ b o v, c.h b o = some v → (c'.thaw (c.ν l)).h b o = some v := fun b o v e => by
    have hne : b ≠ c.ν l := fun q => by subst q; rw [H.apart l _ hl hh o] at e; cases e
    show (if b = c.ν l then none else c'.h b o) = some v
    rw [if_neg hne]
    refine N.le.h b o v ?_
    show (if b = c.ν l then _ else c.h b o) = some v
    rw [if_neg hne]; exact e
  have hsc : ∀ o ∈ τ, scalO o = true := by simpa [List.all_eq_true] using hs
  have old : ∀ k x, (τ.set l (.row sz es))[k]? = some x → Has (c'.thaw (c.ν l)) k x → (k = l ∧ x = .row sz es) ∨ (k ≠ l ∧ τ[k]? = some x ∧ Has c' k x) := fun k x e g => by
    rcases set_get e with ⟨h1, h2, _⟩ | ⟨h1, h2⟩
    · exact .inl ⟨h1, h2⟩
    · exact .inr ⟨h1, h2, (Has.congr rfl).1 g⟩
  refine ⟨⟨hle, N.le.n, N.le.ν, N.le.u⟩, ⟨?_, ?_, ?_, ?_, ?_, ?_⟩, N.os, N.tape, N.output, N.size, ?_, ?_, ?_⟩
  · show c'.n = _; rw [N.hold.n]; simp
  · intro b o v e
    have e : (if b = c.ν l then none else c'.h b o) = some v := e
    split at e
    · cases e
    · exact N.hold.snap b o v e
  · intro k o e
    rcases set_get e with ⟨rfl, rfl, _⟩ | ⟨h1, h2⟩
    · rcases H.obj k _ hl with ⟨q, A, q2⟩ | ⟨cap, vs, ty, e0, e1, e2, e3, e4, e5, e6⟩
      · exact .inl ⟨q, A, by show c'.u k = _; rw [ul]; exact q2⟩
      · refine .inr ⟨cap, vs, ty, e0, ?_, e2, ?_, e4, e5, DRs.mono hle e6⟩
        · show c'.u k = .slice (some ⟨c'.ν k, 0, none⟩) _ _; rw [ul, νl]; exact e1
        · show c'.w.heap[c'.ν k]? = _; rw [νl, heapl]; exact e3
    · exact ObjOk_scal (hsc o (List.mem_of_getElem? h2)) (N.hold.obj k o h2)
  · intro k o k' o' e e' g g' hne
    show c'.ν k ≠ c'.ν k'
    rcases old k o e g with ⟨rfl, rfl⟩ | ⟨h1, h2, h3⟩
    · rcases old k' o' e' g' with ⟨rfl, rfl⟩ | ⟨h1', h2', h3'⟩
      · exact absurd rfl hne
      · rw [νl]; exact fun q => nfp k' o' h2' h3' h1' q.symm
    · rcases old k' o' e' g' with ⟨rfl, rfl⟩ | ⟨h1', h2', h3'⟩
      · rw [νl]; exact nfp k o h2 h3 h1
      · exact N.hold.sep k o k' o' h2 h2' h3 h3' hne
  · intro k o e g j
    show (if c'.ν k = c.ν l then none else c'.h (c'.ν k) j) = none
    rcases old k o e g with ⟨rfl, rfl⟩ | ⟨h1, h2, h3⟩
    · rw [if_pos νl]
    · rw [if_neg (nfp k o h2 h3 h1)]; exact N.hold.apart k o h2 h3 j
  · intro k o e g
    show c'.ν k < c'.w.heap.size
    rcases old k o e g with ⟨rfl, rfl⟩ | ⟨h1, h2, h3⟩
    · rw [νl]; exact Nat.lt_of_lt_of_le hlt N.size
    · exact N.hold.lt k o h2 h3
  · intro b hb hf
    refine N.kept b hb fun hf' => ?_
    obtain ⟨m, o', m1, m2, m3, m4⟩ := Fp_gone (c := c) rfl rfl hf'
    exact hf ⟨m, o', m2, m3, m4⟩
  · rintro b ⟨k, o, e, g, q⟩
    have q : c'.ν k = b := q
    rcases old k o e g with ⟨rfl, rfl⟩ | ⟨h1, h2, h3⟩
    · exact .inl ⟨k, _, hl, hh, νl.symm.trans q⟩
    · rcases N.fp b ⟨k, o, h2, h3, q⟩ with hf | hf
      · obtain ⟨m, o', m1, m2, m3, m4⟩ := Fp_gone (c := c) rfl rfl hf
        exact .inl ⟨m, o', m2, m3, m4⟩
      · exact .inr hf
  · intro b o hne
    have hne : (if b = c.ν l then none else c'.h b o) ≠ c.h b o := hne
    by_cases e : b = c.ν l
    · exact .inl ⟨l, _, hl, hh, e.symm⟩
    · rw [if_neg e] at hne
      have : (c.froze (c.ν l)).h b o = c.h b o := by show (if b = c.ν l then _ else c.h b o) = _; rw [if_neg e]
      rcases N.hn b o (by rw [this]; exact hne) with hf | hf
      · obtain ⟨m, o', m1, m2, m3, m4⟩ := Fp_gone (c := c) rfl rfl hf
        exact .inl ⟨m, o', m2, m3, m4⟩
      · exact .inr hf
/-- a row without a block -/
theorem Nxt.thaw0 {c : Cf} {σ τ : List AObj} {l sz : Nat} {A : Option Addr} (H : Holds c σ) (hl : σ[l]? = some (.row sz [])) (hu : c.u l = .slice A 0 0) {c' : Cf} (N : Nxt c (σ.set l .gone) c' τ) : Nxt c σ c' (τ.set l (.row sz [])) := by
  have hln : l < c.n := by rw [H.n]; exact some_lt hl
  have ul : c'.u l = c.u l := N.le.u l hln
  have no : ∀ {c2 : Cf}, c2.u l = .slice A 0 0 → ¬ Has c2 l (.row sz []) := fun e g => by
    obtain ⟨a, n, cap, e1, h0⟩ := g
    rw [e] at e1; cases e1; omega
  have old : ∀ k x, (τ.set l (.row sz []))[k]? = some x → Has c' k x → k ≠ l ∧ τ[k]? = some x := fun k x e g => by
    rcases set_get e with ⟨rfl, rfl, _⟩ | h
    · exact absurd g (no (by rw [ul, hu]))
    · exact h
  refine ⟨N.le, ⟨by rw [N.hold.n]; simp, N.hold.snap, ?_, ?_, ?_, ?_⟩, N.os, N.tape, N.output, N.size, ?_, ?_, ?_⟩
  · intro k o e
    rcases set_get e with ⟨rfl, rfl, _⟩ | ⟨h1, h2⟩
    · exact .inl ⟨rfl, A, by rw [ul, hu]⟩
    · exact N.hold.obj k o h2
  · intro k o k' o' e e' g g' hne
    exact N.hold.sep k o k' o' (old k o e g).2 (old k' o' e' g').2 g g' hne
  · intro k o e g; exact N.hold.apart k o (old k o e g).2 g
  · intro k o e g; exact N.hold.lt k o (old k o e g).2 g
  · intro b hb hf
    refine N.kept b hb fun hf' => ?_
    obtain ⟨m, o', m1, m2, m3, m4⟩ := Fp_gone (c := c) rfl rfl hf'
    exact hf ⟨m, o', m2, m3, m4⟩
  · rintro b ⟨k, o, e, g, q⟩
    rcases N.fp b ⟨k, o, (old k o e g).2, g, q⟩ with hf | hf
    · obtain ⟨m, o', m1, m2, m3, m4⟩ := Fp_gone (c := c) rfl rfl hf
      exact .inl ⟨m, o', m2, m3, m4⟩
    · exact .inr hf
  · intro b o hne
    rcases N.hn b o hne with hf | hf
    · obtain ⟨m, o', m1, m2, m3, m4⟩ := Fp_gone (c := c) rfl rfl hf
      exact .inl ⟨m, o', m2, m3, m4⟩
    · exact .inr hf
/-- a row lent out as data, to a call that hands back numbers (or new blocks) alone -/
theorem Spec.keep {P : Program} {f : FuncId} {args : List AV} {σ τ : List AObj} {r : AV} (l : Nat) {sz : Nat} {es : List (List D)} (hl : σ[l]? = some (.row sz es)) (h : Spec P f (sbs l (.sl es) args) (σ.set l .gone) r τ) (ht : τ[l]? = some .gone) (hs : τ.all scalO = true) (hr : scal r = true) :
    Spec P f args σ r (τ.set l (.row sz es)) := by
  obtain ⟨hf, hc⟩ := h
  refine ⟨hf, fun c vs H ha => ?_⟩
  rcases H.obj l _ hl with ⟨rfl, A, e⟩ | hb
  · have N := Nxt.drop H l
    have hx : ARs c (sbs l (.sl []) args) vs.toList := ARs_sb (.refl c) (fun v hv => by
      simp only [AR] at hv
      rw [hv.2.1, e]; simp only [DR]
      exact ⟨A, 0, 0, rfl, Nat.le_refl _, fun h => absurd rfl h, by simp, by simp [DRows]⟩) args ha
    refine (hc c vs N.hold hx).mono ?_
    rintro e w' ⟨c1, v, rfl, rfl, hv, N1⟩
    exact ⟨c1, v, rfl, rfl, hv, Nxt.thaw0 H hl (by assumption) N1⟩
  · have hb' := hb
    obtain ⟨cap, ws, ty, h0, h1, _⟩ := hb'
    have hh : Has c l (.row sz es) := ⟨_, _, _, h1, h0⟩
    have N := Nxt.froze H hl hh
    have hd := hb.data H.snap
    have hx : ARs (c.froze (c.ν l)) (sbs l (.sl es) args) vs.toList := ARs_sb N.le (fun v hv => by
      simp only [AR] at hv
      rw [hv.2.1]; exact hd) args ha
    refine (hc _ vs N.hold hx).mono ?_
    rintro e w' ⟨c1, v, rfl, rfl, hv, N1⟩
    exact ⟨c1.thaw (c.ν l), v, rfl, rfl, AR_scal _ hr hv, Nxt.thaw H hl hh N1 ht hs⟩
theorem Spec.keep1 {P : Program} {f : FuncId} {args args' : List AV} {r : AV} {sz : Nat} {es : List (List D)} (h : Spec P f args' [] r []) (he : sbs 0 (.sl es) args = args') (hb : bds 0 args') (hb2 : bd 0 r) (hr : scal r = true) : Spec P f args [.row sz es] r [.row sz es] := by
  subst he
  exact Spec.keep (σ := [.row sz es]) 0 rfl (Spec.lift0 h [.gone] hb hb2) rfl rfl hr
/-- a call that is lent a row -/
theorem ecallK {Γ : Ctx} {E : List AV → List AObj → Prop} {dst : Option Tmp} {f : FuncId} {args env : List AV} {σ : List AObj} (l : Nat) {args0 args' : List AV} (r : AV) {sz : Nat} {es : List (List D)} (h7 : Spec Γ.P f args' [] r []) (h1 : args = rens (at0 [l]) args0) (he : sbs 0 (.sl es) args0 = args') (hb0 : bds 1 args0) (hb : bds 0 args') (hb2 : bd 0 r) (hr : scal r = true)
    (hl : l < σ.length) (hO : ob σ l = .row sz es) (h8 : E (putO env dst r) σ) : ECall Γ E dst f env args σ := by
  refine .mk [l] args0 [.row sz es] r [.row sz es] h1 hb0 (by simp) (by simpa using hl) (by simp [obs, mapO, renO, hO]) ⟨trivial, trivial⟩ (Spec.keep1 h7 he hb hb2 hr) ?_
  rw [ren_id hb2]
  have : back σ [l] [AObj.row sz es] = σ := by
    simp only [back, List.length_cons, List.length_nil, List.take_succ_cons, List.take_zero, mapO, renO, setAll, List.drop_succ_cons, List.drop_zero, List.append_nil, so_eq]
    rw [ob_eq, List.getElem?_eq_getElem hl] at hO
    simp only [Option.getD_some] at hO
    rw [← hO]; exact List.set_getElem_self hl
  rw [this]; exact h8
/-- a draw whose ends are one -/
theorem DX.join {Γ : Ctx} {E : List It → List AV → List AObj → Prop} {k : List It} {l : List Oper} {all : Array Oper} {env : List AV} {σ : List AObj} (env' : List AV) (σ' : List AObj) (p : Plan) (h1 : okP all p (Array.replicate all.size false) [] [] = true) (h2 : tidy all = true)
    (h3 : Γ.P.follows .mixedOrders = true) (h4 : evP Γ.P all (fun env σ => Wk Γ.n0 env σ env' σ') p [] env σ) (hk : E k env' σ') : DX Γ E k l all env σ :=
  .mk p h1 h2 h3 (evP_mono (fun env σ h => ⟨env', σ', h, hk⟩) p [] env σ h4)
end Go.AX

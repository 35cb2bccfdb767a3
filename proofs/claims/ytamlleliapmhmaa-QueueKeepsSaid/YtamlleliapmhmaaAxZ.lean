/- AX, part Z: a row given up within a call. -/
import Derived.Test.YtamlleliapmhmaaAxY
set_option linter.unusedVariables false
set_option linter.unusedSimpArgs false
namespace Go.AX
/-- before a call, what is known may be said with less -/
theorem Spec.pre {P : Program} {f : FuncId} {args args' : List AV} {σ σ' τ : List AObj} {r : AV} (k : Wk σ.length args σ args' σ') (h : Spec P f args' σ' r τ) : Spec P f args σ r τ := by
  obtain ⟨hf, hc⟩ := h
  refine ⟨hf, fun c vs H ha => ?_⟩
  rw [← H.n] at k
  obtain ⟨c1, w1, N1, hx⟩ := k.nxt (.refl H) ha
  have := hc c1 vs N1.hold hx
  rw [w1] at this
  refine this.mono ?_
  rintro e w' ⟨c2, v, rfl, rfl, hv, N2⟩
  exact ⟨c2, v, rfl, rfl, hv, N1.trans N2⟩
theorem Spec.frz {P : Program} {f : FuncId} {args : List AV} {σ τ : List AObj} {r : AV} (l : Nat) {sz : Nat} {es : List (List D)} (hl : σ[l]? = some (.row sz es)) (h : Spec P f (sbs l (.sl es) args) (σ.set l .gone) r τ) : Spec P f args σ r τ :=
  Spec.pre (Wk.frz l hl) h
theorem Spec.liftN {P : Program} {f : FuncId} {args : List AV} {r : AV} {τ : List AObj} (h : Spec P f args [] r τ) (σ : List AObj) (hb : bds 0 args) : Spec P f args σ (ren (rn [] σ.length) r) (σ ++ mapO (rn [] σ.length) τ) := by
  have := Spec.frame (σ := σ) [] h hb (by simp) (by simp) rfl trivial
  rw [rens_id hb] at this
  simpa [back, setAll] using this
theorem idx_get {α : Type} {p : α → Bool} {l : List α} (h : 0 ≤ idx p l) : ∃ (i : Nat) (x : α), idx p l = i ∧ l[i]? = some x ∧ p x = true := by
  unfold idx at *
  cases q : l.findIdx? p with
  | none => rw [q] at h; simp at h
  | some k =>
    obtain ⟨hk, hp, _⟩ := List.findIdx?_eq_some_iff_getElem.1 q
    exact ⟨k, _, rfl, List.getElem?_eq_getElem hk, hp⟩
theorem wf_u8 {i : Int} (h : (Lit.int .u8 i).wf = true) : 0 ≤ i ∧ i ≤ 255 := by
  simp only [Lit.wf, Bool.and_eq_true, decide_eq_true_eq] at h
  exact h
/-! ### what is known, said with less in the midst of a region -/
/-- from here on, all is well -/
def EvS (Γ : Ctx) (k : List It) (env : List AV) (σ : List AObj) : Prop :=
  ∀ (fn : Func) (c0 : Cf) (σ0 : List AObj) (R : Ending → World → Prop), c0.n = Γ.n0 → Γ.res = fn.results.toList → RetOk Γ c0 σ0 R → ∀ c a, Good c0 σ0 c env σ a → SemK Γ.P fn c0 σ0 R k .normal a c.w
theorem EvS.of_ev {Γ : Ctx} {D : Draw} (hD : DrawOk D) (n : Nat) {k : List It} {env : List AV} {σ : List AObj} (h : ev Γ D n k env σ) : EvS Γ k env σ :=
  fun fn c0 σ0 R hn hfn hR => ev_sound hD hn hfn hR n k env σ h
theorem EvS.wk {Γ : Ctx} {k : List It} {env env' : List AV} {σ σ' : List AObj} (w : Wk Γ.n0 env σ env' σ') (h : EvS Γ k env' σ') : EvS Γ k env σ := fun fn c0 σ0 R hn hfn hR c a G => by
  rw [← hn] at w
  obtain ⟨c', w1, N, he⟩ := w.nxt G.nxt G.env
  rw [← w1]
  exact h fn c0 σ0 R hn hfn hR c' a ⟨N, he, G.defers⟩
theorem EvS.seq {Γ : Ctx} {x y : Code} {k : List It} {env : List AV} {σ : List AObj} (h : EvS Γ (.code x :: .code y :: k) env σ) : EvS Γ (.code (.seq x y) :: k) env σ := fun fn c0 σ0 R hn hfn hR c a G => by
  simp only [SemK, Exit.then]
  exact wp_seq (h fn c0 σ0 R hn hfn hR c a G)
theorem EvS.region {Γ : Ctx} {id : Nat} {ops : Array Oper} {k : List It} {env : List AV} {σ : List AObj} (h : EvS Γ (.ops ops.toList ops :: k) env σ) : EvS Γ (.code (.region id ops false) :: k) env σ := fun fn c0 σ0 R hn hfn hR c a G => by
  simp only [SemK, Exit.then]
  refine wp_region_list ?_
  have := h fn c0 σ0 R hn hfn hR c a G
  simpa only [SemK] using this
/-- operations in a row, and what is to hold behind them -/
def runOps (Γ : Ctx) (all : Array Oper) (F : List AV → List AObj → Prop) : List Oper → List AV → List AObj → Prop
  | [], env, σ => F env σ
  | o :: r, env, σ => evOper Γ (runOps Γ all F r) o all env σ o.guard
theorem runOps_nil {Γ : Ctx} {all : Array Oper} {F : List AV → List AObj → Prop} {env : List AV} {σ : List AObj} : runOps Γ all F [] env σ = F env σ := rfl
theorem runOps_cons {Γ : Ctx} {all : Array Oper} {F : List AV → List AObj → Prop} {dst : Option Tmp} {op : Op} {ty : TypeId} {pos : String} {aft : Array Edge} {g : Option (Nat × Bool)} {r : List Oper} {env : List AV} {σ : List AObj} :
    runOps Γ all F (⟨dst, op, ty, pos, aft, g⟩ :: r) env σ = evOper Γ (runOps Γ all F r) ⟨dst, op, ty, pos, aft, g⟩ all env σ g := rfl
attribute [go_sem] runOps_nil runOps_cons
theorem EvS.split {Γ : Ctx} {all : Array Oper} {k : List It} {l2 : List Oper} : ∀ (l1 : List Oper) {env : List AV} {σ : List AObj}, runOps Γ all (EvS Γ (.ops l2 all :: k)) l1 env σ → EvS Γ (.ops (l1 ++ l2) all :: k) env σ
  | [], env, σ, h => h
  | o :: r, env, σ, h => fun fn c0 σ0 R hn hfn hR c a G => by
    simp only [List.cons_append, SemK]
    refine ops_step hn G (fun env σ hE c a G => ?_) h
    have := EvS.split r hE fn c0 σ0 R hn hfn hR c a G
    simpa only [SemK] using this
theorem EvS.at {Γ : Ctx} {id : Nat} {ops : List Oper} {k : List It} {env : List AV} {σ : List AObj} (n : Nat) (h : runOps Γ ops.toArray (EvS Γ (.ops (ops.drop n) ops.toArray :: k)) (ops.take n) env σ) : EvS Γ (.code (.region id ops.toArray false) :: k) env σ := by
  refine EvS.region ?_
  have := EvS.split (ops.take n) h
  rwa [List.take_append_drop] at this
/-- A FUNCTION's SPEC, by running its body. -/
theorem spec_of_evS {P : Program} {f : FuncId} {fn : Func} {body : Code} {args : List AV} {σ σ' : List AObj} {r : AV} (hf : P.funcs[f]? = some fn) (hb : fn.body = some body) (hname : (fn.name == "runtime.NumGoroutine") = false)
    (hlen : args.length ≤ fn.ntmps)
    (h : EvS ⟨P, σ.length, fn.results.toList, fun r' τ => Wk σ.length [r'] τ [r] σ'⟩ [.code body] (args ++ List.replicate (fn.ntmps - args.length) .any) σ) : Spec P f args σ r σ' := by
  refine ⟨⟨fn, hf, by rw [hb]; rfl, hname⟩, fun c vs H ha => ?_⟩
  have hvl := ARs_length ha
  have hvs : vs.size = args.length := by simpa using hvl.symm
  refine calls_of_wp hf hb ?_
  have hG : Good c σ c (args ++ List.replicate (fn.ntmps - args.length) .any) σ { tmps := vs ++ Array.replicate (fn.ntmps - vs.size) undef, defers := [] } := by
    refine ⟨.refl H, ?_, rfl⟩
    rw [Array.toList_append, hvs]
    refine ARs_append ha (ARs_mk (by simp) fun i x v hx hv => ?_)
    rw [List.eq_of_mem_replicate (List.mem_of_getElem? hx)]
    simp [AR]
  have := h fn c σ (fun e w' => ∃ c' v, c'.w = w' ∧ e = .returned v ∧ AR c' r v ∧ Nxt c σ c' σ') (by rw [H.n]) rfl (fun r' τ c' v hp N hv => by
    have hp' : Wk c.n [r'] τ [r] σ' := by rw [H.n]; exact hp
    obtain ⟨c2, w2, N2, hx⟩ := hp'.nxt N (vs := [v]) (by simpa [ARs] using hv)
    exact ⟨c2, v, w2, rfl, by simpa [ARs] using hx, N2⟩) c _ hG
  simp only [SemK] at this
  refine wp_mono this fun e a w he => ?_
  cases e <;> exact he
/-- before a call, all that is handed over is data -/
theorem ECall.dat {Γ : Ctx} {E : List AV → List AObj → Prop} {dst : Option Tmp} {f : FuncId} {env args args' : List AV} {σ σ' : List AObj} (h : dats σ args = some (args', σ')) (hl : args'.length = args.length) (h2 : ECall Γ E dst f env args' σ') : ECall Γ E dst f env args σ :=
  .wk hl (Wk.tail (dats_sound args h) _ env) h2
end Go.AX

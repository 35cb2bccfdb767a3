/- AX, part S: the evaluator is sound. -/
import Derived.Test.YtnmgmlmiijljmaaAxR
set_option linter.unusedVariables false
set_option linter.unusedSimpArgs false
namespace Go.AX
section
variable {Γ : Ctx} {fn : Func} {c0 : Cf} {σ0 : List AObj} {R : Ending → World → Prop} {D : Draw}

theorem ARs_st_same {c : Cf} : ∀ {xs : List AV} {vs : List Value} (_ : ARs c xs vs) (i : Nat) {x : AV} {v : Value}, vs[i]? = some v → AR c x v → ARs c (st xs i x) vs
  | [], _, h, i, x, v, e, _ => by rw [ARs_nil_left h] at e; simp at e
  | y :: ys, _, h, i, x, v, e, hx => by
    obtain ⟨u, r, rfl, h1, h2⟩ := ARs_cons_left h
    cases i with
    | zero => simp at e; subst e; simpa [st, ARs_cons] using ⟨hx, h2⟩
    | succ i => simpa [st, ARs_cons] using ⟨h1, ARs_st_same h2 i (by simpa using e) hx⟩
theorem ARs_putO {c : Cf} {env : List AV} {a : Act} (h : ARs c env a.tmps.toList) (dst : Option Tmp) {x : AV} {v : Value} (hx : AR c x v) : ARs c (putO env dst x) (a.put dst v).tmps.toList := by
  cases dst with
  | none => exact h
  | some d => simpa [putO, Act.put] using ARs_st h d hx
theorem lk_val {c : Cf} {env : List AV} {vs : List Value} (h : ARs c env vs) {d : Nat} {x : AV} (e : lk env d = x) (hne : x ≠ .any) : ∃ v, vs[d]? = some v ∧ AR c x v := by
  rw [lk_eq] at e
  cases q : env[d]? with
  | none => simp [q] at e; exact absurd e.symm hne
  | some y => simp [q] at e; subst e; exact ARs_get h d q
theorem Good.put {c c' : Cf} {env : List AV} {σ σ' : List AObj} {a : Act} (G : Good c0 σ0 c env σ a) (N : Nxt c σ c' σ') (dst : Option Tmp) {x : AV} {v : Value} (hx : AR c' x v) : Good c0 σ0 c' (putO env dst x) σ' (a.put dst v) :=
  ⟨G.nxt.trans N, ARs_putO (ARs.mono N.le _ G.env) dst hx, by cases dst <;> exact G.defers⟩

theorem ecall_sound {E : List AV → List AObj → Prop} {dst : Option Tmp} {f : FuncId} (hn : c0.n = Γ.n0) {env args : List AV} {σ : List AObj} (h : ECall Γ E dst f env args σ) :
    ∀ (c : Cf) (a : Act) (vs : Array Value), Nxt c0 σ0 c σ → ARs c args vs.toList → ARs c env a.tmps.toList →
      (∃ fn, Γ.P.funcs[f]? = some fn ∧ fn.body.isNone = false ∧ (fn.name == "runtime.NumGoroutine") = false) ∧
      Calls Γ.P f vs c.w fun e w' => ∃ c' env' σ' v, c'.w = w' ∧ e = .returned v ∧ Nxt c0 σ0 c' σ' ∧ ARs c' env' (a.put dst v).tmps.toList ∧ E env' σ' := by
  induction h with
  | mk ls args' σi r σ1 h1 h2 h3 h4 h5 h6 h7 h8 =>
    intro c a vs N hargs henv
    subst h1
    obtain ⟨hf, hcalls⟩ := h7
    refine ⟨hf, ?_⟩
    obtain ⟨H0, back⟩ := call_frame (σ1 := σ1) N.hold h3 h4 h5 h6
    refine (hcalls _ vs H0 (ARs_via args' h2 hargs)).mono ?_
    rintro e w' ⟨c1, v, rfl, rfl, hv, N1⟩
    obtain ⟨c2, w2, S, N2⟩ := back c1 N1
    exact ⟨c2, _, _, v, w2, rfl, N.trans N2, ARs_putO (ARs.mono N2.le _ henv) dst (AR_sees S _ hv), h8⟩
  | all r σ1 h7 h8 =>
    intro c a vs N hargs henv
    obtain ⟨hf, hcalls⟩ := h7
    refine ⟨hf, (hcalls _ vs N.hold hargs).mono ?_⟩
    rintro e w' ⟨c1, v, rfl, rfl, hv, N1⟩
    exact ⟨c1, _, _, v, rfl, rfl, N.trans N1, ARs_putO (ARs.mono N1.le _ henv) dst hv, h8⟩
  | @wk env args env' args' σ σ' h1 h2 h3 ih =>
    intro c a vs N hargs henv
    rw [← hn] at h2
    obtain ⟨c', w1, N1, hx⟩ := h2.nxt N (ARs_append hargs henv)
    have hlen := ARs_length hargs
    have ha : ARs c' args' vs.toList := by
      have := ARs_take args'.length hx
      rwa [List.take_left, h1, hlen, List.take_left] at this
    have he : ARs c' env' a.tmps.toList := by
      have := ARs_drop args'.length hx
      rwa [List.drop_left, h1, hlen, List.drop_left] at this
    have := ih c' a vs N1 ha he
    rw [w1] at this
    exact this

theorem fin_sound {E : List AV → List AObj → Prop} {o : Oper} {a : Act} {c : Cf} {env : List AV} {σ : List AObj} {next : Act → World → Prop} {Q : Exit → Act → World → Prop} (hn : c0.n = Γ.n0) (G : Good c0 σ0 c env σ a)
    (hE : ∀ env σ, E env σ → ∀ c a, Good c0 σ0 c env σ a → next a c.w) : ∀ (r : R1), r.Ok Γ.P o a c σ → fin Γ E o.dst env σ r → o.wp Γ.P a c.w next Q
  | .to v σ', h, hf => by
    obtain ⟨nx, x, c', h1, h2, h3, h4⟩ := h
    unfold Oper.wp
    rw [h1]
    rcases h2 with rfl | ⟨rfl, rfl⟩
    · exact hE _ _ hf c' _ (G.put h4 o.dst h3)
    · exact hE _ _ hf c' _ (G.put h4 o.dst h3)
  | .need p r, h, hf => fin_sound hn G hE r (h hf.1) hf.2
  | .all es i k, h, hf => by obtain ⟨e, h1, h2⟩ := h; exact fin_sound hn G hE (k e) h2 (hf e h1)
  | .ite t x y, h, hf => by
    cases t with
    | true => exact fin_sound hn G hE x (h.1 rfl) (hf.1 rfl)
    | false => exact fin_sound hn G hE y (h.2 rfl) (hf.2 rfl)
  | .ex p k, h, hf => by obtain ⟨b, h1, h2⟩ := h; exact fin_sound hn G hE (k b) h2 (hf b h1)
  | .bad, _, hf => hf.elim
  | .call f args, h, hf => by
    obtain ⟨vs, h1, h2⟩ := h
    obtain ⟨⟨fn, f1, f2, f3⟩, hc⟩ := ecall_sound hn hf c a vs G.nxt h2 G.env
    unfold Oper.wp
    rw [h1]
    have hcf : (callFunc f vs).run Γ.P c.w = .ok (.enter f vs) c.w := by
      simp only [callFunc, Sem.run_bind, run_program, Result.andThen_ok, f1, f2, f3, Bool.false_eq_true, if_false, Sem.run_pure]
    rw [hcf]
    simp only [Oper.upon_enter]
    refine hc.mono ?_
    rintro e w' ⟨c', env', σ', v, rfl, rfl, N, he, hE'⟩
    exact hE _ _ hE' c' _ ⟨N, he, by cases hd : o.dst <;> exact G.defers⟩

theorem ops_step {E : List AV → List AObj → Prop} {o : Oper} {all : Array Oper} {rest : List Oper} {a : Act} {c : Cf} {env : List AV} {σ : List AObj} {Q : Exit → Act → World → Prop} (hn : c0.n = Γ.n0) (G : Good c0 σ0 c env σ a)
    (hE : ∀ env σ, E env σ → ∀ c a, Good c0 σ0 c env σ a → wpList Γ.P all Q rest a c.w) (h : evOper Γ E o all env σ o.guard) : wpList Γ.P all Q (o :: rest) a c.w := by
  unfold wpList
  cases hg : o.guard with
  | none =>
    rw [hg] at h
    simp only [evOper] at h
    rw [if_pos (by simp [Region.wanted, hg])]
    exact .inl (fin_sound hn G hE _ (evOp_ok G.nxt.hold G.env o.op rfl) h)
  | some jw =>
    obtain ⟨j, want⟩ := jw
    rw [hg] at h
    simp only [evOper] at h
    cases hs : gslot all j with
    | none => rw [hs] at h; exact h.elim
    | some d =>
      rw [hs] at h
      simp only [evG] at h
      have hy : yielded all a.tmps j = match a.tmps[d]? with | some (.bool b) => some b | _ => none := by
        unfold yielded
        unfold gslot at hs
        rw [hs]
        rfl
      generalize hx : lk env d = x at h
      have skip : ∀ (env' : List AV), ARs c env' a.tmps.toList → E (putO env' o.dst (.tup [])) σ → wpList Γ.P all Q rest (a.put o.dst undef) c.w := fun env' he hE' =>
        hE _ _ hE' c _ ⟨G.nxt, ARs_putO he o.dst (by simp [AR, ARs, undef]), by cases hd : o.dst <;> exact G.defers⟩
      cases x <;> try exact h.elim
      case d y =>
        cases y <;> try exact h.elim
        case bool b =>
          obtain ⟨v, hv, ha⟩ := lk_val G.env hx (by simp)
          simp only [AR, DR] at ha
          subst ha
          have hv' : a.tmps[d]? = some (.bool b) := by simpa using hv
          rw [hv'] at hy
          simp only at hy
          simp only [evG1] at h
          have henv : ARs c (st env d (.d (.bool b))) a.tmps.toList := ARs_st_same G.env d hv (by simp [AR, DR])
          have G' : Good c0 σ0 c (st env d (.d (.bool b))) σ a := ⟨G.nxt, henv, G.defers⟩
          cases b <;> cases want <;> simp only [evGb] at h
          · rw [if_pos (by simp [Region.wanted, hg, hy])]; exact .inl (fin_sound hn G' hE _ (evOp_ok G'.nxt.hold G'.env o.op rfl) h)
          · rw [if_neg (by simp [Region.wanted, hg, hy])]; exact skip _ henv h
          · rw [if_neg (by simp [Region.wanted, hg, hy])]; exact skip _ henv h
          · rw [if_pos (by simp [Region.wanted, hg, hy])]; exact .inl (fin_sound hn G' hE _ (evOp_ok G'.nxt.hold G'.env o.op rfl) h)
      case tup cs =>
        obtain ⟨v, hv, ha⟩ := lk_val G.env hx (by simp)
        simp only [AR] at ha
        obtain ⟨vs, rfl, _⟩ := ha
        have hv' : a.tmps[d]? = some (.tuple vs) := by simpa using hv
        rw [hv'] at hy
        simp only at hy
        simp only [evG1] at h
        rw [if_neg (by simp [Region.wanted, hg, hy])]
        exact skip _ G.env h

theorem least {p : Nat → Prop} (h : ∃ m, p m) : ∃ m, p m ∧ ∀ k, p k → m ≤ k := by
  obtain ⟨m, hm⟩ := h
  induction m using Nat.strongRecOn with
  | _ m ih =>
    by_cases q : ∃ k, k < m ∧ p k
    · obtain ⟨k, hk, hp⟩ := q; exact ih k hk hp
    · exact ⟨m, hm, fun k hk => Nat.le_of_not_lt fun hlt => q ⟨k, hlt, hk⟩⟩
theorem loop_sound {E : List It → List AV → List AObj → Prop} {b : Code} {k : List It} {env : List AV} {σ : List AObj} {a : Act} {c : Cf} (hn : c0.n = Γ.n0)
    (hE : ∀ k env σ, E k env σ → ∀ c a, Good c0 σ0 c env σ a → SemK Γ.P fn c0 σ0 R k .normal a c.w) (G : Good c0 σ0 c env σ a) (h : ELoop Γ E b k env σ) : (Code.loop b).wp Γ.P (SemK Γ.P fn c0 σ0 R k) a c.w := by
  classical
  obtain ⟨I, ⟨m, env', σ', hw, hI⟩, hround⟩ := h
  have weak : ∀ {env : List AV} {σ : List AObj} {env' : List AV} {σ' : List AObj} {c : Cf} {a : Act}, Wk Γ.n0 env σ env' σ' → Good c0 σ0 c env σ a → ∃ c', c'.w = c.w ∧ Good c0 σ0 c' env' σ' a := fun hw G => by
    rw [← hn] at hw
    obtain ⟨c', w1, N, he⟩ := hw.nxt G.nxt G.env
    exact ⟨c', w1, N, he, G.defers⟩
  let In : Nat → Act → World → Prop := fun m a w => ∃ c env σ, I m env σ ∧ Good c0 σ0 c env σ a ∧ c.w = w
  let μ : Act → World → Nat := fun a w => if h : ∃ m, In m a w then Classical.choose (least h) else 0
  have hμ : ∀ m a w, In m a w → μ a w ≤ m := fun m a w hm => by
    have : ∃ m, In m a w := ⟨m, hm⟩
    simp only [μ, dif_pos this]
    exact (Classical.choose_spec (least this)).2 m hm
  refine wp_loop (fun a w => ∃ m, In m a w) μ ?_ ?_
  · obtain ⟨c', w1, G'⟩ := weak hw G
    exact ⟨m, c', env', σ', hI, G', w1⟩
  · intro a1 w1 hex
    obtain ⟨c1, env1, σ1, hI1, G1, rfl⟩ : In (Classical.choose (least hex)) a1 w1 := (Classical.choose_spec (least hex)).1
    have hm1 : μ a1 c1.w = Classical.choose (least hex) := by simp only [μ, dif_pos hex]
    have := hE _ _ _ (hround _ _ _ hI1) c1 a1 G1
    simp only [SemK] at this
    refine wp_mono this fun e a w he => ?_
    cases e <;> try exact he
    case normal =>
      obtain ⟨c2, env2, σ2, ⟨m', hlt, env3, σ3, hw3, hI3⟩, G2, rfl⟩ := he
      obtain ⟨c3, w3, G3⟩ := weak hw3 G2
      have hin : In m' a c2.w := ⟨c3, env3, σ3, hI3, G3, w3⟩
      exact ⟨⟨m', hin⟩, by rw [hm1]; exact Nat.lt_of_le_of_lt (hμ _ _ _ hin) hlt⟩

theorem ev_sound (hD : DrawOk D) (hn : c0.n = Γ.n0) (hfn : Γ.res = fn.results.toList) (hR : RetOk Γ c0 σ0 R) : ∀ (n : Nat) (k : List It) (env : List AV) (σ : List AObj), ev Γ D n k env σ → ∀ c a, Good c0 σ0 c env σ a → SemK Γ.P fn c0 σ0 R k .normal a c.w
  | 0, _, _, _, h, _, _, _ => h.elim
  | n + 1, [], env, σ, h, c, a, G => end_sound hfn hR G h (.inl rfl)
  | n + 1, .ops [] all :: k, env, σ, h, c, a, G => ev_sound hD hn hfn hR n k env σ h c a G
  | n + 1, .ops (o :: r) all :: k, env, σ, h, c, a, G => by
    simp only [SemK]
    exact ops_step hn G (fun env σ hE c a G => by have := ev_sound hD hn hfn hR n _ env σ hE c a G; simpa only [SemK] using this) h
  | n + 1, .blk id :: k, env, σ, h, c, a, G => by
    simp only [SemK, Exit.inBlock]
    exact ev_sound hD hn hfn hR n k env σ h c a G
  | n + 1, .back J :: k, env, σ, h, c, a, G => by
    simp only [SemK, Exit.then]
    exact ⟨c, env, σ, h, G, rfl⟩
  | n + 1, .code cd :: k, env, σ, h, c, a, G => by
    have ih := ev_sound hD hn hfn hR n
    have h' : evCode Γ (ev Γ D n) (D Γ (ev Γ D n)) k env σ cd := h
    simp only [SemK, Exit.then]
    cases cd <;> try exact h'.elim
    case skip => exact wp_skip (ih k env σ h' c a G)
    case region id ops draw =>
      cases draw with
      | false =>
        refine wp_region_list ?_
        have := ih _ env σ h' c a G
        simpa only [SemK] using this
      | true => exact hD Γ fn c0 σ0 R hn (ev Γ D n) ih id k ops env σ h' c a G
    case seq x y =>
      refine wp_seq ?_
      exact ih _ env σ h' c a G
    case cond q x y =>
      simp only [evCode] at h'
      cases q <;> try exact h'.elim
      case tmp d =>
        simp only [evC] at h'
        generalize hx : lk env d = z at h'
        cases z <;> try exact h'.elim
        case d z =>
          cases z <;> try exact h'.elim
          case bool b =>
            obtain ⟨v, hv, ha⟩ := lk_val G.env hx (by simp)
            simp only [AR, DR] at ha
            subst ha
            have henv : ARs c (st env d (.d (.bool b))) a.tmps.toList := ARs_st_same G.env d hv (by simp [AR, DR])
            have hev : a.eval (.tmp d) = .bool b := by
              have : a.tmps[d]? = some (.bool b) := by simpa using hv
              simp [Act.eval, Array.getD_eq_getD_getElem?, this]
            refine wp_cond_split hev (fun hb => ?_) (fun hb => ?_)
            · subst hb
              have := ih _ _ σ h' c a ⟨G.nxt, henv, G.defers⟩
              simpa only [SemK, Exit.then] using this
            · subst hb
              have := ih _ _ σ h' c a ⟨G.nxt, henv, G.defers⟩
              simpa only [SemK, Exit.then] using this
      case const v =>
        cases v <;> try exact h'.elim
        case bool b =>
          cases b with
          | true => refine wp_cond_true rfl ?_; have := ih _ env σ h' c a G; simpa only [SemK, Exit.then] using this
          | false => refine wp_cond_false rfl ?_; have := ih _ env σ h' c a G; simpa only [SemK, Exit.then] using this
    case block id b =>
      refine wp_block ?_
      have := ih _ env σ h' c a G
      simpa only [SemK, Exit.then] using this
    case loop b => exact loop_sound hn ih G h'
    case exit id =>
      refine wp_exit ?_
      simp only [evCode] at h'
      cases hp : popTo id k with
      | none => rw [hp] at h'; exact h'.elim
      | some k' => rw [hp] at h'; exact popTo_sound hp (ih k' env σ h' c a G)
    case ret => exact wp_ret (ret_down (end_sound hfn hR G h' (.inr rfl)))

/-- A FUNCTION's SPEC, by running its body. -/
theorem spec_of_ev {P : Program} {f : FuncId} {fn : Func} {body : Code} {args : List AV} {σ σ' : List AObj} {r : AV} (hD : DrawOk D) (n : Nat) (hf : P.funcs[f]? = some fn) (hb : fn.body = some body) (hname : (fn.name == "runtime.NumGoroutine") = false)
    (hlen : args.length ≤ fn.ntmps)
    (h : ev ⟨P, σ.length, fn.results.toList, fun r' τ => Wk σ.length [r'] τ [r] σ'⟩ D n [.code body] (args ++ List.replicate (fn.ntmps - args.length) .any) σ) : Spec P f args σ r σ' := by
  refine ⟨⟨fn, hf, by rw [hb]; rfl, hname⟩, fun c vs H ha => ?_⟩
  have hvl := ARs_length ha
  have hvs : vs.size = args.length := by simpa using hvl.symm
  refine calls_of_wp hf hb ?_
  have hG : Good c σ c (args ++ List.replicate (fn.ntmps - args.length) .any) σ { tmps := vs ++ Array.replicate (fn.ntmps - vs.size) undef, defers := [] } := by
    refine ⟨.refl H, ?_, rfl⟩
    rw [Array.toList_append, hvs]
    refine ARs_append ha (ARs_mk (by simp) fun i x v hx hv => ?_)
    rw [List.eq_of_mem_replicate (List.mem_of_getElem? hx)]
    simp [AR]
  have := ev_sound (R := fun e w' => ∃ c' v, c'.w = w' ∧ e = .returned v ∧ AR c' r v ∧ Nxt c σ c' σ') (fn := fn) (c0 := c) (σ0 := σ) hD (by rw [H.n]) rfl (fun r' τ c' v hp N hv => by
    have hp' : Wk c.n [r'] τ [r] σ' := by rw [H.n]; exact hp
    obtain ⟨c2, w2, N2, hx⟩ := hp'.nxt N (vs := [v]) (by simpa [ARs] using hv)
    exact ⟨c2, v, w2, rfl, by simpa [ARs] using hx, N2⟩) n _ _ _ h c _ hG
  simp only [SemK] at this
  refine wp_mono this fun e a w he => ?_
  cases e <;> exact he
end
end Go.AX

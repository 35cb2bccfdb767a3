/- AX, part V: a region that draws its order. -/
import Derived.Test.YtnmgmlmiijljmaaAxU
import Derived.Orders
set_option linter.unusedVariables false
set_option linter.unusedSimpArgs false
namespace Go.AX

/-! ### what an operation gives, told once -/
def Ret (P : Program) (σ : List AObj) (v : AV) (σ' : List AObj) : R1 → Prop
  | .to v' τ => v' = v ∧ τ = σ'
  | .need p r => p ∧ Ret P σ v σ' r
  | .all es i k => ∃ e, es[i]? = some e ∧ Ret P σ v σ' (k e)
  | .ite t x y => (t = true → Ret P σ v σ' x) ∧ (t = false → Ret P σ v σ' y)
  | .call f args => Spec P f args σ v σ'
  | _ => False
def finT (P : Program) (σ : List AObj) (F : AV → List AObj → Prop) : R1 → Prop
  | .to v τ => F v τ
  | .need p r => p ∧ finT P σ F r
  | .all es i k => i < es.length ∧ ∀ e, es[i]? = some e → finT P σ F (k e)
  | .ite t x y => (t = true → finT P σ F x) ∧ (t = false → finT P σ F y)
  | .call f args => ∃ r σ', Spec P f args σ r σ' ∧ F r σ'
  | _ => False
theorem finT_ret {P : Program} {σ : List AObj} {F : AV → List AObj → Prop} : ∀ {r : R1}, finT P σ F r → ∃ v σ', Ret P σ v σ' r ∧ F v σ'
  | .to v τ, h => ⟨v, τ, ⟨rfl, rfl⟩, h⟩
  | .need p r, h => by obtain ⟨v, t, h1, h2⟩ := finT_ret h.2; exact ⟨v, t, ⟨h.1, h1⟩, h2⟩
  | .all es i k, h => by
    obtain ⟨v, t, h1, h2⟩ := finT_ret (h.2 (es[i]'h.1) (by simp [h.1]))
    exact ⟨v, t, ⟨es[i]'h.1, by simp [h.1], h1⟩, h2⟩
  | .ite t x y, h => by
    cases t with
    | true => obtain ⟨v, t, h1, h2⟩ := finT_ret (h.1 rfl); exact ⟨v, t, ⟨fun _ => h1, fun e => (Bool.noConfusion e)⟩, h2⟩
    | false => obtain ⟨v, t, h1, h2⟩ := finT_ret (h.2 rfl); exact ⟨v, t, ⟨fun e => (Bool.noConfusion e), fun _ => h1⟩, h2⟩
  | .call f args, h => by obtain ⟨r, s, h1, h2⟩ := h; exact ⟨r, s, h1, h2⟩
  | .ex p k, h => h.elim
  | .bad, h => h.elim
theorem ret_sound {P : Program} {o : Oper} {a : Act} {c : Cf} {σ σ' : List AObj} {v : AV} {next : Act → World → Prop} {Q : Exit → Act → World → Prop} (H : Holds c σ)
    (hE : ∀ c' x, Nxt c σ c' σ' → AR c' v x → next (a.put o.dst x) c'.w) : ∀ (r : R1), r.Ok P o a c σ → Ret P σ v σ' r → o.wp P a c.w next Q
  | .to v' τ, h, hr => by
    obtain ⟨rfl, rfl⟩ := hr
    obtain ⟨nx, x, c', h1, h2, h3, h4⟩ := h
    unfold Oper.wp
    rw [h1]
    rcases h2 with rfl | ⟨rfl, rfl⟩
    · exact hE c' _ h4 h3
    · exact hE c' _ h4 h3
  | .need p r, h, hr => ret_sound H hE r (h hr.1) hr.2
  | .all es i k, h, hr => by
    obtain ⟨e, h1, h2⟩ := h
    obtain ⟨e', h3, h4⟩ := hr
    rw [h1] at h3; cases h3
    exact ret_sound H hE (k e) h2 h4
  | .ite t x y, h, hr => by
    cases t with
    | true => exact ret_sound H hE x (h.1 rfl) (hr.1 rfl)
    | false => exact ret_sound H hE y (h.2 rfl) (hr.2 rfl)
  | .ex p k, h, hr => hr.elim
  | .bad, _, hr => hr.elim
  | .call f args, h, hr => by
    obtain ⟨vs, h1, h2⟩ := h
    obtain ⟨⟨fn, f1, f2, f3⟩, hc⟩ := hr
    unfold Oper.wp
    rw [h1]
    have hcf : (callFunc f vs).run P c.w = .ok (.enter f vs) c.w := by
      simp only [callFunc, Sem.run_bind, run_program, Result.andThen_ok, f1, f2, f3, Bool.false_eq_true, if_false, Sem.run_pure]
    rw [hcf]
    simp only [Oper.upon_enter]
    refine (hc c vs H h2).mono ?_
    rintro e w' ⟨c', x, rfl, rfl, hx, N⟩
    exact hE c' _ N hx

/-! ### under a guard -/
def guardOf (all : Array Oper) (env : List AV) : Option (Nat × Bool) → Option Bool
  | none => some true
  | some (j, want) => match gslot all j with
    | some d => match lk env d with
      | .d (.bool b) => some (b == want)
      | .tup _ => some false
      | _ => none
    | none => none
def RetG (P : Program) (all : Array Oper) (env : List AV) (σ : List AObj) (o : Oper) (v : AV) (σ' : List AObj) : Prop :=
  match guardOf all env o.guard with
  | some true => Ret P σ v σ' (evOp P env σ o.op)
  | some false => v = .tup [] ∧ σ' = σ
  | none => False
def finG (P : Program) (all : Array Oper) (env : List AV) (σ : List AObj) (o : Oper) (F : AV → List AObj → Prop) : Option Bool → Prop
  | some b => (b = true → finT P σ F (evOp P env σ o.op)) ∧ (b = false → F (.tup []) σ)
  | none => False
theorem finG_ret {P : Program} {all : Array Oper} {env : List AV} {σ : List AObj} {o : Oper} {F : AV → List AObj → Prop} (h : finG P all env σ o F (guardOf all env o.guard)) : ∃ v σ', RetG P all env σ o v σ' ∧ F v σ' := by
  unfold RetG
  generalize guardOf all env o.guard = g at *
  cases g with
  | none => exact h.elim
  | some b =>
    cases b with
    | true => exact finT_ret (h.1 rfl)
    | false => exact ⟨.tup [], σ, ⟨rfl, rfl⟩, h.2 rfl⟩

theorem retG_sound {P : Program} {all : Array Oper} {env : List AV} {σ σ' : List AObj} {i : Nat} {o : Oper} {v : AV} {c0 c : Cf} {σ0 : List AObj} {a : Act} {K : Act → World → Prop} {Q : Exit → Act → World → Prop} (hi : all[i]? = some o)
    (G : Good c0 σ0 c env σ a) (h : RetG P all env σ o v σ') (hK : ∀ c' a', Good c0 σ0 c' (putO env o.dst v) σ' a' → K a' c'.w) : wpOp P all Q i K a c.w := by
  unfold wpOp
  simp only [hi]
  have run : Ret P σ v σ' (evOp P env σ o.op) → o.wp P a c.w K Q := fun hr =>
    ret_sound G.nxt.hold (fun c' x N hx => hK c' _ (G.put N o.dst hx)) _ (evOp_ok G.nxt.hold G.env o.op rfl) hr
  have skip : v = .tup [] ∧ σ' = σ → K (a.put o.dst undef) c.w := fun ⟨e1, e2⟩ => by
    subst e1 e2
    exact hK c _ (G.put (.refl G.nxt.hold) o.dst (by simp [AR, ARs, undef]))
  unfold RetG at h
  cases hg : o.guard with
  | none =>
    rw [hg] at h
    rw [if_pos (by simp [Region.wanted, hg])]
    exact .inl (run h)
  | some jw =>
    obtain ⟨j, want⟩ := jw
    rw [hg] at h
    simp only [guardOf] at h
    cases hs : gslot all j with
    | none => rw [hs] at h; exact h.elim
    | some d =>
      rw [hs] at h
      simp only at h
      have hy : yielded all a.tmps j = match a.tmps[d]? with | some (.bool b) => some b | _ => none := by
        unfold yielded
        unfold gslot at hs
        rw [hs]
        rfl
      generalize hx : lk env d = x at h
      cases x <;> try exact h.elim
      case d y =>
        cases y <;> try exact h.elim
        case bool b =>
          obtain ⟨u, hv, ha⟩ := lk_val G.env hx (by simp)
          simp only [AR, DR] at ha
          subst ha
          have hv' : a.tmps[d]? = some (.bool b) := by simpa using hv
          rw [hv'] at hy
          simp only at hy
          simp only at h
          cases b <;> cases want
          · rw [if_pos (by simp [Region.wanted, hg, hy])]; exact .inl (run h)
          · rw [if_neg (by simp [Region.wanted, hg, hy])]; exact skip h
          · rw [if_neg (by simp [Region.wanted, hg, hy])]; exact skip h
          · rw [if_pos (by simp [Region.wanted, hg, hy])]; exact .inl (run h)
      case tup cs =>
        obtain ⟨u, hv, ha⟩ := lk_val G.env hx (by simp)
        simp only [AR] at ha
        obtain ⟨vs, rfl, _⟩ := ha
        have hv' : a.tmps[d]? = some (.tuple vs) := by simpa using hv
        rw [hv'] at hy
        simp only at hy
        rw [if_neg (by simp [Region.wanted, hg, hy])]
        exact skip h

/-! ### an operation looks at its operands alone -/
def Ag (e e' : List AV) (l : List Tmp) : Prop := ∀ t ∈ l, lk e t = lk e' t
def opsT (o : Op) : List Tmp := o.operands.toList.filterMap fun | .tmp t => some t | _ => none
theorem evO_congr {e e' : List AV} (x : Operand) (h : ∀ t, x = .tmp t → lk e t = lk e' t) : evO e x = evO e' x := by
  cases x <;> simp only [evO]
  exact h _ rfl
theorem evAll_congr {e e' : List AV} : ∀ (l : List Operand), (∀ x ∈ l, evO e x = evO e' x) → evAll e l = evAll e' l
  | [], _ => rfl
  | x :: l, h => by simp only [evAll, h x (by simp), evAll_congr l fun y hy => h y (by simp [hy])]
theorem evParts_congr {e e' : List AV} : ∀ (l : List (Nat × Operand)), (∀ x ∈ l, evO e x.2 = evO e' x.2) → evParts e l = evParts e' l
  | [], _ => rfl
  | (i, x) :: l, h => by simp only [evParts, h (i, x) (by simp), evParts_congr l fun y hy => h y (by simp [hy])]
theorem evOp_congr {P : Program} {e e' : List AV} {σ : List AObj} (op : Op) (h : Ag e e' (opsT op)) : evOp P e σ op = evOp P e' σ op := by
  have hx : ∀ x ∈ op.operands.toList, evO e x = evO e' x := fun x hx => evO_congr x fun t ht => h t (by
    subst ht
    exact List.mem_filterMap.2 ⟨.tmp t, hx, rfl⟩)
  clear h
  cases op <;> simp only [Op.operands] at hx <;> simp only [evOp]
  case build t ps => rw [evParts_congr ps.toList fun x h => hx x.2 (by simp only [List.mem_map]; exact ⟨x, h, rfl⟩)]
  case buildSlice t l ps => rw [evParts_congr ps.toList fun x h => hx x.2 (by simp only [List.mem_map]; exact ⟨x, h, rfl⟩)]
  case makeFunc f first caps =>
    simp only [evMakeFunc]
    rw [evAll_congr caps.toList fun x h => hx x (by simp at h ⊢; exact .inr h)]
  case makeMap t r => cases r <;> simp_all [oEv]
  case slice t x lo hi mx => cases lo <;> cases hi <;> cases mx <;> simp_all [evBd]
  case binOp op t x y t2 => simp only [evBin2, hx x (by simp), hx y (by simp)]
  case call c =>
    obtain ⟨callee, args, ts⟩ := c
    cases callee <;> simp only [evCallee]
    case value f => simp only [Call.operands] at hx; rw [hx f (by simp), show evCall e args.toList = evCall e' args.toList from funext fun y => by cases y <;> simp only [evCall, evAll_congr args.toList fun x h => hx x (by simp at h ⊢; exact .inr h)]]
    case builtin b =>
      simp only [Call.operands] at hx
      have := evAll_congr (e := e) (e' := e') args.toList fun x h => hx x (by simpa using h)
      cases b <;> simp only [evBuiltin, this]
  all_goals (first | rfl | (simp_all; done))
theorem guardOf_congr {all : Array Oper} {e e' : List AV} {g : Option (Nat × Bool)} (h : ∀ j w d, g = some (j, w) → gslot all j = some d → lk e d = lk e' d) : guardOf all e g = guardOf all e' g := by
  cases g with
  | none => rfl
  | some jw =>
    obtain ⟨j, w⟩ := jw
    simp only [guardOf]
    cases hs : gslot all j with
    | none => rfl
    | some d => simp only [h j w d rfl hs]
theorem retG_congr {P : Program} {all : Array Oper} {e e' : List AV} {σ σ' : List AObj} {o : Oper} {v : AV} (h : Ag e e' (o.looksAt all)) (r : RetG P all e σ o v σ') : RetG P all e' σ o v σ' := by
  have h1 : evOp P e σ o.op = evOp P e' σ o.op := evOp_congr _ fun t ht => h t (by unfold Oper.looksAt; exact List.mem_append_left _ ht)
  have h2 : guardOf all e o.guard = guardOf all e' o.guard := guardOf_congr fun j w d hg hs => h d (by
    unfold Oper.looksAt
    refine List.mem_append_right _ ?_
    unfold gslot at hs
    rw [hg]; simp [hs])
  unfold RetG at *
  rw [← h1, ← h2]; exact r

/-! ### orders -/
/-- j is behind u -/
def edge (all : Array Oper) (j u : Nat) : Bool := match all[j]? with
  | some o => o.after.any fun e => Region.binds .any e && e.on == u
  | none => false
/-- j is behind u, by way of others -/
def befB (all : Array Oper) : Nat → Nat → Nat → Bool
  | 0, _, _ => false
  | n + 1, j, u => edge all j u || (List.range all.size).any fun m => edge all j m && befB all n m u
def dstOf (all : Array Oper) (i : Nat) : Option Tmp := (all[i]?).bind (·.dst)
def looks (all : Array Oper) (i : Nat) : List Tmp := match all[i]? with
  | some o => o.looksAt all
  | none => []
def tidy (all : Array Oper) : Bool := (List.range all.size).all fun i => (List.range all.size).all fun j => i == j || edge all i j || edge all j i || match all[i]?, all[j]? with
  | some x, some y => x.apart all y
  | _, _ => true
structure Apt (all : Array Oper) (i j : Nat) : Prop where
  a : ∀ d, dstOf all i = some d → d ∉ looks all j
  b : ∀ d, dstOf all i = some d → dstOf all j ≠ some d
  c : ∀ d, dstOf all j = some d → d ∉ looks all i
theorem tidy_apt {all : Array Oper} (h : tidy all = true) {i j : Nat} (hi : i < all.size) (hj : j < all.size) (hne : i ≠ j) (h1 : edge all i j = false) (h2 : edge all j i = false) : Apt all i j := by
  simp only [tidy, List.all_eq_true, List.mem_range] at h
  have := h i hi j hj
  simp only [h1, h2, Bool.or_false, Bool.or_eq_true, beq_iff_eq, hne, false_or] at this
  rw [Array.getElem?_eq_getElem hi, Array.getElem?_eq_getElem hj] at this
  simp only at this
  obtain ⟨k1, k2, k3⟩ := Oper.apart_spec this
  refine ⟨?_, ?_, ?_⟩ <;> simp only [dstOf, looks, Array.getElem?_eq_getElem hi, Array.getElem?_eq_getElem hj, Option.bind_some]
  · exact k1
  · exact k2
  · exact k3
theorem some_ltA {α : Type} {l : Array α} {i : Nat} {x : α} (h : l[i]? = some x) : i < l.size := (Array.getElem?_eq_some_iff.1 h).1
theorem ready_iff {all : Array Oper} {j : Nat} {l : Array Bool} : j ∈ Region.ready .any all l ↔ l.getD j true = false ∧ j < all.size ∧ ∀ t, edge all j t = true → l.getD t false = true := by
  rw [mem_ready]
  constructor
  · rintro ⟨h1, o, ho, h2⟩
    refine ⟨h1, some_ltA ho, fun t ht => ?_⟩
    simp only [edge, ho] at ht
    obtain ⟨e, he, hb⟩ := Array.any_eq_true'.1 ht
    simp only [Bool.and_eq_true, beq_iff_eq] at hb
    rw [← hb.2]; exact h2 e he hb.1
  · rintro ⟨h1, hj, h2⟩
    refine ⟨h1, all[j], Array.getElem?_eq_getElem hj, fun e he hb => h2 e.on ?_⟩
    simp only [edge, Array.getElem?_eq_getElem hj]
    exact Array.any_eq_true'.2 ⟨e, he, by simp [hb]⟩
abbrev Pd := List (Nat × List AV × AV)
def wr (all : Array Oper) : Pd → List AV → List AV
  | [], e => e
  | x :: U, e => wr all U (putO e (dstOf all x.1) x.2.2)
def AG (all : Array Oper) : Pd → List AV → Prop
  | [], _ => True
  | x :: U, e => Ag x.2.1 e (looks all x.1) ∧ AG all U (putO e (dstOf all x.1) x.2.2)
theorem putO_comm {e : List AV} {d d' : Option Tmp} {v v' : AV} (h : ∀ t, d = some t → d' ≠ some t) : putO (putO e d v) d' v' = putO (putO e d' v') d v := by
  cases d with
  | none => rfl
  | some t =>
    cases d' with
    | none => rfl
    | some t' =>
      have hne : t ≠ t' := fun q => h t rfl (by rw [q])
      simp only [putO, st_eq]
      exact List.set_comm _ _ hne
theorem lk_putO {e : List AV} {d : Option Tmp} {v : AV} {t : Nat} (h : ∀ x, d = some x → x ≠ t) : lk (putO e d v) t = lk e t := by
  cases d with
  | none => rfl
  | some x => simp only [putO, st_eq, lk_eq, List.getElem?_set_ne (h x rfl)]
theorem Ag.symm {e e' : List AV} {l : List Tmp} (h : Ag e e' l) : Ag e' e l := fun t ht => (h t ht).symm
theorem Ag.trans {e e' e2 : List AV} {l : List Tmp} (h : Ag e e' l) (k : Ag e' e2 l) : Ag e e2 l := fun t ht => (h t ht).trans (k t ht)
theorem Ag_putO {e : List AV} {d : Option Tmp} {v : AV} {l : List Tmp} (h : ∀ x, d = some x → x ∉ l) : Ag (putO e d v) e l := fun t ht => lk_putO fun x hx q => h x hx (q ▸ ht)
theorem wr_put {all : Array Oper} {d : Option Tmp} {v : AV} : ∀ (U : Pd) {e : List AV}, (∀ u ∈ U, ∀ t, dstOf all u.1 = some t → d ≠ some t) → wr all U (putO e d v) = putO (wr all U e) d v
  | [], _, _ => rfl
  | x :: U, e, h => by
    simp only [wr]
    rw [putO_comm (d := d) fun t ht q => h x (by simp) t q (by rw [ht])]
    exact wr_put U fun u hu => h u (by simp [hu])
theorem wr_append {all : Array Oper} : ∀ (A B : Pd) (e : List AV), wr all (A ++ B) e = wr all B (wr all A e)
  | [], _, _ => rfl
  | x :: A, B, e => by simp only [List.cons_append, wr]; exact wr_append A B _
theorem Ag_wr {all : Array Oper} {l : List Tmp} : ∀ (U : Pd) {e : List AV}, (∀ u ∈ U, ∀ t, dstOf all u.1 = some t → t ∉ l) → Ag (wr all U e) e l
  | [], _, _ => fun _ _ => rfl
  | x :: U, e, h => (Ag_wr U fun u hu => h u (by simp [hu])).trans (Ag_putO (h x (by simp)))
theorem AG_append {all : Array Oper} : ∀ (A B : Pd) (e : List AV), AG all (A ++ B) e ↔ AG all A e ∧ AG all B (wr all A e)
  | [], B, e => by simp [AG, wr]
  | x :: A, B, e => by simp only [List.cons_append, AG, wr, AG_append A B, and_assoc]
theorem AG_put {all : Array Oper} {d : Option Tmp} {v : AV} : ∀ (U : Pd) {e : List AV}, (∀ u ∈ U, (∀ t, dstOf all u.1 = some t → d ≠ some t) ∧ ∀ t, d = some t → t ∉ looks all u.1) → AG all U e → AG all U (putO e d v)
  | [], _, _, _ => trivial
  | x :: U, e, h, k => by
    simp only [AG] at k ⊢
    refine ⟨k.1.trans (Ag_putO (h x (by simp)).2).symm, ?_⟩
    rw [putO_comm (d := d) fun t ht q => (h x (by simp)).1 t q (by rw [ht])]
    exact AG_put U (fun u hu => h u (by simp [hu])) k.2

structure Inv (P : Program) (all : Array Oper) (la lc : Array Bool) (U : Pd) (ec env : List AV) (σ : List AObj) : Prop where
  sa : la.size = all.size
  sc : lc.size = all.size
  listed : ∀ i, i < all.size → (la.getD i true = true ↔ lc.getD i true = true ∨ ∃ u ∈ U, u.1 = i)
  un : ∀ u ∈ U, u.1 < all.size ∧ lc.getD u.1 true = false
  nodup : (U.map (·.1)).Nodup
  env : env = wr all U ec
  rc : ∀ u ∈ U, ∃ o, all[u.1]? = some o ∧ RetG P all u.2.1 σ o u.2.2 σ
  ag : AG all U ec
  free : ∀ j, j < all.size → la.getD j true = false → ∀ u ∈ U, edge all u.1 j = false
  pair : U.Pairwise fun x y => edge all x.1 y.1 = false
  dep : ∀ u ∈ U, ∀ t, edge all u.1 t = true → t < all.size ∧ la.getD t true = true
  self : ∀ u ∈ U, edge all u.1 u.1 = false
  dn : ∀ j t, j < all.size → lc.getD j true = true → edge all j t = true → lc.getD t false = true
theorem Inv.bef {P : Program} {all : Array Oper} {la lc : Array Bool} {U : Pd} {ec env : List AV} {σ : List AObj} (I : Inv P all la lc U ec env σ) : ∀ (n j u : Nat), befB all n j u = true → (∀ t, edge all j t = true → lc.getD t false = true) → lc.getD u false = true
  | 0, _, _, h, _ => by simp [befB] at h
  | n + 1, j, u, h, hj => by
    simp only [befB, Bool.or_eq_true, List.any_eq_true, Bool.and_eq_true, List.mem_range] at h
    rcases h with h | ⟨m, hm, h1, h2⟩
    · exact hj u h
    · refine I.bef n m u h2 fun t ht => I.dn m t hm ?_ ht
      have := hj m h1
      have hs : m < lc.size := by rw [I.sc]; exact hm
      simpa [hs] using this
def cnt (l : Array Bool) : Nat := l.toList.count false
theorem cnt_set {l : Array Bool} {j : Nat} (h : l.getD j true = false) : cnt (l.setIfInBounds j true) + 1 = cnt l := by
  have hj : j < l.size := by
    rcases Nat.lt_or_ge j l.size with q | q
    · exact q
    · simp [Array.getElem?_eq_none q] at h
  have hv : l.toList[j]'(by simpa using hj) = false := by simpa [hj] using h
  have hmem : false ∈ l.toList := by rw [← hv]; exact List.getElem_mem _
  have hpos : 0 < l.toList.count false := List.count_pos_iff.2 hmem
  unfold cnt
  rw [Array.toList_setIfInBounds, List.count_set (by simpa using hj)]
  have e1 : (l.toList[j]'(by simpa using hj) == false) = true := by rw [hv]; rfl
  have e2 : ((true : Bool) == false) = false := rfl
  rw [e1, e2]
  simp only [if_true, Bool.false_eq_true, if_false, Nat.add_zero]
  exact Nat.sub_add_cancel hpos
theorem getD_set {l : Array Bool} {j : Nat} (hj : j < l.size) (i : Nat) (d : Bool) : (l.setIfInBounds j true).getD i d = if i = j then true else l.getD i d := by
  by_cases e : i = j
  · subst e; simp [hj]
  · rw [if_neg e]; exact getD_set_ne d fun q => e q.symm

section
variable {P : Program} {all : Array Oper} {la lc : Array Bool} {U : Pd} {ec env : List AV} {σ : List AObj}
theorem Inv.lt {la lc : Array Bool} (I : Inv P all la lc U ec env σ) {j : Nat} (h : lc.getD j true = false) : j < all.size := by
  rcases Nat.lt_or_ge j all.size with q | q
  · exact q
  · have := I.sc; simp [Array.getElem?_eq_none (show lc.size ≤ j by omega)] at h
/-- nothing can go on: all is done -/
theorem Inv.stop (I : Inv P all la lc U ec env σ) (h : Region.ready .any all lc = []) : U = [] := by
  cases U with
  | nil => rfl
  | cons u U =>
    exfalso
    have hm : u.1 ∈ Region.ready .any all lc := by
      refine ready_iff.2 ⟨(I.un u (by simp)).2, (I.un u (by simp)).1, fun t ht => ?_⟩
      obtain ⟨htl, hla⟩ := I.dep u (by simp) t ht
      rcases (I.listed t htl).1 hla with q | ⟨x, hx, rfl⟩
      · have hts : t < lc.size := by rw [I.sc]; exact htl
        simpa [hts] using q
      · exfalso
        rcases List.mem_cons.1 hx with rfl | hx
        · -- u is behind itself: it was listed when it was not
          have hn := I.nodup
          have := (I.un x (by simp)).1
          have hself := I.self x (by simp)
          rw [hself] at ht; cases ht
        · rw [(List.pairwise_cons.1 I.pair).1 x hx] at ht; cases ht
    rw [h] at hm
    cases hm
/-- an operation that was told ahead is run -/
theorem Inv.run (ht : tidy all = true) (I : Inv P all la lc U ec env σ) {x : Nat × List AV × AV} {A B : Pd} (hU : U = A ++ x :: B) (hr : x.1 ∈ Region.ready .any all lc) :
    (∃ o, all[x.1]? = some o ∧ RetG P all ec σ o x.2.2 σ) ∧ Inv P all la (lc.setIfInBounds x.1 true) (A ++ B) (putO ec (dstOf all x.1) x.2.2) env σ := by
  obtain ⟨hr1, hr2, hr3⟩ := ready_iff.1 hr
  subst hU
  have hxm : x ∈ A ++ x :: B := by simp
  have hpair := List.pairwise_append.1 I.pair
  have hnd := I.nodup
  rw [List.map_append, List.map_cons, List.nodup_append] at hnd
  obtain ⟨hndA, hndB, hdis⟩ := hnd
  have hneA : ∀ u ∈ A, u.1 ≠ x.1 := fun u hu => hdis u.1 (List.mem_map_of_mem hu) x.1 (by simp)
  have hneB : ∀ u ∈ B, u.1 ≠ x.1 := fun u hu q => (List.nodup_cons.1 hndB).1 (q ▸ List.mem_map_of_mem hu)
  have apt : ∀ u ∈ A, Apt all u.1 x.1 := fun u hu => by
    have hum : u ∈ A ++ x :: B := by simp [hu]
    refine tidy_apt ht (I.un u hum).1 hr2 (hneA u hu) (hpair.2.2 u hu x (by simp)) ?_
    cases q : edge all x.1 u.1 with
    | false => rfl
    | true =>
      have := hr3 _ q
      have hu' := (I.un u hum)
      have hs : u.1 < lc.size := by rw [I.sc]; exact hu'.1
      simp [hs] at this hu'
      rw [this] at hu'; simp at hu'
  have hAG := (AG_append A (x :: B) ec).1 I.ag
  have e1 : wr all A (putO ec (dstOf all x.1) x.2.2) = putO (wr all A ec) (dstOf all x.1) x.2.2 := wr_put A fun u hu t h1 h2 => (apt u hu).b t h1 h2
  constructor
  · obtain ⟨o, ho, hret⟩ := I.rc x hxm
    refine ⟨o, ho, retG_congr ?_ hret⟩
    have hl : looks all x.1 = o.looksAt all := by simp [looks, ho]
    rw [← hl]
    exact hAG.2.1.trans (Ag_wr A fun u hu t h1 => (apt u hu).a t h1)
  · have hmem : ∀ u, u ∈ A ++ B → u ∈ A ++ x :: B := fun u hu => by simp at hu ⊢; rcases hu with h | h <;> simp [h]
    have hne : ∀ u ∈ A ++ B, u.1 ≠ x.1 := fun u hu => by
      rcases List.mem_append.1 hu with h | h
      · exact hneA u h
      · exact hneB u h
    refine ⟨I.sa, by simpa using I.sc, fun i hi => ?_, fun u hu => ⟨(I.un u (hmem u hu)).1, ?_⟩, ?_, ?_, fun u hu => I.rc u (hmem u hu), ?_, fun j hj hl u hu => I.free j hj hl u (hmem u hu), ?_, fun u hu => I.dep u (hmem u hu), fun u hu => I.self u (hmem u hu), fun j t hj hl he => ?_⟩
    · rw [I.listed i hi, getD_set (by rw [I.sc]; exact hr2)]
      constructor
      · rintro (h | ⟨u, hu, rfl⟩)
        · left; split <;> simp [h]
        · by_cases q : u.1 = x.1
          · left; simp [q]
          · right; refine ⟨u, ?_, rfl⟩
            simp at hu ⊢
            rcases hu with h | h | h
            · exact .inl h
            · exact absurd (by rw [h]) q
            · exact .inr h
      · rintro (h | ⟨u, hu, rfl⟩)
        · split at h
          · next q => exact .inr ⟨x, hxm, q.symm⟩
          · exact .inl h
        · exact .inr ⟨u, hmem u hu, rfl⟩
    · rw [getD_set (by rw [I.sc]; exact hr2), if_neg (hne u hu)]; exact (I.un u (hmem u hu)).2
    · exact (List.Sublist.nodup · I.nodup) (List.Sublist.map _ (List.Sublist.append_left (List.sublist_cons_self x B) A))
    · rw [I.env, wr_append, wr_append, wr, e1]
    · refine (AG_append A B _).2 ⟨AG_put A (fun u hu => ⟨fun t h1 h2 => (apt u hu).b t h1 h2, fun t h1 => (apt u hu).c t h1⟩) hAG.1, ?_⟩
      rw [e1]; exact hAG.2.2
    · exact I.pair.sublist (List.Sublist.append_left (List.sublist_cons_self x B) A)
    · have sz : x.1 < lc.size := by rw [I.sc]; exact hr2
      rw [getD_set sz] at hl ⊢
      split
      · rfl
      · split at hl
        · next q => subst q; exact hr3 t he
        · exact I.dn j t hj hl he
end
end Go.AX

/- AX, part W: a region that draws its order, run by a plan. -/
import Derived.Test.YtnmgmlmiijljmaaAxV
set_option linter.unusedVariables false
set_option linter.unusedSimpArgs false
namespace Go.AX
/-- take: told ahead of its turn (it changes nothing; recorded, or not); run: in whatever order -/
inductive Plan where
  | done
  | take (i : Nat) (r : Bool) (p : Plan)
  | run (rs : List Nat) (m : Nat → List Bool) (f : Nat → Plan)
def allL : List Nat → (Nat → Prop) → Prop
  | [], _ => True
  | i :: is, p => p i ∧ allL is p
theorem allL_get {p : Nat → Prop} : ∀ {l : List Nat}, allL l p → ∀ i ∈ l, p i
  | i :: is, h, j, hj => by
    rcases List.mem_cons.1 hj with rfl | q
    · exact h.1
    · exact allL_get h.2 j q
def sel {α : Type} : List Bool → List α → List α
  | true :: m, x :: xs => x :: sel m xs
  | false :: m, _ :: xs => sel m xs
  | _, _ => []
theorem sel_map {α β : Type} (g : α → β) : ∀ (m : List Bool) (xs : List α), (sel m xs).map g = sel m (xs.map g)
  | [], xs => by simp [sel]
  | true :: m, [] => by simp [sel]
  | false :: m, [] => by simp [sel]
  | true :: m, x :: xs => by simp [sel, sel_map g m xs]
  | false :: m, x :: xs => by simp [sel, sel_map g m xs]
def okM (all : Array Oper) (i : Nat) : List Bool → List Nat → Bool
  | [], [] => true
  | b :: m, u :: us => (b || befB all 12 i u) && okM all i m us
  | _, _ => false
theorem sel_mem {all : Array Oper} {i : Nat} : ∀ {m : List Bool} {pd : Pd} {u : Nat × List AV × AV}, okM all i m (pd.map (·.1)) = true → u ∈ pd → befB all 12 i u.1 = false → u ∈ sel m pd
  | [], [], u, _, h, _ => by cases h
  | [], _ :: _, u, h, _, _ => by simp [okM] at h
  | b :: m, [], u, h, k, _ => by cases k
  | b :: m, x :: xs, u, h, k, e => by
    simp only [List.map_cons, okM, Bool.and_eq_true, Bool.or_eq_true] at h
    rcases List.mem_cons.1 k with rfl | k
    · rcases h.1 with q | q
      · subst q; simp [sel]
      · rw [e] at q; cases q
    · have := sel_mem h.2 k e
      cases b <;> simp [sel, this]
def okP (all : Array Oper) : Plan → Array Bool → List Nat → List Nat → Bool
  | .done, la, _, _ => (Region.ready .any all la).isEmpty
  | .take i r p, la, pi, un => (Region.ready .any all la).contains i && okP all p (la.setIfInBounds i true) (if r then i :: pi else pi) (if r then un else i :: un)
  | .run rs m f, la, pi, un => (Region.ready .any all la) == rs && !rs.isEmpty && rs.all fun i => un.all (fun u => befB all 12 i u) && okM all i (m i) pi && okP all (f i) (la.setIfInBounds i true) (sel (m i) pi) []
def reds (P : Program) (all : Array Oper) (σ : List AObj) : Pd → Prop
  | [] => True
  | x :: r => RetG P all x.2.1 σ (all.getD x.1 ⟨none, .panic (.const (.bool true)), 0, "", #[], none⟩) x.2.2 σ ∧ reds P all σ r
theorem reds_get {P : Program} {all : Array Oper} {σ : List AObj} : ∀ {pd : Pd}, reds P all σ pd → ∀ u ∈ pd, ∀ o, all[u.1]? = some o → RetG P all u.2.1 σ o u.2.2 σ
  | x :: r, h, u, hu, o, ho => by
    rcases List.mem_cons.1 hu with rfl | q
    · have := h.1; rwa [Array.getD_eq_getD_getElem?, ho] at this
    · exact reds_get h.2 u q o ho
def opG (P : Program) (all : Array Oper) (env : List AV) (σ : List AObj) (F : AV → List AObj → Prop) : Option Oper → Prop
  | some o => finG P all env σ o F (guardOf all env o.guard)
  | none => False
def contT (Ev : Pd → List AV → List AObj → Prop) (i : Nat) (r : Bool) (pd : Pd) (env : List AV) (d : Option Tmp) (σ : List AObj) (v : AV) (σ' : List AObj) : Prop :=
  σ' = σ ∧ Ev (if r then (i, env, v) :: pd else pd) (putO env d v) σ
def contR (P : Program) (all : Array Oper) (Ev : Pd → List AV → List AObj → Prop) (pd : Pd) (env : List AV) (d : Option Tmp) (v : AV) (σ' : List AObj) : Prop :=
  reds P all σ' pd ∧ Ev pd (putO env d v) σ'
def evP (P : Program) (all : Array Oper) (E : List AV → List AObj → Prop) : Plan → Pd → List AV → List AObj → Prop
  | .done, _, env, σ => E env σ
  | .take i r p, pd, env, σ => opG P all env σ (contT (evP P all E p) i r pd env (dstOf all i) σ) all[i]?
  | .run rs m f, pd, env, σ => allL rs fun i => opG P all env σ (contR P all (evP P all E (f i)) (sel (m i) pd) env (dstOf all i)) all[i]?

section
variable {P : Program} {all : Array Oper} {c0 : Cf} {σ0 : List AObj} {Q : Exit → Act → World → Prop} {E : List AV → List AObj → Prop}
theorem cnt0 {l : Array Bool} (h : cnt l = 0) {j : Nat} (hj : j < l.size) : l.getD j true = true := by
  cases q : l.getD j true with
  | true => rfl
  | false => have := cnt_set q; omega
/-- one step, whatever the order: those told ahead, or those that are ready -/
theorem step_any (ht : tidy all = true) {la : Array Bool} {pd : Pd} {un : List Nat} {env : List AV} {σ : List AObj}
    (hstop : Region.ready .any all la = [] → ∀ c a, Good c0 σ0 c env σ a → Q .normal a c.w)
    (hrun : ∀ j, j ∈ Region.ready .any all la → ∀ fuel lc U ec c a, Inv P all la lc U ec env σ → (∀ u ∈ U, u ∈ pd ∨ u.1 ∈ un) → (∀ u ∈ U, ∀ n, befB all n j u.1 = false) → Good c0 σ0 c ec σ a → cnt lc ≤ fuel + 1 → lc.getD j true = false → (∀ t, edge all j t = true → lc.getD t false = true) →
      wpOp P all Q j (wpAny P .any all Q fuel (lc.setIfInBounds j true)) a c.w) :
    ∀ fuel lc U ec c a, Inv P all la lc U ec env σ → (∀ u ∈ U, u ∈ pd ∨ u.1 ∈ un) → Good c0 σ0 c ec σ a → cnt lc ≤ fuel → wpAny P .any all Q fuel lc a c.w := by
  have stop : ∀ lc U ec c a, Inv P all la lc U ec env σ → Good c0 σ0 c ec σ a → Region.ready .any all lc = [] → Q .normal a c.w := fun lc U ec c a I G h => by
    have hU := I.stop h
    subst hU
    have he : env = ec := I.env
    subst he
    refine hstop ?_ c a G
    rw [List.eq_nil_iff_forall_not_mem]
    intro j hj
    obtain ⟨h1, h2, h3⟩ := ready_iff.1 hj
    have hall : ∀ i, i < all.size → (la.getD i true = true ↔ lc.getD i true = true) := fun i hi => by rw [I.listed i hi]; simp
    have : j ∈ Region.ready .any all lc := ready_iff.2 ⟨by
      have := hall j h2
      rw [h1] at this
      cases q : lc.getD j true with
      | false => rfl
      | true => simp [q] at this, h2, fun t htt => by
      have h4 := h3 t htt
      have hts : t < all.size := by
        rcases Nat.lt_or_ge t all.size with q | q
        · exact q
        · have := I.sa; simp [Array.getElem?_eq_none (show la.size ≤ t by omega)] at h4
      have h5 := (hall t hts).1 (by have hs : t < la.size := by { rw [I.sa]; exact hts }
                                    simpa [hs] using h4)
      have hs : t < lc.size := by rw [I.sc]; exact hts
      simpa [hs] using h5⟩
    rw [h] at this; cases this
  intro fuel
  induction fuel with
  | zero =>
    intro lc U ec c a I hR G hc
    have hr : Region.ready .any all lc = [] := by
      rw [List.eq_nil_iff_forall_not_mem]
      intro j hj
      obtain ⟨h1, h2, _⟩ := ready_iff.1 hj
      have := cnt0 (Nat.le_zero.1 hc) (j := j) (by rw [I.sc]; exact h2)
      rw [h1] at this; cases this
    exact ⟨hr, stop lc U ec c a I G hr⟩
  | succ fuel ih =>
    intro lc U ec c a I hR G hc
    refine ⟨fun hr => stop lc U ec c a I G hr, fun j hj => ?_⟩
    obtain ⟨h1, h2, h3⟩ := ready_iff.1 hj
    have nedge : ∀ u ∈ U, ∀ n, befB all n j u.1 = false := fun u hu n => by
      cases q : befB all n j u.1 with
      | false => rfl
      | true =>
        have h4 := I.bef n j u.1 q h3
        have h5 := I.un u hu
        have hs : u.1 < lc.size := by rw [I.sc]; exact h5.1
        simp [hs] at h4 h5
        rw [h4] at h5; simp at h5
    by_cases hm : ∃ u ∈ U, u.1 = j
    · obtain ⟨x, hx, rfl⟩ := hm
      obtain ⟨A, B, hU⟩ := List.append_of_mem hx
      obtain ⟨⟨o, ho, hret⟩, I'⟩ := I.run ht hU hj
      have hd : dstOf all x.1 = o.dst := by simp [dstOf, ho]
      refine retG_sound ho G hret fun c' a' G' => ?_
      refine ih _ _ _ c' a' I' (fun u hu => hR u (by subst hU; simp at hu ⊢; rcases hu with h | h <;> simp [h])) (by rw [hd]; exact G') ?_
      have := cnt_set h1
      omega
    · refine hrun j (ready_iff.2 ⟨?_, h2, fun t htt => ?_⟩) fuel lc U ec c a I hR nedge G hc h1 h3
      · cases q : la.getD j true with
        | false => rfl
        | true =>
          rcases (I.listed j h2).1 q with k | k
          · rw [h1] at k; cases k
          · exact absurd k hm
      · have h4 := h3 t htt
        have hts : t < all.size := by
          rcases Nat.lt_or_ge t all.size with q | q
          · exact q
          · have := I.sc; simp [Array.getElem?_eq_none (show lc.size ≤ t by omega)] at h4
        have hs : t < lc.size := by rw [I.sc]; exact hts
        have h5 := (I.listed t hts).2 (.inl (by simpa [hs] using h4))
        have hs2 : t < la.size := by rw [I.sa]; exact hts
        simpa [hs2] using h5

theorem evP_sound (ht : tidy all = true) (hE : ∀ env σ, E env σ → ∀ c a, Good c0 σ0 c env σ a → Q .normal a c.w) : ∀ (p : Plan) (la : Array Bool) (un : List Nat) (pd : Pd) (env : List AV) (σ : List AObj), okP all p la (pd.map (·.1)) un = true → evP P all E p pd env σ →
    ∀ fuel lc U ec c a, Inv P all la lc U ec env σ → (∀ u ∈ U, u ∈ pd ∨ u.1 ∈ un) → Good c0 σ0 c ec σ a → cnt lc ≤ fuel → wpAny P .any all Q fuel lc a c.w
  | .done, la, un, pd, env, σ, hok, h => by
    simp only [okP, List.isEmpty_iff] at hok
    exact step_any ht (fun _ c a G => hE env σ h c a G) (fun j hj => by rw [hok] at hj; cases hj)
  | .take i r p, la, un, pd, env, σ, hok, h => by
    intro fuel lc U ec c a I hR G hc
    simp only [okP, Bool.and_eq_true, List.contains_iff_mem] at hok
    obtain ⟨h1, h2, h3⟩ := ready_iff.1 hok.1
    simp only [evP] at h
    cases ho : all[i]? with
    | none => rw [ho] at h; exact h.elim
    | some o =>
      rw [ho] at h
      simp only [opG] at h
      obtain ⟨v, σ', hret, rfl, hev⟩ := finG_ret h
      have sz : i < la.size := by rw [I.sa]; exact h2
      have laT : ∀ t, la.getD t false = true → t < all.size ∧ la.getD t true = true := fun t q => by
        rcases Nat.lt_or_ge t la.size with k | k
        · exact ⟨by rw [← I.sa]; exact k, by simpa [k] using q⟩
        · simp [Array.getElem?_eq_none k] at q
      have hsub : ∀ u ∈ U, la.getD u.1 true = true := fun u hu => (I.listed u.1 (I.un u hu).1).2 (.inr ⟨u, hu, rfl⟩)
      have hni : ∀ u ∈ U, u.1 ≠ i := fun u hu q => by have := hsub u hu; rw [q, h1] at this; cases this
      have hlc : lc.getD i true = false := by
        cases q : lc.getD i true with
        | false => rfl
        | true => have := (I.listed i h2).2 (.inl q); rw [h1] at this; cases this
      have mem : ∀ u, u ∈ U ++ [(i, env, v)] → u ∈ U ∨ u = (i, env, v) := fun u hu => by simpa using hu
      have eself : edge all i i = false := by
        cases q : edge all i i with
        | false => rfl
        | true => have := (laT i (h3 i q)).2; rw [h1] at this; cases this
      refine evP_sound ht hE p (la.setIfInBounds i true) (if r then un else i :: un) (if r then (i, env, v) :: pd else pd) _ _ (by cases r <;> simpa using hok.2) hev fuel lc (U ++ [(i, env, v)]) ec c a ?_ ?_ G hc
      · refine ⟨by simpa using I.sa, I.sc, fun k hk => ?_, fun u hu => ?_, ?_, ?_, fun u hu => ?_, ?_, fun j hj hl u hu => ?_, ?_, fun u hu t htt => ?_, fun u hu => ?_, I.dn⟩
        · rw [getD_set sz]
          constructor
          · intro q
            split at q
            · next e => exact .inr ⟨_, List.mem_append_right _ (List.mem_singleton.2 rfl), e.symm⟩
            · rcases (I.listed k hk).1 q with q | ⟨u, hu, e⟩
              · exact .inl q
              · exact .inr ⟨u, by simp [hu], e⟩
          · intro q
            split
            · rfl
            · next e =>
              refine (I.listed k hk).2 ?_
              rcases q with q | ⟨u, hu, e'⟩
              · exact .inl q
              · rcases mem u hu with hu | rfl
                · exact .inr ⟨u, hu, e'⟩
                · exact absurd e'.symm e
        · rcases mem u hu with hu | rfl
          · exact I.un u hu
          · exact ⟨h2, hlc⟩
        · rw [List.map_append, List.nodup_append]
          refine ⟨I.nodup, by simp, fun x hx y hy => ?_⟩
          simp at hy
          subst hy
          obtain ⟨u, hu, rfl⟩ := List.mem_map.1 hx
          exact hni u hu
        · rw [wr_append, ← I.env]; rfl
        · rcases mem u hu with hu | rfl
          · exact I.rc u hu
          · exact ⟨o, ho, hret⟩
        · refine (AG_append U _ ec).2 ⟨I.ag, ?_, trivial⟩
          rw [← I.env]; exact fun _ _ => rfl
        · have hji : j ≠ i := fun e => by subst e; simp [getD_set sz] at hl
          rw [getD_set sz, if_neg hji] at hl
          rcases mem u hu with hu | rfl
          · exact I.free j hj hl u hu
          · cases q : edge all i j with
            | false => rfl
            | true => have := (laT j (h3 j q)).2; rw [hl] at this; cases this
        · rw [List.pairwise_append]
          refine ⟨I.pair, by simp, fun x hx y hy => ?_⟩
          simp at hy; subst hy
          exact I.free i h2 h1 x hx
        · have up : ∀ t, la.getD t true = true → (la.setIfInBounds i true).getD t true = true := fun t q => by rw [getD_set sz]; split <;> simp [q]
          rcases mem u hu with hu | rfl
          · exact ⟨(I.dep u hu t htt).1, up t (I.dep u hu t htt).2⟩
          · exact ⟨(laT t (h3 t htt)).1, up t (laT t (h3 t htt)).2⟩
        · rcases mem u hu with hu | rfl
          · exact I.self u hu
          · exact eself
      · intro u hu
        rcases mem u hu with hu | rfl
        · cases r
          · rcases hR u hu with q | q
            · exact .inl (by simpa using q)
            · exact .inr (by simp [q])
          · rcases hR u hu with q | q
            · exact .inl (by simp [q])
            · exact .inr (by simpa using q)
        · cases r <;> simp
  | .run rs m f, la, un, pd, env, σ, hok, h => by
    simp only [okP, Bool.and_eq_true, beq_iff_eq, Bool.not_eq_true', List.isEmpty_eq_false_iff, List.all_eq_true] at hok
    obtain ⟨⟨hrs, hne⟩, hall⟩ := hok
    refine step_any ht (fun hr => absurd (by rw [← hrs]; exact hr) hne) fun j hj fuel lc U ec c a I hR hno G hc hlj hready => ?_
    obtain ⟨h1, h2, h3⟩ := ready_iff.1 hj
    rw [hrs] at hj
    obtain ⟨⟨hun, hm⟩, hok'⟩ := hall j hj
    simp only [evP] at h
    have hj' := allL_get h j hj
    have hno1 : ∀ u ∈ U, edge all j u.1 = false := fun u hu => by
      have := hno u hu 1
      simp only [befB, Bool.or_eq_false_iff] at this
      exact this.1
    cases ho : all[j]? with
    | none => rw [ho] at hj'; exact hj'.elim
    | some o =>
      rw [ho] at hj'
      simp only [opG] at hj'
      obtain ⟨v, σ', hret, hreds, hev⟩ := finG_ret hj'
      have sz : j < la.size := by rw [I.sa]; exact h2
      have szc : j < lc.size := by rw [I.sc]; exact h2
      have hsub : ∀ u ∈ U, la.getD u.1 true = true := fun u hu => (I.listed u.1 (I.un u hu).1).2 (.inr ⟨u, hu, rfl⟩)
      have hni : ∀ u ∈ U, u.1 ≠ j := fun u hu q => by have := hsub u hu; rw [q, h1] at this; cases this
      have apt : ∀ u ∈ U, Apt all u.1 j := fun u hu => tidy_apt ht (I.un u hu).1 h2 (hni u hu) (I.free j h2 h1 u hu) (hno1 u hu)
      have hl : looks all j = o.looksAt all := by simp [looks, ho]
      have hd : dstOf all j = o.dst := by simp [dstOf, ho]
      have hret' : RetG P all ec σ o v σ' := retG_congr (by rw [← hl, I.env]; exact Ag_wr U fun u hu t q => (apt u hu).a t q) hret
      have hin : ∀ u ∈ U, u ∈ sel (m j) pd := fun u hu => by
        rcases hR u hu with q | q
        · exact sel_mem hm q (hno u hu 12)
        · have := hun u.1 q; rw [hno u hu 12] at this; cases this
      refine retG_sound ho G hret' fun c' a' G' => ?_
      have hokf : okP all (f j) (la.setIfInBounds j true) ((sel (m j) pd).map (·.1)) [] = true := by rw [sel_map]; exact hok'
      refine evP_sound ht hE (f j) _ [] (sel (m j) pd) _ _ hokf hev fuel (lc.setIfInBounds j true) U (putO ec (dstOf all j) v) c' a' ?_ (fun u hu => .inl (hin u hu)) (by rw [hd]; exact G') ?_
      · have up : ∀ t, la.getD t true = true → (la.setIfInBounds j true).getD t true = true := fun t q => by rw [getD_set sz]; split <;> simp [q]
        refine ⟨by simpa using I.sa, by simpa using I.sc, fun k hk => ?_, fun u hu => ⟨(I.un u hu).1, ?_⟩, I.nodup, ?_, fun u hu => ?_, ?_, fun k hk hlk u hu => ?_, I.pair, fun u hu t htt => ⟨(I.dep u hu t htt).1, up t (I.dep u hu t htt).2⟩, I.self, fun k t hk hlk he => ?_⟩
        · rw [getD_set sz, getD_set szc]
          by_cases e : k = j
          · simp [e]
          · simp only [if_neg e]; exact I.listed k hk
        · rw [getD_set szc, if_neg (hni u hu)]; exact (I.un u hu).2
        · rw [I.env]; exact (wr_put U fun u hu t q1 q2 => (apt u hu).b t q1 q2).symm
        · obtain ⟨o', ho', _⟩ := I.rc u hu
          exact ⟨o', ho', reds_get hreds u (hin u hu) o' ho'⟩
        · exact AG_put U (fun u hu => ⟨fun t q1 q2 => (apt u hu).b t q1 q2, fun t q => (apt u hu).c t q⟩) I.ag
        · refine I.free k hk ?_ u hu
          rw [getD_set sz] at hlk
          split at hlk
          · cases hlk
          · exact hlk
        · rw [getD_set szc] at hlk ⊢
          split
          · rfl
          · split at hlk
            · next q => subst q; exact hready t he
            · exact I.dn k t hk hlk he
      · have := cnt_set hlj
        omega
end

/-! ### the draw -/
inductive DXi (Γ : Ctx) (E : List AV → List AObj → Prop) (all : Array Oper) : List AV → List AObj → Prop where
  | wk {env env' : List AV} {σ σ' : List AObj} (h : Wk Γ.n0 env σ env' σ') (k : DXi Γ E all env' σ') : DXi Γ E all env σ
  | mk {env : List AV} {σ : List AObj} (p : Plan) (h1 : okP all p (Array.replicate all.size false) [] [] = true) (h2 : tidy all = true) (h3 : Γ.P.follows .mixedOrders = true)
      (h4 : evP Γ.P all (fun env σ => ∃ env' σ', Wk Γ.n0 env σ env' σ' ∧ E env' σ') p [] env σ) : DXi Γ E all env σ
def DX : Draw := fun Γ E k _ all env σ => DXi Γ (E k) all env σ
theorem Inv.first (P : Program) (all : Array Oper) (env : List AV) (σ : List AObj) : Inv P all (Array.replicate all.size false) (Array.replicate all.size false) [] env env σ where
  sa := by simp
  sc := by simp
  listed i hi := by simp
  un u hu := by cases hu
  nodup := by simp
  env := rfl
  rc u hu := by cases hu
  ag := trivial
  free j hj h u hu := by cases hu
  pair := .nil
  dep u hu := by cases hu
  self u hu := by cases hu
  dn j t hj h he := by simp [hj] at h
theorem DX_ok : DrawOk DX := by
  intro Γ fn c0 σ0 R hn E hE id k ops env σ h c a G
  have h' : DXi Γ (E k) ops env σ := h
  clear h
  induction h' generalizing c with
  | wk h _ ih =>
    rw [← hn] at h
    obtain ⟨c', w1, N, he⟩ := h.nxt G.nxt G.env
    rw [← w1]
    exact ih c' ⟨N, he, G.defers⟩
  | @mk env σ p h1 h2 h3 h4 =>
    refine wp_region_any h3 ?_
    have G' : Good c0 σ0 (c.at c.w.drew) env σ a := ⟨G.nxt.trans (Nxt.drew G.nxt.hold), ARs.mono (Nxt.drew G.nxt.hold).le _ G.env, G.defers⟩
    refine evP_sound h2 (fun env σ he c a G => ?_) p _ [] [] env σ h1 h4 _ _ [] env (c.at c.w.drew) a (Inv.first Γ.P ops env σ) (fun u hu => by cases hu) G' ?_
    · obtain ⟨env', σ', hw, he'⟩ := he
      rw [← hn] at hw
      obtain ⟨c', w1, N, hx⟩ := hw.nxt G.nxt G.env
      rw [← w1]
      exact hE k env' σ' he' c' a ⟨N, hx, G.defers⟩
    · unfold cnt
      simp
/-- a draw whose end needs no turning -/
theorem evP_mono {P : Program} {all : Array Oper} {E E' : List AV → List AObj → Prop} (hE : ∀ env σ, E env σ → E' env σ) : ∀ (p : Plan) (pd : Pd) (env : List AV) (σ : List AObj), evP P all E p pd env σ → evP P all E' p pd env σ := by
  have tm : ∀ {F F' : AV → List AObj → Prop} {σ : List AObj}, (∀ v s, F v s → F' v s) → ∀ (r : R1), finT P σ F r → finT P σ F' r := by
    intro F F' σ hF r
    induction r with
    | to v s => exact hF v s
    | need p r ih => exact fun h => ⟨h.1, ih h.2⟩
    | all es i k ih => exact fun h => ⟨h.1, fun e he => ih e (h.2 e he)⟩
    | ite t x y ih1 ih2 => exact fun h => ⟨fun q => ih1 (h.1 q), fun q => ih2 (h.2 q)⟩
    | call f args => exact fun ⟨r, s, h1, h2⟩ => ⟨r, s, h1, hF r s h2⟩
    | ex p k ih => exact fun h => h
    | bad => exact fun h => h
  have om : ∀ {F F' : AV → List AObj → Prop} {env : List AV} {σ : List AObj}, (∀ v s, F v s → F' v s) → ∀ (o : Option Oper), opG P all env σ F o → opG P all env σ F' o := by
    intro F F' env σ hF o h
    cases o with
    | none => exact h
    | some o =>
      simp only [opG] at h ⊢
      generalize guardOf all env o.guard = g at *
      cases g with
      | none => exact h
      | some b => exact ⟨fun q => tm hF _ (h.1 q), fun q => hF _ _ (h.2 q)⟩
  intro p
  induction p with
  | done => exact fun pd env σ h => hE env σ h
  | take i r p ih => exact fun pd env σ h => om (fun v s q => ⟨q.1, ih _ _ _ q.2⟩) _ h
  | run rs m f ih =>
    intro pd env σ h
    simp only [evP] at h ⊢
    have : ∀ l : List Nat, allL l (fun i => opG P all env σ (contR P all (evP P all E (f i)) (sel (m i) pd) env (dstOf all i)) all[i]?) →
        allL l (fun i => opG P all env σ (contR P all (evP P all E' (f i)) (sel (m i) pd) env (dstOf all i)) all[i]?) := by
      intro l
      induction l with
      | nil => exact fun h => h
      | cons i l ihl => exact fun h => ⟨om (fun v s q => ⟨q.1, ih i _ _ _ q.2⟩) _ h.1, ihl h.2⟩
    exact this rs h
theorem DX.plain {Γ : Ctx} {E : List It → List AV → List AObj → Prop} {k : List It} {l : List Oper} {all : Array Oper} {env : List AV} {σ : List AObj} (p : Plan) (h1 : okP all p (Array.replicate all.size false) [] [] = true) (h2 : tidy all = true)
    (h3 : Γ.P.follows .mixedOrders = true) (h4 : evP Γ.P all (E k) p [] env σ) : DX Γ E k l all env σ :=
  .mk p h1 h2 h3 (evP_mono (fun env σ h => ⟨env, σ, .refl _ _ _, h⟩) p [] env σ h4)
theorem DX.pre {Γ : Ctx} {E : List It → List AV → List AObj → Prop} {k : List It} {l : List Oper} {all : Array Oper} {env env' : List AV} {σ σ' : List AObj} (h : Wk Γ.n0 env σ env' σ') (h4 : DX Γ E k l all env' σ') : DX Γ E k l all env σ := .wk h h4
end Go.AX

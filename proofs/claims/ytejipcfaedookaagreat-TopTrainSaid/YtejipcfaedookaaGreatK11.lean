/- Trains: what a run leaves: requests, picks and the ledger. -/
import Derived.Test.YtejipcfaedookaaGreatK10
set_option maxHeartbeats 8000000
set_option linter.unusedVariables false
set_option linter.unusedSimpArgs false
set_option maxRecDepth 20000
namespace Go.AX.Tr
open Go.Proofs Go.RowKit Go.IntWalk Go.AX.Br Go.AX.Lg Go.AX.Qu Go.AX.Wn
def apL : List Rq → List Int → List Ev
  | [], _ => []
  | _ :: _, [] => []
  | r :: rs, s :: ss => if s = 5 then ⟨2, r.ch⟩ :: apL rs ss else apL rs ss
theorem apL_nil : ∀ rs, apL rs [] = []
  | [] => rfl
  | _ :: _ => rfl
theorem apL_snoc : ∀ {rs : List Rq} {ss : List Int} {p : Nat} {r : Rq} {s : Int}, rs[p]? = some r → ss[p]? = some s → apL (rs.take (p + 1)) (ss.take (p + 1)) = apL (rs.take p) (ss.take p) ++ if s = 5 then [⟨2, r.ch⟩] else []
  | [], _, _, _, _, h, _ => by simp at h
  | _ :: _, [], _, _, _, _, h => by simp at h
  | a :: rs, z :: ss, 0, r, s, h1, h2 => by
    simp only [List.getElem?_cons_zero, Option.some.injEq] at h1 h2
    subst h1; subst h2
    simp only [List.take_succ_cons, List.take_zero, apL, List.nil_append]
  | a :: rs, z :: ss, p + 1, r, s, h1, h2 => by
    simp only [List.getElem?_cons_succ] at h1 h2
    have ih := apL_snoc h1 h2
    simp only [List.take_succ_cons] at ih ⊢
    rw [apL, apL, ih]
    split <;> simp
def hdL (b : ByteArray) (q : List Rq) : List Rq := q.filter (isHead b)
theorem st_hd {b : ByteArray} {t : Tr} {i : Nat} {s : Int} {x : Rq} (h : idx (isHead b) t.q = i) (hx : t.q[i]? = some x) (hs : 5 ≤ s) : hdL b t.q = x :: hdL b (stQ t i s) := by
  obtain ⟨y, h1, h2, e, hn⟩ := head_split h
  have : y = x := by rw [hx] at h1; exact (Option.some.inj h1).symm
  subst this
  have m := modify_split (f := fun r => setSt r s) h1
  have nil : (t.q.take i).filter (isHead b) = [] := List.filter_eq_nil_iff.2 fun y hy => by simp [hn y hy]
  unfold hdL stQ
  rw [m]
  conv => lhs; rw [e]
  rw [List.filter_append, List.filter_append, nil, List.filter_cons_of_pos h2, List.filter_cons_of_neg (by simp [set_no hs])]
  rfl
theorem at_same {l : Lg} {k : Nat} {y y' : Br} {u u' : List Ev} {w w' : List Mk} (a : At l k y u w) (b : At l k y' u' w') : y' = y ∧ u' = u ∧ w' = w :=
  ⟨by have := b.hx; rw [a.hx] at this; exact (Option.some.inj this).symm, by have := b.hs; rw [a.hs] at this; exact (Option.some.inj this).symm, by have := b.hv; rw [a.hv] at this; exact (Option.some.inj this).symm⟩
theorem at_add {l : Lg} (lo : LOk l) {i : Nat} {x : Br} {s : List Ev} {v : List Mk} (a : At l i x s v) {e : Ev} {c : Int} (h40 : s.length ≠ 40) (hc : classN l e.ch = some c) (hal : allR l (preE l i ++ s) e = 0) {k : Nat} {y : Br} {u : List Ev} {w : List Mk}
    (b : At l k y u w) (hk : k ≠ i) : At (addE l i e) k y u w ∧ effR (addE l i e) y.name = effR l y.name := by
  obtain ⟨lo2, eff2, -⟩ := add_ok lo a h40 hc hal
  have hle := lo.own i s a.hs
  have hge : l.ev.getD i [] = s := by rw [List.getD_eq_getElem?_getD, a.hs]; rfl
  have ev : (addE l i e).ev = l.ev.set i (s ++ [e]) := by simp only [addE, hge]
  have hcnt : cntL (addE l i e) = (cntL l).set i ((s.length : Int) + 1) := by
    unfold cntL
    rw [ev, List.map_set]; simp
  obtain ⟨y', u', w', b'⟩ := at_of (l := addE l i e) lo2.tab (some_lt b.hx : k < l.br.length)
  have e1 : y' = y := by have := b'.hx; rw [show (addE l i e).br = l.br from rfl, b.hx] at this; exact (Option.some.inj this).symm
  have e2 : u' = u := by have := b'.hs; rw [ev, List.getElem?_set_ne (Ne.symm hk), b.hs] at this; exact (Option.some.inj this).symm
  have e3 : w' = w := by
    have h1 := (more_fits lo.tab.g (cnt_get a.hs) (by omega)).2 k w b.hv
    rw [if_neg hk] at h1
    have := b'.hv
    rw [show (addE l i e).br = l.br from rfl, hcnt, h1] at this
    exact (Option.some.inj this).symm
  subst e1; subst e2; subst e3
  refine ⟨b', ?_⟩
  have := eff2 k y' u' w' b
  rw [if_neg hk] at this
  rw [this, lo.eff b]
structure Trc (b : ByteArray) (i : Nat) (x : Br) (evs : List Ev) (t : Tr) (R : Tr × List Int × Int) : Prop where
  q : R.1.q = setl b t.q R.2.1
  len : R.2.1.length ≤ (hdL b t.q).length
  rng : ∀ y ∈ R.2.1, 5 ≤ y ∧ y ≤ 7
  kn : R.1.lg.kn = t.lg.kn
  br : R.1.lg.br = t.lg.br
  ev : R.1.lg.ev = t.lg.ev.set i (evs ++ apL (hdL b t.q) R.2.1)
  pre : preE R.1.lg i = preE t.lg i
  own : ∃ w, At R.1.lg i x (evs ++ apL (hdL b t.q) R.2.1) w
  out : ∀ (p : Nat) (r : Rq) (s : Int), (hdL b t.q)[p]? = some r → R.2.1[p]? = some s → ∃ c : Nat, c < 30 ∧ classR t.lg r.ch = c ∧ inR t.lg (preE t.lg i ++ (evs ++ apL ((hdL b t.q).take p) (R.2.1.take p))) c = (s == 6)
  oth : ∀ (k : Nat) (y : Br) (u : List Ev) (w : List Mk), At t.lg k y u w → k ≠ i → At R.1.lg k y u w ∧ effR R.1.lg y.name = effR t.lg y.name
theorem set_same {α : Type} {l : List α} {i : Nat} {x : α} (h : l[i]? = some x) : l.set i x = l := by
  refine List.ext_getElem? fun j => ?_
  rw [List.getElem?_set]
  by_cases e : i = j
  · subst e; rw [if_pos rfl, if_pos (some_lt h), h]
  · rw [if_neg e]
theorem trc_0 {b : ByteArray} {i : Nat} {x : Br} {evs : List Ev} {v : List Mk} {t : Tr} (e : Int) (a : At t.lg i x evs v) : Trc b i x evs t (t, [], e) :=
  ⟨by rw [setl_nil], by simp, by simp, rfl, rfl, by rw [apL_nil, List.append_nil, set_same a.hs], rfl, ⟨v, by rw [apL_nil, List.append_nil]; exact a⟩, by simp, fun k y u w h _ => ⟨h, rfl⟩⟩
theorem outR_rng (t : Tr) (r : Rq) : 5 ≤ outR t r ∧ outR t r ≤ 7 := by
  unfold outR
  split
  · omega
  · split <;> omega
theorem trace {b : ByteArray} {tk : Int} {i : Nat} {x : Br} (hb : x.name = b) : ∀ (n : Nat) (t : Tr) (evs : List Ev) (v : List Mk), TOk t → At t.lg i x evs v → Trc b i x evs t (runG b tk n t)
  | 0, t, evs, v, o, a => trc_0 0 a
  | n + 1, t, evs, v, o, a => by
    rw [runG]
    by_cases h4 : (stepR t b tk).2.2 = 4
    · rw [if_pos h4]; exact trc_0 4 a
    rw [if_neg h4]
    by_cases h0 : (stepR t b tk).2.2 = 0
    case neg => rw [if_pos h0]; exact trc_0 0 a
    rw [if_neg (by simp [h0])]
    obtain ⟨o1, -⟩ := step_tok h0
    obtain ⟨-, j, r, l', hj, hr, hrb, -, kn, -, -, -, es, hl⟩ := step_ok h0
    obtain ⟨i', x', s', v', c, m, k, p⟩ := pick_of o.lo kn
    have hii : i' = i := by
      have e1 := o.lo.tab.g.ok.name i x a.hx
      have e2 := p.hi
      rw [hrb, ← hb, e1] at e2; omega
    subst hii
    obtain ⟨e1, e2, e3⟩ := at_same a p.a
    subst e1; subst e2; subst e3
    have hin := outR_pick p
    have s0 := outR_rng t r
    have key : l'.kn = t.lg.kn ∧ l'.br = t.lg.br ∧ preE l' i' = preE t.lg i' ∧ (∃ v1, At l' i' x' (s' ++ if outR t r = 5 then [⟨2, r.ch⟩] else []) v1) ∧ l'.ev = t.lg.ev.set i' (s' ++ if outR t r = 5 then [⟨2, r.ch⟩] else []) ∧
        ∀ (k : Nat) (y : Br) (u : List Ev) (w : List Mk), At t.lg k y u w → k ≠ i' → At l' k y u w ∧ effR l' y.name = effR t.lg y.name := by
      rcases hl with ⟨h5, ha⟩ | ⟨h5, rfl⟩
      · have hp := p.happ
        rw [ha] at hp
        have h40 : s'.length ≠ 40 := fun h => by rw [if_pos h] at hp; cases hp
        rw [if_neg h40] at hp
        have hnin : inR t.lg (preE t.lg i' ++ s') c = false := by
          cases z : inR t.lg (preE t.lg i' ++ s') c with
          | false => rfl
          | true => rw [z, if_pos rfl] at hp; cases hp
        rw [hnin] at hp
        simp only [Bool.false_eq_true, if_false, Prod.mk.injEq, and_true] at hp
        subst hp
        have hal : allR t.lg (preE t.lg i' ++ s') ⟨2, r.ch⟩ = 0 := by simp only [allR, p.hcr, hnin]; simp
        obtain ⟨-, -, w, w1, w2⟩ := add_ok o.lo p.a (e := ⟨2, r.ch⟩) h40 p.hc hal
        rw [if_pos h5]
        have hge : t.lg.ev.getD i' [] = s' := by rw [List.getD_eq_getElem?_getD, a.hs]; rfl
        exact ⟨rfl, rfl, w2, ⟨w, w1⟩, by simp only [addE, hge], fun k y u w b hk => at_add o.lo p.a (e := ⟨2, r.ch⟩) h40 p.hc hal b hk⟩
      · rw [if_neg h5, List.append_nil]
        exact ⟨rfl, rfl, rfl, ⟨_, a⟩, (set_same a.hs).symm, fun k y u w b _ => ⟨b, rfl⟩⟩
    obtain ⟨k1, k2, k3, ⟨v1, k4⟩, k5, k6⟩ := key
    obtain ⟨E1, hE1⟩ : ∃ E, E = s' ++ if outR t r = 5 then [⟨2, r.ch⟩] else [] := ⟨_, rfl⟩
    rw [← hE1] at k4 k5
    rw [es] at o1 ⊢
    have ih := trace (tk := tk) hb n (⟨l', stQ t j (outR t r), t.hs, t.cl⟩ : Tr) E1 v1 o1 k4
    obtain ⟨T1, hT1⟩ : ∃ T, T = (⟨l', stQ t j (outR t r), t.hs, t.cl⟩ : Tr) := ⟨_, rfl⟩
    have f1 : T1.lg = l' := by rw [hT1]
    have f2 : T1.q = stQ t j (outR t r) := by rw [hT1]
    simp only
    rw [← hT1] at ih ⊢
    obtain ⟨R, hR⟩ : ∃ R, R = runG b tk n T1 := ⟨_, rfl⟩
    rw [← hR] at ih ⊢
    have H := st_hd (s := outR t r) hj hr s0.1
    have sc := (st_cnt (t := t) hj s0.1).2 R.2.1
    rw [← f2] at H sc
    have ap : ∀ (rs : List Rq) (ss : List Int), s' ++ apL (r :: rs) (outR t r :: ss) = E1 ++ apL rs ss := fun rs ss => by
      rw [hE1, apL]
      split <;> simp
    obtain ⟨w, hw⟩ := ih.own
    refine ⟨by rw [ih.q, sc], by rw [H]; simp only [List.length_cons]; have := ih.len; omega, fun y hy => ?_, by rw [ih.kn, f1, k1], by rw [ih.br, f1, k2], ?_, by rw [ih.pre, f1, k3], ⟨w, by rw [H, ap]; exact hw⟩, fun q r' s hr' hs => ?_, fun k y u w h hk => ?_⟩
    · rcases List.mem_cons.1 hy with e | hy
      · rw [e]; exact s0
      · exact ih.rng y hy
    · rw [H, ap, ih.ev, f1, k5, List.set_set]
    · rw [H] at hr'
      cases q with
      | zero =>
        simp only [List.getElem?_cons_zero, Option.some.injEq] at hr' hs
        subst hr'; subst hs
        refine ⟨c, p.hc30, p.hcr, ?_⟩
        simp only [List.take_zero, apL, List.append_nil]
        rw [hin]
        cases inR t.lg (preE t.lg i' ++ s') c
        · simp only [Bool.false_eq_true, if_false]; split <;> rfl
        · rfl
      | succ q =>
        simp only [List.getElem?_cons_succ] at hr' hs
        obtain ⟨d, d1, d2, d3⟩ := ih.out q r' s hr' hs
        rw [f1] at d2 d3
        refine ⟨d, d1, by rw [← d2]; unfold classR; rw [kn_classN k1], ?_⟩
        rw [H]
        simp only [List.take_succ_cons]
        rw [ap, ← d3, k3, kn_inR k1]
    · obtain ⟨a1, a2⟩ := k6 k y u w h hk
      rw [← f1] at a1 a2
      obtain ⟨a3, a4⟩ := ih.oth k y u w a1 hk
      exact ⟨a3, by rw [a4, a2]⟩
end Go.AX.Tr
namespace Go.AX.Tr
open Go.Proofs Go.RowKit Go.IntWalk Go.AX.Br Go.AX.Lg Go.AX.Qu Go.AX.Wn
def inA (l : Lg) (s : List Ev) : List Bool := (List.range 30).map fun (c : Nat) => inR l s c
theorem inA_len (l : Lg) (s : List Ev) : (inA l s).length = 30 := by simp [inA]
theorem inA_at {l : Lg} {s : List Ev} {c : Nat} (h : c < 30) : bAt (inA l s) c = inR l s c := by
  simp [bAt, inA, h]
theorem spl_bv {W : List Bool} {c : Nat} (hc : c < W.length) (b : Bool) : spl (W.map bv) c [.d (.bool b)] = (W.set c b).map bv := by
  refine List.ext_getElem? fun q => ?_
  rw [spl_get _ _ _ _ (by simp; omega)]
  simp only [List.getElem?_map, List.length_singleton]
  by_cases e : q = c
  · subst e
    rw [if_pos (by omega), Nat.sub_self, List.getElem?_set_self (by omega)]; rfl
  · rw [if_neg (by omega), List.getElem?_set_ne (Ne.symm e)]
theorem inA_pick {l : Lg} {S : List Ev} {ch : ByteArray} {c : Nat} (hc : classR l ch = c) (h30 : c < 30) : inA l (S ++ [⟨2, ch⟩]) = (inA l S).set c true := by
  refine List.ext_getElem? fun q => ?_
  rcases Nat.lt_or_ge q 30 with h | h
  · have e : inR l (S ++ [⟨2, ch⟩]) q = if c = q then true else inR l S q := by
      rw [inR_snoc, hc]
      by_cases z : c = q
      · subst z; simp
      · rw [if_neg (by omega), if_neg z]
    by_cases z : c = q
    · subst z
      rw [List.getElem?_set_self (by rw [inA_len]; omega)]
      simp [inA, h, e]
    · rw [List.getElem?_set_ne z]
      simp [inA, h, e, z]
  · rw [List.getElem?_eq_none (by rw [inA_len]; omega), List.getElem?_eq_none (by rw [List.length_set, inA_len]; omega)]
theorem bds_w (k : Nat) (W : List Bool) : bds k (W.map bv) = True := eq_true (bds_bv k W)
theorem rens_w (f : Nat → Nat) (W : List Bool) : rens f (W.map bv) = W.map bv := rens_bv f W
theorem wkE_w (W : List Bool) : wkE (W.map bv) (W.map bv) = True := eq_true (wkE_refl _)
attribute [go_sem] bds_w rens_w wkE_w
theorem effL_any (l : Lg) (s : List Ev) (c : Nat) : ((effL l s).any fun x => x == (c : Int)) = (decide (c < 30) && inR l s c) := by
  rw [Bool.eq_iff_iff]
  simp only [effL, effN, List.any_eq_true, List.mem_map, List.mem_filter, List.mem_range, beq_iff_eq, Bool.and_eq_true, decide_eq_true_eq]
  constructor
  · rintro ⟨x, ⟨a, ⟨h1, h⟩, rfl⟩, e⟩
    have : a = c := by have : (a : Int) = c := e; omega
    subst this; exact ⟨h1, h⟩
  · rintro ⟨h1, h⟩
    exact ⟨(c : Int), ⟨c, ⟨h1, h⟩, rfl⟩, rfl⟩
theorem effL_el {l : Lg} {s : List Ev} {k : Nat} {y : Int} (h : (effL l s)[k]? = some y) : ∃ c : Nat, y = c ∧ c < 30 := by
  have hm := List.mem_of_getElem? h
  simp only [effL, effN, List.mem_map, List.mem_filter, List.mem_range] at hm
  obtain ⟨a, ⟨h1, _⟩, rfl⟩ := hm
  exact ⟨a, rfl, h1⟩
def hadA (had : List Int) (k : Nat) : List Bool := (List.range 30).map fun (c : Nat) => (had.take k).any fun x => x == (c : Int)
theorem hadA_len (had : List Int) (k : Nat) : (hadA had k).length = 30 := by simp [hadA]
theorem hadA_0 (had : List Int) : hadA had 0 = List.replicate 30 false := by
  unfold hadA
  simp only [List.take_zero, List.any_nil]
  rfl
theorem hadA_step {had : List Int} {k c : Nat} (h : had[k]? = some (c : Int)) (hc : c < 30) : hadA had (k + 1) = (hadA had k).set c true := by
  refine List.ext_getElem? fun q => ?_
  rcases Nat.lt_or_ge q 30 with h1 | h1
  · have e : ((had.take (k + 1)).any fun x => x == (q : Int)) = if c = q then true else (had.take k).any fun x => x == (q : Int) := by
      rw [List.take_add_one, h, Option.toList_some, List.any_append]
      by_cases z : c = q
      · subst z; simp
      · rw [if_neg z]
        have : ((c : Int) == (q : Int)) = false := by simp; omega
        simp [this]
    by_cases z : c = q
    · subst z
      rw [List.getElem?_set_self (by rw [hadA_len]; omega)]
      simp [hadA, h1, e]
    · rw [List.getElem?_set_ne z]
      simp [hadA, h1, e, z]
  · rw [List.getElem?_eq_none (by rw [hadA_len]; omega), List.getElem?_eq_none (by rw [List.length_set, hadA_len]; omega)]
theorem hadA_end (l : Lg) (s : List Ev) : hadA (effL l s) (effL l s).length = inA l s := by
  unfold hadA inA
  refine List.map_congr_left fun c hc => ?_
  rw [List.take_length, effL_any, decide_eq_true (by simpa using hc), Bool.true_and]
theorem effN_at {l : Lg} {s : List Ev} {c : Nat} (hc : c < 30) (h : inR l s c = true) : (effN l s 30)[(effN l s c).length]? = some (c : Int) ∧ (effN l s c).length < (effN l s 30).length := by
  have hg : (List.range 30)[c]? = some c := by rw [List.getElem?_range hc]
  obtain ⟨f1, _, f2⟩ := filter_get (p := fun (c : Nat) => inR l s c) hg h
  rw [List.take_range, Nat.min_eq_left (by omega)] at f1 f2
  unfold effN
  rw [List.length_map, List.length_map, List.getElem?_map, f1]
  exact ⟨rfl, f2⟩
theorem setl_at (b : ByteArray) : ∀ (q : List Rq) (ss : List Int) (k : Nat) (x : Rq) (s : Int), q[k]? = some x → isHead b x = true → ss[cntH b (q.take k)]? = some s → (setl b q ss)[k]? = some (setSt x s)
  | [], ss, k, x, s, h, _, _ => by simp at h
  | y :: q, [], k, x, s, _, _, h => by simp at h
  | y :: q, z :: ss, 0, x, s, h, hx, hs => by
    simp only [List.getElem?_cons_zero, Option.some.injEq] at h
    subst h
    simp only [cntH, List.take_zero, List.filter_nil, List.length_nil, List.getElem?_cons_zero, Option.some.injEq] at hs
    subst hs
    rw [setl_yes hx]; rfl
  | y :: q, z :: ss, k + 1, x, s, h, hx, hs => by
    simp only [List.getElem?_cons_succ] at h
    cases q1 : isHead b y with
    | true =>
      rw [setl_yes q1, List.getElem?_cons_succ]
      refine setl_at b q ss k x s h hx ?_
      have : cntH b ((y :: q).take (k + 1)) = cntH b (q.take k) + 1 := by simp only [cntH, List.take_succ_cons, List.filter_cons_of_pos q1, List.length_cons]
      rw [this, List.getElem?_cons_succ] at hs
      exact hs
    | false =>
      rw [setl_no q1, List.getElem?_cons_succ]
      refine setl_at b q (z :: ss) k x s h hx ?_
      have : cntH b ((y :: q).take (k + 1)) = cntH b (q.take k) := by simp only [cntH, List.take_succ_cons, List.filter_cons_of_neg (by simp [q1] : ¬ isHead b y = true)]
      rw [this] at hs
      exact hs
theorem apL_at : ∀ {rs : List Rq} {ss : List Int} {p : Nat} {r : Rq}, rs[p]? = some r → ss[p]? = some 5 → (apL rs ss)[(apL (rs.take p) (ss.take p)).length]? = some ⟨2, r.ch⟩
  | [], _, _, _, h, _ => by simp at h
  | _ :: _, [], _, _, _, h => by simp at h
  | a :: rs, z :: ss, 0, r, h1, h2 => by
    simp only [List.getElem?_cons_zero, Option.some.injEq] at h1 h2
    subst h1; subst h2
    simp only [List.take_zero, apL, List.length_nil, if_true, List.getElem?_cons_zero]
  | a :: rs, z :: ss, p + 1, r, h1, h2 => by
    simp only [List.getElem?_cons_succ] at h1 h2
    have ih := apL_at h1 h2
    simp only [List.take_succ_cons, apL]
    split
    · simp only [List.length_cons, List.getElem?_cons_succ]; exact ih
    · exact ih
theorem apL_all : ∀ (rs : List Rq) (ss : List Int), apL (rs.take ss.length) ss = apL rs ss
  | [], _ => by simp [apL]
  | _ :: _, [] => by simp [apL]
  | a :: rs, s :: ss => by
    simp only [List.length_cons, List.take_succ_cons, apL, apL_all rs ss]
theorem cnt_head {b : ByteArray} {q : List Rq} {k : Nat} {r : Rq} (h : q[k]? = some r) (hr : isHead b r = true) : (hdL b q)[cntH b (q.take k)]? = some r ∧ cntH b (q.take (k + 1)) = cntH b (q.take k) + 1 := by
  obtain ⟨f1, f2, _⟩ := filter_get (p := isHead b) h hr
  exact ⟨f1, f2⟩
theorem cnt_skip {b : ByteArray} {q : List Rq} {k : Nat} {r : Rq} (h : q[k]? = some r) (hr : isHead b r = false) : cntH b (q.take (k + 1)) = cntH b (q.take k) := filter_skip (p := isHead b) h hr
end Go.AX.Tr
namespace Go.AX.Tr
open Go.Proofs Go.RowKit Go.IntWalk Go.AX.Br Go.AX.Lg Go.AX.Qu Go.AX.Wn
theorem bz : ∀ b : Bool, b = true ∨ b = false := by decide
theorem outcomes_top (t : Tr) (i : Nat) (x : Br) (evs : List Ev) (v : List Mk) (R : Tr × List Int × Int) (o : TOk t) (f : TFit t) (fa : TFit R.1) (oa : TOk R.1) (a : At t.lg i x evs v) (T : Trc x.name i x evs t R) :
    Spec Tryz.prog 13 [tA t, tA R.1, .d (.int .i64 i), .d (.sl (R.2.1.map uD))] [] (.d (.bool true)) [] := by
  have hx := a.hx
  have hs := a.hs
  have hq : R.1.q.length = t.q.length := by rw [T.q, setl_len]
  have he : R.1.lg.ev.length = t.lg.ev.length := by rw [T.ev, List.length_set]
  have c1 := Effect_own t.lg x.name f.k f.b f.e
  have c2 := Effect_own R.1.lg x.name fa.k fa.b fa.e
  rw [o.lo.eff a] at c1
  obtain ⟨w, aw⟩ := T.own
  rw [oa.lo.eff aw, T.pre, kn_effL T.kn] at c2
  have c3 := fun ch => class_ref t.lg ch (by unfold Sm; have := f.k; omega)
  have hs1 := aw.hs
  have hset := T.q
  have hlen := T.len
  have hout := T.out
  have hnm := T.rng
  have h40 := oa.lo.own i _ hs1
  have hql := f.q
  obtain ⟨A, hA⟩ : ∃ A, A = R.1 := ⟨_, rfl⟩
  obtain ⟨S, hS⟩ : ∃ S, S = R.2.1 := ⟨_, rfl⟩
  rw [← hA] at hq he c2 hs1 hset
  rw [← hS] at hset hlen hout hnm hs1 h40 c2
  rw [← hA, ← hS]
  obtain ⟨nm, hnam⟩ : ∃ nm, nm = x.name := ⟨_, rfl⟩
  rw [← hnam] at c1 c2 hset hlen hout hs1 h40
  obtain ⟨H, hH⟩ : ∃ H, H = hdL nm t.q := ⟨_, rfl⟩
  have hHc : H.length = cntH nm t.q := by rw [hH]; rfl
  have hHl : H.length ≤ t.q.length := by rw [hH]; exact List.length_filter_le _ _
  have chd := fun k r => cnt_head (b := nm) (q := t.q) (k := k) (r := r)
  have csk := fun k r => cnt_skip (b := nm) (q := t.q) (k := k) (r := r)
  have sat := fun k r s => setl_at nm t.q S k r s
  rw [← hset] at sat
  rw [← hH] at hlen hout hs1 h40 chd c2
  have hall := apL_all H S
  have hsn := fun p r s => apL_snoc (rs := H) (ss := S) (p := p) (r := r) (s := s)
  have hat := fun p r => apL_at (rs := H) (ss := S) (p := p) (r := r)
  obtain ⟨PS, hPS⟩ : ∃ PS, PS = preE t.lg i := ⟨_, rfl⟩
  rw [← hPS] at c1 c2 hout
  obtain ⟨E1, hE1⟩ : ∃ E, E = evs ++ apL H S := ⟨_, rfl⟩
  rw [← hE1] at hs1 h40 c2
  have hle : evs.length ≤ E1.length := by rw [hE1]; simp
  have hpk := fun (S : List Ev) (ch : ByteArray) (c : Nat) (h1 : classR t.lg ch = c) (h2 : c < 30) => inA_pick (l := t.lg) (S := S) (ch := ch) (c := c) h1 h2
  have hIA : ∀ S c, c < 30 → bAt (inA t.lg S) c = inR t.lg S c := fun S c h => inA_at h
  have hIL := inA_len t.lg
  have hend := hadA_end t.lg (PS ++ evs)
  have hel := fun k y => effL_el (l := t.lg) (s := PS ++ evs) (k := k) (y := y)
  have hadl : (effL t.lg (PS ++ evs)).length ≤ 30 := effN_len _ _ _
  obtain ⟨had, hhad⟩ : ∃ h, h = effL t.lg (PS ++ evs) := ⟨_, rfl⟩
  rw [← hhad] at c1 hend hel hadl
  have hefn := fun c h1 h2 => effN_at (l := t.lg) (s := PS ++ E1) (c := c) h1 h2
  have hhas : effN t.lg (PS ++ E1) 30 = effL t.lg (PS ++ E1) := rfl
  rw [hhas] at hefn
  have hasl : (effL t.lg (PS ++ E1)).length ≤ 30 := effN_len _ _ _
  obtain ⟨has, hhs⟩ : ∃ h, h = effL t.lg (PS ++ E1) := ⟨_, rfl⟩
  rw [← hhs] at c2 hefn hasl hhas
  have h0len := hadA_0 had
  have hstp := fun k c h1 h2 => hadA_step (had := had) (k := k) (c := c) h1 h2
  have hhl := hadA_len had
  simp only [lA] at c1 c2 c3
  have z0 : ((0 : Int) != 0) = false := rfl
  have n1 : (0 ≤ (i : Int) ∧ (i : Int) < t.lg.br.length) = True := eq_true (by have := some_lt hx; omega)
  have n2 : (i < t.lg.br.length) = True := eq_true (some_lt hx)
  have n3 : (0 ≤ (i : Int) ∧ (i : Int) < t.lg.ev.length) = True := eq_true (by have := some_lt hs; omega)
  have n4 : (i < t.lg.ev.length) = True := eq_true (some_lt hs)
  have n5 : (0 ≤ (i : Int) ∧ (i : Int) < A.lg.ev.length) = True := eq_true (by have := some_lt hs1; omega)
  have n6 : (i < A.lg.ev.length) = True := eq_true (some_lt hs1)
  have y1 : ((A.q.length : Int) != t.q.length) = false := by rw [hq]; simp
  have y2 : ((A.lg.ev.length : Int) != t.lg.ev.length) = false := by rw [he]; simp
  have y3 : decide ((E1.length : Int) < evs.length) = false := by simp; omega
  refine spec_of_ev (fn := Tryz.f13) DX_ok 3000 Tryz.func13 rfl rfl (Nat.le_of_ble_eq_true rfl) ?_
  simp (maxSteps := 4000000) -implicitDefEqProofs only [Tryz.f13, go_sem, tA]
  simp (maxSteps := 4000000) -implicitDefEqProofs only [go_sem, n1, n2, hx, ← hnam, Option.some.injEq, forall_eq', and_true, true_and, Bool.not_true, Bool.not_false, decide_true, Nat.reduceAdd, Nat.reduceSub, Nat.reduceLT, Nat.reduceLeDiff, Nat.reduceEqDiff, ↓reduceIte]
  refine DX.plain (.take 0 false (.take 1 false (.take 2 false (.take 3 false (.take 4 false (.take 5 false (.take 6 false (.take 7 false (.take 8 false (.take 9 false (.take 10 false (.take 11 false (.take 12 false (.take 13 false (.take 14 false (.take 15 false (.take 16 false (.take 17 false (.take 18 false (.take 19 false (.take 20 false (.take 21 false (.take 22 false (.take 23 false (.take 24 false (.take 25 false (.take 26 false (.take 27 false (.take 28 false (.take 29 false (.take 30 false (.take 31 false (.take 32 false (.take 33 false (.take 34 false .done))))))))))))))))))))))))))))))))))) (by kernel_rfl) (by kernel_rfl) Ty.mixed ?_
  simp (maxSteps := 4000000) -implicitDefEqProofs only [go_sem, y1, y2, y3, n3, n4, n5, n6, hs, hs1, Option.some.injEq, forall_eq', and_true, true_and, Bool.not_true, Bool.not_false, decide_true, Nat.reduceAdd, Nat.reduceSub, Nat.reduceLT, Nat.reduceLeDiff, Nat.reduceEqDiff, ↓reduceIte]
  refine ecall0 _ c1 (by simp only [go_sem]) (by simp only [go_sem]) ?_
  simp (maxSteps := 4000000) -implicitDefEqProofs only [go_sem, Nat.reduceAdd, Nat.reduceSub, Nat.reduceLT, Nat.reduceLeDiff, Nat.reduceEqDiff, ↓reduceIte]
  refine ecall0 _ c2 (by simp only [go_sem]) (by simp only [go_sem]) ?_
  simp (maxSteps := 4000000) -implicitDefEqProofs only [go_sem, z0, Option.some.injEq, forall_eq', and_true, true_and, Bool.not_true, Bool.not_false, decide_true, Nat.reduceAdd, Nat.reduceSub, Nat.reduceLT, Nat.reduceLeDiff, Nat.reduceEqDiff, ↓reduceIte]
  refine eloop (S := Nat) (fun k => mkE 246 [(2, .d (.int .i64 i)), (3, .d (.sl (S.map uD))), (4, .ptr 0 0), (5, .ptr 1 0), (9, .d (.str nm)), (10, .ptr 2 0), (11, .d (.sl (had.map iD))), (13, .d (.sl (has.map iD))), (15, .d (.int .i64 k))]) (fun k => [tH t, tH A, .cells ((hadA had k).map bv)]) (fun k => k ≤ had.length) (fun k => had.length - k) 0 (by omega) ?_ ?_
  · have e0 : (hadA had 0).map bv = List.replicate 30 (.d (.bool false)) := by rw [h0len]; rfl
    simp only [List.replicate] at e0
    rw [e0]
    exact (Wk.via [0, 1, 2] (by (simp only [go_sem, ↓reduceIte]) <;> trivial) (by first | (simp (maxSteps := 4000000) -implicitDefEqProofs only [go_sem, Nat.reduceAdd, Nat.reduceSub, Nat.reduceLT, Nat.reduceLeDiff, Nat.reduceEqDiff, ↓reduceIte]; done) | ((simp (maxSteps := 4000000) -implicitDefEqProofs only [go_sem, Nat.reduceAdd, Nat.reduceSub, Nat.reduceLT, Nat.reduceLeDiff, Nat.reduceEqDiff, ↓reduceIte]) <;> omega)) (by simp) (by first | (simp; done) | (simp [so]; done)) (by (simp (maxSteps := 4000000) -implicitDefEqProofs only [go_sem, Nat.reduceAdd, Nat.reduceSub, Nat.reduceLT, Nat.reduceLeDiff, Nat.reduceEqDiff, ↓reduceIte]) <;> trivial) (by first | (simp only [go_sem]; done) | ((simp (maxSteps := 4000000) -implicitDefEqProofs only [go_sem, Nat.reduceAdd, Nat.reduceSub, Nat.reduceLT, Nat.reduceLeDiff, Nat.reduceEqDiff, ↓reduceIte]) <;> omega)) (Nat.zero_le _) (fun i h => absurd h (Nat.not_lt_zero i)))
  intro k hk
  apply Or.elim ((Nat.lt_or_ge k had.length))
  · intro h2
    have f1 : decide ((k : Int) < had.length) = true := by simp; omega
    apply Exists.elim (hel k _ (List.getElem?_eq_getElem h2))
    intro c hc
    have hy : had[k]? = some (c : Int) := by rw [← hc.1]; exact List.getElem?_eq_getElem h2
    have c30 := hc.2
    have k1 : (0 ≤ (k : Int) ∧ (k : Int) < had.length) = True := eq_true (by omega)
    have k2 : (k < had.length) = True := eq_true h2
    have z3 : decide ((c : Int) < 0) = false := decide_eq_false (by omega)
    have z4 : decide (30 ≤ (c : Int)) = false := decide_eq_false (by omega)
    have p3' : (c ≤ 29) = True := eq_true (by omega)
    have w1 : IntKind.i64.wrap ((k : Int) + 1) = ((k + 1 : Nat) : Int) := by rw [i64_in _ (by omega)]; simp
    have m1 : (0 ≤ (c : Int) ∧ (c : Int) < ((30 : Nat) : Int)) = True := eq_true (by omega)
    have m1' : (0 ≤ (c : Int) ∧ (c : Int) < 30) = True := eq_true (by omega)
    have p3 : (c + 1 ≤ 30) = True := eq_true (by omega)
    have hst := hstp k c hy c30
    have hWl := hhl k
    have hsp := spl_bv (W := hadA had k) (c := c) (by omega) true
    rw [← hst] at hsp
    simp (maxSteps := 4000000) -implicitDefEqProofs only [go_sem, f1, k1, k2, hy, z3, z4, m1, m1', p3, p3', hsp, hWl, w1, Option.some.injEq, forall_eq', and_true, true_and, Bool.not_true, Bool.not_false, decide_true, Nat.reduceAdd, Nat.reduceSub, Nat.reduceLT, Nat.reduceLeDiff, Nat.reduceEqDiff, ↓reduceIte]
    exact .mk (k + 1) (by omega) (by omega) (Wk.via [0, 1, 2] (by (simp only [go_sem, ↓reduceIte]) <;> trivial) (by first | (simp (maxSteps := 4000000) -implicitDefEqProofs only [go_sem, Nat.reduceAdd, Nat.reduceSub, Nat.reduceLT, Nat.reduceLeDiff, Nat.reduceEqDiff, ↓reduceIte]; done) | ((simp (maxSteps := 4000000) -implicitDefEqProofs only [go_sem, Nat.reduceAdd, Nat.reduceSub, Nat.reduceLT, Nat.reduceLeDiff, Nat.reduceEqDiff, ↓reduceIte]) <;> omega)) (by simp) (by first | (simp; done) | (simp [so]; done)) (by (simp (maxSteps := 4000000) -implicitDefEqProofs only [go_sem, Nat.reduceAdd, Nat.reduceSub, Nat.reduceLT, Nat.reduceLeDiff, Nat.reduceEqDiff, ↓reduceIte]) <;> trivial) (by first | (simp only [go_sem]; done) | ((simp (maxSteps := 4000000) -implicitDefEqProofs only [go_sem, Nat.reduceAdd, Nat.reduceSub, Nat.reduceLT, Nat.reduceLeDiff, Nat.reduceEqDiff, ↓reduceIte]) <;> omega)) (Nat.zero_le _) (fun i h => absurd h (Nat.not_lt_zero i)))
  intro h2
  have f1 : decide ((k : Int) < had.length) = false := by simp; omega
  have hkk : k = had.length := by omega
  rw [hkk, hend]
  have f1' : decide ((had.length : Int) < had.length) = false := by simp
  have ap0 : apL (H.take 0) (S.take 0) = [] := apL_nil _
  have ct0 : cntH nm (t.q.take 0) = 0 := rfl
  simp (maxSteps := 4000000) -implicitDefEqProofs only [go_sem, f1', Option.some.injEq, forall_eq', and_true, true_and, Bool.not_true, Bool.not_false, decide_true, Nat.reduceAdd, Nat.reduceSub, Nat.reduceLT, Nat.reduceLeDiff, Nat.reduceEqDiff, ↓reduceIte]
  refine DX.plain (.take 0 false (.take 1 false (.take 2 false (.take 3 false (.take 4 false (.take 5 false (.take 6 false (.take 7 false (.take 8 false .done))))))))) (by kernel_rfl) (by kernel_rfl) Ty.mixed ?_
  simp (maxSteps := 4000000) -implicitDefEqProofs only [go_sem, n3, n4, hs, Option.some.injEq, forall_eq', and_true, true_and, Bool.not_true, Bool.not_false, decide_true, Nat.reduceAdd, Nat.reduceSub, Nat.reduceLT, Nat.reduceLeDiff, Nat.reduceEqDiff, ↓reduceIte]
  refine eloop (S := Nat) (fun k => mkE 246 [(2, .d (.int .i64 i)), (3, .d (.sl (S.map uD))), (4, .ptr 0 0), (5, .ptr 1 0), (9, .d (.str nm)), (10, .ptr 2 0), (13, .d (.sl (has.map iD))), (16, .d (.int .i64 (cntH nm (t.q.take k)))), (17, .d (.int .i64 (evs ++ apL (H.take (cntH nm (t.q.take k))) (S.take (cntH nm (t.q.take k)))).length)), (18, .d (.int .i64 k))])
    (fun k => [tH t, tH A, .cells ((inA t.lg (PS ++ (evs ++ apL (H.take (cntH nm (t.q.take k))) (S.take (cntH nm (t.q.take k)))))).map bv)]) (fun k => k ≤ t.q.length ∧ cntH nm (t.q.take k) ≤ S.length) (fun k => t.q.length - k) 0 ⟨Nat.zero_le _, by rw [ct0]; exact Nat.zero_le _⟩ (by rw [ct0, ap0, List.append_nil]; exact (Wk.via [0, 1, 2] (by (simp only [go_sem, ↓reduceIte]) <;> trivial) (by first | (simp (maxSteps := 4000000) -implicitDefEqProofs only [go_sem, Nat.reduceAdd, Nat.reduceSub, Nat.reduceLT, Nat.reduceLeDiff, Nat.reduceEqDiff, ↓reduceIte]; done) | ((simp (maxSteps := 4000000) -implicitDefEqProofs only [go_sem, Nat.reduceAdd, Nat.reduceSub, Nat.reduceLT, Nat.reduceLeDiff, Nat.reduceEqDiff, ↓reduceIte]) <;> omega)) (by simp) (by first | (simp; done) | (simp [so]; done)) (by (simp (maxSteps := 4000000) -implicitDefEqProofs only [go_sem, Nat.reduceAdd, Nat.reduceSub, Nat.reduceLT, Nat.reduceLeDiff, Nat.reduceEqDiff, ↓reduceIte]) <;> trivial) (by first | (simp only [go_sem]; done) | ((simp (maxSteps := 4000000) -implicitDefEqProofs only [go_sem, Nat.reduceAdd, Nat.reduceSub, Nat.reduceLT, Nat.reduceLeDiff, Nat.reduceEqDiff, ↓reduceIte]) <;> omega)) (Nat.zero_le _) (fun i h => absurd h (Nat.not_lt_zero i)))) ?_
  intro k hk
  apply Exists.elim (show ∃ P, P = cntH nm (t.q.take k) from ⟨_, rfl⟩)
  intro P hP
  rw [← hP] at hk ⊢
  apply Exists.elim (show ∃ W, W = evs ++ apL (H.take P) (S.take P) from ⟨_, rfl⟩)
  intro W hW
  rw [← hW]
  have zn : ∀ n : Int, (n != n) = false := fun n => by simp
  have ze : ∀ n : Int, (n == n) = true := fun n => by simp
  apply Or.elim (Decidable.em (k < t.q.length ∧ P < S.length)).symm
  · intro hc
    have hPS : P = S.length := by
      rcases Nat.lt_or_ge k t.q.length with h | h
      · omega
      · have : k = t.q.length := by omega
        rw [this, List.take_length, ← hHc] at hP
        omega
    have hWE : W = E1 := by rw [hW, hPS, List.take_length, hall, hE1]
    have f2 : decide ((S.length : Int) < S.length) = false := by simp
    rw [hPS, hWE]
    apply Exists.elim (show ∃ Wf, Wf = inA t.lg (PS ++ E1) from ⟨_, rfl⟩)
    intro Wf hWf0
    have hWf : ∀ c, c < 30 → bAt Wf c = inR t.lg (PS ++ E1) c := fun c hc => by rw [hWf0]; exact hIA _ c hc
    have hWl : Wf.length = 30 := by rw [hWf0]; exact hIL _
    rw [← hWf0]
    apply Or.elim ((bz (decide ((k : Int) < t.q.length))))
    all_goals
      intro f1
      simp (maxSteps := 4000000) -implicitDefEqProofs only [go_sem, f1, f2, Option.some.injEq, forall_eq', and_true, true_and, Bool.not_true, Bool.not_false, decide_true, Nat.reduceAdd, Nat.reduceSub, Nat.reduceLT, Nat.reduceLeDiff, Nat.reduceEqDiff, ↓reduceIte]
      refine eloop (S := Nat) (fun c => mkE 246 [(2, .d (.int .i64 i)), (3, .d (.sl (S.map uD))), (5, .ptr 1 0), (10, .ptr 2 0), (13, .d (.sl (has.map iD))), (16, .d (.int .i64 S.length)), (17, .d (.int .i64 E1.length)), (21, .d (.int .i64 (effN t.lg (PS ++ E1) c).length)), (22, .d (.int .i64 c))]) (fun c => [tH t, tH A, .cells (Wf.map bv)]) (fun c => c ≤ 30) (fun c => 30 - c) 0 (by omega) (Wk.via [0, 1, 2] (by (simp only [go_sem, ↓reduceIte]) <;> trivial) (by first | (simp (maxSteps := 4000000) -implicitDefEqProofs only [go_sem, Nat.reduceAdd, Nat.reduceSub, Nat.reduceLT, Nat.reduceLeDiff, Nat.reduceEqDiff, ↓reduceIte]; done) | ((simp (maxSteps := 4000000) -implicitDefEqProofs only [go_sem, Nat.reduceAdd, Nat.reduceSub, Nat.reduceLT, Nat.reduceLeDiff, Nat.reduceEqDiff, ↓reduceIte]) <;> omega)) (by simp) (by first | (simp; done) | (simp [so]; done)) (by (simp (maxSteps := 4000000) -implicitDefEqProofs only [go_sem, Nat.reduceAdd, Nat.reduceSub, Nat.reduceLT, Nat.reduceLeDiff, Nat.reduceEqDiff, ↓reduceIte]) <;> trivial) (by first | (simp only [go_sem]; done) | ((simp (maxSteps := 4000000) -implicitDefEqProofs only [go_sem, Nat.reduceAdd, Nat.reduceSub, Nat.reduceLT, Nat.reduceLeDiff, Nat.reduceEqDiff, ↓reduceIte]) <;> omega)) (Nat.zero_le _) (fun i h => absurd h (Nat.not_lt_zero i))) ?_
      intro c hc
      apply Or.elim ((Nat.lt_or_ge c 30))
      · intro h3
        have g2 : decide ((c : Int) < 30) = true := by simp; omega
        have w1 : IntKind.i64.wrap ((c : Int) + 1) = ((c + 1 : Nat) : Int) := by rw [i64_in _ (by omega)]; simp
        have m1 : (0 ≤ (c : Int) ∧ (c : Int) < ((30 : Nat) : Int)) = True := eq_true (by omega)
        have m1' : (0 ≤ (c : Int) ∧ (c : Int) < 30) = True := eq_true (by omega)
        apply Exists.elim (ld_agg (l := Wf) (c := c) (by omega))
        intro rr g
        rw [hWf c h3] at g
        apply Or.elim ((bz (inR t.lg (PS ++ E1) c)))
        · intro hb
          have e12 := hefn c h3 hb
          have e1 := e12.1
          have e2 := e12.2
          have e3 : (effN t.lg (PS ++ E1) (c + 1)).length = (effN t.lg (PS ++ E1) c).length + 1 := by rw [effN_yes hb]; simp
          rw [hb] at g
          apply Exists.elim (show ∃ X, X = (effN t.lg (PS ++ E1) c).length from ⟨_, rfl⟩)
          intro X hX
          rw [← hX] at e1 e2 e3 ⊢
          have p0 : decide ((has.length : Int) ≤ X) = false := by simp; omega
          have p1 : (0 ≤ (X : Int) ∧ (X : Int) < has.length) = True := eq_true (by omega)
          have p2 : (X < has.length) = True := eq_true (by omega)
          have w2 : IntKind.i64.wrap ((X : Int) + 1) = ((X + 1 : Nat) : Int) := by rw [i64_in _ (by omega)]; simp
          simp (maxSteps := 4000000) -implicitDefEqProofs only [go_sem, g2, m1, m1', g, p0, p1, p2, e1, zn, w1, w2, Option.some.injEq, forall_eq', and_true, true_and, Bool.not_true, Bool.not_false, decide_true, Nat.reduceAdd, Nat.reduceSub, Nat.reduceLT, Nat.reduceLeDiff, Nat.reduceEqDiff, ↓reduceIte]
          exact .mk (c + 1) (by omega) (by omega) (by rw [e3]; exact (Wk.via [0, 1, 2] (by (simp only [go_sem, ↓reduceIte]) <;> trivial) (by first | (simp (maxSteps := 4000000) -implicitDefEqProofs only [go_sem, Nat.reduceAdd, Nat.reduceSub, Nat.reduceLT, Nat.reduceLeDiff, Nat.reduceEqDiff, ↓reduceIte]; done) | ((simp (maxSteps := 4000000) -implicitDefEqProofs only [go_sem, Nat.reduceAdd, Nat.reduceSub, Nat.reduceLT, Nat.reduceLeDiff, Nat.reduceEqDiff, ↓reduceIte]) <;> omega)) (by simp) (by first | (simp; done) | (simp [so]; done)) (by (simp (maxSteps := 4000000) -implicitDefEqProofs only [go_sem, Nat.reduceAdd, Nat.reduceSub, Nat.reduceLT, Nat.reduceLeDiff, Nat.reduceEqDiff, ↓reduceIte]) <;> trivial) (by first | (simp only [go_sem]; done) | ((simp (maxSteps := 4000000) -implicitDefEqProofs only [go_sem, Nat.reduceAdd, Nat.reduceSub, Nat.reduceLT, Nat.reduceLeDiff, Nat.reduceEqDiff, ↓reduceIte]) <;> omega)) (Nat.zero_le _) (fun i h => absurd h (Nat.not_lt_zero i))))
        · intro hb
          have e3 : effN t.lg (PS ++ E1) (c + 1) = effN t.lg (PS ++ E1) c := effN_no hb
          rw [hb] at g
          simp (maxSteps := 4000000) -implicitDefEqProofs only [go_sem, g2, m1, m1', g, w1, Option.some.injEq, forall_eq', and_true, true_and, Bool.not_true, Bool.not_false, decide_true, Nat.reduceAdd, Nat.reduceSub, Nat.reduceLT, Nat.reduceLeDiff, Nat.reduceEqDiff, ↓reduceIte]
          exact .mk (c + 1) (by omega) (by omega) (by rw [e3]; exact (Wk.via [0, 1, 2] (by (simp only [go_sem, ↓reduceIte]) <;> trivial) (by first | (simp (maxSteps := 4000000) -implicitDefEqProofs only [go_sem, Nat.reduceAdd, Nat.reduceSub, Nat.reduceLT, Nat.reduceLeDiff, Nat.reduceEqDiff, ↓reduceIte]; done) | ((simp (maxSteps := 4000000) -implicitDefEqProofs only [go_sem, Nat.reduceAdd, Nat.reduceSub, Nat.reduceLT, Nat.reduceLeDiff, Nat.reduceEqDiff, ↓reduceIte]) <;> omega)) (by simp) (by first | (simp; done) | (simp [so]; done)) (by (simp (maxSteps := 4000000) -implicitDefEqProofs only [go_sem, Nat.reduceAdd, Nat.reduceSub, Nat.reduceLT, Nat.reduceLeDiff, Nat.reduceEqDiff, ↓reduceIte]) <;> trivial) (by first | (simp only [go_sem]; done) | ((simp (maxSteps := 4000000) -implicitDefEqProofs only [go_sem, Nat.reduceAdd, Nat.reduceSub, Nat.reduceLT, Nat.reduceLeDiff, Nat.reduceEqDiff, ↓reduceIte]) <;> omega)) (Nat.zero_le _) (fun i h => absurd h (Nat.not_lt_zero i))))
      intro h3
      have hc30 : c = 30 := by omega
      have g2 : decide ((((30 : Nat) : Int)) < 30) = false := rfl
      have g2' : decide ((30 : Int) < 30) = false := rfl
      rw [hc30, hhas]
      simp (maxSteps := 4000000) -implicitDefEqProofs only [go_sem, g2, g2', ze, n5, n6, hs1, Option.some.injEq, forall_eq', and_true, true_and, Bool.not_true, Bool.not_false, decide_true, Nat.reduceAdd, Nat.reduceSub, Nat.reduceLT, Nat.reduceLeDiff, Nat.reduceEqDiff, ↓reduceIte]
      exact wk_bool rfl
  intro hc
  have f1 : decide ((k : Int) < t.q.length) = true := by simp; exact hc.1
  have f2 : decide ((P : Int) < S.length) = true := by simp; exact hc.2
  have k1 : (0 ≤ (k : Int) ∧ (k : Int) < t.q.length) = True := eq_true (by omega)
  have k2 : (k < t.q.length) = True := eq_true hc.1
  have w1 : IntKind.i64.wrap ((k : Int) + 1) = ((k + 1 : Nat) : Int) := by rw [i64_in _ (by omega)]; simp
  apply Exists.elim (show ∃ r, t.q[k]? = some r from ⟨t.q[k]'hc.1, List.getElem?_eq_getElem _⟩)
  intro r hr
  have b1 : (!true) = false := rfl
  have b2 : (!false) = true := rfl
  have c3r := c3 r.ch
  have csr := csk k r hr
  have chr := chd k r hr
  have satr := sat k r
  have hisH : isHead nm r = (decide (r.br = nm) && (r.st == 2)) := rfl
  apply Or.elim (bz (decide (r.br = nm)))
  case right =>
    intro d1
    have hP1 : cntH nm (t.q.take (k + 1)) = P := by rw [csr (by rw [hisH, d1]; rfl), hP]
    simp (maxSteps := 4000000) -implicitDefEqProofs only [go_sem, f1, f2, k1, k2, hr, d1, b1, b2, w1, Option.some.injEq, forall_eq', and_true, true_and, Bool.not_true, Bool.not_false, decide_true, Nat.reduceAdd, Nat.reduceSub, Nat.reduceLT, Nat.reduceLeDiff, Nat.reduceEqDiff, ↓reduceIte]
    exact .mk (k + 1) ⟨hc.1, by rw [hP1]; omega⟩ (by omega) (by rw [hP1, ← hW]; exact (Wk.via [0, 1, 2] (by (simp only [go_sem, ↓reduceIte]) <;> trivial) (by first | (simp (maxSteps := 4000000) -implicitDefEqProofs only [go_sem, Nat.reduceAdd, Nat.reduceSub, Nat.reduceLT, Nat.reduceLeDiff, Nat.reduceEqDiff, ↓reduceIte]; done) | ((simp (maxSteps := 4000000) -implicitDefEqProofs only [go_sem, Nat.reduceAdd, Nat.reduceSub, Nat.reduceLT, Nat.reduceLeDiff, Nat.reduceEqDiff, ↓reduceIte]) <;> omega)) (by simp) (by first | (simp; done) | (simp [so]; done)) (by (simp (maxSteps := 4000000) -implicitDefEqProofs only [go_sem, Nat.reduceAdd, Nat.reduceSub, Nat.reduceLT, Nat.reduceLeDiff, Nat.reduceEqDiff, ↓reduceIte]) <;> trivial) (by first | (simp only [go_sem]; done) | ((simp (maxSteps := 4000000) -implicitDefEqProofs only [go_sem, Nat.reduceAdd, Nat.reduceSub, Nat.reduceLT, Nat.reduceLeDiff, Nat.reduceEqDiff, ↓reduceIte]) <;> omega)) (Nat.zero_le _) (fun i h => absurd h (Nat.not_lt_zero i))))
  intro d1
  apply Or.elim (bz (r.st == 2))
  case right =>
    intro d2
    have hP1 : cntH nm (t.q.take (k + 1)) = P := by rw [csr (by rw [hisH, d1, d2]; rfl), hP]
    have d3 : (r.st != 2) = true := by simp at d2 ⊢; exact d2
    simp (maxSteps := 4000000) -implicitDefEqProofs only [go_sem, f1, f2, k1, k2, hr, d1, d3, b1, b2, w1, Option.some.injEq, forall_eq', and_true, true_and, Bool.not_true, Bool.not_false, decide_true, Nat.reduceAdd, Nat.reduceSub, Nat.reduceLT, Nat.reduceLeDiff, Nat.reduceEqDiff, ↓reduceIte]
    exact .mk (k + 1) ⟨hc.1, by rw [hP1]; omega⟩ (by omega) (by rw [hP1, ← hW]; exact (Wk.via [0, 1, 2] (by (simp only [go_sem, ↓reduceIte]) <;> trivial) (by first | (simp (maxSteps := 4000000) -implicitDefEqProofs only [go_sem, Nat.reduceAdd, Nat.reduceSub, Nat.reduceLT, Nat.reduceLeDiff, Nat.reduceEqDiff, ↓reduceIte]; done) | ((simp (maxSteps := 4000000) -implicitDefEqProofs only [go_sem, Nat.reduceAdd, Nat.reduceSub, Nat.reduceLT, Nat.reduceLeDiff, Nat.reduceEqDiff, ↓reduceIte]) <;> omega)) (by simp) (by first | (simp; done) | (simp [so]; done)) (by (simp (maxSteps := 4000000) -implicitDefEqProofs only [go_sem, Nat.reduceAdd, Nat.reduceSub, Nat.reduceLT, Nat.reduceLeDiff, Nat.reduceEqDiff, ↓reduceIte]) <;> trivial) (by first | (simp only [go_sem]; done) | ((simp (maxSteps := 4000000) -implicitDefEqProofs only [go_sem, Nat.reduceAdd, Nat.reduceSub, Nat.reduceLT, Nat.reduceLeDiff, Nat.reduceEqDiff, ↓reduceIte]) <;> omega)) (Nat.zero_le _) (fun i h => absurd h (Nat.not_lt_zero i))))
  intro d2
  have d3 : (r.st != 2) = false := by simp at d2 ⊢; exact d2
  have hh : isHead nm r = true := by rw [hisH, d1, d2]; rfl
  have chh := chr hh
  rw [← hP] at chh satr
  have hP1 := chh.2
  apply Exists.elim (show ∃ s, S[P]? = some s from ⟨S[P]'hc.2, List.getElem?_eq_getElem _⟩)
  intro sc hsc
  have hAk := satr sc hr hh hsc
  apply Exists.elim (hout P r sc chh.1 hsc)
  intro c hcc
  have c30 := hcc.1
  have hcl := hcc.2.1
  have hinc := hcc.2.2
  rw [← hW] at hinc
  rw [hcl] at c3r
  have hsn' := hsn P r sc chh.1 hsc
  have q1 : (0 ≤ (k : Int) ∧ (k : Int) < A.q.length) = True := eq_true (by omega)
  have q2 : (k < A.q.length) = True := eq_true (by omega)
  have q3 : (0 ≤ (P : Int) ∧ (P : Int) < S.length) = True := eq_true (by omega)
  have q4 : (P < S.length) = True := eq_true hc.2
  have m1 : (0 ≤ (c : Int) ∧ (c : Int) < ((30 : Nat) : Int)) = True := eq_true (by omega)
  have m1' : (0 ≤ (c : Int) ∧ (c : Int) < 30) = True := eq_true (by omega)
  have p3 : (c + 1 ≤ 30) = True := eq_true (by omega)
  have p3' : (c ≤ 29) = True := eq_true (by omega)
  have w3 : IntKind.i64.wrap ((P : Int) + 1) = ((P + 1 : Nat) : Int) := by rw [i64_in _ (by omega)]; simp
  have hWl := hIL (PS ++ W)
  have hpk1 := hpk (PS ++ W) r.ch c hcl c30
  have hWc := hIA (PS ++ W) c c30
  rw [hinc] at hWc
  have hass : PS ++ W ++ [⟨2, r.ch⟩] = PS ++ (W ++ [⟨2, r.ch⟩]) := List.append_assoc _ _ _
  rw [hass] at hpk1
  generalize hV : inA t.lg (PS ++ W) = V at hWl hpk1 hWc ⊢
  apply Exists.elim (ld_agg (l := V) (c := c) (by omega))
  intro rr g
  rw [hWc] at g
  have hsp := spl_bv (W := V) (c := c) (by omega) true
  rw [← hpk1] at hsp
  have zs : (sc != sc) = false := zn sc
  have zb : ((sc == 6) != (sc == 6)) = false := by simp
  have sst : (setSt r sc).st = sc := rfl
  simp (maxSteps := 4000000) -implicitDefEqProofs only [go_sem, f1, f2, k1, k2, hr, d1, d3, b1, b2, Option.some.injEq, forall_eq', and_true, true_and, Bool.not_true, Bool.not_false, decide_true, Nat.reduceAdd, Nat.reduceSub, Nat.reduceLT, Nat.reduceLeDiff, Nat.reduceEqDiff, ↓reduceIte]
  refine ecall0 _ c3r (by simp only [go_sem]) (by simp only [go_sem]) ?_
  simp (maxSteps := 4000000) -implicitDefEqProofs only [go_sem, Nat.reduceAdd, Nat.reduceSub, Nat.reduceLT, Nat.reduceLeDiff, Nat.reduceEqDiff, ↓reduceIte]
  refine DX.plain (.take 0 false (.take 1 false (.take 2 false (.take 3 false (.take 4 false (.take 5 false (.take 6 false (.take 7 false (.take 8 false (.take 9 false (.take 10 false (.take 11 false (.take 12 false (.take 13 false (.take 14 false (.take 15 false (.take 16 false (.take 17 false (.take 18 false (.take 19 false (.take 20 false (.take 21 false .done)))))))))))))))))))))) (by kernel_rfl) (by kernel_rfl) Ty.mixed ?_
  simp (maxSteps := 4000000) -implicitDefEqProofs only [go_sem, q1, q2, hAk, q3, q4, hsc, sst, zs, m1, m1', g, zb, Option.some.injEq, forall_eq', and_true, true_and, Bool.not_true, Bool.not_false, decide_true, Nat.reduceAdd, Nat.reduceSub, Nat.reduceLT, Nat.reduceLeDiff, Nat.reduceEqDiff, ↓reduceIte]
  apply Or.elim (bz (sc == 5))
  · intro d5
    have s5 : sc = 5 := by simpa using d5
    rw [s5, if_pos rfl] at hsn'
    have hW1 : evs ++ apL (H.take (P + 1)) (S.take (P + 1)) = W ++ [⟨2, r.ch⟩] := by rw [hsn', hW, List.append_assoc]
    have hWl1 : (W ++ [⟨2, r.ch⟩] : List Ev).length = W.length + 1 := by simp
    have hEW : E1[W.length]? = some ⟨2, r.ch⟩ := by
      rw [hE1, hW, List.length_append, List.getElem?_append_right (by omega), Nat.add_sub_cancel_left]
      exact hat P r chh.1 (by rw [hsc, s5])
    have hlt := some_lt hEW
    have p0 : decide ((E1.length : Int) ≤ W.length) = false := by simp; omega
    have p1 : (0 ≤ (W.length : Int) ∧ (W.length : Int) < E1.length) = True := eq_true (by omega)
    have p2 : (W.length < E1.length) = True := eq_true hlt
    have w2 : IntKind.i64.wrap ((W.length : Int) + 1) = ((W.length + 1 : Nat) : Int) := by rw [i64_in _ (by omega)]; simp
    have dd : decide (r.ch = r.ch) = true := by simp
    have v2 : ((2 : Int) == 2) = true := rfl
    have sv : (r.st == r.st) = true := by simp
    simp (maxSteps := 4000000) -implicitDefEqProofs only [go_sem, d5, q3, q4, hsc, m1, m1', p3, p3', hsp, hWl, Option.some.injEq, forall_eq', and_true, true_and, Bool.not_true, Bool.not_false, decide_true, Nat.reduceAdd, Nat.reduceSub, Nat.reduceLT, Nat.reduceLeDiff, Nat.reduceEqDiff, ↓reduceIte]
    have n2 : ((2 : Int) != 2) = false := rfl
    refine DX.plain (.take 0 false (.take 1 false (.take 2 false (.take 3 false (.take 4 false (.take 5 false (.take 6 false (.take 7 false (.take 8 false (.take 9 false (.take 10 false (.take 11 false (.take 12 false (.take 13 false (.take 14 false (.take 15 false (.take 16 false (.take 17 false (.take 18 false (.take 19 false (.take 20 false (.take 21 false (.take 22 false (.take 23 false .done)))))))))))))))))))))))) (by kernel_rfl) (by kernel_rfl) Ty.mixed ?_
    simp (maxSteps := 4000000) -implicitDefEqProofs only [go_sem, n5, n6, hs1, p0, p1, p2, hEW, dd, v2, n2, b1, b2, w2, w3, w1, Option.some.injEq, forall_eq', and_true, true_and, Bool.not_true, Bool.not_false, decide_true, Nat.reduceAdd, Nat.reduceSub, Nat.reduceLT, Nat.reduceLeDiff, Nat.reduceEqDiff, ↓reduceIte]
    exact .mk (k + 1) ⟨hc.1, by rw [hP1]; omega⟩ (by omega) (by rw [hP1, hW1, hWl1]; exact (Wk.via [0, 1, 2] (by (simp only [go_sem, ↓reduceIte]) <;> trivial) (by first | (simp (maxSteps := 4000000) -implicitDefEqProofs only [go_sem, Nat.reduceAdd, Nat.reduceSub, Nat.reduceLT, Nat.reduceLeDiff, Nat.reduceEqDiff, ↓reduceIte]; done) | ((simp (maxSteps := 4000000) -implicitDefEqProofs only [go_sem, Nat.reduceAdd, Nat.reduceSub, Nat.reduceLT, Nat.reduceLeDiff, Nat.reduceEqDiff, ↓reduceIte]) <;> omega)) (by simp) (by first | (simp; done) | (simp [so]; done)) (by (simp (maxSteps := 4000000) -implicitDefEqProofs only [go_sem, Nat.reduceAdd, Nat.reduceSub, Nat.reduceLT, Nat.reduceLeDiff, Nat.reduceEqDiff, ↓reduceIte]) <;> trivial) (by first | (simp only [go_sem]; done) | ((simp (maxSteps := 4000000) -implicitDefEqProofs only [go_sem, Nat.reduceAdd, Nat.reduceSub, Nat.reduceLT, Nat.reduceLeDiff, Nat.reduceEqDiff, ↓reduceIte]) <;> omega)) (Nat.zero_le _) (fun i h => absurd h (Nat.not_lt_zero i))))
  · intro d5
    have hW1 : evs ++ apL (H.take (P + 1)) (S.take (P + 1)) = W := by rw [hsn', if_neg (by simpa using d5), List.append_nil, hW]
    simp (maxSteps := 4000000) -implicitDefEqProofs only [go_sem, d5, q3, q4, hsc, w1, w3, Option.some.injEq, forall_eq', and_true, true_and, Bool.not_true, Bool.not_false, decide_true, Nat.reduceAdd, Nat.reduceSub, Nat.reduceLT, Nat.reduceLeDiff, Nat.reduceEqDiff, ↓reduceIte]
    exact .mk (k + 1) ⟨hc.1, by rw [hP1]; omega⟩ (by omega) (by rw [hP1, hW1, hV]; exact (Wk.via [0, 1, 2] (by (simp only [go_sem, ↓reduceIte]) <;> trivial) (by first | (simp (maxSteps := 4000000) -implicitDefEqProofs only [go_sem, Nat.reduceAdd, Nat.reduceSub, Nat.reduceLT, Nat.reduceLeDiff, Nat.reduceEqDiff, ↓reduceIte]; done) | ((simp (maxSteps := 4000000) -implicitDefEqProofs only [go_sem, Nat.reduceAdd, Nat.reduceSub, Nat.reduceLT, Nat.reduceLeDiff, Nat.reduceEqDiff, ↓reduceIte]) <;> omega)) (by simp) (by first | (simp; done) | (simp [so]; done)) (by (simp (maxSteps := 4000000) -implicitDefEqProofs only [go_sem, Nat.reduceAdd, Nat.reduceSub, Nat.reduceLT, Nat.reduceLeDiff, Nat.reduceEqDiff, ↓reduceIte]) <;> trivial) (by first | (simp only [go_sem]; done) | ((simp (maxSteps := 4000000) -implicitDefEqProofs only [go_sem, Nat.reduceAdd, Nat.reduceSub, Nat.reduceLT, Nat.reduceLeDiff, Nat.reduceEqDiff, ↓reduceIte]) <;> omega)) (Nat.zero_le _) (fun i h => absurd h (Nat.not_lt_zero i))))
end Go.AX.Tr

/- AX, part O: maps that the call makes. -/
import Derived.Test.YtnmgmlmiijljmaaAxN
set_option linter.unusedVariables false
set_option linter.unusedSimpArgs false
namespace Go.AX
section
variable {P : Program} {o : Oper} {a : Act} {c : Cf} {σ : List AObj} {env : List AV}

/-- a key, a value of a map: its cells, as one value -/
def vv (b : Bool) (cs : List D) : Value := if b then .agg (cs.map toV).toArray else toV (cs.headD (.bool false))
def kindOk (b : Bool) (ks : List DK) (cs : List D) : Prop := cs.map dk = ks.map some ∧ (b = false → ks.length = 1)
/-- keys of this type are plain: what a look for one does -/
structure KeyT (P : Program) (kt : TypeId) (b : Bool) (ks : List DK) : Prop where
  check : ∀ (k : List D) (e : Bool) (w : World), kindOk b ks k → (Instr.checkKey e 10000 kt (vv b k)).run P w = .ok () w
  find : ∀ (k : List D) (kds : List (List D)) (es : List MapEntry) (w : World), kindOk b ks k → (∀ x ∈ kds, kindOk b ks x) → es.map (·.key) = kds.map (vv b) →
    (Instr.findKey kt (vv b k) es).run P w = .ok ((kds.findIdx? (deqs k)).map fun i => (i, ((es[i]?).map (·.val)).getD undef)) w

def lkM (k : List D) : List (List D × List D) → Option (List D)
  | [] => none
  | (k', v) :: es => if deqs k k' then some v else lkM k es
def upM (k v : List D) : List (List D × List D) → List (List D × List D)
  | [] => [(k, v)]
  | (k', v') :: es => if deqs k k' then (k, v) :: es else (k', v') :: upM k v es
def keyOf : AV → Option (Bool × List D)
  | .d x => some (false, [x])
  | .agg cs => match dsOf cs with
    | some ds => some (true, ds)
    | none => none
  | _ => none
def mt (P : Program) (t : TypeId) : Option (TypeId × TypeId) :=
  match P.underlying t with
  | some (.map k e) => some (k, e)
  | _ => none
def zv1 (b : Bool) : Value → Option (List D)
  | .agg cs => if b then dsOf (cs.toList.map cv1) else none
  | v => if b then none else dsOf [cv1 v]
def zv (P : Program) (t : TypeId) : Option (Bool × List D) :=
  match tk P t, P.info? t with
  | some (b, _), some i => match i.zero with
    | some z => match zv1 b z with
      | some ds => some (b, ds)
      | none => none
    | none => none
  | _, _ => none
theorem dsOf_map : ∀ {cs : List AV} {ds : List D}, dsOf cs = some ds → cs = ds.map .d
  | [], ds, h => by simp [dsOf] at h; subst h; rfl
  | x :: xs, ds, h => by
    cases x <;> simp only [dsOf] at h <;> try (simp at h; done)
    case d x =>
      split at h
      · next zs e => simp at h; subst h; simp [dsOf_map e]
      · simp at h
theorem AR_dv {b : Bool} {ds : List D} {v : Value} {z : Value} (h : zv1 b z = some ds) (c : Cf) : AR c (dv b ds) z := by
  cases z <;> simp only [zv1] at h <;> cases b <;> simp at h
  case agg.true cs =>
    have := dsOf_map h
    simp only [dv, if_true, ← this, AR]
    exact ⟨cs, rfl, ARs_map_cv1 c _⟩
  all_goals
    have := dsOf_map h
    cases ds with
    | nil => simp at this
    | cons d ds =>
      simp at this
      simp only [dv, Bool.false_eq_true, if_false, List.headD_cons, ← this.1]
      exact AR_cv1 c _
theorem kinds_some {ds : List D} {ks : List DK} (h : ds.map dk = ks.map some) : ∀ d ∈ ds, dk d ≠ none := fun d hd => by
  have : dk d ∈ ks.map some := by rw [← h]; exact List.mem_map_of_mem hd
  obtain ⟨k, _, e⟩ := List.mem_map.1 this
  rw [← e]; simp
theorem ARs_toV : ∀ (cs : List D) (ks : List DK), cs.map dk = ks.map some → ARs c (cs.map .d) (cs.map toV)
  | [], _, _ => by simp [ARs]
  | x :: xs, [], e => by simp at e
  | x :: xs, k :: ks, e => by
    simp at e
    simp only [List.map_cons, ARs_cons]
    refine ⟨?_, ARs_toV xs ks e.2⟩
    cases x <;> simp [dk] at e <;> simp [AR, DR, toV]
theorem AR_vv {b : Bool} {ks : List DK} {cs : List D} {v : Value} (hk : kindOk b ks cs) : AR c (dv b cs) v ↔ v = vv b cs := by
  obtain ⟨h1, h2⟩ := hk
  cases b with
  | true =>
    simp only [dv, vv, if_true, AR]
    constructor
    · rintro ⟨vs, rfl, hr⟩
      have r := dsOf_sound (ys := cs) (by clear h1 h2 hr; induction cs with | nil => rfl | cons x xs ih => simp [dsOf, ih]) hr
      rw [← DRs_toV r h1]
    · rintro rfl
      refine ⟨_, rfl, ?_⟩
      simpa using ARs_toV cs ks h1
  | false =>
    have hl := h2 rfl
    cases cs with
    | nil => simp at h1; rw [h1] at hl; simp at hl
    | cons x xs =>
      have hd : dk x ≠ none := kinds_some h1 x (by simp)
      simp only [dv, vv, Bool.false_eq_true, if_false, List.headD_cons, AR]
      cases x <;> simp [dk] at hd <;> simp [DR, toV]

theorem ents_keys {ka va : Bool} {ks : List DK} : ∀ {es : List (List D × List D)} {ms : List MapEntry}, Ents c ka va es ms → (∀ x ∈ es, kindOk ka ks x.1) → ms.map (·.key) = (es.map (·.1)).map (vv ka)
  | [], [], _, _ => rfl
  | (k, v) :: es, m :: ms, r, h => by
    simp only [Ents] at r
    simp only [List.map_cons]
    rw [ents_keys r.2.2 fun x hx => h x (by simp [hx]), (AR_vv (h (k, v) (by simp))).1 r.1]
  | [], _ :: _, r, _ => by simp [Ents] at r
  | _ :: _, [], r, _ => by simp [Ents] at r
theorem ents_find {ka va : Bool} {k : List D} : ∀ {es : List (List D × List D)} {ms : List MapEntry}, Ents c ka va es ms →
    match (es.map (·.1)).findIdx? (deqs k) with
    | some i => ∃ m v, ms[i]? = some m ∧ lkM k es = some v ∧ AR c (dv va v) m.val
    | none => lkM k es = none
  | [], [], _ => by simp [lkM]
  | (k', v) :: es, m :: ms, r => by
    simp only [Ents] at r
    have ih := ents_find (k := k) r.2.2
    simp only [List.map_cons, List.findIdx?_cons, lkM]
    by_cases q : deqs k k' = true
    · simp only [q, if_true]
      exact ⟨m, v, rfl, rfl, r.2.1⟩
    · simp only [q, if_false]
      cases h : (es.map (·.1)).findIdx? (deqs k) with
      | none => rw [h] at ih; simpa using ih
      | some i => rw [h] at ih; simpa using ih
  | [], _ :: _, r => by simp [Ents] at r
  | _ :: _, [], r => by simp [Ents] at r

theorem keyOf_sound2 {x : AV} {v : Value} {b : Bool} {ds : List D} {ks : List DK} (h : keyOf x = some (b, ds)) (hx : AR c x v) (hk : kindOk b ks ds) : v = vv b ds := by
  have : dv b ds = x := by
    cases x <;> simp only [keyOf] at h <;> try (simp at h; done)
    case d x => simp at h; obtain ⟨rfl, rfl⟩ := h; simp [dv]
    case agg cs =>
      split at h
      · next ds' e => simp at h; obtain ⟨rfl, rfl⟩ := h; simp [dv, ← dsOf_map e]
      · simp at h
  rw [← this] at hx
  exact (AR_vv hk).1 hx

/-! ### make -/
def evMakeMap (σ : List AObj) (P : Program) (t : TypeId) : Option (TypeId × TypeId) → Option AV → R1
  | some (k, e), none => match tk P k, tk P e with
    | some (ka, _), some (va, _) => .to (.mp σ.length) (σ ++ [.map ka va []])
    | _, _ => .bad
  | some (k, e), some h => match tk P k, tk P e, evIx h with
    | some (ka, _), some (va, _), some _ => .to (.mp σ.length) (σ ++ [.map ka va []])
    | _, _, _ => .bad
  | none, _ => .bad
def oEv (env : List AV) : Option Operand → Option AV
  | some x => some (evO env x)
  | none => none
theorem mt_spec {t k e : TypeId} (h : mt P t = some (k, e)) : P.underlying t = some (.map k e) := by
  unfold mt at h
  split at h
  · next k' e' hu => simp at h; obtain ⟨rfl, rfl⟩ := h; exact hu
  · simp at h
theorem evMakeMap_ok (H : Holds c σ) (he : ARs c env a.tmps.toList) {t : TypeId} {r : Option Operand} (ho : o.op = .makeMap t r) : (evMakeMap σ P t (mt P t) (oEv env r)).Ok P o a c σ := by
  have fin : ∀ ka va, (Instr.makeMap t (r.map a.eval)).run P c.w = .ok (.map (some c.w.heap.size)) (c.w.alloc (.map #[] 0)) → (R1.to (.mp σ.length) (σ ++ [.map ka va []])).Ok P o a c σ := fun ka va hrun => by
    have N := Nxt.new H (.map #[] 0) undef (.map ka va []) ⟨#[], 0, by
      have : (c.put (c.w.alloc (.map #[] 0)) c.w.heap.size undef).ν c.n = c.w.heap.size := by simp [Cf.put]
      rw [this]
      show (c.w.heap.push _)[c.w.heap.size]? = _
      simp, by simp [Ents]⟩
    refine ⟨.value (.map (some c.w.heap.size)), _, _, ?_, .inl rfl, ?_, N⟩
    · simp [execOp, ho, hrun]; rfl
    · simp only [AR]; exact ⟨by simp [Cf.put, H.n], by simp [Cf.put, H.n]⟩
  cases hm : mt P t with
  | none => trivial
  | some q =>
    obtain ⟨k, e⟩ := q
    have hu := mt_spec hm
    cases r with
    | none =>
      simp only [oEv, evMakeMap]
      split
      · exact fin _ _ (by simp [Instr.makeMap])
      · trivial
    | some x =>
      simp only [oEv, evMakeMap]
      split
      · next hix =>
        rename_i q' _ _
        obtain ⟨kk, i⟩ := q'
        have := evIx_sound hix (evO_sound he x)
        exact fin _ _ (by simp [Instr.makeMap, run_underlying' hu, this, asInt, asIntOf])
      · trivial

/-! ### look up -/
def lkV (va ok : Bool) (z : List D) (r : Option (List D)) : AV :=
  if ok then .tup [dv va (r.getD z), .d (.bool r.isSome)] else dv va (r.getD z)
def evLookup2 (P : Program) (σ : List AObj) (ok : Bool) (kt : TypeId) (b : Bool) (kc : List D) (vb : Bool) (z : List D) : AObj → R1
  | .map ka va es => .need (b = ka ∧ vb = va ∧ ∃ ks, KeyT P kt b ks ∧ kindOk b ks kc ∧ ∀ x ∈ es, kindOk b ks x.1) (.to (lkV vb ok z (lkM kc es)) σ)
  | _ => .bad
def evLookup (P : Program) (σ : List AObj) (ok : Bool) (k : Option (Bool × List D)) : Option (TypeId × TypeId) → AV → R1
  | some (kt, et), .mp l => match k, zv P et with
    | some (b, kc), some (vb, z) => evLookup2 P σ ok kt b kc vb z (ob σ l)
    | _, _ => .bad
  | _, _ => .bad
theorem zv_spec {t : TypeId} {b : Bool} {ds : List D} (h : zv P t = some (b, ds)) (c : Cf) (w : World) : ∃ z, (zeroValue t).run P w = .ok z w ∧ AR c (dv b ds) z := by
  unfold zv at h
  split at h
  · next b' n i h1 h2 =>
    split at h
    · next z hz =>
      split at h
      · next ds' h3 =>
        simp at h; obtain ⟨rfl, rfl⟩ := h
        exact ⟨z, by simp [zeroValue, typeInfo, h2, hz], AR_dv (v := z) h3 c⟩
      · simp at h
    · simp at h
  · simp at h
theorem evLookup_ok (H : Holds c σ) (he : ARs c env a.tmps.toList) {t : TypeId} {x y : Operand} {ok : Bool} (ho : o.op = .lookup t x y ok) : (evLookup P σ ok (keyOf (evO env y)) (mt P t) (evO env x)).Ok P o a c σ := by
  have hx := evO_sound he x
  have hy := evO_sound he y
  unfold evLookup
  split
  · next q kt et l hm e1 =>
    rw [e1] at hx
    simp only [AR] at hx
    have hu := mt_spec hm
    split
    · next r1 r2 b kc vb z hk hz =>
      generalize hO : ob σ l = O
      cases O <;> try trivial
      case map ka va es =>
        rintro ⟨rfl, rfl, ks, hKT, hkc, hes⟩
        obtain ⟨ms, ck, hob, hE⟩ := H.obj l _ (ob_some hO (by simp))
        obtain ⟨zval, hzr, hza⟩ := zv_spec hz c c.w
        have hky := (keyOf_sound2 hk hy hkc)
        have hfind := hKT.find kc (es.map (·.1)) ms.toList c.w hkc (by intro x hx; obtain ⟨y, hy, rfl⟩ := List.mem_map.1 hx; exact hes y hy) (ents_keys hE hes)
        have hchk := hKT.check kc ms.isEmpty c.w hkc
        have hL := ents_find (k := kc) hE
        have hres : ∃ v, (Instr.lookup t (a.eval x) (a.eval y) ok).run P c.w = .ok v c.w ∧ AR c (lkV vb ok z (lkM kc es)) v := by
          cases hi : (es.map (·.1)).findIdx? (deqs kc) with
          | none =>
            rw [hi] at hL hfind
            simp only [Option.map_none] at hfind
            simp only at hL
            rw [hL]
            cases ok with
            | true =>
              refine ⟨.tuple #[zval, .bool false], ?_, by simp [lkV, AR, ARs, DR, hza]⟩
              simp [Instr.lookup, run_underlying' hu, hx.2, getObj, Sem.run, hob, hky, hchk, hfind, hzr]
            | false =>
              refine ⟨zval, ?_, by simp [lkV, hza]⟩
              simp [Instr.lookup, run_underlying' hu, hx.2, getObj, Sem.run, hob, hky, hchk, hfind, hzr]
          | some i =>
            rw [hi] at hL hfind
            simp only [Option.map_some] at hfind
            simp only at hL
            obtain ⟨m, v, q1, q2, q3⟩ := hL
            rw [q2]
            have q1' : ms.toList[i]? = some m := q1
            cases ok with
            | true =>
              refine ⟨.tuple #[m.val, .bool true], ?_, by simp [lkV, AR, ARs, DR, q3]⟩
              simp [Instr.lookup, run_underlying' hu, hx.2, getObj, Sem.run, hob, hky, hchk, hfind]
              simpa using congrArg (fun z => (z.map (·.val)).getD undef) q1'
            | false =>
              refine ⟨m.val, ?_, by simp [lkV, q3]⟩
              simp [Instr.lookup, run_underlying' hu, hx.2, getObj, Sem.run, hob, hky, hchk, hfind]
              simpa using congrArg (fun z => (z.map (·.val)).getD undef) q1'
        obtain ⟨v, h1, h2⟩ := hres
        exact R1.Ok_to H (by simp [execOp, ho, h1]) h2
    · trivial
  · trivial

/-! ### store into a map -/
theorem deq_eq {x y : D} {k : DK} (hx : dk x = some k) (hy : dk y = some k) (h : deq x y = true) : x = y := by
  cases x <;> cases y <;> simp [dk] at hx hy <;> simp [deq] at h
  case int.int k1 n1 k2 n2 => rw [← hx] at hy; simp at hy; rw [hy, h]
  case bool.bool => rw [h]
  case str.str s u =>
    have : s = u := by
      apply ByteArray.ext
      rw [ByteArray.toList_eq, ByteArray.toList_eq] at h
      exact Array.toList_inj.1 h
    rw [this]
theorem deqs_eq : ∀ {xs ys : List D} {ks : List DK}, xs.map dk = ks.map some → ys.map dk = ks.map some → deqs xs ys = true → xs = ys
  | [], [], _, _, _, _ => rfl
  | x :: xs, y :: ys, [], h, _, _ => by simp at h
  | x :: xs, y :: ys, k :: ks, hx, hy, h => by
    simp at hx hy
    simp [deqs] at h
    rw [deq_eq hx.1 hy.1 h.1, deqs_eq hx.2 hy.2 h.2]
  | [], _ :: _, _, _, _, h => by simp [deqs] at h
  | _ :: _, [], _, _, _, h => by simp [deqs] at h
theorem sameBits_one {x : D} (h : dk x ≠ none) (n : Nat) : Instr.sameBits n (toV x) (toV x) = true := by
  cases x <;> simp [dk] at h <;> cases n <;> simp [toV, Instr.sameBits, beq_toListBytes]
theorem sameBits_vv {b : Bool} {ks : List DK} {cs : List D} (h : kindOk b ks cs) (n : Nat) : Instr.sameBits (n + 1) (vv b cs) (vv b cs) = true := by
  obtain ⟨h1, h2⟩ := h
  have hd := kinds_some h1
  cases b with
  | false =>
    simp only [vv, Bool.false_eq_true, if_false]
    have hl := h2 rfl
    cases cs with
    | nil => simp at h1; rw [h1] at hl; simp at hl
    | cons x xs => exact sameBits_one (hd x (by simp)) _
  | true =>
    simp only [vv, if_true, Instr.sameBits]
    simp only [beq_self_eq_true, Bool.true_and]
    clear h1 h2
    have : ∀ (cs : List D), (∀ d ∈ cs, dk d ≠ none) → ((cs.map toV).zip (cs.map toV)).all (fun (x, y) => Instr.sameBits n x y) = true := by
      intro cs
      induction cs with
      | nil => intro _; rfl
      | cons x xs ih => intro hd; simp only [List.map_cons, List.zip_cons_cons, List.all_cons, sameBits_one (hd x (by simp)), Bool.true_and]; exact ih fun d hd' => hd d (by simp [hd'])
    simpa using this cs hd
theorem ents_up {ka va : Bool} {k v : List D} {kx vx : Value} {born : Nat} (hk : AR c (dv ka k) kx) (hv : AR c (dv va v) vx) : ∀ {es : List (List D × List D)} {ms : List MapEntry}, Ents c ka va es ms →
    Ents c ka va (upM k v es) (match (es.map (·.1)).findIdx? (deqs k) with
    | some i => ms.modify i fun e => { e with key := kx, val := vx }
    | none => ms ++ [{ key := kx, val := vx, born := born }])
  | [], [], _ => by simp [upM, Ents, hk, hv]
  | (k', v') :: es, m :: ms, r => by
    simp only [Ents] at r
    have ih := ents_up (born := born) hk hv r.2.2
    simp only [List.map_cons, List.findIdx?_cons, upM]
    by_cases q : deqs k k' = true
    · simp only [q, if_true, List.modify_zero_cons, Ents]
      exact ⟨hk, hv, r.2.2⟩
    · simp only [q, if_false, Bool.false_eq_true]
      cases h : (es.map (·.1)).findIdx? (deqs k) with
      | none => rw [h] at ih; simp only [Option.map_none, List.cons_append, Ents]; exact ⟨r.1, r.2.1, ih⟩
      | some i => rw [h] at ih; simp only [Option.map_some, List.modify_succ_cons, Ents]; exact ⟨r.1, r.2.1, ih⟩
  | [], _ :: _, r => by simp [Ents] at r
  | _ :: _, [], r => by simp [Ents] at r
def evMapUp2 (P : Program) (σ : List AObj) (l : Nat) (kt : TypeId) (b : Bool) (kc : List D) (vb : Bool) (vc : List D) : AObj → R1
  | .map ka va es => .need (b = ka ∧ vb = va ∧ ∃ ks, KeyT P kt b ks ∧ kindOk b ks kc ∧ ∀ x ∈ es, kindOk b ks x.1) (.to .any (so σ l (.map ka va (upM kc vc es))))
  | _ => .bad
def evMapUp (P : Program) (σ : List AObj) (k v : Option (Bool × List D)) : Option (TypeId × TypeId) → AV → R1
  | some (kt, _), .mp l => match k, v with
    | some (b, kc), some (vb, vc) => evMapUp2 P σ l kt b kc vb vc (ob σ l)
    | _, _ => .bad
  | _, _ => .bad
theorem keyOf_dv {x : AV} {b : Bool} {ds : List D} (h : keyOf x = some (b, ds)) : dv b ds = x := by
  cases x <;> simp only [keyOf] at h <;> try (simp at h; done)
  case d x => simp at h; obtain ⟨rfl, rfl⟩ := h; simp [dv]
  case agg cs =>
    split at h
    · next ds' e => simp at h; obtain ⟨rfl, rfl⟩ := h; simp [dv, ← dsOf_map e]
    · simp at h
theorem evMapUp_ok (H : Holds c σ) (he : ARs c env a.tmps.toList) {t : TypeId} {x y z : Operand} (ho : o.op = .mapUpdate t x y z ∨ o.op = .insert t x y z) :
    (evMapUp P σ (keyOf (evO env y)) (keyOf (evO env z)) (mt P t) (evO env x)).Ok P o a c σ := by
  have hx := evO_sound he x
  have hy := evO_sound he y
  have hz := evO_sound he z
  unfold evMapUp
  split
  · next q kt et l hm e1 =>
    rw [e1] at hx
    simp only [AR] at hx
    have hu := mt_spec hm
    split
    · next r1 r2 b kc vb vc hk hv =>
      generalize hO : ob σ l = O
      cases O <;> try trivial
      case map ka va es =>
        rintro ⟨rfl, rfl, ks, hKT, hkc, hes⟩
        have hl := ob_some hO (by simp)
        obtain ⟨ms, ck, hob, hE⟩ := H.obj l _ hl
        have hky := (keyOf_sound2 hk hy hkc)
        have hfind := hKT.find kc (es.map (·.1)) ms.toList c.w hkc (by intro x hx; obtain ⟨y, hy, rfl⟩ := List.mem_map.1 hx; exact hes y hy) (ents_keys hE hes)
        have hchk := hKT.check kc false c.w hkc
        have hkeys := ents_keys hE hes
        have hlt : c.ν l < c.w.heap.size := (Array.getElem?_eq_some_iff.1 hob).1
        have hup := ents_up (born := ck) (by rw [keyOf_dv hk]; exact hy : AR c (dv b kc) (a.eval y)) (by rw [keyOf_dv hv]; exact hz : AR c (dv vb vc) (a.eval z)) hE
        have fin : ∀ (ms' : Array MapEntry) (ck' : Nat), (Instr.mapUpdate t (a.eval x) (a.eval y) (a.eval z)).run P c.w = .ok () { c.w with heap := c.w.heap.setIfInBounds (c.ν l) (.map ms' ck') } →
            Ents c b vb (upM kc vc es) ms'.toList → (R1.to .any (so σ l (.map b vb (upM kc vc es)))).Ok P o a c σ := fun ms' ck' hrun hE' => by
          have N := Nxt.upd H hl (by trivial) { c.w with heap := c.w.heap.setIfInBounds (c.ν l) (.map ms' ck') } (fun b hb => by simp [Array.getElem?_setIfInBounds, Ne.symm hb]) (by simp) rfl rfl rfl (o' := .map b vb (upM kc vc es)) ⟨ms', ck', by
            show (c.w.heap.setIfInBounds (c.ν l) _)[c.ν l]? = _
            simp [hlt], Ents.mono (c.le_at _) hE'⟩
          refine ⟨.skip, undef, _, ?_, .inr ⟨rfl, rfl⟩, by simp [AR], by rw [so_eq]; exact N⟩
          rcases ho with ho | ho <;> simp [execOp, ho, hrun, Cf.at]
        cases hi : (es.map (·.1)).findIdx? (deqs kc) with
        | none =>
          rw [hi] at hup hfind
          simp only [Option.map_none] at hfind
          refine fin (ms.push { key := a.eval y, val := a.eval z, born := ck }) (ck + 1) ?_ (by simpa using hup)
          rw [hky]
          simp [Instr.mapUpdate, run_underlying' hu, hx.2, getObj, setObj, Sem.run, hob, hchk, hfind]
        | some i =>
          rw [hi] at hup hfind
          simp only [Option.map_some] at hfind
          refine fin (ms.modify i fun e => { e with key := a.eval y, val := a.eval z }) ck ?_ (by simpa using hup)
          obtain ⟨hlt2, hde⟩ := List.findIdx?_eq_some_iff_findIdx_eq.1 hi
          have hdq : deqs kc ((es.map (·.1))[i]) = true := by
            have := List.findIdx_getElem (w := by rw [hde]; exact hlt2) (xs := es.map (·.1)) (p := deqs kc)
            simpa [hde] using this
          have hkk : kc = (es.map (·.1))[i] := by
            refine deqs_eq hkc.1 (ks := ks) ?_ hdq
            have : (es.map (·.1))[i] ∈ es.map (·.1) := List.getElem_mem _
            obtain ⟨y', hy', e'⟩ := List.mem_map.1 this
            rw [← e']; exact (hes y' hy').1
          have hold : (ms[i]?).map (·.key) = some (vv b kc) := by
            have : (ms.toList.map (·.key))[i]? = some (vv b kc) := by
              rw [hkeys, List.getElem?_map, List.getElem?_eq_getElem hlt2, ← hkk]; rfl
            simpa using this
          have hkst : ∀ w, (Instr.keyThatStays (vv b kc) (vv b kc)).run P w = .ok (vv b kc) w := fun w => by
            simp [Instr.keyThatStays, sameBits_vv hkc]
          rw [hky]
          simp [Instr.mapUpdate, run_underlying' hu, hx.2, getObj, setObj, Sem.run, hob, hchk, hfind, hold, hkst]
    · trivial
  · trivial
end
end Go.AX

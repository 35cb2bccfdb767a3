/- AX, part Y: '==' of structs, keys of maps. -/
import Derived.Test.YtnmgmlmiijljmaaAxX
import Derived.ChangeKeysEq
set_option linter.unusedVariables false
set_option linter.unusedSimpArgs false
namespace Go.AX
/-- fields one behind the other, with their kinds -/
def flatFs (P : Program) (F : TypeId → Option (List DK)) : Nat → List Field → Option (List DK)
  | _, [] => some []
  | o, f :: fs => if f.name ≠ "_" ∧ f.offset = o then match F f.type, tk P f.type with
      | some ks, some (b, sz) => if ks.length = sz ∧ 0 < sz then match flatFs P F (o + sz) fs with
        | some r => some (ks ++ r)
        | none => none else none
      | _, _ => none
    else none
/-- a type of plain cells: their kinds -/
def flatK (P : Program) : Nat → TypeId → Option (List DK)
  | 0, _ => none
  | n + 1, t => match P.underlying t with
    | some .bool => some [.bool]
    | some (.int k) => some [.int k]
    | some .string => some [.str]
    | some (.struct fs) => if P.stoodInHeld t then none else flatFs P (flatK P n) 0 fs.toList
    | some (.array m e) => match flatK P n e, tk P e with
      | some ks, some (b, sz) => if ks.length = sz ∧ 0 < sz then some (List.replicate m ks).flatten else none
      | _, _ => none
    | _ => none
theorem deqs_append : ∀ {a b c d : List D}, a.length = b.length → deqs (a ++ c) (b ++ d) = (deqs a b && deqs c d)
  | [], [], _, _, _ => by simp [deqs]
  | x :: a, y :: b, c, d, h => by simp only [List.cons_append, deqs, deqs_append (a := a) (b := b) (by simpa using h), Bool.and_assoc]
  | [], _ :: _, _, _, h => by simp at h
  | _ :: _, [], _, _, h => by simp at h
theorem kinds_len {xs : List D} {ks : List DK} (h : xs.map dk = ks.map some) : xs.length = ks.length := by
  have := congrArg List.length h
  simpa using this
section
variable {P : Program} {w : World}
theorem part_vv {t : TypeId} {b : Bool} {sz o : Nat} {X : List D} {w : World} (hk : tk P t = some (b, sz)) (hl : o + sz ≤ X.length) (h1 : b = false → sz = 1) : (part t (X.map toV).toArray o).run P w = .ok (vv b ((X.drop o).take sz)) w := by
  cases b with
  | true =>
    simp only [part, Sem.run_bind, run_isAgg hk, Result.andThen_ok, if_true, run_sizeOf' hk, Sem.run_pure, vv]
    congr 2
    apply Array.ext'
    rw [Array.toList_extract]
    simp [List.extract_eq_take_drop]
  | false =>
    have := h1 rfl
    subst this
    have hlt : o < X.length := by omega
    have hd : (X.drop o).take 1 = [X[o]] := by rw [List.drop_eq_getElem_cons hlt]; rfl
    simp [part, run_isAgg hk, hd, vv, hlt]
theorem flatK_one {n : Nat} {t : TypeId} {ks : List DK} {b : Bool} {sz : Nat} (h : flatK P n t = some ks) (hk : tk P t = some (b, sz)) (hb : b = false) : ks.length = 1 := by
  cases n with
  | zero => simp [flatK] at h
  | succ n =>
    obtain ⟨d, i, h1, h2, h3, h4⟩ := tk_spec hk
    simp only [flatK, h1] at h
    subst hb
    cases d <;> simp only [isAggD] at h3 <;> simp at h <;> (try (subst h; rfl))
    all_goals simp at h3
def EqIn (P : Program) (d : Nat) (t : TypeId) (ks : List DK) : Prop :=
  ∀ (xs ys : List D) (w : World) (b : Bool) (sz : Nat), tk P t = some (b, sz) → xs.map dk = ks.map some → ys.map dk = ks.map some → (Op.equalIn d t (vv b xs) (vv b ys)).run P w = .ok (deqs xs ys) w
theorem eqFields_flat {n d : Nat} (ih : ∀ t ks, flatK P n t = some ks → EqIn P d t ks) {X Y : List D} : ∀ (fs : List Field) (o : Nat) (ks : List DK) (w : World), flatFs P (flatK P n) o fs = some ks → (X.drop o).map dk = ks.map some → (Y.drop o).map dk = ks.map some →
    (Op.eqFields d (X.map toV).toArray (Y.map toV).toArray fs).run P w = .ok (deqs (X.drop o) (Y.drop o)) w
  | [], o, ks, w, h, hx, hy => by
    simp only [flatFs, Option.some.injEq] at h; subst h
    have ex : X.drop o = [] := List.map_eq_nil_iff.1 hx
    have ey : Y.drop o = [] := List.map_eq_nil_iff.1 hy
    simp [Op.eqFields, ex, ey, deqs]
  | f :: fs, o, ks, w, h, hx, hy => by
    simp only [flatFs] at h
    split at h
    · next q =>
      split at h
      · next ks1 b sz e1 e2 =>
        split at h
        · next hl =>
          obtain ⟨hl, hpos⟩ := hl
          split at h
          · next r e3 =>
            simp only [Option.some.injEq] at h
            subst h
            obtain ⟨q1, q2⟩ := q
            subst q2
            have lx := kinds_len hx
            have ly := kinds_len hy
            simp only [List.length_drop, List.length_append] at lx ly
            have hone : b = false → sz = 1 := fun hb => by rw [← hl]; exact flatK_one e1 e2 hb
            have kx1 : ((X.drop f.offset).take sz).map dk = ks1.map some := by rw [List.map_take, hx, List.map_append, ← hl, List.take_left' (by simp)]
            have ky1 : ((Y.drop f.offset).take sz).map dk = ks1.map some := by rw [List.map_take, hy, List.map_append, ← hl, List.take_left' (by simp)]
            have kx2 : (X.drop (f.offset + sz)).map dk = r.map some := by rw [← List.drop_drop, List.map_drop, hx, List.map_append, ← hl, List.drop_left' (by simp)]
            have ky2 : (Y.drop (f.offset + sz)).map dk = r.map some := by rw [← List.drop_drop, List.map_drop, hy, List.map_append, ← hl, List.drop_left' (by simp)]
            have go := eqFields_flat ih fs (f.offset + sz) r w e3 kx2 ky2
            have one := ih _ _ e1 _ _ w b sz e2 kx1 ky1
            have split1 : deqs (X.drop f.offset) (Y.drop f.offset) = (deqs ((X.drop f.offset).take sz) ((Y.drop f.offset).take sz) && deqs (X.drop (f.offset + sz)) (Y.drop (f.offset + sz))) := by
              rw [← List.drop_drop, ← List.drop_drop, ← deqs_append (by rw [List.length_take, List.length_take, List.length_drop, List.length_drop]; omega), List.take_append_drop, List.take_append_drop]
            rw [split1]
            simp only [Op.eqFields, q1, ne_eq, not_false_eq_true, if_true, Sem.run_bind, part_vv e2 (show f.offset + sz ≤ X.length by omega) hone, part_vv e2 (show f.offset + sz ≤ Y.length by omega) hone, Result.andThen_ok, one]
            cases deqs ((X.drop f.offset).take sz) ((Y.drop f.offset).take sz) with
            | true => simp only [Bool.not_true, Bool.false_eq_true, if_false, Bool.true_and]; exact go
            | false => simp
          · simp at h
        · simp at h
      · simp at h
    · simp at h
theorem cells_tk {t : TypeId} {b : Bool} {sz : Nat} (h : tk P t = some (b, sz)) : P.cellsOf t = sz := by
  obtain ⟨d, i, h1, h2, h3, h4⟩ := tk_spec h
  simp [Program.cellsOf, h2, h4]
theorem eqItems_flat {d : Nat} {e : TypeId} {ks : List DK} {b : Bool} {sz : Nat} (he : EqIn P d e ks) (hk : tk P e = some (b, sz)) (hl : ks.length = sz) (hpos : 0 < sz) (hone : b = false → sz = 1) {X Y : List D} : ∀ (r j : Nat) (w : World), (X.drop (j * sz)).map dk = ((List.replicate r ks).flatten).map some → (Y.drop (j * sz)).map dk = ((List.replicate r ks).flatten).map some →
    (Op.eqItems d e sz (X.map toV).toArray (Y.map toV).toArray (List.range' j r)).run P w = .ok (deqs (X.drop (j * sz)) (Y.drop (j * sz))) w
  | 0, j, w, hx, hy => by
    have ex : X.drop (j * sz) = [] := List.map_eq_nil_iff.1 hx
    have ey : Y.drop (j * sz) = [] := List.map_eq_nil_iff.1 hy
    simp [Op.eqItems, ex, ey, deqs]
  | r + 1, j, w, hx, hy => by
    rw [List.replicate_succ, List.flatten_cons] at hx hy
    have lx := kinds_len hx
    have ly := kinds_len hy
    simp only [List.length_drop, List.length_append] at lx ly
    have ej : (j + 1) * sz = j * sz + sz := by rw [Nat.add_mul, Nat.one_mul]
    have kx1 : ((X.drop (j * sz)).take sz).map dk = ks.map some := by rw [List.map_take, hx, List.map_append, ← hl, List.take_left' (by simp)]
    have ky1 : ((Y.drop (j * sz)).take sz).map dk = ks.map some := by rw [List.map_take, hy, List.map_append, ← hl, List.take_left' (by simp)]
    have kx2 : (X.drop ((j + 1) * sz)).map dk = ((List.replicate r ks).flatten).map some := by rw [ej, ← List.drop_drop, List.map_drop, hx, List.map_append, ← hl, List.drop_left' (by simp)]
    have ky2 : (Y.drop ((j + 1) * sz)).map dk = ((List.replicate r ks).flatten).map some := by rw [ej, ← List.drop_drop, List.map_drop, hy, List.map_append, ← hl, List.drop_left' (by simp)]
    have go := eqItems_flat he hk hl hpos hone r (j + 1) w kx2 ky2
    have one := he _ _ w b sz hk kx1 ky1
    have split1 : deqs (X.drop (j * sz)) (Y.drop (j * sz)) = (deqs ((X.drop (j * sz)).take sz) ((Y.drop (j * sz)).take sz) && deqs (X.drop ((j + 1) * sz)) (Y.drop ((j + 1) * sz))) := by
      rw [ej, ← List.drop_drop, ← List.drop_drop, ← deqs_append (by rw [List.length_take, List.length_take, List.length_drop, List.length_drop]; omega), List.take_append_drop, List.take_append_drop]
    rw [split1]
    simp only [List.range'_succ, Op.eqItems, Sem.run_bind, part_vv hk (show j * sz + sz ≤ X.length by omega) hone, part_vv hk (show j * sz + sz ≤ Y.length by omega) hone, Result.andThen_ok, one]
    cases deqs ((X.drop (j * sz)).take sz) ((Y.drop (j * sz)).take sz) with
    | true => simp only [Bool.not_true, Bool.false_eq_true, if_false, Bool.true_and]; exact go
    | false => simp
theorem dk_cases {x : D} {k : DK} (h : dk x = some k) : match k with
    | .int i => ∃ n, x = .int i n
    | .bool => ∃ b, x = .bool b
    | .str => ∃ s, x = .str s := by
  cases x <;> simp [dk] at h <;> subst h <;> simp
theorem one_of {xs : List D} {k : DK} (h : xs.map dk = [k].map some) : ∃ x, xs = [x] ∧ dk x = some k := by
  match xs, h with
  | [x], h => exact ⟨x, rfl, by simpa using h⟩
  | [], h => simp at h
  | _ :: _ :: _, h => simp at h
theorem eqIn_flat : ∀ (n d : Nat) (t : TypeId) (ks : List DK), n ≤ d → flatK P n t = some ks → EqIn P d t ks
  | 0, _, _, _, _, h => by simp [flatK] at h
  | n + 1, 0, _, _, hd, _ => by omega
  | n + 1, d + 1, t, ks, hd, h => by
    intro xs ys w b sz hk hx hy
    obtain ⟨de, i, h1, h2, h3, h4⟩ := tk_spec hk
    simp only [flatK, h1] at h
    cases de <;> simp only [isAggD] at h3 <;> simp only [Option.some.injEq] at h <;> (try (simp at h; done))
    case bool =>
      subst h; subst h3
      obtain ⟨x, rfl, k1⟩ := one_of hx
      obtain ⟨y, rfl, k2⟩ := one_of hy
      obtain ⟨a, rfl⟩ := dk_cases k1
      obtain ⟨c, rfl⟩ := dk_cases k2
      simp [vv, toV, deqs, deq, run_equalIn_bool' w d t a c h1]
    case int k =>
      subst h; subst h3
      obtain ⟨x, rfl, k1⟩ := one_of hx
      obtain ⟨y, rfl, k2⟩ := one_of hy
      obtain ⟨a, rfl⟩ := dk_cases k1
      obtain ⟨c, rfl⟩ := dk_cases k2
      simp [vv, toV, deqs, deq, run_equalIn_int w d t k k a c h1]
    case string =>
      subst h; subst h3
      obtain ⟨x, rfl, k1⟩ := one_of hx
      obtain ⟨y, rfl, k2⟩ := one_of hy
      obtain ⟨a, rfl⟩ := dk_cases k1
      obtain ⟨c, rfl⟩ := dk_cases k2
      simp only [vv, toV, deqs, deq, List.headD_cons, Bool.and_true, Bool.false_eq_true, if_false]
      exact run_equalIn_string w d t a c h1
    case struct fs =>
      split at h
      · simp at h
      · next hs =>
        subst h3
        have hf : P.fieldsOf t = fs := by simp [Program.fieldsOf, h1]
        simp only [vv, if_true]
        rw [run_equalIn_struct w d t _ _ (by rw [hf]; exact h1) (by simpa using hs), hf]
        have := eqFields_flat (X := xs) (Y := ys) (fun t ks q => eqIn_flat n d t ks (by omega) q) fs.toList 0 ks w h (by simpa using hx) (by simpa using hy)
        simpa using this
    case array m e =>
      split at h
      · next ks1 b1 sz1 e1 e2 =>
        split at h
        · next hl =>
          simp only [Option.some.injEq] at h
          subst h; subst h3
          obtain ⟨de2, i2, g1, g2, g3, g4⟩ := tk_spec e2
          simp only [vv, if_true]
          rw [run_equalIn_array w d _ _ h1 g2, cells_tk e2, List.range_eq_range']
          have := eqItems_flat (eqIn_flat n d e ks1 (by omega) e1) e2 hl.1 hl.2 (fun hb => by rw [← hl.1]; exact flatK_one e1 e2 hb) (X := xs) (Y := ys) m 0 w (by simpa using hx) (by simpa using hy)
          simpa using this
        · simp at h
      · simp at h
theorem eqT_flat {n : Nat} {t : TypeId} {ks : List DK} {sz : Nat} (h : flatK P n t = some ks) (hn : n ≤ 10000) (hk : tk P t = some (true, sz)) (hg : P.eqGuardType P.depth t = false) : EqT P t ks := fun xs ys x y w hx hy => by
  have := eqIn_flat n 10000 t ks hn h xs ys w true sz hk hx hy
  simp only [vv, if_true] at this
  constructor
  · simp only [Sem.run_bind, run_eqGuard_agg w _ t x y _ _ hg, Result.andThen_ok, run_eql_struct, this]
  · simp only [Sem.run_bind, run_eqGuard_agg w _ t x y _ _ hg, Result.andThen_ok, run_neq_struct, this]
/-! ### keys of maps -/
def CkOk (P : Program) (d : Nat) (t : TypeId) (ks : List DK) : Prop :=
  ∀ (xs : List D) (e : Bool) (w : World) (b : Bool) (sz : Nat), tk P t = some (b, sz) → xs.map dk = ks.map some → (Instr.checkKey e d t (vv b xs)).run P w = .ok () w
theorem ckFields {n d : Nat} (e : Bool) (ih : ∀ t ks, flatK P n t = some ks → CkOk P d t ks) {X : List D} : ∀ (fs : List Field) (o : Nat) (ks : List DK) (w : World), flatFs P (flatK P n) o fs = some ks → (X.drop o).map dk = ks.map some →
    ((forIn fs PUnit.unit fun f _ => do
      if f.name ≠ "_" then do
        Instr.checkKey e d f.type (← part f.type (X.map toV).toArray f.offset)
        pure (ForInStep.yield PUnit.unit)
      else pure (ForInStep.yield PUnit.unit)) : Sem PUnit).run P w = .ok PUnit.unit w
  | [], o, ks, w, h, hx => by simp
  | f :: fs, o, ks, w, h, hx => by
    simp only [flatFs] at h
    split at h
    · next q =>
      split at h
      · next ks1 b sz e1 e2 =>
        split at h
        · next hl =>
          obtain ⟨hl, hpos⟩ := hl
          split at h
          · next r e3 =>
            simp only [Option.some.injEq] at h
            subst h
            obtain ⟨q1, q2⟩ := q
            subst q2
            have lx := kinds_len hx
            simp only [List.length_drop, List.length_append] at lx
            have hone : b = false → sz = 1 := fun hb => by rw [← hl]; exact flatK_one e1 e2 hb
            have kx1 : ((X.drop f.offset).take sz).map dk = ks1.map some := by rw [List.map_take, hx, List.map_append, ← hl, List.take_left' (by simp)]
            have kx2 : (X.drop (f.offset + sz)).map dk = r.map some := by rw [← List.drop_drop, List.map_drop, hx, List.map_append, ← hl, List.drop_left' (by simp)]
            have go := ckFields e ih fs (f.offset + sz) r w e3 kx2
            have one := ih _ _ e1 _ e w b sz e2 kx1
            simp only [List.forIn_cons, q1, ne_eq, not_false_eq_true, if_true, Sem.run_bind, part_vv e2 (show f.offset + sz ≤ X.length by omega) hone, Result.andThen_ok, one, Sem.run_pure]
            exact go
          · simp at h
        · simp at h
      · simp at h
    · simp at h
theorem ck_flat : ∀ (n d : Nat) (t : TypeId) (ks : List DK), n ≤ d → flatK P n t = some ks → CkOk P d t ks
  | 0, _, _, _, _, h => by simp [flatK] at h
  | n + 1, 0, _, _, hd, _ => by omega
  | n + 1, d + 1, t, ks, hd, h => by
    intro xs e w b sz hk hx
    obtain ⟨de, i, h1, h2, h3, h4⟩ := tk_spec hk
    simp only [flatK, h1] at h
    cases de <;> simp only [isAggD] at h3 <;> simp only [Option.some.injEq] at h <;> (try (simp at h; done))
    case bool =>
      subst h; subst h3
      obtain ⟨x, rfl, k1⟩ := one_of hx
      obtain ⟨a, rfl⟩ := dk_cases k1
      simp [Instr.checkKey, run_underlying' h1, vv, toV]
    case int k =>
      subst h; subst h3
      obtain ⟨x, rfl, k1⟩ := one_of hx
      obtain ⟨a, rfl⟩ := dk_cases k1
      simp [Instr.checkKey, run_underlying' h1, vv, toV]
    case string =>
      subst h; subst h3
      obtain ⟨x, rfl, k1⟩ := one_of hx
      obtain ⟨a, rfl⟩ := dk_cases k1
      simp [Instr.checkKey, run_underlying' h1, vv, toV]
    case struct fs =>
      split at h
      · simp at h
      · next hs =>
        subst h3
        have := ckFields (X := xs) e (fun t ks q => ck_flat n d t ks (by omega) q) fs.toList 0 ks w h (by simpa using hx)
        simp only [Instr.checkKey, Sem.run_bind, run_underlying' h1, Result.andThen_ok, vv, if_true]
        rw [← Array.forIn_toList]
        rw [this]; rfl
    case array m el =>
      split at h
      · next ks1 b1 sz1 e1 e2 =>
        split at h
        · next hl =>
          simp only [Option.some.injEq] at h
          subst h; subst h3
          have hone : b1 = false → sz1 = 1 := fun hb => by rw [← hl.1]; exact flatK_one e1 e2 hb
          have ih := ck_flat n d el ks1 (by omega) e1
          simp only [Instr.checkKey, Sem.run_bind, run_underlying' h1, Result.andThen_ok, vv, if_true]
          simp only [Std.Legacy.Range.forIn_eq_forIn_range', Std.Legacy.Range.size, Nat.sub_zero, Nat.add_one_sub_one, Nat.div_one]
          have key : ∀ (r j : Nat) (w : World), (xs.drop (j * sz1)).map dk = ((List.replicate r ks1).flatten).map some →
              ((forIn (List.range' j r) PUnit.unit fun i _ => do
                Instr.checkKey e d el (← part el (xs.map toV).toArray (i * (← sizeOf el)))
                pure (ForInStep.yield PUnit.unit)) : Sem PUnit).run P w = .ok PUnit.unit w := by
            intro r
            induction r with
            | zero => intro j w _; simp
            | succ r ihr =>
              intro j w hj
              rw [List.replicate_succ, List.flatten_cons] at hj
              have lx := kinds_len hj
              simp only [List.length_drop, List.length_append] at lx
              have ej : (j + 1) * sz1 = j * sz1 + sz1 := by rw [Nat.add_mul, Nat.one_mul]
              have kx1 : ((xs.drop (j * sz1)).take sz1).map dk = ks1.map some := by rw [List.map_take, hj, List.map_append, ← hl.1, List.take_left' (by simp)]
              have kx2 : (xs.drop ((j + 1) * sz1)).map dk = ((List.replicate r ks1).flatten).map some := by rw [ej, ← List.drop_drop, List.map_drop, hj, List.map_append, ← hl.1, List.drop_left' (by simp)]
              have one := ih _ e w b1 sz1 e2 kx1
              have go := ihr (j + 1) w kx2
              simp only [List.range'_succ, List.forIn_cons, Sem.run_bind, run_sizeOf' e2, part_vv e2 (show j * sz1 + sz1 ≤ xs.length by omega) hone, Result.andThen_ok, one, Sem.run_pure]
              exact go
          have := key m 0 w (by simpa using hx)
          rw [this]; rfl
        · simp at h
      · simp at h
end
theorem findNow_flat {de : TypeDesc} {ks : List DK} (hde : de = .bool ∧ ks = [.bool] ∨ (∃ k, de = .int k ∧ ks = [.int k]) ∨ de = .string ∧ ks = [.str]) {k : List D} (hk : k.map dk = ks.map some) : ∀ (kds : List (List D)) (es : List MapEntry) (j : Nat), (∀ x ∈ kds, x.map dk = ks.map some) → es.map (·.key) = kds.map (vv false) →
    Instr.findNow de (vv false k) es j = some ((kds.findIdx? (deqs k)).map fun i => (j + i, ((es[i]?).map (·.val)).getD undef))
  | [], [], _, _, _ => rfl
  | x :: kds, [], _, _, h => by simp at h
  | [], m :: es, _, _, h => by simp at h
  | x :: kds, m :: es, j, hx, h => by
    simp only [List.map_cons, List.cons.injEq] at h
    have ih := findNow_flat hde hk kds es (j + 1) (fun y hy => hx y (by simp [hy])) h.2
    have kx := hx x (by simp)
    have same : Instr.sameNow de (vv false k) (vv false x) = some (deqs k x) := by
      rcases hde with ⟨rfl, rfl⟩ | ⟨i, rfl, rfl⟩ | ⟨rfl, rfl⟩
      all_goals
        obtain ⟨a, rfl, ka⟩ := one_of hk
        obtain ⟨c, rfl, kc⟩ := one_of kx
        obtain ⟨a, rfl⟩ := dk_cases ka
        obtain ⟨c, rfl⟩ := dk_cases kc
        simp [vv, toV, Instr.sameNow, deqs, deq, beq_toListBytes]
    simp only [Instr.findNow, h.1, same, List.findIdx?_cons]
    cases deqs k x with
    | true => simp
    | false =>
      simp only [ih, Bool.false_eq_true, if_false, Option.map_map, Option.some.injEq]
      congr 1
      funext i
      simp [Nat.add_assoc, Nat.add_comm 1]
section
variable {P : Program}
theorem findAsking_flat {n : Nat} {t : TypeId} {ks : List DK} {b : Bool} {sz : Nat} (h : flatK P n t = some ks) (hn : n ≤ 10000) (hk : tk P t = some (b, sz)) {k : List D} (k1 : k.map dk = ks.map some) (w : World) : ∀ (kds : List (List D)) (es : List MapEntry) (j : Nat), (∀ x ∈ kds, x.map dk = ks.map some) → es.map (·.key) = kds.map (vv b) →
    (Instr.findAsking t (vv b k) es j).run P w = .ok ((kds.findIdx? (deqs k)).map fun i => (j + i, ((es[i]?).map (·.val)).getD undef)) w
  | [], [], _, _, _ => rfl
  | x :: kds, [], _, _, h => by simp at h
  | [], m :: es, _, _, h => by simp at h
  | x :: kds, m :: es, j, hx, he => by
    simp only [List.map_cons, List.cons.injEq] at he
    have ih := findAsking_flat h hn hk k1 w kds es (j + 1) (fun y hy => hx y (by simp [hy])) he.2
    have one := eqIn_flat n 10000 t ks hn h k x w b sz hk k1 (hx x (by simp))
    simp only [Instr.findAsking, Op.equal, Op.maxDepth, Sem.run_bind, he.1, one, Result.andThen_ok, List.findIdx?_cons]
    cases deqs k x with
    | true => simp
    | false =>
      simp only [ih, Bool.false_eq_true, if_false, Option.map_map, Result.ok.injEq, and_true]
      congr 1
      funext i
      simp [Nat.add_assoc, Nat.add_comm 1]
theorem keyT_flat {n : Nat} {t : TypeId} {ks : List DK} {b : Bool} {sz : Nat} (h : flatK P n t = some ks) (hn : n ≤ 10000) (hk : tk P t = some (b, sz)) : KeyT P t b ks where
  check k e w hkk := ck_flat n 10000 t ks hn h k e w b sz hk hkk.1
  find k kds es w hkk hkd he := by
    obtain ⟨de, i, h1, h2, h3, h4⟩ := tk_spec hk
    simp only [Instr.findKey, Sem.run_bind, run_underlying' h1, Result.andThen_ok]
    cases n with
    | zero => simp [flatK] at h
    | succ n =>
      have h' := h
      simp only [flatK, h1] at h
      cases de <;> simp only [isAggD] at h3 <;> simp only [Option.some.injEq] at h <;> (try (simp at h; done))
      case bool =>
        subst h3
        rw [findNow_flat (ks := ks) (.inl ⟨rfl, h.symm⟩) hkk.1 kds es 0 (fun x hx => (hkd x hx).1) he]
        simp
      case int k =>
        subst h3
        rw [findNow_flat (ks := ks) (.inr (.inl ⟨k, rfl, h.symm⟩)) hkk.1 kds es 0 (fun x hx => (hkd x hx).1) he]
        simp
      case string =>
        subst h3
        rw [findNow_flat (ks := ks) (.inr (.inr ⟨rfl, h.symm⟩)) hkk.1 kds es 0 (fun x hx => (hkd x hx).1) he]
        simp
      case struct fs =>
        have ask := findAsking_flat h' hn hk hkk.1 w kds es 0 (fun x hx => (hkd x hx).1) he
        cases es with
        | nil =>
          cases kds with
          | nil => simp [Instr.findNow]
          | cons x kds => simp at he
        | cons m es =>
          have : Instr.findNow (.struct fs) (vv b k) (m :: es) 0 = none := by simp [Instr.findNow, Instr.sameNow]
          rw [this]
          simpa using ask
      case array m el =>
        have ask := findAsking_flat h' hn hk hkk.1 w kds es 0 (fun x hx => (hkd x hx).1) he
        cases es with
        | nil =>
          cases kds with
          | nil => simp [Instr.findNow]
          | cons x kds => simp at he
        | cons mm es =>
          have : Instr.findNow (.array m el) (vv b k) (mm :: es) 0 = none := by simp [Instr.findNow, Instr.sameNow]
          rw [this]
          simpa using ask
end
/-! ### a map as a list of pairs -/
section
variable {κ ν : Type}
def mD (kD : κ → List D) (vD : ν → List D) (m : List (κ × ν)) : List (List D × List D) := m.map fun e => (kD e.1, vD e.2)
def look [DecidableEq κ] (k : κ) : List (κ × ν) → Option ν
  | [] => none
  | (k', v) :: m => if k = k' then some v else look k m
def mput [DecidableEq κ] (k : κ) (v : ν) : List (κ × ν) → List (κ × ν)
  | [] => [(k, v)]
  | (k', v') :: m => if k = k' then (k, v) :: m else (k', v') :: mput k v m
theorem look_put [DecidableEq κ] (k k' : κ) (v : ν) : ∀ m : List (κ × ν), look k' (mput k v m) = if k' = k then some v else look k' m
  | [] => by simp only [mput, look]
  | (a, b) :: m => by
    simp only [mput]
    split
    · next h =>
      subst h
      simp only [look]
      split <;> rfl
    · next h =>
      simp only [look, look_put k k' v m]
      by_cases q : k' = a
      · subst q
        rw [if_pos rfl, if_neg (fun e => h e.symm), if_pos rfl]
      · rw [if_neg q, if_neg q]
variable {kD : κ → List D} {vD : ν → List D}
theorem lkM_mD [DecidableEq κ] (h : ∀ a b, deqs (kD a) (kD b) = decide (a = b)) (k : κ) : ∀ m : List (κ × ν), lkM (kD k) (mD kD vD m) = (look k m).map vD
  | [] => rfl
  | (a, b) :: m => by
    have ih := lkM_mD h k m
    simp only [mD] at ih
    simp only [mD, List.map_cons, lkM, look, h]
    by_cases q : k = a
    · simp [q]
    · simp [q, ih]
theorem upM_mD [DecidableEq κ] (h : ∀ a b, deqs (kD a) (kD b) = decide (a = b)) (k : κ) (v : ν) : ∀ m : List (κ × ν), upM (kD k) (vD v) (mD kD vD m) = mD kD vD (mput k v m)
  | [] => rfl
  | (a, b) :: m => by
    have ih := upM_mD h k v m
    simp only [mD] at ih
    simp only [mD, List.map_cons, upM, mput, h]
    by_cases q : k = a
    · simp [q]
    · simp [q, ih]
theorem mneed {P : Program} {t : TypeId} {b : Bool} {ks : List DK} (hT : KeyT P t b ks) (hk : ∀ k, kindOk b ks (kD k)) (k : κ) (m : List (κ × ν)) : (∃ ks, KeyT P t b ks ∧ kindOk b ks (kD k) ∧ ∀ x ∈ mD kD vD m, kindOk b ks x.1) = True :=
  eq_true ⟨ks, hT, hk k, fun x hx => by
    obtain ⟨e, _, rfl⟩ := List.mem_map.1 hx
    exact hk e.1⟩
end
def sD (s : ByteArray) : List D := [.str s]
def iD (i : Int) : List D := [.int .i64 i]
def boD (b : Bool) : List D := [.bool b]
theorem sD_eq (a b : ByteArray) : deqs (sD a) (sD b) = decide (a = b) := by simp [sD, deqs, deq, ba_beq]
theorem sD_kind (s : ByteArray) : kindOk false [.str] (sD s) := ⟨rfl, fun _ => rfl⟩
theorem iD_eq (a b : Int) : deqs (iD a) (iD b) = decide (a = b) := by simp [iD, deqs, deq]; rfl
theorem iD_kind (s : Int) : kindOk false [.int .i64] (iD s) := ⟨rfl, fun _ => rfl⟩
attribute [go_sem] lkV dv Option.getD_none sD iD boD Option.isSome_some Option.isSome_none List.headD_cons Option.map_some Option.map_none
theorem mD_nil {κ ν : Type} {kD : κ → List D} {vD : ν → List D} : mD kD vD [] = [] := rfl
theorem wk_tup_any {x : AV} {z : D} {σ : List AObj} : Wk 0 [.tup [x, .d z]] σ [.tup [.any, .d z]] [] :=
  Wk.trans (ys := [.tup [.any, .d z]]) (τ := σ) (Wk.inTup (xs := [x, .d z]) (ys := [.any, .d z]) (fun n0 => Wk.sub (by simp [wkE])) 0) (Wk.forget (wkE_refl _) (by simp [bds, bd]))
theorem at0_pre {n : Nat} {ls : List Nat} (h : ((List.range n).all fun i => at0 ls i == i) = true) : ∀ i, i < n → at0 ls i = i := fun i hi => by
  have := List.all_eq_true.1 h i (List.mem_range.2 hi)
  simpa using this
theorem rows_ofP {α : Type} {g : α → List D} {Q : α → Prop} : ∀ {es : List (List D)}, (∀ x ∈ es, ∃ y, x = g y ∧ Q y) → ∃ l : List α, es = l.map g ∧ ∀ y ∈ l, Q y
  | [], _ => ⟨[], rfl, by simp⟩
  | e :: es, h => by
    obtain ⟨y, rfl, hy⟩ := h e (by simp)
    obtain ⟨l, hl, hq⟩ := rows_ofP (es := es) (g := g) (Q := Q) fun x hx => h x (by simp [hx])
    exact ⟨y :: l, by rw [hl]; rfl, by simp only [List.mem_cons, forall_eq_or_imp]; exact ⟨hy, hq⟩⟩
theorem wf_i64 {i : Int} (h : (Lit.int .i64 i).wf = true) : -9223372036854775808 ≤ i ∧ i ≤ 9223372036854775807 := by
  simp only [Lit.wf, Bool.and_eq_true, decide_eq_true_eq] at h
  exact h
end Go.AX

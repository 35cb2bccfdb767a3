/- QueueKeeps: the law returns true. No condition but the law's own guard. -/
import Derived.Test.YtamlleliapmhmaaQl
set_option maxHeartbeats 8000000
set_option linter.unusedVariables false
set_option linter.unusedSimpArgs false
set_option maxRecDepth 20000
namespace Go.AX.Qu
open Go.Proofs Go.RowKit Go.IntWalk Go.AX.Br
theorem mod_at {q : List Rq} {i k : Nat} {s : Int} : (q.modify i fun y => setSt y s)[k]? = (q[k]?).map fun y => if i = k then setSt y s else y := by
  rw [List.getElem?_modify]; rfl
/-- a request gets another state, and does not get open -/
theorem mod_check {q : List Rq} {i : Nat} {x : Rq} {s : Int} (h : qcheck q = 0) (hx : q[i]? = some x) (h1 : 1 ≤ s) (h2 : s ≤ 7) (ho : opn (setSt x s) = true → opn x = true) : qcheck (q.modify i fun y => setSt y s) = 0 := by
  have hl := qcheck_len h
  have hv := qcheck_valid h
  obtain ⟨Y, hY⟩ : ∃ Y, Y = q.modify i fun y => setSt y s := ⟨_, rfl⟩
  have hYl : Y.length = q.length := by rw [hY, mod_len]
  have back : ∀ (k : Nat) (y : Rq), Y[k]? = some y → ∃ z, q[k]? = some z ∧ y.br = z.br ∧ y.ch = z.ch ∧ (opn y = true → opn z = true) ∧ valid y = true := fun k y hy => by
    rw [hY, mod_at] at hy
    cases hz : q[k]? with
    | none => simp [hz] at hy
    | some z =>
      have vz := hv z (List.mem_of_getElem? hz)
      rw [hz] at hy
      simp only [Option.map_some, Option.some.injEq] at hy
      by_cases e : i = k
      · subst e
        rw [hx] at hz; cases hz
        rw [if_pos rfl] at hy; subst hy
        refine ⟨x, rfl, rfl, rfl, ho, ?_⟩
        simp only [valid, setSt, Bool.and_eq_true, decide_eq_true_eq] at vz ⊢
        exact ⟨⟨⟨⟨⟨vz.1.1.1.1.1, vz.1.1.1.1.2⟩, decide_eq_true h1⟩, decide_eq_true h2⟩, decide_eq_true vz.1.2⟩, decide_eq_true vz.2⟩
      · rw [if_neg e] at hy; subst hy
        exact ⟨z, rfl, rfl, rfl, fun h => h, vz⟩
  have ht : qtw q = false := by
    unfold qcheck at h
    rw [if_neg (by omega)] at h
    split at h
    · simp at h
    · cases e : qtw q with
      | false => rfl
      | true => simp [e] at h
  have hal : Y.any (fun r => !valid r) = false := by
    rw [List.any_eq_false]
    intro r hr
    obtain ⟨k, hk⟩ := List.mem_iff_getElem?.1 hr
    obtain ⟨_, _, _, _, _, g⟩ := back k r hk
    simp [g]
  have htw : qtw Y = false := by
    unfold qtw
    refine anyI_f fun k y hy => ?_
    obtain ⟨z, hz, b1, b2, b3, _⟩ := back k y hy
    cases oy : opn y with
    | false => simp
    | true =>
      rw [Bool.true_and, List.any_eq_false]
      intro t htk
      obtain ⟨j, hj⟩ := List.mem_iff_getElem?.1 htk
      have hjk : j < k := by
        have := some_lt hj
        simp at this; omega
      rw [List.getElem?_take_of_lt hjk] at hj
      obtain ⟨u, hu, c1, c2, c3, _⟩ := back j t hj
      intro hs
      have h0 := anyI_no ht hz
      simp only [b3 oy, Bool.true_and, List.any_eq_false] at h0
      refine h0 u (List.mem_of_getElem? (i := j) (by rw [List.getElem?_take_of_lt hjk]; exact hu)) ?_
      simp only [same2, Bool.and_eq_true, decide_eq_true_eq] at hs ⊢
      exact ⟨⟨c3 hs.1.1, by rw [← c1, ← b1]; exact hs.1.2⟩, by rw [← c2, ← b2]; exact hs.2⟩
  rw [← hY]
  simp only [qcheck]
  rw [hYl, if_neg (by omega), hal, htw]
  simp
theorem keep_cases {q : List Rq} {i : Nat} {x : Rq} {nm : ByteArray} (hn : nm = sAp ∨ nm = sRe ∨ nm = sCa) (h : qcheck q = 0) (hx : q[i]? = some x) :
    movR stayR q (i : Int) nm = ([], 36) ∨ ∃ s, movR stayR q (i : Int) nm = (q.modify i fun y => setSt y s, 0) ∧ (s == x.st) = false ∧ qcheck (q.modify i fun y => setSt y s) = 0 := by
  have hlt := some_lt hx
  have e : movR stayR q (i : Int) nm = match ruL.find? (ruFit nm x.st) with
      | none => ([], 36)
      | some r => (q.modify i (fun y => setSt y r.2.2), 0) := by
    unfold movR
    rw [if_neg (by omega), if_neg (by omega), Int.toNat_natCast, hx]
    rfl
  rw [e]
  have fin : ∀ s : Int, 1 ≤ s → s ≤ 7 → s ≠ x.st → (opn (setSt x s) = true → opn x = true) → (s == x.st) = false ∧ qcheck (q.modify i fun y => setSt y s) = 0 := fun s h1 h2 h3 h4 => ⟨by simp [h3], mod_check h hx h1 h2 h4⟩
  cases hr : ruL.find? (ruFit nm x.st) with
  | none => exact .inl rfl
  | some r =>
    refine .inr ⟨r.2.2, rfl, ?_⟩
    have hm := List.mem_of_find?_eq_some hr
    have hp := List.find?_some hr
    simp only [ruFit, Bool.and_eq_true, decide_eq_true_eq] at hp
    obtain ⟨p1, p2⟩ := hp
    have hnt : r.1 ≠ sTr := by
      rw [p1]
      rcases hn with e | e | e <;> rw [e] <;> decide
    simp only [ruL, List.mem_cons, List.not_mem_nil, or_false] at hm
    rcases hm with e | e | e | e | e | e | e | e <;> subst e <;> simp only [opn, setSt] at * <;> first | exact absurd rfl hnt | (refine fin _ (by omega) (by omega) (by omega) ?_; rw [← p2]; decide)
theorem idx_congr {p : Rq → Bool} {l l' : List Rq} (h : l.map p = l'.map p) : idx p l = idx p l' := by
  have e : ∀ l : List Rq, l.findIdx? p = (l.map p).findIdx? id := fun l => by rw [List.findIdx?_map]; rfl
  unfold idx
  rw [e l, e l', h]
theorem idx_mod {q : List Rq} {i : Nat} {x : Rq} {s : Int} {b : ByteArray} (hx : q[i]? = some x) (h : x.br ≠ b) : idx (isHead b) (q.modify i fun y => setSt y s) = idx (isHead b) q := by
  apply idx_congr
  apply List.ext_getElem?; intro k
  rw [List.getElem?_map, List.getElem?_map, mod_at]
  cases hz : q[k]? with
  | none => rfl
  | some z =>
    simp only [Option.map_some]
    by_cases e : i = k
    · subst e
      rw [hx] at hz; cases hz
      rw [if_pos rfl]
      simp [isHead, setSt, h]
    · rw [if_neg e]
theorem idx_front {p : Rq → Bool} {l : List Rq} {i : Nat} (h0 : 0 ≤ idx p l) (h : idx p l < i) : idx p (l.take i) = idx p l := by
  obtain ⟨k, x, h1, h2, h3⟩ := idx_get h0
  rw [h1] at h ⊢
  have hk : k < i := by omega
  refine idx_found (x := x) (by rw [List.getElem?_take_of_lt hk]; exact h2) h3 fun j y hy hj => ?_
  rw [List.getElem?_take_of_lt (by omega)] at hy
  have hf : l.findIdx? p = some k := by
    unfold idx at h1
    cases q : l.findIdx? p with
    | none => rw [q] at h1; simp at h1
    | some m => rw [q] at h1; simp only at h1; congr 1; omega
  obtain ⟨hlt, _, g⟩ := List.findIdx?_eq_some_iff_getElem.1 hf
  have := g j hj
  have hy2 := (List.getElem?_eq_some_iff.1 hy).2
  rw [hy2] at this
  simpa using this
theorem idx_app {p : Rq → Bool} {a b : List Rq} (h : 0 ≤ idx p a) : idx p (a ++ b) = idx p a := by
  unfold idx at h ⊢
  cases q : a.findIdx? p with
  | none => rw [q] at h; simp at h
  | some k => rw [List.findIdx?_append, q]; rfl
theorem idx_mod_front {q : List Rq} {i : Nat} {s : Int} {p : Rq → Bool} (h0 : 0 ≤ idx p q) (h : idx p q < i) : idx p (q.modify i fun y => setSt y s) = idx p q := by
  have e := idx_front h0 h
  have t : (q.modify i fun y => setSt y s) = q.take i ++ (q.modify i fun y => setSt y s).drop i := by
    have := List.take_append_drop i (q.modify i fun y => setSt y s)
    rw [mod_take] at this
    exact this.symm
  rw [t, idx_app (by omega), e]
theorem eq_self_rq' (x : Rq) : (decide (x.br = x.br) && (decide (x.ch = x.ch) && ((x.st == x.st) && ((x.ov == x.ov) && (x.tr == x.tr))))) = true := by simp
theorem rx {q : List Rq} {k : Nat} {y : Rq} (h : q[k]? = some y) : (∃ e, (List.map rD q)[k]? = some e ∧ e.length = 5 ∧ AV.eptr e = AV.eptr [D.str y.br, D.str y.ch, D.int IntKind.u8 y.st, D.bool y.ov, D.int IntKind.i64 y.tr]) = True :=
  eq_true ⟨rD y, by rw [List.getElem?_map, h]; rfl, rfl, rfl⟩
theorem keeps_law (q : List Rq) (i mv : Int) (hq : Sm q.length) : Spec Try.prog 7 [.d (.sl (q.map rD)), .d (.int .i64 i), .d (.int .i64 mv)] [] (.d (.bool true)) [] := by
  have m1 := approve_own q i hq
  have m2 := reject_own q i hq
  have m3 := cancel_own q i hq
  refine spec_of_ev (fn := Try.f7) DX_ok 3000 Try.func7 rfl rfl (Nat.le_of_ble_eq_true rfl) ?_
  simp (maxSteps := 4000000) -implicitDefEqProofs only [Try.f7, go_sem]
  refine ecall0 _ alive_spec (by simp only [go_sem]) (by simp only [go_sem]) ?_
  simp (maxSteps := 4000000) -implicitDefEqProofs only [go_sem, Nat.reduceAdd, Nat.reduceSub, Nat.reduceLT, Nat.reduceLeDiff, Nat.reduceEqDiff, ↓reduceIte]
  refine ecall0 _ (qcheck_ref q hq) (by simp only [go_sem]) (by simp only [go_sem]) ?_
  simp (maxSteps := 4000000) -implicitDefEqProofs only [go_sem, Nat.reduceAdd, Nat.reduceSub, Nat.reduceLT, Nat.reduceLeDiff, Nat.reduceEqDiff, ↓reduceIte]
  by_cases h1 : qcheck q = 0
  case neg =>
    have d1 : (qcheck q != 0) = true := by simp [h1]
    simp (maxSteps := 4000000) -implicitDefEqProofs only [go_sem, d1, Option.some.injEq, forall_eq', and_true, true_and, Bool.not_true, Bool.not_false, decide_true, Nat.reduceAdd, Nat.reduceSub, Nat.reduceLT, Nat.reduceLeDiff, Nat.reduceEqDiff, ↓reduceIte]
    with_reducible exact wk_bool rfl
  have d1 : (qcheck q != 0) = false := by simp [h1]
  have hl := qcheck_len h1
  rcases Int.lt_or_le i 0 with h2 | h2
  · have d2 := decide_eq_true h2
    simp (maxSteps := 4000000) -implicitDefEqProofs only [go_sem, d1, d2, Option.some.injEq, forall_eq', and_true, true_and, Bool.not_true, Bool.not_false, decide_true, Nat.reduceAdd, Nat.reduceSub, Nat.reduceLT, Nat.reduceLeDiff, Nat.reduceEqDiff, ↓reduceIte]
    with_reducible exact wk_bool rfl
  have d2 := decide_eq_false (Int.not_lt.2 h2)
  rcases Int.lt_or_le i q.length with h3 | h3
  case inr =>
    have d3 := decide_eq_true h3
    simp (maxSteps := 4000000) -implicitDefEqProofs only [go_sem, d1, d2, d3, Option.some.injEq, forall_eq', and_true, true_and, Bool.not_true, Bool.not_false, decide_true, Nat.reduceAdd, Nat.reduceSub, Nat.reduceLT, Nat.reduceLeDiff, Nat.reduceEqDiff, ↓reduceIte]
    with_reducible exact wk_bool rfl
  have d3 := decide_eq_false (Int.not_le.2 h3)
  obtain ⟨i, rfl⟩ : ∃ n : Nat, i = n := ⟨i.toNat, by omega⟩
  have h3' : i < q.length := by omega
  obtain ⟨x, hx⟩ : ∃ x, q[i]? = some x := ⟨q[i]'h3', List.getElem?_eq_getElem _⟩
  have n1 : (0 ≤ (i : Int) ∧ (i : Int) < q.length) = True := eq_true (by omega)
  have n2 : (i < q.length) = True := eq_true (by omega)
  have k1 := keep_cases (nm := sAp) (.inl rfl) h1 hx
  have k2 := keep_cases (nm := sRe) (.inr (.inl rfl)) h1 hx
  have k3 := keep_cases (nm := sCa) (.inr (.inr rfl)) h1 hx
  obtain ⟨E1, hE1⟩ : ∃ E, E = movR stayR q (i : Int) sAp := ⟨_, rfl⟩
  obtain ⟨E2, hE2⟩ : ∃ E, E = movR stayR q (i : Int) sRe := ⟨_, rfl⟩
  obtain ⟨E3, hE3⟩ : ∃ E, E = movR stayR q (i : Int) sCa := ⟨_, rfl⟩
  rw [← hE1] at m1 k1
  rw [← hE2] at m2 k2
  rw [← hE3] at m3 k3
  obtain ⟨b0, hb0⟩ : ∃ b, (mv == 0) = b := ⟨_, rfl⟩
  obtain ⟨b1, hb1⟩ : ∃ b, (mv == 1) = b := ⟨_, rfl⟩
  have c1 : ((36 : Int) != 0) = true := rfl
  have c2 : ((36 : Int) == 36) = true := rfl
  have c3 : ((0 : Int) == 0) = true := rfl
  have c7 : ((0 : Int) != 0) = false := rfl
  have c8 : (true != true) = false := rfl
  have c9 : (false != false) = false := rfl
  cases b0
  case' true => simp (maxSteps := 4000000) -implicitDefEqProofs only [go_sem, d1, d2, d3, hb0, Option.some.injEq, forall_eq', and_true, true_and, Bool.not_true, Bool.not_false, decide_true, Nat.reduceAdd, Nat.reduceSub, Nat.reduceLT, Nat.reduceLeDiff, Nat.reduceEqDiff, ↓reduceIte]
  case' true => refine ecall0 _ m1 (by simp only [go_sem]) (by simp only [go_sem]) ?_
  case' true => have kk := k1
  case' false => cases b1
  case' false.true => simp (maxSteps := 4000000) -implicitDefEqProofs only [go_sem, d1, d2, d3, hb0, hb1, Option.some.injEq, forall_eq', and_true, true_and, Bool.not_true, Bool.not_false, decide_true, Nat.reduceAdd, Nat.reduceSub, Nat.reduceLT, Nat.reduceLeDiff, Nat.reduceEqDiff, ↓reduceIte]
  case' false.true => refine ecall0 _ m2 (by simp only [go_sem]) (by simp only [go_sem]) ?_
  case' false.true => have kk := k2
  case' false.false => simp (maxSteps := 4000000) -implicitDefEqProofs only [go_sem, d1, d2, d3, hb0, hb1, Option.some.injEq, forall_eq', and_true, true_and, Bool.not_true, Bool.not_false, decide_true, Nat.reduceAdd, Nat.reduceSub, Nat.reduceLT, Nat.reduceLeDiff, Nat.reduceEqDiff, ↓reduceIte]
  case' false.false => refine ecall0 _ m3 (by simp only [go_sem]) (by simp only [go_sem]) ?_
  case' false.false => have kk := k3
  all_goals
    clear k1 k2 k3 m1 m2 m3 hE1 hE2 hE3
    rcases kk with e | ⟨s, e, hs, hY⟩
    · rw [e]
      simp (maxSteps := 4000000) -implicitDefEqProofs only [go_sem, c1, c2, c3, Option.some.injEq, forall_eq', and_true, true_and, Bool.not_true, Bool.not_false, decide_true, Nat.reduceAdd, Nat.reduceSub, Nat.reduceLT, Nat.reduceLeDiff, Nat.reduceEqDiff, ↓reduceIte]
      with_reducible exact wk_bool rfl
    rw [e]
    obtain ⟨Y, hYd⟩ : ∃ Y, Y = q.modify i fun y => setSt y s := ⟨_, rfl⟩
    have hYl : Y.length = q.length := by rw [hYd, mod_len]
    rw [← hYd] at hY ⊢
    have hYs : Sm Y.length := by unfold Sm; omega
    have d6 : (qcheck Y != 0) = false := by simp [hY]
    have yl : ((Y.length : Int) != q.length) = false := by simp [hYl]
    simp (maxSteps := 4000000) -implicitDefEqProofs only [go_sem, c7, Option.some.injEq, forall_eq', and_true, true_and, Bool.not_true, Bool.not_false, decide_true, Nat.reduceAdd, Nat.reduceSub, Nat.reduceLT, Nat.reduceLeDiff, Nat.reduceEqDiff, ↓reduceIte]
    refine ecall0 _ (qcheck_ref Y hYs) (by simp only [go_sem]) (by simp only [go_sem]) ?_
    simp (maxSteps := 4000000) -implicitDefEqProofs only [go_sem, Nat.reduceAdd, Nat.reduceSub, Nat.reduceLT, Nat.reduceLeDiff, Nat.reduceEqDiff, ↓reduceIte]
    simp (maxSteps := 4000000) -implicitDefEqProofs only [go_sem, d6, yl, Option.some.injEq, forall_eq', and_true, true_and, Bool.not_true, Bool.not_false, decide_true, Nat.reduceAdd, Nat.reduceSub, Nat.reduceLT, Nat.reduceLeDiff, Nat.reduceEqDiff, ↓reduceIte]
    refine eloop (S := Nat) (fun k => mkE 168 [(0, .d (.sl (q.map rD))), (1, .d (.int .i64 i)), (7, .d (.bool true)), (8, .d (.sl (Y.map rD))), (10, .d (.int .i64 k))]) (fun k => []) (fun k => k ≤ q.length) (fun k => q.length - k) 0 (by omega) (Wk.forget (by (simp only [go_sem]) <;> trivial) (by simp only [go_sem])) ?_
    intro k hk
    have hYi : Y[i]? = some (setSt x s) := by rw [hYd, mod_at, hx]; simp
    rcases Nat.lt_or_ge k q.length with h4 | h4
    case inr =>
      have f1 : decide ((k : Int) < q.length) = false := by simp; omega
      have n5 : (0 ≤ (i : Int) ∧ (i : Int) < Y.length) = True := eq_true (by omega)
      have n6 : (i < Y.length) = True := eq_true (by omega)
      have hs2 : ((setSt x s).st != x.st) = true := by simp only [bne, setSt, hs]; rfl
      simp (maxSteps := 4000000) -implicitDefEqProofs only [go_sem, f1, Option.some.injEq, forall_eq', and_true, true_and, Bool.not_true, Bool.not_false, decide_true, Nat.reduceAdd, Nat.reduceSub, Nat.reduceLT, Nat.reduceLeDiff, Nat.reduceEqDiff, ↓reduceIte]
      refine DX.plain (.take 0 false (.take 1 false (.take 2 false (.take 3 false (.take 4 false (.take 5 false (.take 6 false (.take 7 false (.take 8 false (.take 9 false (.take 10 false (.take 11 false (.take 12 false (.take 13 false (.take 14 false .done))))))))))))))) (by kernel_rfl) (by kernel_rfl) Ty.mixed ?_
      simp (maxSteps := 4000000) -implicitDefEqProofs only [go_sem, n1, n2, hx, n5, n6, hYi, hs2, Option.some.injEq, forall_eq', and_true, true_and, Bool.not_true, Bool.not_false, decide_true, Nat.reduceAdd, Nat.reduceSub, Nat.reduceLT, Nat.reduceLeDiff, Nat.reduceEqDiff, ↓reduceIte]
      with_reducible exact wk_bool rfl
    have f1 : decide ((k : Int) < q.length) = true := by simp; omega
    obtain ⟨y, hy⟩ : ∃ y, q[k]? = some y := ⟨q[k]'h4, List.getElem?_eq_getElem _⟩
    have n3 : (0 ≤ (k : Int) ∧ (k : Int) < q.length) = True := eq_true (by omega)
    have n4 : (k < q.length) = True := eq_true (by omega)
    have n5 : (0 ≤ (k : Int) ∧ (k : Int) < Y.length) = True := eq_true (by omega)
    have n6 : (k < Y.length) = True := eq_true (by omega)
    obtain ⟨y', hy'⟩ : ∃ y', Y[k]? = some y' := ⟨Y[k]'(by omega), List.getElem?_eq_getElem _⟩
    have ey' : y' = if i = k then setSt y s else y := by
      rw [hYd, mod_at, hy] at hy'
      exact (Option.some.inj hy').symm
    have w1 : IntKind.i64.wrap ((k : Int) + 1) = ((k + 1 : Nat) : Int) := by rw [i64_in _ (by omega)]; simp
    have ey := eq_self_rq' y
    obtain ⟨h, f, hhf⟩ : ∃ h f, headR q y.br = (h, f) := ⟨_, _, rfl⟩
    obtain ⟨j, g, hjg⟩ : ∃ h f, headR Y y.br = (h, f) := ⟨_, _, rfl⟩
    have b1 := headR_own q y.br hq
    have b2 := headR_own Y y.br hYs
    rw [hhf] at b1
    rw [hjg] at b2
    have same : (x.br ≠ y.br ∨ (f = 0 ∧ h < i)) → h = j ∧ f = g := by
      intro hc
      have hidx : idx (isHead y.br) Y = idx (isHead y.br) q := by
        rcases hc with hc | ⟨c1, c2⟩
        · rw [hYd, idx_mod hx hc]
        · have hf : 0 ≤ idx (isHead y.br) q ∧ h = idx (isHead y.br) q := by
            unfold headR at hhf
            rw [if_neg (by omega)] at hhf
            split at hhf
            · simp only [Prod.mk.injEq] at hhf; omega
            · simp only [Prod.mk.injEq] at hhf; omega
          rw [hYd, idx_mod_front hf.1 (by omega)]
      have : headR Y y.br = headR q y.br := by
        simp only [headR, hY, h1, hidx]
      rw [this, hhf] at hjg
      simp only [Prod.mk.injEq] at hjg
      exact hjg
    simp (maxSteps := 4000000) -implicitDefEqProofs only [go_sem, f1, Option.some.injEq, forall_eq', and_true, true_and, Bool.not_true, Bool.not_false, decide_true, Nat.reduceAdd, Nat.reduceSub, Nat.reduceLT, Nat.reduceLeDiff, Nat.reduceEqDiff, ↓reduceIte]
    refine DX.plain (.take 0 true (.take 1 true (.take 2 true (.take 3 true (.take 4 true (.take 5 true (.take 6 true (.take 7 true (.run [8, 9] (fun _ => [true, true, true, true, true, true, true, true]) fun i => .run [17 - i] (fun _ => [true, true, true, true, true, true, true, true]) fun _ => .run [10] (fun _ => [true, true, true, true, false, false, false, false]) fun _ => .run [11] (fun _ => [false, false, false, false]) fun _ => .done))))))))) (by kernel_rfl) (by kernel_rfl) Ty.mixed ?_
    simp (maxSteps := 4000000) -implicitDefEqProofs only [go_sem, n3, n4, hy, n5, n6, hy', rx hy, rx hy', Option.some.injEq, forall_eq', and_true, true_and, Bool.not_true, Bool.not_false, decide_true, Nat.reduceAdd, Nat.reduceSub, Nat.reduceLT, Nat.reduceLeDiff, Nat.reduceEqDiff, ↓reduceIte]
    repeat' with_reducible apply And.intro
    all_goals
      by_cases e1 : k = i
      case' pos =>
        have f2 : ((k : Int) == i) = true := by simp [e1]
        rw [if_pos e1.symm] at ey'
        subst ey'
      case' neg =>
        have f2 : ((k : Int) == i) = false := by simp; omega
        rw [if_neg fun e => e1 e.symm] at ey'
        have ey2 := ey'.symm
        subst ey2
      all_goals
        simp (maxSteps := 4000000) -implicitDefEqProofs only [go_sem, f2, setSt, ey, n3, n4, hy, Option.some.injEq, forall_eq', and_true, true_and, Bool.not_true, Bool.not_false, decide_true, Nat.reduceAdd, Nat.reduceSub, Nat.reduceLT, Nat.reduceLeDiff, Nat.reduceEqDiff, ↓reduceIte]
        refine ecall0 _ b1 (by simp only [go_sem]) (by simp only [go_sem]) ?_
        simp (maxSteps := 4000000) -implicitDefEqProofs only [go_sem, n3, n4, hy, Option.some.injEq, forall_eq', and_true, true_and, Bool.not_true, Bool.not_false, decide_true, Nat.reduceAdd, Nat.reduceSub, Nat.reduceLT, Nat.reduceLeDiff, Nat.reduceEqDiff, ↓reduceIte]
        refine ecall0 _ b2 (by simp only [go_sem]) (by simp only [go_sem]) ?_
        by_cases e2 : x.br = y.br
        case neg =>
          obtain ⟨z1, z2⟩ := same (.inl e2)
          subst z1; subst z2
          have g1 : decide (y.br = x.br) = false := decide_eq_false fun e => e2 e.symm
          have g2 : (h != h) = false := by simp
          have g3 : (f != f) = false := by simp
          simp (maxSteps := 4000000) -implicitDefEqProofs only [go_sem, Nat.reduceAdd, Nat.reduceSub, Nat.reduceLT, Nat.reduceLeDiff, Nat.reduceEqDiff, ↓reduceIte]
          refine DX.plain (.take 0 false (.take 1 false (.take 2 false (.take 3 false (.take 4 false (.take 5 false (.take 6 false (.take 7 false (.take 8 false (.take 9 false (.take 10 false (.take 11 false (.take 12 false (.take 13 false (.take 14 false (.take 15 false (.take 16 false (.take 17 false (.take 18 false (.take 19 false (.take 20 false (.take 21 false (.take 22 false (.take 23 false (.take 24 false (.take 25 false (.take 26 false (.take 27 false (.take 28 false (.take 29 false .done)))))))))))))))))))))))))))))) (by kernel_rfl) (by kernel_rfl) Ty.mixed ?_
          simp (maxSteps := 4000000) -implicitDefEqProofs only [go_sem, n1, n2, n3, n4, hy, hx, g1, g2, g3, Option.some.injEq, forall_eq', and_true, true_and, Bool.not_true, Bool.not_false, decide_true, Nat.reduceAdd, Nat.reduceSub, Nat.reduceLT, Nat.reduceLeDiff, Nat.reduceEqDiff, ↓reduceIte]
          simp (maxSteps := 4000000) -implicitDefEqProofs only [go_sem, w1, Option.some.injEq, forall_eq', and_true, true_and, Bool.not_true, Bool.not_false, decide_true, Nat.reduceAdd, Nat.reduceSub, Nat.reduceLT, Nat.reduceLeDiff, Nat.reduceEqDiff, ↓reduceIte]
          exact .mk (k + 1) (by omega) (by omega) (Wk.forget (by (simp only [go_sem]) <;> trivial) (by simp only [go_sem]))
        have g1 : decide (y.br = x.br) = true := decide_eq_true e2.symm
        cases g2 : f == 0
        case false =>
          simp (maxSteps := 4000000) -implicitDefEqProofs only [go_sem, Nat.reduceAdd, Nat.reduceSub, Nat.reduceLT, Nat.reduceLeDiff, Nat.reduceEqDiff, ↓reduceIte]
          refine DX.plain (.take 0 false (.take 1 false (.take 2 false (.take 3 false (.take 4 false (.take 5 false (.take 6 false (.take 7 false (.take 8 false (.take 9 false (.take 10 false (.take 11 false (.take 12 false (.take 13 false (.take 14 false (.take 15 false (.take 16 false (.take 17 false (.take 18 false (.take 19 false (.take 20 false (.take 21 false (.take 22 false (.take 23 false (.take 24 false (.take 25 false (.take 26 false (.take 27 false (.take 28 false (.take 29 false .done)))))))))))))))))))))))))))))) (by kernel_rfl) (by kernel_rfl) Ty.mixed ?_
          simp (maxSteps := 4000000) -implicitDefEqProofs only [go_sem, n1, n2, n3, n4, hy, hx, g1, g2, Option.some.injEq, forall_eq', and_true, true_and, Bool.not_true, Bool.not_false, decide_true, Nat.reduceAdd, Nat.reduceSub, Nat.reduceLT, Nat.reduceLeDiff, Nat.reduceEqDiff, ↓reduceIte]
          simp (maxSteps := 4000000) -implicitDefEqProofs only [go_sem, w1, Option.some.injEq, forall_eq', and_true, true_and, Bool.not_true, Bool.not_false, decide_true, Nat.reduceAdd, Nat.reduceSub, Nat.reduceLT, Nat.reduceLeDiff, Nat.reduceEqDiff, ↓reduceIte]
          exact .mk (k + 1) (by omega) (by omega) (Wk.forget (by (simp only [go_sem]) <;> trivial) (by simp only [go_sem]))
        cases g3 : decide (h < (i : Int))
        case false =>
          simp (maxSteps := 4000000) -implicitDefEqProofs only [go_sem, Nat.reduceAdd, Nat.reduceSub, Nat.reduceLT, Nat.reduceLeDiff, Nat.reduceEqDiff, ↓reduceIte]
          refine DX.plain (.take 0 false (.take 1 false (.take 2 false (.take 3 false (.take 4 false (.take 5 false (.take 6 false (.take 7 false (.take 8 false (.take 9 false (.take 10 false (.take 11 false (.take 12 false (.take 13 false (.take 14 false (.take 15 false (.take 16 false (.take 17 false (.take 18 false (.take 19 false (.take 20 false (.take 21 false (.take 22 false (.take 23 false (.take 24 false (.take 25 false (.take 26 false (.take 27 false (.take 28 false (.take 29 false .done)))))))))))))))))))))))))))))) (by kernel_rfl) (by kernel_rfl) Ty.mixed ?_
          simp (maxSteps := 4000000) -implicitDefEqProofs only [go_sem, n1, n2, n3, n4, hy, hx, g1, g2, g3, Option.some.injEq, forall_eq', and_true, true_and, Bool.not_true, Bool.not_false, decide_true, Nat.reduceAdd, Nat.reduceSub, Nat.reduceLT, Nat.reduceLeDiff, Nat.reduceEqDiff, ↓reduceIte]
          simp (maxSteps := 4000000) -implicitDefEqProofs only [go_sem, w1, Option.some.injEq, forall_eq', and_true, true_and, Bool.not_true, Bool.not_false, decide_true, Nat.reduceAdd, Nat.reduceSub, Nat.reduceLT, Nat.reduceLeDiff, Nat.reduceEqDiff, ↓reduceIte]
          exact .mk (k + 1) (by omega) (by omega) (Wk.forget (by (simp only [go_sem]) <;> trivial) (by simp only [go_sem]))
        obtain ⟨z1, z2⟩ := same (.inr ⟨by simpa using g2, of_decide_eq_true g3⟩)
        subst z1; subst z2
        have g4 : (h != h) = false := by simp
        have g5 : (f != f) = false := by simp
        simp (maxSteps := 4000000) -implicitDefEqProofs only [go_sem, Nat.reduceAdd, Nat.reduceSub, Nat.reduceLT, Nat.reduceLeDiff, Nat.reduceEqDiff, ↓reduceIte]
        refine DX.plain (.take 0 false (.take 1 false (.take 2 false (.take 3 false (.take 4 false (.take 5 false (.take 6 false (.take 7 false (.take 8 false (.take 9 false (.take 10 false (.take 11 false (.take 12 false (.take 13 false (.take 14 false (.take 15 false (.take 16 false (.take 17 false (.take 18 false (.take 19 false (.take 20 false (.take 21 false (.take 22 false (.take 23 false (.take 24 false (.take 25 false (.take 26 false (.take 27 false (.take 28 false (.take 29 false .done)))))))))))))))))))))))))))))) (by kernel_rfl) (by kernel_rfl) Ty.mixed ?_
        simp (maxSteps := 4000000) -implicitDefEqProofs only [go_sem, n1, n2, n3, n4, hy, hx, g1, g2, g3, g4, g5, Option.some.injEq, forall_eq', and_true, true_and, Bool.not_true, Bool.not_false, decide_true, Nat.reduceAdd, Nat.reduceSub, Nat.reduceLT, Nat.reduceLeDiff, Nat.reduceEqDiff, ↓reduceIte]
        simp (maxSteps := 4000000) -implicitDefEqProofs only [go_sem, w1, Option.some.injEq, forall_eq', and_true, true_and, Bool.not_true, Bool.not_false, decide_true, Nat.reduceAdd, Nat.reduceSub, Nat.reduceLT, Nat.reduceLeDiff, Nat.reduceEqDiff, ↓reduceIte]
        exact .mk (k + 1) (by omega) (by omega) (Wk.forget (by (simp only [go_sem]) <;> trivial) (by simp only [go_sem]))
end Go.AX.Qu
namespace Go.Proofs.Ytamlleliapmhmaa
open Go.AX Go.AX.Qu Go.RowKit
set_option maxRecDepth 100000 in
theorem queueKeeps_lifted (os : Os) (started : os.Started) (H : Type) (enc : TypeId × Value → H) :
    ReturnsInHanded {} Try.checked os 7 .any (Rows.queueKeepsSpec.pre6 enc Try.prog Try.f7 Rows.queueKeepsRow.domain false) (Rows.queueKeepsSpec.post enc Try.prog Try.f7 false true false false) := by
  refine Go.AX.lifted (C := Try.checked) (f := 7) (fn := Try.f7) (s := Rows.queueKeepsSpec) (rt := 4) (n := 8) (by kernel_rfl) (by kernel_rfl) Try.func7 rfl ?_ rfl (by kernel_rfl) (by kernel_rfl) (by kernel_rfl) (by kernel_rfl) os started H enc
    (ChangeSpec.witness6 (enc := enc) (C := Try.checked) false ⟨#[], #[.slice none 0 0, .int .i64 0, .int .i64 0], []⟩ 8 (by kernel_rfl) (by kernel_rfl) (by kernel_rfl) (by kernel_rfl)) ?_
  · intro H ds h
    match ds, h with
    | [a0, a1, a2], _ => rfl
  · intro xs hx
    have hp : Try.f7.params.toList = [22, 3, 3] := rfl
    rw [hp] at hx ⊢
    have i0 : isA Try.prog 22 = false := by kernel_rfl
    have i1 : isA Try.prog 3 = false := by kernel_rfl
    have i2 : isA Try.prog 3 = false := by kernel_rfl
    rcases xs with _ | ⟨d0, _ | ⟨d1, _ | ⟨d2, _ | ⟨d3, xs⟩⟩⟩⟩ <;> simp only [Tyds, and_false] at hx
    obtain ⟨k0, k1, k2, _⟩ := hx
    obtain ⟨q, rfl, hq, wq⟩ := requests_of k0
    obtain ⟨i, rfl, hi⟩ := int_of k1
    obtain ⟨mv, rfl, hmv⟩ := int_of k2
    simp only [avs, i0, i1, i2, dv, Bool.false_eq_true, if_false, if_true, List.headD_cons, List.map_cons, List.map_nil]
    exact keeps_law q i mv hq
theorem queueKeeps_over : Rows.queueKeepsRow.holds Try.pinned (OpenSpec.ofChange Rows.queueKeepsSpec) :=
  OpenClaim.holds_of_wide 7 Try.f7 rfl rfl rfl rfl rfl rfl rfl ⟨rfl, rfl, rfl, rfl, rfl⟩ rfl rfl rfl rfl rfl (by kernel_rfl) Try.func7 (by kernel_rfl)
    (of_decide_eq_true (by kernel_rfl)) (by unfold Func.isWrapper; first | (rw [if_pos (by decide +kernel)]; kernel_rfl) | (rw [if_neg (by decide +kernel)]; exact ⟨rfl, rfl⟩))
    (fun os started H enc _ => queueKeeps_lifted os started H enc)
/-- The row, under a short name, for the claim. -/
theorem queueKeeps_holds : Rows.QueueKeepsSaid := queueKeeps_over
#print axioms queueKeeps_holds
end Go.Proofs.Ytamlleliapmhmaa

/- Trains: a law's arguments. TrainSteps: whatever the input, the law returns true, and its arguments read as they did. No condition. -/
import Derived.Test.YtejipcfaedookaaGreatK8
import Derived.KernelRfl
set_option maxHeartbeats 8000000
set_option linter.unusedVariables false
set_option linter.unusedSimpArgs false
set_option maxRecDepth 20000
namespace Go.AX.Tr
open Go.Proofs Go.RowKit Go.IntWalk Go.AX.Br Go.AX.Lg Go.AX.Qu Go.AX.Wn
theorem bool_of {n : Nat} {d : List D} (h : Tyd Tryz.prog (n + 1) 4 d) : ∃ b : Bool, d = [.bool b] := h.bool Ty.under_4
theorem request_of {n : Nat} {x : List D} (h : Tyd Tryz.prog (n + 2) 46 x) : ∃ r : Rq, x = rD r := by
  obtain ⟨f0, f1, f2, f3, f4, hu, e0, e1, e2, e3, e4⟩ : ∃ f0 f1 f2 f3 f4 : Field, Tryz.prog.underlying 46 = some (.struct #[f0, f1, f2, f3, f4]) ∧ f0.type = 9 ∧ f1.type = 9 ∧ f2.type = 5 ∧ f3.type = 4 ∧ f4.type = 3 := ⟨_, _, _, _, _, by rfl, rfl, rfl, rfl, rfl, rfl⟩
  have this := h.struct hu
  simp only [List.map_cons, List.map_nil, Sq] at this
  obtain ⟨a0, b0, rfl, k0, a1, b1, rfl, k1, a2, b2, rfl, k2, a3, b3, rfl, k3, a4, b4, rfl, k4, rfl⟩ := this
  rw [e0] at k0; rw [e1] at k1; rw [e2] at k2; rw [e3] at k3; rw [e4] at k4
  obtain ⟨i, rfl, _⟩ := Lg.str_of k0
  obtain ⟨j, rfl, _⟩ := Lg.str_of k1
  obtain ⟨s, rfl, hs⟩ := Lg.u8_of k2
  obtain ⟨o, rfl⟩ := bool_of k3
  obtain ⟨t, rfl, ht⟩ := Lg.int_of k4
  exact ⟨⟨i, j, s, o, t⟩, rfl⟩
theorem hold_of {n : Nat} {x : List D} (h : Tyd Tryz.prog (n + 2) 74 x) : ∃ r : Hd, x = hD r := by
  obtain ⟨f0, f1, f2, f3, hu, e0, e1, e2, e3⟩ : ∃ f0 f1 f2 f3 : Field, Tryz.prog.underlying 74 = some (.struct #[f0, f1, f2, f3]) ∧ f0.type = 9 ∧ f1.type = 3 ∧ f2.type = 3 ∧ f3.type = 9 := ⟨_, _, _, _, rfl, rfl, rfl, rfl, rfl⟩
  have this := h.struct hu
  simp only [List.map_cons, List.map_nil, Sq] at this
  obtain ⟨a0, b0, rfl, k0, a1, b1, rfl, k1, a2, b2, rfl, k2, a3, b3, rfl, k3, rfl⟩ := this
  rw [e0] at k0; rw [e1] at k1; rw [e2] at k2; rw [e3] at k3
  obtain ⟨i, rfl, _⟩ := Lg.str_of k0
  obtain ⟨j, rfl, hj⟩ := Lg.int_of k1
  obtain ⟨s, rfl, _⟩ := Lg.int_of k2
  obtain ⟨t, rfl, _⟩ := Lg.str_of k3
  exact ⟨⟨i, j, s, t⟩, rfl⟩
theorem clash_of {n : Nat} {x : List D} (h : Tyd Tryz.prog (n + 2) 62 x) : ∃ r : Cl, x = clD r := by
  obtain ⟨f0, f1, hu, e0, e1⟩ : ∃ f0 f1 : Field, Tryz.prog.underlying 62 = some (.struct #[f0, f1]) ∧ f0.type = 9 ∧ f1.type = 9 := ⟨_, _, by rfl, rfl, rfl⟩
  have this := h.struct hu
  simp only [List.map_cons, List.map_nil, Sq] at this
  obtain ⟨a0, b0, rfl, k0, a1, b1, rfl, k1, rfl⟩ := this
  rw [e0] at k0; rw [e1] at k1
  obtain ⟨i, rfl, _⟩ := Lg.str_of k0
  obtain ⟨j, rfl, _⟩ := Lg.str_of k1
  exact ⟨⟨i, j⟩, rfl⟩
theorem rows_ofT {α : Type} {g : α → List D} : ∀ {es : List (List D)}, (∀ x ∈ es, ∃ a, x = g a) → ∃ l : List α, es = l.map g
  | [], _ => ⟨[], rfl⟩
  | x :: es, h => by
    obtain ⟨a, rfl⟩ := h x (by simp)
    obtain ⟨l, rfl⟩ := rows_ofT (es := es) fun y hy => h y (List.mem_cons_of_mem _ hy)
    exact ⟨a :: l, rfl⟩
theorem requests_of {n : Nat} {d : List D} (h : Tyd Tryz.prog (n + 3) 27 d) : ∃ q : List Rq, d = [.sl (q.map rD)] ∧ Sm q.length := by
  obtain ⟨es, rfl, h1, h2⟩ := h.slice Ty.under_27
  obtain ⟨l, rfl⟩ := rows_ofT (g := rD) fun x hx => request_of (h2 x hx)
  refine ⟨l, rfl, ?_⟩
  have hb : Tryz.prog.bytesOf 46 = 48 := by kernel_rfl
  rw [hb, List.length_map] at h1
  unfold Sm; omega
theorem holds_of {n : Nat} {d : List D} (h : Tyd Tryz.prog (n + 3) 28 d) : ∃ q : List Hd, d = [.sl (q.map hD)] ∧ Sm q.length := by
  obtain ⟨es, rfl, h1, h2⟩ := h.slice Ty.under_28
  obtain ⟨l, rfl⟩ := rows_ofT (g := hD) fun x hx => hold_of (h2 x hx)
  refine ⟨l, rfl, ?_⟩
  have hb : Tryz.prog.bytesOf 74 = 48 := by kernel_rfl
  rw [hb, List.length_map] at h1
  unfold Sm; omega
theorem clashes_of {n : Nat} {d : List D} (h : Tyd Tryz.prog (n + 3) 29 d) : ∃ q : List Cl, d = [.sl (q.map clD)] ∧ Sm q.length := by
  obtain ⟨es, rfl, h1, h2⟩ := h.slice Ty.under_29
  obtain ⟨l, rfl⟩ := rows_ofT (g := clD) fun x hx => clash_of (h2 x hx)
  refine ⟨l, rfl, ?_⟩
  have hb : Tryz.prog.bytesOf 62 = 32 := by kernel_rfl
  rw [hb, List.length_map] at h1
  unfold Sm; omega
theorem train_of {n : Nat} {x : List D} (h : Tyd Tryz.prog (n + 6) 31 x) : ∃ t : Tr, x = [.sl (t.lg.kn.map kD), .sl (t.lg.br.map bD), .sl (t.lg.ev.map esD), .sl (t.q.map rD), .sl (t.hs.map hD), .sl (t.cl.map clD)] ∧ TSm t := by
  obtain ⟨f0, f1, f2, f3, hu, e0, e1, e2, e3⟩ : ∃ f0 f1 f2 f3 : Field, Tryz.prog.underlying 31 = some (.struct #[f0, f1, f2, f3]) ∧ f0.type = 26 ∧ f1.type = 27 ∧ f2.type = 28 ∧ f3.type = 29 := ⟨_, _, _, _, by rfl, rfl, rfl, rfl, rfl⟩
  have this := h.struct hu
  simp only [List.map_cons, List.map_nil, Sq] at this
  obtain ⟨a0, b0, rfl, k0, a1, b1, rfl, k1, a2, b2, rfl, k2, a3, b3, rfl, k3, rfl⟩ := this
  rw [e0] at k0; rw [e1] at k1; rw [e2] at k2; rw [e3] at k3
  obtain ⟨l, rfl, hl⟩ := Lg.ledger_of k0
  obtain ⟨q, rfl, hq⟩ := requests_of (n := n + 2) k1
  obtain ⟨w, rfl, hw⟩ := holds_of (n := n + 2) k2
  obtain ⟨c, rfl, hc⟩ := clashes_of (n := n + 2) k3
  exact ⟨⟨l, q, w, c⟩, rfl, hl.k, hl.b, hl.e, hl.s, hq, hw, hc⟩
theorem int_of {n : Nat} {d : List D} (h : Tyd Tryz.prog (n + 1) 3 d) : ∃ i : Int, d = [.int .i64 i] ∧ (-9223372036854775808 ≤ i ∧ i ≤ 9223372036854775807) := Lg.int_of h
theorem str_of {n : Nat} {d : List D} (h : Tyd Tryz.prog (n + 1) 9 d) : ∃ s : ByteArray, d = [.str s] ∧ Sm s.size := Lg.str_of h
theorem tfit_of {t : Tr} (h : tgreat t = false) : TFit t := by
  simp only [tgreat, Bool.or_eq_false_iff, decide_eq_false_iff_not] at h
  obtain ⟨-, ⟨⟨h1, h2⟩, h3⟩, h4⟩ := h
  have f := fit_of h1
  simp only [wgreat, Bool.or_eq_false_iff, decide_eq_false_iff_not] at h2
  simp only [qgreat, Bool.or_eq_false_iff, decide_eq_false_iff_not] at h3
  exact ⟨by have := f.k; omega, by have := f.b; omega, by have := f.e; omega, fun s hs => by have := f.s s hs; omega, by omega, by omega, by omega⟩
theorem t0_fit : TFit t0 := ⟨by decide, by decide, by decide, fun s hs => by simp [t0, lg0] at hs, by decide, by decide, by decide⟩
end Go.AX.Tr
namespace Go.AX.Tr
open Go.Proofs Go.RowKit Go.IntWalk Go.AX.Br Go.AX.Lg Go.AX.Qu Go.AX.Wn
def sRel : ByteArray := ⟨#[114, 101, 108, 101, 97, 115, 101]⟩
def exT : Tr := ⟨⟨[⟨sFix, 1⟩, ⟨sOther, 2⟩], [⟨sMain, ⟨#[]⟩, 0⟩, ⟨sR1, sMain, 0⟩], [[⟨1, sFix⟩], []]⟩, [⟨sR1, sFix, 2, false, 0⟩, ⟨sR1, sOther, 2, false, 0⟩], [⟨sR1, 5, 9, sRel⟩], [⟨sR1, sOther⟩]⟩
theorem runF_fit' {t : Tr} {b : ByteArray} {tk : Int} : ∀ n k, TFit (itR t b tk k).1 → TFit (runF t b tk n k).1
  | 0, k, f => f
  | n + 1, k, f => by
    rw [runF]
    split
    · exact f
    split
    · exact f
    next q => exact runF_fit' n (k + 1) (step_fit f (by omega))
theorem run_fit1 {t : Tr} (b : ByteArray) (tk n : Int) (f : TFit t) : TFit (runR t b tk n).1 := by
  unfold runR
  split
  · exact t0_fit
  split
  · exact t0_fit
  split
  · exact t0_fit
  · exact runF_fit' _ 0 f
end Go.AX.Tr
namespace Go.AX.Tr
open Go.Proofs Go.RowKit Go.IntWalk Go.AX.Br Go.AX.Lg Go.AX.Qu Go.AX.Wn
theorem begin_eq {t : Tr} {b : ByteArray} {tk : Int} (o : TOk t) (hb : 0 ≤ idx (has b) t.lg.br) (h1 : 0 ≤ tk) (h2 : tk ≤ 1000000) : beginR t b tk = if idx (isHead b) t.q < 0 then (0, 6) else (idx (isHead b) t.q, 0) := by
  unfold beginR
  rw [if_neg (by simp [o.chk])]
  by_cases h : idx (isHead b) t.q < 0
  · rw [if_pos (.inr h), if_pos h]
  · rw [if_neg (by omega), if_neg (by omega), if_neg h]
theorem step_err {t : Tr} {b : ByteArray} {tk : Int} (o : TOk t) (hb : 0 ≤ idx (has b) t.lg.br) (h1 : 0 ≤ tk) (h2 : tk ≤ 1000000) {i : Nat} {r : Rq} (hi : idx (isHead b) t.q = i) (hx : t.q[i]? = some r) :
    ((stepR t b tk).2.2 = 28 ∧ heldH t r tk = true ∨ ((stepR t b tk).2.2 = 0 ∨ (stepR t b tk).2.2 = 4) ∧ heldH t r tk = false) ∧ waitR t b tk = if heldH t r tk then fitRR t.hs b tk 1 else (tk, 0) := by
  have bg : beginR t b tk = ((i : Int), 0) := by rw [begin_eq o hb h1 h2, hi, if_neg (by omega)]
  obtain ⟨-, i', r', e1, e2, hx', e3, -, kn, -, -⟩ := begin_ok (t := t) (b := b) (tk := tk) (by rw [bg])
  have : i' = i := by omega
  subst this
  rw [hx] at hx'; cases hx'
  subst e3
  refine ⟨?_, by unfold waitR; rw [bg, if_neg (by simp), hi, Int.toNat_natCast, hx]⟩
  unfold stepR
  rw [bg, if_neg (by simp), hi, Int.toNat_natCast, hx]
  simp only
  cases q : heldH t r tk
  · simp only [Bool.false_eq_true, if_false]
    refine .inr ⟨?_, trivial⟩
    by_cases h5 : outR t r = 5
    · rw [if_pos h5]
      by_cases h0 : (appR t.lg r.br ⟨2, r.ch⟩).2 = 0
      · rw [if_neg (by omega)]; exact .inl rfl
      · rw [if_pos h0, app4 o kn h5 h0]; exact .inr rfl
    · rw [if_neg h5]; exact .inl rfl
  · exact .inl ⟨rfl, rfl⟩
theorem next_all {l : List Hd} {b : ByteArray} (h0 : wcheck l = 0) {tk : Int} (h1 : 0 ≤ tk) (h2 : tk ≤ 1000000) :
    ∃ N, fitRR l b tk 1 = (N, 0) ∧ ((held l b tk = false ∧ N = tk) ∨ (held l b tk = true ∧ tk < N ∧ N ≤ 1000000 ∧ held l b N = false ∧ ∀ x, tk ≤ x → x < N → held l b x = true)) := by
  have O := okw b h0
  refine ⟨nextW (winL l b) tk, by rw [fitRR, if_neg (by simp [ask0 h0 h1 h2]), if_neg (by omega), fit_one O ⟨h1, h2⟩], ?_⟩
  obtain ⟨N, hN⟩ : ∃ N, N = nextW (winL l b) tk := ⟨_, rfl⟩
  rw [← hN]
  unfold nextW at hN
  cases h : Wn.look (winL l b) tk with
  | none =>
    rw [h] at hN
    exact .inl ⟨(O.nheld tk).2 (none_cov h), hN⟩
  | some w =>
    rw [h] at hN
    obtain ⟨_, _, _, _, q, _, _, _, hm⟩ := look_some O.can h
    simp only at hN
    by_cases hw : w.fr ≤ tk
    · rw [if_pos hw] at hN
      have wb := O.bounds hm
      refine .inr ⟨(O.heldC tk).2 ((look_cov O.can h).2 hw), by omega, by omega, ?_, fun x x1 x2 => (O.heldC x).2 ⟨w, hm, by omega, by omega⟩⟩
      rw [hN]; exact (O.nheld _).2 (O.can.end_open hm)
    · rw [if_neg hw] at hN
      exact .inl ⟨(O.nheld tk).2 fun hc => hw ((look_cov O.can h).1 hc), hN⟩
theorem wait_all {t : Tr} {r : Rq} {tk : Int} (o : TOk t) (h1 : 0 ≤ tk) (h2 : tk ≤ 1000000) :
    ∃ N, (if heldH t r tk then fitRR t.hs r.br tk 1 else (tk, 0)) = (N, 0) ∧ 0 ≤ N ∧ N ≤ 1000000 ∧ heldH t r N = false ∧ (heldH t r tk = false ∧ N = tk ∨ heldH t r tk = true ∧ tk < N) ∧ ∀ x, tk ≤ x → x < N → heldH t r x = true := by
  obtain ⟨N, hN, hh⟩ := next_all (b := r.br) o.w0 h1 h2
  by_cases q : heldH t r tk = true
  · rw [if_pos q, hN]
    simp only [heldH, Bool.and_eq_true] at q
    rcases hh with ⟨k, -⟩ | ⟨k, k1, k2, k3, k4⟩
    · rw [k] at q; cases q.1
    · exact ⟨N, rfl, by omega, k2, by rw [heldH, k3]; rfl, .inr ⟨by rw [heldH, k, q.2]; rfl, k1⟩, fun x x1 x2 => by rw [heldH, k4 x x1 x2, q.2]; rfl⟩
  · rw [if_neg q]
    have q' : heldH t r tk = false := by simpa using q
    exact ⟨tk, rfl, h1, h2, q', .inl ⟨q', rfl⟩, fun x x1 x2 => by omega⟩
theorem at_br {t : Tr} (o : TOk t) {i : Nat} {x : Br} (hx : t.lg.br[i]? = some x) : 0 ≤ idx (has x.name) t.lg.br := (idx_le hx (p := has x.name) (by simp [has])).1
end Go.AX.Tr
namespace Go.AX.Qu
open Go.Proofs Go.RowKit Go.IntWalk Go.AX.Br
theorem qcheck_valid {q : List Rq} (h : qcheck q = 0) : ∀ x ∈ q, valid x = true := fun x hx => by
  simp only [qcheck] at h
  split at h
  · omega
  split at h
  · omega
  · next _ h2 =>
    cases hv : valid x with
    | true => rfl
    | false => exact absurd (List.any_eq_true.2 ⟨x, hx, by simp [hv]⟩) h2
theorem mod_len {q : List Rq} {i : Nat} {f : Rq → Rq} : (q.modify i f).length = q.length := List.length_modify ..
theorem mod_at {q : List Rq} {i k : Nat} {s : Int} : (q.modify i fun y => setSt y s)[k]? = (q[k]?).map fun y => if i = k then setSt y s else y := by
  rw [List.getElem?_modify]; rfl
theorem mod_check {q : List Rq} {i : Nat} {x : Rq} {s : Int} (h : qcheck q = 0) (hx : q[i]? = some x) (h1 : 1 ≤ s) (h2 : s ≤ 7) (ho : opn (setSt x s) = true → opn x = true) : qcheck (q.modify i fun y => setSt y s) = 0 := by
  have hl := qcheck_len h
  have hv := qcheck_valid h
  obtain ⟨Y, hY⟩ : ∃ Y, Y = q.modify i fun y => setSt y s := ⟨_, rfl⟩
  have hYl : Y.length = q.length := by rw [hY, mod_len]
  have back : ∀ (k : Nat) (y : Rq), Y[k]? = some y → ∃ z, q[k]? = some z ∧ y.br = z.br ∧ y.ch = z.ch ∧ (opn y = true → opn z = true) ∧ valid y = true := fun k y hy => by
    rw [hY, mod_at] at hy
    cases hz : q[k]? with
    | none => simp [hz] at hy
    | some z =>
      have vz := hv z (List.mem_of_getElem? hz)
      rw [hz] at hy
      simp only [Option.map_some, Option.some.injEq] at hy
      by_cases e : i = k
      · subst e
        rw [hx] at hz; cases hz
        rw [if_pos rfl] at hy; subst hy
        refine ⟨x, rfl, rfl, rfl, ho, ?_⟩
        simp only [valid, setSt, Bool.and_eq_true, decide_eq_true_eq] at vz ⊢
        exact ⟨⟨⟨⟨⟨vz.1.1.1.1.1, vz.1.1.1.1.2⟩, decide_eq_true h1⟩, decide_eq_true h2⟩, decide_eq_true vz.1.2⟩, decide_eq_true vz.2⟩
      · rw [if_neg e] at hy; subst hy
        exact ⟨z, rfl, rfl, rfl, fun h => h, vz⟩
  have ht : qtw q = false := by
    unfold qcheck at h
    rw [if_neg (by omega)] at h
    split at h
    · simp at h
    · cases e : qtw q with
      | false => rfl
      | true => simp [e] at h
  have hal : Y.any (fun r => !valid r) = false := by
    rw [List.any_eq_false]
    intro r hr
    obtain ⟨k, hk⟩ := List.mem_iff_getElem?.1 hr
    obtain ⟨_, _, _, _, _, g⟩ := back k r hk
    simp [g]
  have htw : qtw Y = false := by
    unfold qtw
    refine anyI_f fun k y hy => ?_
    obtain ⟨z, hz, b1, b2, b3, _⟩ := back k y hy
    cases oy : opn y with
    | false => simp
    | true =>
      rw [Bool.true_and, List.any_eq_false]
      intro t htk
      obtain ⟨j, hj⟩ := List.mem_iff_getElem?.1 htk
      have hjk : j < k := by
        have := some_lt hj
        simp at this; omega
      rw [List.getElem?_take_of_lt hjk] at hj
      obtain ⟨u, hu, c1, c2, c3, _⟩ := back j t hj
      intro hs
      have h0 := anyI_no ht hz
      simp only [b3 oy, Bool.true_and, List.any_eq_false] at h0
      refine h0 u (List.mem_of_getElem? (i := j) (by rw [List.getElem?_take_of_lt hjk]; exact hu)) ?_
      simp only [same2, Bool.and_eq_true, decide_eq_true_eq] at hs ⊢
      exact ⟨⟨c3 hs.1.1, by rw [← c1, ← b1]; exact hs.1.2⟩, by rw [← c2, ← b2]; exact hs.2⟩
  rw [← hY]
  simp only [qcheck]
  rw [hYl, if_neg (by omega), hal, htw]
  simp
end Go.AX.Qu
namespace Go.AX.Tr
open Go.Proofs Go.RowKit Go.IntWalk Go.AX.Br Go.AX.Lg Go.AX.Qu Go.AX.Wn
theorem app_lok {l : Lg} (lo : LOk l) {b ch : ByteArray} (kn : known l b ch = true) {l' : Lg} (h : appR l b ⟨2, ch⟩ = (l', 0)) : LOk l' ∧ l'.kn = l.kn ∧ l'.br = l.br := by
  obtain ⟨i, x, s, v, c, j, k, p, h40, hin, rfl⟩ := app_ok lo kn h
  have hal : allR l (preE l i ++ s) ⟨2, ch⟩ = 0 := by simp only [allR, p.hcr, hin]; simp
  exact ⟨(add_ok lo p.a (e := ⟨2, ch⟩) h40 p.hc hal).1, rfl, rfl⟩
theorem known_same {l m : Lg} (h1 : m.kn = l.kn) (h2 : m.br = l.br) (b c : ByteArray) : known m b c = known l b c := by
  cases l; cases m; cases h1; cases h2; rfl
theorem st_mem {t : Tr} {i : Nat} {s : Int} {r' : Rq} (h : r' ∈ stQ t i s) : ∃ r ∈ t.q, r'.br = r.br ∧ r'.ch = r.ch := by
  obtain ⟨k, hk⟩ := List.mem_iff_getElem?.1 h
  rw [stQ, mod_at] at hk
  cases hz : t.q[k]? with
  | none => simp [hz] at hk
  | some z =>
    rw [hz] at hk
    simp only [Option.map_some, Option.some.injEq] at hk
    refine ⟨z, List.mem_of_getElem? hz, ?_⟩
    split at hk <;> subst hk <;> exact ⟨rfl, rfl⟩
theorem step_tok {t : Tr} {b : ByteArray} {tk : Int} (h : (stepR t b tk).2.2 = 0) : TOk (stepR t b tk).1 ∧ (stepR t b tk).1.lg.br = t.lg.br := by
  obtain ⟨o, i, r, l', e1, hx, e2, e3, kn, -, -, -, es, hl⟩ := step_ok h
  have hl' : LOk l' ∧ l'.kn = t.lg.kn ∧ l'.br = t.lg.br := by
    rcases hl with ⟨-, ha⟩ | ⟨-, rfl⟩
    · exact app_lok o.lo kn ha
    · exact ⟨o.lo, rfl, rfl⟩
  rw [es]
  refine ⟨tok_of ?_, hl'.2.2⟩
  have or := outR_of (t := t) (r := r)
  have hq : qcheck (stQ t i (outR t r)) = 0 := mod_check o.q0 hx (by omega) (by omega) fun q => by
    simp only [opn, setSt, Bool.or_eq_true, beq_iff_eq] at q
    omega
  have a1 : (stQ t i (outR t r)).any (badQ l') = false := by
    rw [List.any_eq_false]
    intro y hy
    obtain ⟨z, hz, q1, q2⟩ := st_mem hy
    have := o.qk z hz
    simp only [badQ, q1, q2, known_same hl'.2.1 hl'.2.2, this]; simp
  have a2 : t.cl.any (badC l') = false := by
    rw [List.any_eq_false]
    intro y hy
    have := o.ck y hy
    simp only [badC, known_same hl'.2.1 hl'.2.2, this]; simp
  unfold tcheck
  have := o.cl
  simp only
  rw [if_neg (by simp [hl'.1.chk]), if_neg (by simp [hq]), if_neg (by simp [o.w0]), if_neg (by omega), a1, a2, if_pos o.nd]
  rfl
def runG (b : ByteArray) (tk : Int) : Nat → Tr → Tr × List Int × Int
  | 0, t => (t, [], 0)
  | n + 1, t =>
    if (stepR t b tk).2.2 = 4 then (t, [], 4) else if (stepR t b tk).2.2 ≠ 0 then (t, [], 0)
    else ((runG b tk n (stepR t b tk).1).1, (stepR t b tk).2.1 :: (runG b tk n (stepR t b tk).1).2.1, (runG b tk n (stepR t b tk).1).2.2)
theorem run_G {t : Tr} {b : ByteArray} {tk : Int} : ∀ n k, runF t b tk n k = ((runG b tk n (itR t b tk k).1).1, (itR t b tk k).2 ++ (runG b tk n (itR t b tk k).1).2.1, (runG b tk n (itR t b tk k).1).2.2)
  | 0, k => by simp [runF, runG]
  | n + 1, k => by
    rw [runF, runG]
    split
    · simp
    split
    · simp
    · rw [run_G n (k + 1)]; simp [itR]
theorem run_eq {t : Tr} {b : ByteArray} {tk : Int} {n : Nat} (o : TOk t) (hb : 0 ≤ idx (has b) t.lg.br) (h1 : 0 ≤ tk) (h2 : tk ≤ 1000000) (hn : n ≤ 30) : runR t b tk n = runG b tk n t := by
  unfold runR
  rw [if_neg (by simp [o.chk]), if_neg (by omega), if_neg (by omega), Int.toNat_natCast, run_G]
  rfl
theorem runG_ok {b : ByteArray} {tk : Int} : ∀ (n : Nat) {t : Tr}, TOk t → TFit t → TOk (runG b tk n t).1 ∧ TFit (runG b tk n t).1 ∧ (runG b tk n t).1.lg.br = t.lg.br ∧ ((runG b tk n t).2.2 = 0 ∨ (runG b tk n t).2.2 = 4) ∧ (runG b tk n t).2.1.length ≤ n
  | 0, t, o, f => ⟨o, f, rfl, .inl rfl, Nat.le_refl _⟩
  | n + 1, t, o, f => by
    rw [runG]
    split
    · exact ⟨o, f, rfl, .inr rfl, by simp⟩
    split
    · exact ⟨o, f, rfl, .inl rfl, by simp⟩
    next q =>
      obtain ⟨s1, s2⟩ := step_tok (t := t) (b := b) (tk := tk) (by omega)
      obtain ⟨a1, a2, a3, a4, a5⟩ := runG_ok (b := b) (tk := tk) n s1 (step_fit f (by omega))
      exact ⟨a1, a2, by rw [a3, s2], a4, by simp; omega⟩
end Go.AX.Tr
namespace Go.AX.Tr
open Go.Proofs Go.RowKit Go.IntWalk Go.AX.Br Go.AX.Lg Go.AX.Qu Go.AX.Wn
def cntH (b : ByteArray) (q : List Rq) : Nat := (q.filter (isHead b)).length
def setl (b : ByteArray) : List Rq → List Int → List Rq
  | [], _ => []
  | x :: q, [] => x :: q
  | x :: q, s :: ss => if isHead b x then setSt x s :: setl b q ss else x :: setl b q (s :: ss)
theorem setl_nil (b : ByteArray) : ∀ q, setl b q [] = q
  | [] => rfl
  | x :: q => rfl
theorem setl_no {b : ByteArray} {x : Rq} (h : isHead b x = false) (q : List Rq) (ss : List Int) : setl b (x :: q) ss = x :: setl b q ss := by
  cases ss with
  | nil => rw [setl_nil, setl_nil]
  | cons s ss => rw [setl, if_neg (by simp [h])]
theorem setl_yes {b : ByteArray} {x : Rq} (h : isHead b x = true) (q : List Rq) (s : Int) (ss : List Int) : setl b (x :: q) (s :: ss) = setSt x s :: setl b q ss := by
  rw [setl, if_pos h]
theorem setl_len (b : ByteArray) : ∀ q ss, (setl b q ss).length = q.length
  | [], ss => by cases ss <;> rfl
  | x :: q, [] => by rw [setl_nil]
  | x :: q, s :: ss => by
    rw [setl]
    split
    · simp [setl_len b q ss]
    · simp [setl_len b q (s :: ss)]
theorem setl_pre (b : ByteArray) : ∀ (pre q : List Rq) (ss : List Int), (∀ x ∈ pre, isHead b x = false) → setl b (pre ++ q) ss = pre ++ setl b q ss
  | [], q, ss, _ => rfl
  | x :: pre, q, ss, h => by
    have hx := h x (by simp)
    rw [List.cons_append, setl_no hx, setl_pre b pre q ss fun y hy => h y (List.mem_cons_of_mem _ hy)]
    rfl
theorem head_split {b : ByteArray} {q : List Rq} {i : Nat} (h : idx (isHead b) q = i) : ∃ x, q[i]? = some x ∧ isHead b x = true ∧ q = q.take i ++ x :: q.drop (i + 1) ∧ ∀ y ∈ q.take i, isHead b y = false := by
  obtain ⟨j, x, h1, h2, h3⟩ := idx_get (p := isHead b) (l := q) (by omega)
  have : j = i := by omega
  subst this
  have e : q = q.take j ++ x :: q.drop (j + 1) := by
    have := List.take_append_drop j q
    rw [List.drop_eq_getElem_cons (some_lt h2), (List.getElem?_eq_some_iff.1 h2).2] at this
    exact this.symm
  refine ⟨x, h2, h3, e, fun y hy => ?_⟩
  obtain ⟨k, hk⟩ := List.mem_iff_getElem?.1 hy
  have hkj : k < j := by have := some_lt hk; simp at this; omega
  rw [List.getElem?_take_of_lt hkj] at hk
  cases hy2 : isHead b y with
  | false => rfl
  | true => have := (idx_le hk hy2).2; omega
theorem modify_split {q : List Rq} {i : Nat} {x : Rq} {f : Rq → Rq} (hx : q[i]? = some x) : q.modify i f = q.take i ++ f x :: q.drop (i + 1) := by
  rw [List.modify_eq_take_cons_drop (some_lt hx), (List.getElem?_eq_some_iff.1 hx).2]
theorem set_no {b : ByteArray} {x : Rq} {s : Int} (hs : 5 ≤ s) : isHead b (setSt x s) = false := by
  have : (s == (2 : Int)) = false := by simp; omega
  simp only [isHead, setSt, this, Bool.and_false]
theorem st_cnt {b : ByteArray} {t : Tr} {i : Nat} {s : Int} (h : idx (isHead b) t.q = i) (hs : 5 ≤ s) : cntH b t.q = cntH b (stQ t i s) + 1 ∧ ∀ ss, setl b (stQ t i s) ss = setl b t.q (s :: ss) := by
  obtain ⟨x, h1, h2, e, hn⟩ := head_split h
  have m := modify_split (f := fun r => setSt r s) h1
  have nil : (t.q.take i).filter (isHead b) = [] := List.filter_eq_nil_iff.2 fun y hy => by simp [hn y hy]
  constructor
  · unfold cntH stQ
    rw [m]
    conv => lhs; rw [e]
    rw [List.filter_append, List.filter_append, nil, List.filter_cons_of_pos h2, List.filter_cons_of_neg (by simp [set_no hs])]
    simp
  · intro ss
    unfold stQ
    rw [m, setl_pre b _ _ _ hn]
    conv => rhs; rw [e]
    rw [setl_pre b _ _ _ hn, setl_no (set_no hs), setl_yes h2]
structure Room (b : ByteArray) (tk : Int) (t : Tr) : Prop where
  o : TOk t
  hb : 0 ≤ idx (has b) t.lg.br
  h1 : 0 ≤ tk
  h2 : tk ≤ 1000000
  fr : held t.hs b tk = false
  rm : (t.lg.ev.getD (idx (has b) t.lg.br).toNat []).length + cntH b t.q ≤ 40
end Go.AX.Tr
namespace Go.AX.Qu
open Go.Proofs Go.RowKit Go.IntWalk Go.AX.Br
theorem qline_own (q : List Rq) (b : ByteArray) (hq : Sm q.length) : Spec Tryz.prog 40 [.d (.sl (q.map rD)), .d (.str b)] [] (.tup [.d (.sl ((qlineR q b).1.map iD)), .d (.int .i64 (qlineR q b).2)]) [] := by
  refine spec_of_ev (fn := Tryz.f40) DX_ok 3000 Tryz.func40 rfl rfl (Nat.le_of_ble_eq_true rfl) ?_
  simp (maxSteps := 4000000) -implicitDefEqProofs only [Tryz.f40, go_sem]
  refine ecall0 _ (qcheck_own q hq) (by simp only [go_sem]) (by simp only [go_sem]) ?_
  simp (maxSteps := 4000000) -implicitDefEqProofs only [go_sem, Nat.reduceAdd, Nat.reduceSub, Nat.reduceLT, Nat.reduceLeDiff, Nat.reduceEqDiff, ↓reduceIte]
  by_cases h1 : qcheck q = 0
  case neg =>
    have d1 : (qcheck q != 0) = true := by simp [h1]
    simp (maxSteps := 4000000) -implicitDefEqProofs only [go_sem, d1, Option.some.injEq, forall_eq', and_true, true_and, Bool.not_true, Bool.not_false, decide_true, Nat.reduceAdd, Nat.reduceSub, Nat.reduceLT, Nat.reduceLeDiff, Nat.reduceEqDiff, ↓reduceIte]
    rw [show qlineR q b = ([], qcheck q) by simp only [qlineR]; rw [if_pos h1]]
    exact wk_dat (r' := .tup [.d (.sl []), .d (.int .i64 (qcheck q))]) (by simp only [go_sem]; rfl) rfl (by simp only [go_sem])
  have d1 : (qcheck q != 0) = false := by simp [h1]
  have hl := qcheck_len h1
  rw [show qlineR q b = (lineL q b q.length, 0) by simp only [qlineR]; rw [if_neg (by omega)]]
  simp (maxSteps := 4000000) -implicitDefEqProofs only [go_sem, d1, Option.some.injEq, forall_eq', and_true, true_and, Bool.not_true, Bool.not_false, decide_true, Nat.reduceAdd, Nat.reduceSub, Nat.reduceLT, Nat.reduceLeDiff, Nat.reduceEqDiff, ↓reduceIte]
  refine eloop (S := Nat) (fun i => mkE 36 [(1, .d (.str b)), (7, .own 0), (15, .d (.sl (q.map rD))), (16, .d (.int .i64 q.length)), (17, .d (.int .i64 i))]) (fun i => [.row 1 ((lineL q b i).map iD)]) (fun i => i ≤ q.length) (fun i => q.length - i) 0 (Nat.zero_le _) ?_ ?_
  · refine Wk.trans (Wk.nil 7 1 (by simp only [go_sem])) ?_
    simp (maxSteps := 4000000) -implicitDefEqProofs only [go_sem, Nat.reduceAdd, Nat.reduceSub, Nat.reduceLT, Nat.reduceLeDiff, Nat.reduceEqDiff, ↓reduceIte]
    exact (Wk.sub (by (simp only [go_sem]) <;> trivial))
  intro i hi
  have hol := lineL_len q b i
  rcases Nat.lt_or_ge i q.length with h2 | h2
  · have d2 : decide ((i : Int) < q.length) = true := by simp; omega
    obtain ⟨x, hx⟩ : ∃ x, q[i]? = some x := ⟨q[i]'(by omega), List.getElem?_eq_getElem _⟩
    have n1 : (0 ≤ (i : Int) ∧ (i : Int) < q.length) = True := eq_true (by omega)
    have w1 : IntKind.i64.wrap ((i : Int) + 1) = i + 1 := i64_in _ (by omega)
    have nx : lineL q b (i + 1) = lineL q b i ++ if inLine b x = true then [(i : Int)] else [] := by simp only [lineL, hx, Option.map_some, Option.getD_some]
    have ea : (lineL q b i).map iD ++ [[D.int .i64 i]] = (lineL q b i ++ [(i : Int)]).map iD := by simp [iD]
    have ox := open_own x
    simp only [rA] at ox
    cases h3 : decide (x.br = b)
    · have e : inLine b x = false := by simp [inLine, h3]
      rw [e] at nx
      simp (maxSteps := 4000000) -implicitDefEqProofs only [go_sem, d2, n1, hx, h3, w1, Option.some.injEq, forall_eq', and_true, true_and, Bool.not_true, Bool.not_false, decide_true, Nat.reduceAdd, Nat.reduceSub, Nat.reduceLT, Nat.reduceLeDiff, Nat.reduceEqDiff, ↓reduceIte]
      exact .mk (i + 1) h2 (by omega) (by rw [nx, if_neg (by simp), List.append_nil]; exact (Wk.via [0] (by (simp only [go_sem, ↓reduceIte]) <;> trivial) (by first | (simp (maxSteps := 4000000) -implicitDefEqProofs only [go_sem, Nat.reduceAdd, Nat.reduceSub, Nat.reduceLT, Nat.reduceLeDiff, Nat.reduceEqDiff, ↓reduceIte]; done) | ((simp (maxSteps := 4000000) -implicitDefEqProofs only [go_sem, Nat.reduceAdd, Nat.reduceSub, Nat.reduceLT, Nat.reduceLeDiff, Nat.reduceEqDiff, ↓reduceIte]) <;> omega)) (by simp) (by first | (simp; done) | (simp [so]; done)) (by (simp (maxSteps := 4000000) -implicitDefEqProofs only [go_sem, Nat.reduceAdd, Nat.reduceSub, Nat.reduceLT, Nat.reduceLeDiff, Nat.reduceEqDiff, ↓reduceIte]) <;> trivial) (by first | (simp only [go_sem]; done) | ((simp (maxSteps := 4000000) -implicitDefEqProofs only [go_sem, Nat.reduceAdd, Nat.reduceSub, Nat.reduceLT, Nat.reduceLeDiff, Nat.reduceEqDiff, ↓reduceIte]) <;> omega)) (Nat.zero_le _) (fun i h => absurd h (Nat.not_lt_zero i))))
    simp (maxSteps := 4000000) -implicitDefEqProofs only [go_sem, d2, n1, hx, h3, Option.some.injEq, forall_eq', and_true, true_and, Bool.not_true, Bool.not_false, decide_true, Nat.reduceAdd, Nat.reduceSub, Nat.reduceLT, Nat.reduceLeDiff, Nat.reduceEqDiff, ↓reduceIte]
    refine ecall0 _ ox (by simp only [go_sem]) (by simp only [go_sem]) ?_
    cases h4 : opn x
    · have e : inLine b x = false := by simp [inLine, h4]
      rw [e] at nx
      simp (maxSteps := 4000000) -implicitDefEqProofs only [go_sem, h4, w1, Option.some.injEq, forall_eq', and_true, true_and, Bool.not_true, Bool.not_false, decide_true, Nat.reduceAdd, Nat.reduceSub, Nat.reduceLT, Nat.reduceLeDiff, Nat.reduceEqDiff, ↓reduceIte]
      exact .mk (i + 1) h2 (by omega) (by rw [nx, if_neg (by simp), List.append_nil]; exact (Wk.via [0] (by (simp only [go_sem, ↓reduceIte]) <;> trivial) (by first | (simp (maxSteps := 4000000) -implicitDefEqProofs only [go_sem, Nat.reduceAdd, Nat.reduceSub, Nat.reduceLT, Nat.reduceLeDiff, Nat.reduceEqDiff, ↓reduceIte]; done) | ((simp (maxSteps := 4000000) -implicitDefEqProofs only [go_sem, Nat.reduceAdd, Nat.reduceSub, Nat.reduceLT, Nat.reduceLeDiff, Nat.reduceEqDiff, ↓reduceIte]) <;> omega)) (by simp) (by first | (simp; done) | (simp [so]; done)) (by (simp (maxSteps := 4000000) -implicitDefEqProofs only [go_sem, Nat.reduceAdd, Nat.reduceSub, Nat.reduceLT, Nat.reduceLeDiff, Nat.reduceEqDiff, ↓reduceIte]) <;> trivial) (by first | (simp only [go_sem]; done) | ((simp (maxSteps := 4000000) -implicitDefEqProofs only [go_sem, Nat.reduceAdd, Nat.reduceSub, Nat.reduceLT, Nat.reduceLeDiff, Nat.reduceEqDiff, ↓reduceIte]) <;> omega)) (Nat.zero_le _) (fun i h => absurd h (Nat.not_lt_zero i))))
    · have e : inLine b x = true := by simp [inLine, h3, h4]
      rw [e] at nx
      simp (maxSteps := 4000000) -implicitDefEqProofs only [go_sem, h4, Option.some.injEq, forall_eq', and_true, true_and, Bool.not_true, Bool.not_false, decide_true, Nat.reduceAdd, Nat.reduceSub, Nat.reduceLT, Nat.reduceLeDiff, Nat.reduceEqDiff, ↓reduceIte]
      refine ⟨⟨by simp, by omega, by omega⟩, ?_⟩
      rw [ea, w1]
      exact .mk (i + 1) h2 (by omega) (by rw [nx, if_pos rfl]; exact (Wk.via [3] (by (simp only [go_sem, ↓reduceIte]) <;> trivial) (by first | (simp (maxSteps := 4000000) -implicitDefEqProofs only [go_sem, Nat.reduceAdd, Nat.reduceSub, Nat.reduceLT, Nat.reduceLeDiff, Nat.reduceEqDiff, ↓reduceIte]; done) | ((simp (maxSteps := 4000000) -implicitDefEqProofs only [go_sem, Nat.reduceAdd, Nat.reduceSub, Nat.reduceLT, Nat.reduceLeDiff, Nat.reduceEqDiff, ↓reduceIte]) <;> omega)) (by simp) (by first | (simp; done) | (simp [so]; done)) (by (simp (maxSteps := 4000000) -implicitDefEqProofs only [go_sem, Nat.reduceAdd, Nat.reduceSub, Nat.reduceLT, Nat.reduceLeDiff, Nat.reduceEqDiff, ↓reduceIte]) <;> trivial) (by first | (simp only [go_sem]; done) | ((simp (maxSteps := 4000000) -implicitDefEqProofs only [go_sem, Nat.reduceAdd, Nat.reduceSub, Nat.reduceLT, Nat.reduceLeDiff, Nat.reduceEqDiff, ↓reduceIte]) <;> omega)) (Nat.zero_le _) (fun i h => absurd h (Nat.not_lt_zero i))))
  · have d2 : decide ((i : Int) < q.length) = false := by simp; omega
    have : i = q.length := by omega
    subst this
    simp (maxSteps := 4000000) -implicitDefEqProofs only [go_sem, d2, Option.some.injEq, forall_eq', and_true, true_and, Bool.not_true, Bool.not_false, decide_true, Nat.reduceAdd, Nat.reduceSub, Nat.reduceLT, Nat.reduceLeDiff, Nat.reduceEqDiff, ↓reduceIte]
    exact wk_dat (r' := .tup [.d (.sl ((lineL q b q.length).map iD)), .d (.int .i64 0)]) (by simp only [go_sem]; rfl) rfl (by simp only [go_sem])
end Go.AX.Qu
namespace Go.AX.Br
open Go.Proofs Go.RowKit Go.IntWalk
theorem sameMarks_ref (a b : List Mk) (ha : Sm a.length) : Spec Tryz.prog 41 [.d (.sl (a.map mkD)), .d (.sl (b.map mkD))] [] (.d (.bool (decide (a = b)))) [] := by
  unfold Sm at ha
  refine spec_of_ev (fn := Tryz.f41) DX_ok 3000 Tryz.func41 rfl rfl (Nat.le_of_ble_eq_true rfl) ?_
  simp (maxSteps := 4000000) -implicitDefEqProofs only [Tryz.f41, go_sem]
  by_cases h1 : a.length = b.length
  · have d1 : ((a.length : Int) != b.length) = false := by simp [h1]
    simp (maxSteps := 4000000) -implicitDefEqProofs only [go_sem, d1, Option.some.injEq, forall_eq', and_true, true_and, Bool.not_true, Bool.not_false, decide_true, Nat.reduceAdd, Nat.reduceSub, Nat.reduceLT, Nat.reduceLeDiff, Nat.reduceEqDiff, ↓reduceIte]
    refine eloop (S := Nat) (fun i => mkE 26 [(0, .d (.sl (a.map mkD))), (1, .d (.sl (b.map mkD))), (5, .d (.int .i64 i))]) (fun i => []) (fun i => i ≤ a.length ∧ ∀ j x, a[j]? = some x → j < i → b[j]? = some x) (fun i => a.length - i) 0 ⟨by omega, by omega⟩ (Wk.sub (by (simp only [go_sem]) <;> trivial)) ?_
    rintro i ⟨hi, hj⟩
    rcases Nat.lt_or_ge i a.length with h2 | h2
    · have d2 : decide ((i : Int) < a.length) = true := by simp; omega
      obtain ⟨x, hx⟩ : ∃ x, a[i]? = some x := ⟨a[i]'(by omega), List.getElem?_eq_getElem _⟩
      obtain ⟨y, hy⟩ : ∃ x, b[i]? = some x := ⟨b[i]'(by omega), List.getElem?_eq_getElem _⟩
      have n1 : (0 ≤ (i : Int) ∧ (i : Int) < a.length) = True := eq_true (by omega)
      have n2 : (0 ≤ (i : Int) ∧ (i : Int) < b.length) = True := eq_true (by omega)
      have n3 : (i < a.length) = True := eq_true (by omega)
      have n4 : (i < b.length) = True := eq_true (by omega)
      have hxy := mkD_eq x y
      simp only [mkD, deqs, deq, Bool.and_true] at hxy
      cases h3 : decide (x = y)
      · have h4 := hxy.trans h3
        simp (maxSteps := 4000000) -implicitDefEqProofs only [go_sem, d2, Option.some.injEq, forall_eq', and_true, true_and, Bool.not_true, Bool.not_false, decide_true, Nat.reduceAdd, Nat.reduceSub, Nat.reduceLT, Nat.reduceLeDiff, Nat.reduceEqDiff, ↓reduceIte]
        refine DX.plain (.take 0 false (.take 1 false (.take 2 false (.take 3 false (.take 4 false (.take 5 false (.take 6 false (.take 7 false (.take 8 false .done))))))))) (by kernel_rfl) (by kernel_rfl) Ty.mixed ?_
        simp (maxSteps := 4000000) -implicitDefEqProofs only [go_sem, n1, n2, n3, n4, hx, hy, h4, Option.some.injEq, forall_eq', and_true, true_and, Bool.not_true, Bool.not_false, decide_true, Nat.reduceAdd, Nat.reduceSub, Nat.reduceLT, Nat.reduceLeDiff, Nat.reduceEqDiff, ↓reduceIte]
        simp only [decide_eq_false_iff_not] at h3
        refine wk_bool (decide_eq_false fun e => h3 ?_).symm
        subst e; rw [hx] at hy; exact Option.some.inj hy
      · have h4 := hxy.trans h3
        simp (maxSteps := 4000000) -implicitDefEqProofs only [go_sem, d2, Option.some.injEq, forall_eq', and_true, true_and, Bool.not_true, Bool.not_false, decide_true, Nat.reduceAdd, Nat.reduceSub, Nat.reduceLT, Nat.reduceLeDiff, Nat.reduceEqDiff, ↓reduceIte]
        refine DX.plain (.take 0 false (.take 1 false (.take 2 false (.take 3 false (.take 4 false (.take 5 false (.take 6 false (.take 7 false (.take 8 false .done))))))))) (by kernel_rfl) (by kernel_rfl) Ty.mixed ?_
        simp (maxSteps := 4000000) -implicitDefEqProofs only [go_sem, n1, n2, n3, n4, hx, hy, h4, Option.some.injEq, forall_eq', and_true, true_and, Bool.not_true, Bool.not_false, decide_true, Nat.reduceAdd, Nat.reduceSub, Nat.reduceLT, Nat.reduceLeDiff, Nat.reduceEqDiff, ↓reduceIte]
        simp only [decide_eq_true_eq] at h3
        rw [i64_in _ (by omega)]
        exact .mk (i + 1) ⟨by omega, upto_succ hx (by rw [h3]; exact hy) hj⟩ (by omega) (Wk.sub (by (simp only [go_sem]) <;> trivial))
    · have d2 : decide ((i : Int) < a.length) = false := by simp; omega
      simp (maxSteps := 4000000) -implicitDefEqProofs only [go_sem, d2, Option.some.injEq, forall_eq', and_true, true_and, Bool.not_true, Bool.not_false, decide_true, Nat.reduceAdd, Nat.reduceSub, Nat.reduceLT, Nat.reduceLeDiff, Nat.reduceEqDiff, ↓reduceIte]
      refine wk_bool (decide_eq_true ?_).symm
      refine List.ext_getElem? fun j => ?_
      rcases Nat.lt_or_ge j a.length with q | q
      · have hx := List.getElem?_eq_getElem q
        rw [hx]; exact (hj j _ hx (by omega)).symm
      · rw [List.getElem?_eq_none q, List.getElem?_eq_none (by omega)]
  · have d1 : ((a.length : Int) != b.length) = true := by simp; omega
    simp (maxSteps := 4000000) -implicitDefEqProofs only [go_sem, d1, Option.some.injEq, forall_eq', and_true, true_and, Bool.not_true, Bool.not_false, decide_true, Nat.reduceAdd, Nat.reduceSub, Nat.reduceLT, Nat.reduceLeDiff, Nat.reduceEqDiff, ↓reduceIte]
    exact wk_bool (decide_eq_false fun e => h1 (by rw [e])).symm
end Go.AX.Br

/- Trains: a step keeps a train valid; a run in parts. -/
import Derived.Test.YtioihldhnhlpnaaGreatK10
set_option maxHeartbeats 8000000
set_option linter.unusedVariables false
set_option linter.unusedSimpArgs false
set_option maxRecDepth 20000
namespace Go.AX.Qu
open Go.Proofs Go.RowKit Go.IntWalk Go.AX.Br
theorem qcheck_valid {q : List Rq} (h : qcheck q = 0) : ∀ x ∈ q, valid x = true := fun x hx => by
  simp only [qcheck] at h
  split at h
  · omega
  split at h
  · omega
  · next _ h2 =>
    cases hv : valid x with
    | true => rfl
    | false => exact absurd (List.any_eq_true.2 ⟨x, hx, by simp [hv]⟩) h2
theorem mod_len {q : List Rq} {i : Nat} {f : Rq → Rq} : (q.modify i f).length = q.length := List.length_modify ..
theorem mod_at {q : List Rq} {i k : Nat} {s : Int} : (q.modify i fun y => setSt y s)[k]? = (q[k]?).map fun y => if i = k then setSt y s else y := by
  rw [List.getElem?_modify]; rfl
/-- a request gets another state, and does not get open -/
theorem mod_check {q : List Rq} {i : Nat} {x : Rq} {s : Int} (h : qcheck q = 0) (hx : q[i]? = some x) (h1 : 1 ≤ s) (h2 : s ≤ 7) (ho : opn (setSt x s) = true → opn x = true) : qcheck (q.modify i fun y => setSt y s) = 0 := by
  have hl := qcheck_len h
  have hv := qcheck_valid h
  obtain ⟨Y, hY⟩ : ∃ Y, Y = q.modify i fun y => setSt y s := ⟨_, rfl⟩
  have hYl : Y.length = q.length := by rw [hY, mod_len]
  have back : ∀ (k : Nat) (y : Rq), Y[k]? = some y → ∃ z, q[k]? = some z ∧ y.br = z.br ∧ y.ch = z.ch ∧ (opn y = true → opn z = true) ∧ valid y = true := fun k y hy => by
    rw [hY, mod_at] at hy
    cases hz : q[k]? with
    | none => simp [hz] at hy
    | some z =>
      have vz := hv z (List.mem_of_getElem? hz)
      rw [hz] at hy
      simp only [Option.map_some, Option.some.injEq] at hy
      by_cases e : i = k
      · subst e
        rw [hx] at hz; cases hz
        rw [if_pos rfl] at hy; subst hy
        refine ⟨x, rfl, rfl, rfl, ho, ?_⟩
        simp only [valid, setSt, Bool.and_eq_true, decide_eq_true_eq] at vz ⊢
        exact ⟨⟨⟨⟨⟨vz.1.1.1.1.1, vz.1.1.1.1.2⟩, decide_eq_true h1⟩, decide_eq_true h2⟩, decide_eq_true vz.1.2⟩, decide_eq_true vz.2⟩
      · rw [if_neg e] at hy; subst hy
        exact ⟨z, rfl, rfl, rfl, fun h => h, vz⟩
  have ht : qtw q = false := by
    unfold qcheck at h
    rw [if_neg (by omega)] at h
    split at h
    · simp at h
    · cases e : qtw q with
      | false => rfl
      | true => simp [e] at h
  have hal : Y.any (fun r => !valid r) = false := by
    rw [List.any_eq_false]
    intro r hr
    obtain ⟨k, hk⟩ := List.mem_iff_getElem?.1 hr
    obtain ⟨_, _, _, _, _, g⟩ := back k r hk
    simp [g]
  have htw : qtw Y = false := by
    unfold qtw
    refine anyI_f fun k y hy => ?_
    obtain ⟨z, hz, b1, b2, b3, _⟩ := back k y hy
    cases oy : opn y with
    | false => simp
    | true =>
      rw [Bool.true_and, List.any_eq_false]
      intro t htk
      obtain ⟨j, hj⟩ := List.mem_iff_getElem?.1 htk
      have hjk : j < k := by
        have := some_lt hj
        simp at this; omega
      rw [List.getElem?_take_of_lt hjk] at hj
      obtain ⟨u, hu, c1, c2, c3, _⟩ := back j t hj
      intro hs
      have h0 := anyI_no ht hz
      simp only [b3 oy, Bool.true_and, List.any_eq_false] at h0
      refine h0 u (List.mem_of_getElem? (i := j) (by rw [List.getElem?_take_of_lt hjk]; exact hu)) ?_
      simp only [same2, Bool.and_eq_true, decide_eq_true_eq] at hs ⊢
      exact ⟨⟨c3 hs.1.1, by rw [← c1, ← b1]; exact hs.1.2⟩, by rw [← c2, ← b2]; exact hs.2⟩
  rw [← hY]
  simp only [qcheck]
  rw [hYl, if_neg (by omega), hal, htw]
  simp
end Go.AX.Qu
namespace Go.AX.Tr
open Go.Proofs Go.RowKit Go.IntWalk Go.AX.Br Go.AX.Lg Go.AX.Qu Go.AX.Wn
theorem app_lok {l : Lg} (lo : LOk l) {b ch : ByteArray} (kn : known l b ch = true) {l' : Lg} (h : appR l b ⟨2, ch⟩ = (l', 0)) : LOk l' ∧ l'.kn = l.kn ∧ l'.br = l.br := by
  obtain ⟨i, x, s, v, c, j, k, p, h40, hin, rfl⟩ := app_ok lo kn h
  have hal : allR l (preE l i ++ s) ⟨2, ch⟩ = 0 := by simp only [allR, p.hcr, hin]; simp
  exact ⟨(add_ok lo p.a (e := ⟨2, ch⟩) h40 p.hc hal).1, rfl, rfl⟩
theorem known_same {l m : Lg} (h1 : m.kn = l.kn) (h2 : m.br = l.br) (b c : ByteArray) : known m b c = known l b c := by
  cases l; cases m; cases h1; cases h2; rfl
theorem st_mem {t : Tr} {i : Nat} {s : Int} {r' : Rq} (h : r' ∈ stQ t i s) : ∃ r ∈ t.q, r'.br = r.br ∧ r'.ch = r.ch := by
  obtain ⟨k, hk⟩ := List.mem_iff_getElem?.1 h
  rw [stQ, mod_at] at hk
  cases hz : t.q[k]? with
  | none => simp [hz] at hk
  | some z =>
    rw [hz] at hk
    simp only [Option.map_some, Option.some.injEq] at hk
    refine ⟨z, List.mem_of_getElem? hz, ?_⟩
    split at hk <;> subst hk <;> exact ⟨rfl, rfl⟩
theorem step_tok {t : Tr} {b : ByteArray} {tk : Int} (h : (stepR t b tk).2.2 = 0) : TOk (stepR t b tk).1 ∧ (stepR t b tk).1.lg.br = t.lg.br := by
  obtain ⟨o, i, r, l', e1, hx, e2, e3, kn, -, -, -, es, hl⟩ := step_ok h
  have hl' : LOk l' ∧ l'.kn = t.lg.kn ∧ l'.br = t.lg.br := by
    rcases hl with ⟨-, ha⟩ | ⟨-, rfl⟩
    · exact app_lok o.lo kn ha
    · exact ⟨o.lo, rfl, rfl⟩
  rw [es]
  refine ⟨tok_of ?_, hl'.2.2⟩
  have or := outR_of (t := t) (r := r)
  have hq : qcheck (stQ t i (outR t r)) = 0 := mod_check o.q0 hx (by omega) (by omega) fun q => by
    simp only [opn, setSt, Bool.or_eq_true, beq_iff_eq] at q
    omega
  have a1 : (stQ t i (outR t r)).any (badQ l') = false := by
    rw [List.any_eq_false]
    intro y hy
    obtain ⟨z, hz, q1, q2⟩ := st_mem hy
    have := o.qk z hz
    simp only [badQ, q1, q2, known_same hl'.2.1 hl'.2.2, this]; simp
  have a2 : t.cl.any (badC l') = false := by
    rw [List.any_eq_false]
    intro y hy
    have := o.ck y hy
    simp only [badC, known_same hl'.2.1 hl'.2.2, this]; simp
  unfold tcheck
  have := o.cl
  simp only
  rw [if_neg (by simp [hl'.1.chk]), if_neg (by simp [hq]), if_neg (by simp [o.w0]), if_neg (by omega), a1, a2, if_pos o.nd]
  rfl
def runG (b : ByteArray) (tk : Int) : Nat → Tr → Tr × List Int × Int
  | 0, t => (t, [], 0)
  | n + 1, t =>
    if (stepR t b tk).2.2 = 4 then (t, [], 4) else if (stepR t b tk).2.2 ≠ 0 then (t, [], 0)
    else ((runG b tk n (stepR t b tk).1).1, (stepR t b tk).2.1 :: (runG b tk n (stepR t b tk).1).2.1, (runG b tk n (stepR t b tk).1).2.2)
end Go.AX.Tr

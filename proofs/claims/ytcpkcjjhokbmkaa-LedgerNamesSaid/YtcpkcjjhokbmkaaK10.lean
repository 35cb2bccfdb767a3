/- Ledgers: the last event of a class: the program's side. -/
import Derived.Test.YtcpkcjjhokbmkaaK9
set_option maxHeartbeats 8000000
set_option linter.unusedVariables false
set_option linter.unusedSimpArgs false
set_option maxRecDepth 20000
namespace Go.AX.Lg
open Go.Proofs Go.RowKit Go.IntWalk Go.AX.Br
theorem lasR_eq {l : Lg} {nm : ByteArray} {c : Int} {v : List Mk} (h : lview l nm = (v, 0)) (hc : lastR l (seenL l v) c = -1) : lasR l nm c = (⟨0, 0⟩, 0, 6) := by
  unfold lasR
  rw [h, if_neg (by simp), if_pos (.inr (by rw [hc]; decide))]
theorem lasR_at {l : Lg} {nm : ByteArray} {c : Int} {v : List Mk} {k : Nat} {m : Mk} {x : Ev} (h : lview l nm = (v, 0)) (h0 : 0 ≤ c) (hc : lastR l (seenL l v) c = k) (hm : v[k]? = some m) (hx : (seenL l v)[k]? = some x) : lasR l nm c = (m, x.kd, 0) := by
  unfold lasR
  rw [h, if_neg (by simp), if_neg (by rw [hc]; omega)]
  simp only [hc, Int.toNat_natCast, hm, hx]
theorem Last_own (l : Lg) (nm : ByteArray) (c : Int) (hk : l.kn.length ≤ 1000) (hb : l.br.length ≤ 1000) (he : l.ev.length ≤ 1000) : Spec Try.prog 26 [lA l, .d (.str nm), .d (.int .i64 c)] [] (.tup [.agg [.d (.int .i64 (lasR l nm c).1.b), .d (.int .i64 (lasR l nm c).1.e)], .d (.int .u8 (lasR l nm c).2.1), .d (.int .i64 (lasR l nm c).2.2)]) [] := by
  have c1 := view_lown l nm hk hb he
  have vk := lview_ok (l := l) (nm := nm)
  obtain ⟨V, hV⟩ : ∃ V, V = lview l nm := ⟨_, rfl⟩
  obtain ⟨R, hR⟩ : ∃ R, R = lasR l nm c := ⟨_, rfl⟩
  rw [← hR]
  rw [← hV] at c1 vk
  simp only [lA] at c1
  refine spec_of_ev (fn := Try.f26) DX_ok 3000 Try.func26 rfl rfl (Nat.le_of_ble_eq_true rfl) ?_
  simp (maxSteps := 4000000) -implicitDefEqProofs only [Try.f26, go_sem, lA]
  refine ecall0 _ c1 (by simp only [go_sem]) (by simp only [go_sem]) ?_
  cases k1 : (V.2 != 0)
  case true =>
    have : V.2 ≠ 0 := by simpa using k1
    have e : R = (⟨0, 0⟩, 0, V.2) := by rw [hR, lasR, ← hV, if_pos this]
    simp (maxSteps := 4000000) -implicitDefEqProofs only [go_sem, k1, Option.some.injEq, forall_eq', and_true, true_and, Bool.not_true, Bool.not_false, decide_true, Nat.reduceAdd, Nat.reduceSub, Nat.reduceLT, Nat.reduceLeDiff, Nat.reduceEqDiff, ↓reduceIte]
    rw [e]
    exact (Wk.forget (by (simp only [go_sem]) <;> trivial) (by simp only [go_sem]))
  have k1x : V.2 = 0 := by simpa using k1
  obtain ⟨lo, i, x, s, v, a, hn, hv, hi⟩ := vk k1x
  have alen := a.len
  have h40 := lo.own i s a.hs
  have h320 := (lo.tab.g.ok.good i x a.hx).2.2
  have hvl : v.length ≤ 1000 := by omega
  have hkn : Known l (seenL l v) := by rw [a.seen]; exact a.known lo
  have cl := classes_own l (by unfold Sm; omega)
  simp only [lA] at cl
  have bw := backward_own v
  have hlv : lview l nm = (v, 0) := by rw [← hV]; exact hv
  rw [hv] at k1 ⊢
  obtain ⟨S, hS⟩ : ∃ S, S = seenL l v := ⟨_, rfl⟩
  have hSl : S.length = v.length := by rw [hS]; exact seenL_len a.inr
  obtain ⟨M, hM⟩ : ∃ M, M = clsM l.kn := ⟨_, rfl⟩
  rw [← hM] at cl
  simp (maxSteps := 4000000) -implicitDefEqProofs only [go_sem, k1, Option.some.injEq, forall_eq', and_true, true_and, Bool.not_true, Bool.not_false, decide_true, Nat.reduceAdd, Nat.reduceSub, Nat.reduceLT, Nat.reduceLeDiff, Nat.reduceEqDiff, ↓reduceIte]
  refine ecallN _ _ cl (by simp only [go_sem]) ?_
  simp (maxSteps := 4000000) -implicitDefEqProofs only [go_sem, Nat.reduceAdd, Nat.reduceSub, Nat.reduceLT, Nat.reduceLeDiff, Nat.reduceEqDiff, ↓reduceIte]
  refine ecallN _ _ bw (by simp only [go_sem]) ?_
  simp (maxSteps := 4000000) -implicitDefEqProofs only [go_sem, Nat.reduceAdd, Nat.reduceSub, Nat.reduceLT, Nat.reduceLeDiff, Nat.reduceEqDiff, ↓reduceIte]
  refine ⟨rfl, _, _, rfl, ⟨_, Try.func71, rfl, rfl⟩, fun L rec => ?_⟩
  refine ⟨v.length, fun i => lastN (isC l c) S v.length = lastN (isC l c) S (v.length - i), fun i => match v[v.length - 1 - i]? with
    | some m => [.d (.int .i64 ((v.length - 1 - i : Nat) : Int)), .agg [.d (.int .i64 m.b), .d (.int .i64 m.e)]]
    | none => [], fun _ => [.cells [.d (.sl (l.kn.map kD)), .d (.sl (l.br.map bD)), .d (.sl (l.ev.map esD))], .cells [.d (.int .i64 c)], .cells [.d (.int .i64 0), .d (.int .i64 0)], .cells [.d (.int .u8 0)], .cells [.d (.int .i64 0)], .map false false (mD sD iD M), .cells [.mp 5], .cells [.d (.sl (v.map mkD))], rcd L rec .ready none],
    fun cc τ => cc = .ret ∧ ∃ (k : Nat) (m : Mk) (x : Ev), lastR l S c = k ∧ v[k]? = some m ∧ S[k]? = some x ∧ 0 ≤ c ∧ τ = [.cells [.d (.sl (l.kn.map kD)), .d (.sl (l.br.map bD)), .d (.sl (l.ev.map esD))], .cells [.d (.int .i64 c)], .cells [.d (.int .i64 m.b), .d (.int .i64 m.e)], .cells [.d (.int .u8 x.kd)], .cells [.d (.int .i64 0)], .map false false (mD sD iD M), .cells [.mp 5], .cells [.d (.sl (v.map mkD))], rcd L rec .done (some .ret)], rfl, rfl, ?_, ?_, ?_, ?_⟩
  · intro i hi hok
    obtain ⟨m, hm⟩ : ∃ x, v[v.length - 1 - i]? = some x := ⟨v[v.length - 1 - i]'(by omega), List.getElem?_eq_getElem _⟩
    obtain ⟨b, e, s, x, hme, hb', he'⟩ := a.inr m (List.mem_of_getElem? hm)
    have hx : S[v.length - 1 - i]? = some x := by rw [hS, seenL_get a.inr hm, hme]; exact evAt_in hb' he'
    simp only [hm]
    obtain ⟨k, hkk⟩ : ∃ k, k = v.length - 1 - i := ⟨_, rfl⟩
    rw [← hkk] at hm hx ⊢
    have hki : v.length - i = k + 1 := by omega
    have hki2 : v.length - (i + 1) = k := by omega
    rw [hki, lastN, hx, Option.any_some] at hok
    rw [hki2]
    subst hme
    obtain ⟨kd, ch⟩ := x
    have hlb := some_lt hb'
    have hle := some_lt he'
    have ⟨cc, hcc⟩ := hkn ⟨kd, ch⟩ (List.mem_of_getElem? (by rw [← hS]; exact hx))
    have hcr := classN_range lo.kv hcc
    have hclI : clI l ch = cc := clI_of lo.nd hcc
    have hisC : isC l c ⟨kd, ch⟩ = decide (cc = c) := by unfold isC; rw [classR_of hcc]
    refine ⟨rfl, rfl, mkE 51 [(3, .ptr 0 0), (5, .ptr 1 0), (6, .ptr 2 0), (7, .ptr 3 0), (8, .ptr 4 0), (11, .ptr 6 0), (13, .ptr 9 0)], [.cells [.d (.sl (l.kn.map kD)), .d (.sl (l.br.map bD)), .d (.sl (l.ev.map esD))], .cells [.d (.int .i64 c)], .cells [.d (.int .i64 0), .d (.int .i64 0)], .cells [.d (.int .u8 0)], .cells [.d (.int .i64 0)], .map false false (mD sD iD M), .cells [.mp 5], .cells [.d (.sl (v.map mkD))], rcd L rec .ready none, .cells [.d (.int .i64 b), .d (.int .i64 e)]], rfl, round_of_ev DX_ok 3000 ?_, round_of_ev DX_ok 3000 ?_⟩
    · simp (maxSteps := 4000000) -implicitDefEqProofs only [go_sem, Nat.reduceAdd, Nat.reduceSub, Nat.reduceLT, Nat.reduceLeDiff, Nat.reduceEqDiff, ↓reduceIte]
      exact (Wk.via [0, 1, 2, 3, 4, 5, 6, 7, 8, 9] (by (simp only [go_sem, ↓reduceIte]) <;> trivial) (by (simp (maxSteps := 4000000) -implicitDefEqProofs only [go_sem, Nat.reduceAdd, Nat.reduceSub, Nat.reduceLT, Nat.reduceLeDiff, Nat.reduceEqDiff, ↓reduceIte]) <;> omega) (by simp) (by simp) (by (simp (maxSteps := 4000000) -implicitDefEqProofs only [go_sem, Nat.reduceAdd, Nat.reduceSub, Nat.reduceLT, Nat.reduceLeDiff, Nat.reduceEqDiff, ↓reduceIte]) <;> trivial) (by (simp (maxSteps := 4000000) -implicitDefEqProofs only [go_sem, Nat.reduceAdd, Nat.reduceSub, Nat.reduceLT, Nat.reduceLeDiff, Nat.reduceEqDiff, ↓reduceIte]) <;> omega) (Nat.le_of_ble_eq_true rfl) (at0_pre rfl))
    · have m1 : (0 ≤ (b : Int) ∧ (b : Int) < l.ev.length) = True := eq_true (by omega)
      have m2 : (b < l.ev.length) = True := eq_true (by omega)
      have m3 : (0 ≤ (e : Int) ∧ (e : Int) < s.length) = True := eq_true (by omega)
      have m4 : (e < s.length) = True := eq_true (by omega)
      have a1 : (∃ x, (l.ev.map esD)[b]? = some x ∧ x.length = 1 ∧ AV.eptr x = AV.eptr [D.sl (s.map eD)]) = True := eq_true ⟨esD s, by simp [hb'], rfl, rfl⟩
      have a2 : (∃ x, (s.map eD)[e]? = some x ∧ x.length = 2 ∧ AV.eptr x = AV.eptr [D.int .u8 kd, D.str ch]) = True := eq_true ⟨eD ⟨kd, ch⟩, by simp [he'], rfl, rfl⟩
      have nd : (∃ ks, KeyT Try.prog 9 false ks ∧ kindOk false ks [D.str ch] ∧ ∀ y ∈ mD sD iD M, kindOk false ks y.1) = True := mneed (kD := sD) (vD := iD) Ty.keyT_9 sD_kind ch M
      have gd : (lkM [D.str ch] (mD sD iD M)).getD [D.int .i64 0] = [D.int .i64 cc] := by
        have := lkM_mD (kD := sD) (vD := iD) sD_eq ch M
        rw [show [D.str ch] = sD ch from rfl, this, hM, ← hclI, clI]
        cases look ch (clsM l.kn) <;> rfl
      simp (maxSteps := 4000000) -implicitDefEqProofs only [go_sem, Nat.reduceAdd, Nat.reduceSub, Nat.reduceLT, Nat.reduceLeDiff, Nat.reduceEqDiff, ↓reduceIte]
      refine DX.plain (.take 0 true (.take 1 true (.take 2 true (.take 3 true (.take 4 true (.take 5 true (.take 6 true (.take 7 true (.take 8 true (.take 9 true (.run [10] (fun _ => [true, true, true, true, true, true, true, true, true, true]) fun _ => (.run [11] (fun _ => [false, false, false, false, false, false, false, false, false, false]) fun _ => .done)))))))))))) (by kernel_rfl) (by kernel_rfl) Ty.mixed ?_
      simp (maxSteps := 4000000) -implicitDefEqProofs only [go_sem, m1, m2, m3, m4, hb', he', a1, a2, Option.some.injEq, forall_eq', and_true, true_and, Bool.not_true, Bool.not_false, decide_true, Nat.reduceAdd, Nat.reduceSub, Nat.reduceLT, Nat.reduceLeDiff, Nat.reduceEqDiff, ↓reduceIte]
      simp (maxSteps := 4000000) -implicitDefEqProofs only [go_sem, nd, gd, Option.some.injEq, forall_eq', and_true, true_and, Bool.not_true, Bool.not_false, decide_true, Nat.reduceAdd, Nat.reduceSub, Nat.reduceLT, Nat.reduceLeDiff, Nat.reduceEqDiff, ↓reduceIte]
      cases q : (cc == c)
      case false =>
        rw [hisC, show decide (cc = c) = false by simpa using q, if_neg (by simp)] at hok
        simp (maxSteps := 4000000) -implicitDefEqProofs only [go_sem, nd, gd, q, Option.some.injEq, forall_eq', and_true, true_and, Bool.not_true, Bool.not_false, decide_true, Nat.reduceAdd, Nat.reduceSub, Nat.reduceLT, Nat.reduceLeDiff, Nat.reduceEqDiff, ↓reduceIte]
        exact ⟨mkE 51 [], [.cells [.d (.sl (l.kn.map kD)), .d (.sl (l.br.map bD)), .d (.sl (l.ev.map esD))], .cells [.d (.int .i64 c)], .cells [.d (.int .i64 0), .d (.int .i64 0)], .cells [.d (.int .u8 0)], .cells [.d (.int .i64 0)], .map false false (mD sD iD M), .cells [.mp 5], .cells [.d (.sl (v.map mkD))], rcd L rec .busy none], (Wk.via [0, 1, 2, 3, 4, 5, 6, 7, 8] (by (simp only [go_sem, ↓reduceIte]) <;> trivial) (by (simp (maxSteps := 4000000) -implicitDefEqProofs only [go_sem, Nat.reduceAdd, Nat.reduceSub, Nat.reduceLT, Nat.reduceLeDiff, Nat.reduceEqDiff, ↓reduceIte]) <;> omega) (by simp) (by simp) (by (simp (maxSteps := 4000000) -implicitDefEqProofs only [go_sem, Nat.reduceAdd, Nat.reduceSub, Nat.reduceLT, Nat.reduceLeDiff, Nat.reduceEqDiff, ↓reduceIte]) <;> trivial) (by (simp (maxSteps := 4000000) -implicitDefEqProofs only [go_sem, Nat.reduceAdd, Nat.reduceSub, Nat.reduceLT, Nat.reduceLeDiff, Nat.reduceEqDiff, ↓reduceIte]) <;> omega) (Nat.le_of_ble_eq_true rfl) (at0_pre rfl)), rfl, rfl, hok⟩
      have hq : cc = c := by simpa using q
      rw [hisC, show decide (cc = c) = true by simpa using hq, if_pos rfl] at hok
      simp (maxSteps := 4000000) -implicitDefEqProofs only [go_sem, nd, gd, q, Option.some.injEq, forall_eq', and_true, true_and, Bool.not_true, Bool.not_false, decide_true, Nat.reduceAdd, Nat.reduceSub, Nat.reduceLT, Nat.reduceLeDiff, Nat.reduceEqDiff, ↓reduceIte]
      refine DX.plain (.take 0 false (.take 1 true (.take 2 true (.run [3] (fun _ => [true, true]) fun _ => (.run [4] (fun _ => [false, false]) fun _ => (.run [5] (fun _ => []) fun _ => .done)))))) (by kernel_rfl) (by kernel_rfl) Ty.mixed ?_
      simp (maxSteps := 4000000) -implicitDefEqProofs only [go_sem, q, Option.some.injEq, forall_eq', and_true, true_and, Bool.not_true, Bool.not_false, decide_true, Nat.reduceAdd, Nat.reduceSub, Nat.reduceLT, Nat.reduceLeDiff, Nat.reduceEqDiff, ↓reduceIte]
      exact ⟨mkE 51 [], [.cells [.d (.sl (l.kn.map kD)), .d (.sl (l.br.map bD)), .d (.sl (l.ev.map esD))], .cells [.d (.int .i64 c)], .cells [.d (.int .i64 b), .d (.int .i64 e)], .cells [.d (.int .u8 kd)], .cells [.d (.int .i64 0)], .map false false (mD sD iD M), .cells [.mp 5], .cells [.d (.sl (v.map mkD))], rcd L rec .busy none], (Wk.via [0, 1, 2, 3, 4, 5, 6, 7, 8] (by (simp only [go_sem, ↓reduceIte]) <;> trivial) (by (simp (maxSteps := 4000000) -implicitDefEqProofs only [go_sem, Nat.reduceAdd, Nat.reduceSub, Nat.reduceLT, Nat.reduceLeDiff, Nat.reduceEqDiff, ↓reduceIte]) <;> omega) (by simp) (by simp) (by (simp (maxSteps := 4000000) -implicitDefEqProofs only [go_sem, Nat.reduceAdd, Nat.reduceSub, Nat.reduceLT, Nat.reduceLeDiff, Nat.reduceEqDiff, ↓reduceIte]) <;> trivial) (by (simp (maxSteps := 4000000) -implicitDefEqProofs only [go_sem, Nat.reduceAdd, Nat.reduceSub, Nat.reduceLT, Nat.reduceLeDiff, Nat.reduceEqDiff, ↓reduceIte]) <;> omega) (Nat.le_of_ble_eq_true rfl) (at0_pre rfl)), rfl, k, ⟨b, e⟩, ⟨kd, ch⟩, by unfold lastR; rw [hSl]; exact hok, hm, hx, by omega, rfl⟩
  · have := backward_it v L 7 (fun i => lastN (isC l c) S v.length = lastN (isC l c) S (v.length - i)) (fun i => match v[v.length - 1 - i]? with
      | some m => [.d (.int .i64 ((v.length - 1 - i : Nat) : Int)), .agg [.d (.int .i64 m.b), .d (.int .i64 m.e)]]
      | none => []) (fun _ => [.cells [.d (.sl (l.kn.map kD)), .d (.sl (l.br.map bD)), .d (.sl (l.ev.map esD))], .cells [.d (.int .i64 c)], .cells [.d (.int .i64 0), .d (.int .i64 0)], .cells [.d (.int .u8 0)], .cells [.d (.int .i64 0)], .map false false (mD sD iD M), .cells [.mp 5], .cells [.d (.sl (v.map mkD))], rcd L rec .ready none])
      (fun cc τ => cc = .ret ∧ ∃ (k : Nat) (m : Mk) (x : Ev), lastR l S c = k ∧ v[k]? = some m ∧ S[k]? = some x ∧ 0 ≤ c ∧ τ = [.cells [.d (.sl (l.kn.map kD)), .d (.sl (l.br.map bD)), .d (.sl (l.ev.map esD))], .cells [.d (.int .i64 c)], .cells [.d (.int .i64 m.b), .d (.int .i64 m.e)], .cells [.d (.int .u8 x.kd)], .cells [.d (.int .i64 0)], .map false false (mD sD iD M), .cells [.mp 5], .cells [.d (.sl (v.map mkD))], rcd L rec .done (some .ret)]) hvl rfl (fun _ _ => rfl) (fun i m hi hm => by simp only [hm]) (fun _ _ => rfl)
    exact this
  · intro hok
    refine ⟨rfl, ?_⟩
    have e : R = (⟨0, 0⟩, 0, 6) := by
      rw [hR]
      refine lasR_eq hlv ?_
      rw [← hS, lastR, hSl]
      simpa [lastN] using hok
    simp (maxSteps := 4000000) -implicitDefEqProofs only [go_sem, Nat.reduceAdd, Nat.reduceSub, Nat.reduceLT, Nat.reduceLeDiff, Nat.reduceEqDiff, ↓reduceIte]
    rw [e]
    exact (Wk.forget (by (simp only [go_sem]) <;> trivial) (by simp only [go_sem]))
  · rintro cc τ ⟨rfl, k, m, x, h1, h2, h3, h4, rfl⟩
    refine ⟨rfl, ?_⟩
    have e : R = (m, x.kd, 0) := by
      rw [hR]
      exact lasR_at hlv h4 (by rw [← hS]; exact h1) h2 (by rw [← hS]; exact h3)
    simp (maxSteps := 4000000) -implicitDefEqProofs only [go_sem, Nat.reduceAdd, Nat.reduceSub, Nat.reduceLT, Nat.reduceLeDiff, Nat.reduceEqDiff, ↓reduceIte]
    rw [e]
    exact (Wk.forget (by (simp only [go_sem]) <;> trivial) (by simp only [go_sem]))
end Go.AX.Lg

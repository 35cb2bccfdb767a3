/- Forward: Works and Closes. -/
import Derived.Test.YtjdppplgddldcaaK13
set_option maxHeartbeats 8000000
set_option linter.unusedVariables false
set_option linter.unusedSimpArgs false
set_option maxRecDepth 20000
namespace Go.AX.Fw
open Go.Proofs Go.RowKit Go.IntWalk Go.AX.Br Go.AX.Lg
def wrkR (l : Lg) (o : List ByteArray) (plan : List St) : Int × Int :=
  if fcheck l o ≠ 0 then (0, fcheck l o) else if 300 < plan.length then (0, 4) else ((playR o (gridG l o) plan).1, 0)
def clsR (l : Lg) (o : List ByteArray) (plan : List St) : Bool × Int :=
  if fcheck l o ≠ 0 then (false, fcheck l o) else if 300 < plan.length then (false, 4)
  else (decide ((playR o (gridG l o) plan).1 = plan.length) && decide ((gapsL (playR o (gridG l o) plan).2 o.length).length = 0), 0)
theorem playR_le {o : List ByteArray} : ∀ (plan : List St) (G : Gr), (playR o G plan).1 ≤ plan.length
  | [], _ => Nat.le_refl _
  | s :: r, G => by
    rw [playR]
    split
    · have := playR_le (o := o) r (upd G s.cl.toNat (toI o s))
      simp only [List.length_cons]; omega
    · exact Nat.zero_le _
section
variable (l : Lg) (o : List ByteArray) (plan : List St) (hk : l.kn.length ≤ 1000) (hb : l.br.length ≤ 1000) (he : l.ev.length ≤ 1000) (ho : o.length ≤ 1000) (hpl : plan.length ≤ 1000)
include hk hb he ho hpl
theorem Works_own : Spec Try.prog 11 [lA l, .d (.sl (o.map sD)), .d (.sl (plan.map stD))] [] (.tup [.d (.int .i64 (wrkR l o plan).1), .d (.int .i64 (wrkR l o plan).2)]) [] := by
  have c1 := fcheck_own l o hk hb he ho
  have c3 := look_own l o hk hb he ho
  obtain ⟨R, hR⟩ : ∃ R, R = wrkR l o plan := ⟨_, rfl⟩
  have sh := gH_shift [lH l] o (gridG l o) 30
  rw [← hR]
  unfold wrkR at hR
  simp only [lA] at c1 c3
  simp only [lH, List.cons_append, List.nil_append, List.length_cons, List.length_nil, Nat.zero_add] at sh
  refine spec_of_ev (fn := Try.f11) DX_ok 3000 Try.func11 rfl rfl (Nat.le_of_ble_eq_true rfl) ?_
  simp (maxSteps := 4000000) -implicitDefEqProofs only [Try.f11, go_sem, lA]
  refine ecall0 _ c1 (by simp only [go_sem]) (by simp only [go_sem]) ?_
  cases k1 : (fcheck l o != 0)
  case true =>
    rw [if_pos (by simpa using k1)] at hR
    simp (maxSteps := 4000000) -implicitDefEqProofs only [go_sem, k1, Option.some.injEq, forall_eq', and_true, true_and, Bool.not_true, Bool.not_false, decide_true, Nat.reduceAdd, Nat.reduceSub, Nat.reduceLT, Nat.reduceLeDiff, Nat.reduceEqDiff, ↓reduceIte]
    rw [hR]
    exact (Wk.forget (by (simp only [go_sem]) <;> trivial) (by simp only [go_sem]))
  rw [if_neg (by simpa using k1)] at hR
  cases k2 : decide ((300 : Int) < plan.length)
  case true =>
    rw [if_pos (by have := of_decide_eq_true k2; omega)] at hR
    simp (maxSteps := 4000000) -implicitDefEqProofs only [go_sem, k1, k2, Option.some.injEq, forall_eq', and_true, true_and, Bool.not_true, Bool.not_false, decide_true, Nat.reduceAdd, Nat.reduceSub, Nat.reduceLT, Nat.reduceLeDiff, Nat.reduceEqDiff, ↓reduceIte]
    rw [hR]
    exact (Wk.forget (by (simp only [go_sem]) <;> trivial) (by simp only [go_sem]))
  rw [if_neg (by have := of_decide_eq_false k2; omega)] at hR
  have c4 := play_own [.cells [.d (.sl (l.kn.map kD)), .d (.sl (l.br.map bD)), .d (.sl (l.ev.map esD))], .gone] [] o (gridG l o) plan ho hpl (by simp only [go_sem]) trivial
  simp (maxSteps := 4000000) -implicitDefEqProofs only [go_sem, k1, k2, Option.some.injEq, forall_eq', and_true, true_and, Bool.not_true, Bool.not_false, decide_true, Nat.reduceAdd, Nat.reduceSub, Nat.reduceLT, Nat.reduceLeDiff, Nat.reduceEqDiff, ↓reduceIte]
  refine ecallN _ _ c3 (by simp only [go_sem]) ?_
  simp (maxSteps := 4000000) -implicitDefEqProofs only [go_sem, sh, Option.some.injEq, forall_eq', and_true, true_and, Bool.not_true, Bool.not_false, decide_true, Nat.reduceAdd, Nat.reduceSub, Nat.reduceLT, Nat.reduceLeDiff, Nat.reduceEqDiff, ↓reduceIte]
  refine .all _ _ c4 ?_
  simp (maxSteps := 4000000) -implicitDefEqProofs only [go_sem, Nat.reduceAdd, Nat.reduceSub, Nat.reduceLT, Nat.reduceLeDiff, Nat.reduceEqDiff, ↓reduceIte]
  rw [hR]
  exact (Wk.forget (by (simp only [go_sem]) <;> trivial) (by simp only [go_sem]))
theorem Closes_own : Spec Try.prog 13 [lA l, .d (.sl (o.map sD)), .d (.sl (plan.map stD))] [] (.tup [.d (.bool (clsR l o plan).1), .d (.int .i64 (clsR l o plan).2)]) [] := by
  have c1 := fcheck_own l o hk hb he ho
  have c3 := look_own l o hk hb he ho
  obtain ⟨R, hR⟩ : ∃ R, R = clsR l o plan := ⟨_, rfl⟩
  rw [← hR]
  unfold clsR at hR
  simp only [lA] at c1 c3
  refine spec_of_ev (fn := Try.f13) DX_ok 3000 Try.func13 rfl rfl (Nat.le_of_ble_eq_true rfl) ?_
  simp (maxSteps := 4000000) -implicitDefEqProofs only [Try.f13, go_sem, lA]
  refine ecall0 _ c1 (by simp only [go_sem]) (by simp only [go_sem]) ?_
  cases k1 : (fcheck l o != 0)
  case true =>
    rw [if_pos (by simpa using k1)] at hR
    simp (maxSteps := 4000000) -implicitDefEqProofs only [go_sem, k1, Option.some.injEq, forall_eq', and_true, true_and, Bool.not_true, Bool.not_false, decide_true, Nat.reduceAdd, Nat.reduceSub, Nat.reduceLT, Nat.reduceLeDiff, Nat.reduceEqDiff, ↓reduceIte]
    rw [hR]
    exact (Wk.forget (by (simp only [go_sem]) <;> trivial) (by simp only [go_sem]))
  have ok := fok_of (l := l) (o := o) (by simpa using k1)
  rw [if_neg (by simpa using k1)] at hR
  cases k2 : decide ((300 : Int) < plan.length)
  case true =>
    rw [if_pos (by have := of_decide_eq_true k2; omega)] at hR
    simp (maxSteps := 4000000) -implicitDefEqProofs only [go_sem, k1, k2, Option.some.injEq, forall_eq', and_true, true_and, Bool.not_true, Bool.not_false, decide_true, Nat.reduceAdd, Nat.reduceSub, Nat.reduceLT, Nat.reduceLeDiff, Nat.reduceEqDiff, ↓reduceIte]
    rw [hR]
    exact (Wk.forget (by (simp only [go_sem]) <;> trivial) (by simp only [go_sem]))
  rw [if_neg (by have := of_decide_eq_false k2; omega)] at hR
  simp (maxSteps := 4000000) -implicitDefEqProofs only [go_sem, k1, k2, Option.some.injEq, forall_eq', and_true, true_and, Bool.not_true, Bool.not_false, decide_true, Nat.reduceAdd, Nat.reduceSub, Nat.reduceLT, Nat.reduceLeDiff, Nat.reduceEqDiff, ↓reduceIte]
  refine ecallN _ _ c3 (by simp only [go_sem]) ?_
  obtain ⟨X, hX⟩ : ∃ X, X = AObj.cells [.d (.sl (l.kn.map kD)), .d (.sl (l.br.map bD)), .d (.sl (l.ev.map esD))] := ⟨_, rfl⟩
  rw [← hX]
  have hXb : ∀ m, bdO m X := fun m => by rw [hX]; simp only [bdO, bds, bd, and_true]
  have sh := gH_shift [X, .cells [.d (.bool false)], .cells [.d (.int .i64 0)]] o (gridG l o) 30
  simp only [List.cons_append, List.nil_append, List.length_cons, List.length_nil, Nat.zero_add, Nat.reduceAdd] at sh
  have c4 := play_own [X, .cells [.d (.bool false)], .cells [.d (.int .i64 0)], .gone] [] o (gridG l o) plan ho hpl ⟨hXb _, ⟨trivial, trivial⟩, ⟨trivial, trivial⟩, trivial, trivial⟩ trivial
  obtain ⟨W, hW⟩ : ∃ W, W = playR o (gridG l o) plan := ⟨_, rfl⟩
  have hwl := playR_le (o := o) plan (gridG l o)
  rw [← hW] at c4 hR hwl
  have s1 : ∀ (F : Gr) (a b y : AObj) (po : List AObj), so (gH [X, a, b, .gone] o F 30 po) 1 y = gH [X, y, b, .gone] o F 30 po := fun F a b y po => gH_so_pre (by simp)
  have s2 : ∀ (F : Gr) (a b y : AObj) (po : List AObj), so (gH [X, a, b, .gone] o F 30 po) 2 y = gH [X, a, y, .gone] o F 30 po := fun F a b y po => gH_so_pre (by simp)
  have o1 : ∀ (F : Gr) (a b : AObj) (po : List AObj), ob (gH [X, a, b, .gone] o F 30 po) 1 = a := fun F a b po => gH_pre (by simp)
  have o2 : ∀ (F : Gr) (a b : AObj) (po : List AObj), ob (gH [X, a, b, .gone] o F 30 po) 2 = b := fun F a b po => gH_pre (by simp)
  simp (maxSteps := 4000000) -implicitDefEqProofs only [go_sem, sh, Option.some.injEq, forall_eq', and_true, true_and, Bool.not_true, Bool.not_false, decide_true, Nat.reduceAdd, Nat.reduceSub, Nat.reduceLT, Nat.reduceLeDiff, Nat.reduceEqDiff, ↓reduceIte]
  refine .all _ _ c4 ?_
  cases k3 : decide ((W.1 : Int) < plan.length)
  case true =>
    have h3 : decide (W.1 = plan.length) = false := decide_eq_false (by have := of_decide_eq_true k3; omega)
    rw [h3] at hR
    simp (maxSteps := 4000000) -implicitDefEqProofs only [go_sem, k3, o1, o2, s1, s2, Option.some.injEq, forall_eq', and_true, true_and, Bool.not_true, Bool.not_false, decide_true, Nat.reduceAdd, Nat.reduceSub, Nat.reduceLT, Nat.reduceLeDiff, Nat.reduceEqDiff, ↓reduceIte]
    rw [hR]
    exact (Wk.forget (by (simp only [go_sem]) <;> trivial) (by simp only [go_sem]))
  have h3 : decide (W.1 = plan.length) = true := decide_eq_true (by have := of_decide_eq_false k3; omega)
  rw [h3, Bool.true_and] at hR
  simp (maxSteps := 4000000) -implicitDefEqProofs only [go_sem, k3, Option.some.injEq, forall_eq', and_true, true_and, Bool.not_true, Bool.not_false, decide_true, Nat.reduceAdd, Nat.reduceSub, Nat.reduceLT, Nat.reduceLeDiff, Nat.reduceEqDiff, ↓reduceIte]
  refine .all _ _ (gaps_own _ 4) ?_
  rw [gH_len, gH_app]
  simp (maxSteps := 4000000) -implicitDefEqProofs only [go_sem, Nat.reduceAdd, Nat.reduceSub, Nat.reduceLT, Nat.reduceLeDiff, Nat.reduceEqDiff, ↓reduceIte]
  obtain ⟨F, hF⟩ : ∃ F, F = W.2 := ⟨_, rfl⟩
  rw [← hF] at hR ⊢
  obtain ⟨n, hn⟩ : ∃ n, n = (gapsL F o.length).length := ⟨_, rfl⟩
  have hσ : (gH [X, .cells [.d (.bool false)], .cells [.d (.int .i64 0)], .gone] o F 30 [AObj.cells [.ptr 4 0]]).length = 36 := by rw [gH_len]; rfl
  have g2 : ∀ (a b c d : AObj), (gH [X, a, b, .gone] o F 30 [c, d])[36]? = some d := fun a b c d => gH_getp (pre := [X, a, b, .gone]) (j := 1)
  have t2 : ∀ (a b c d e : AObj), (gH [X, a, b, .gone] o F 30 [c, d]).set 36 e = gH [X, a, b, .gone] o F 30 [c, e] := fun a b c d e => gH_setp (pre := [X, a, b, .gone]) (j := 1)
  refine ⟨rfl, _, _, rfl, ⟨_, Try.func57, rfl, rfl⟩, fun L0 rec => ?_⟩
  rw [hσ]
  refine ⟨n, fun i => i = 0, argG F o.length, fun i => gH [X, .cells [.d (.bool false)], .cells [.d (.int .i64 0)], .gone] o F 30 [.cells [.ptr 4 0], rcd L0 rec .ready none],
    fun c τ => c = .ret ∧ 0 < n ∧ τ = gH [X, .cells [.d (.bool false)], .cells [.d (.int .i64 0)], .gone] o F 30 [.cells [.ptr 4 0], rcd L0 rec .done (some .ret)], rfl, ?_, ?_, ?_, ?_, ?_⟩
  · rw [gH_app]; rfl
  · intro i hi _
    obtain ⟨⟨c, b⟩, hx⟩ : ∃ x, (gapsL F o.length)[i]? = some x := ⟨(gapsL F o.length)[i]'(by omega), List.getElem?_eq_getElem _⟩
    have ha : argG F o.length i = [.d (.int .i64 (c : Int)), .d (.int .i64 (b : Int))] := by rw [argG, hx]
    refine ⟨by rw [ha]; rfl, g2 _ _ _ _, mkE 32 [(6, .ptr 1 0), (7, .ptr 2 0)], gH [X, .cells [.d (.bool false)], .cells [.d (.int .i64 0)], .gone] o F 30 [.cells [.ptr 4 0], rcd L0 rec .ready none], g2 _ _ _ _, round_of_ev DX_ok 3000 ?_, round_of_ev DX_ok 3000 ?_⟩
    · rw [ha]
      simp (maxSteps := 4000000) -implicitDefEqProofs only [go_sem, Nat.reduceAdd, Nat.reduceSub, Nat.reduceLT, Nat.reduceLeDiff, Nat.reduceEqDiff, ↓reduceIte]
      exact (Wk.sub (by (simp only [go_sem]) <;> trivial))
    · rw [t2]
      simp (maxSteps := 4000000) -implicitDefEqProofs only [go_sem, o1, o2, s1, s2, Option.some.injEq, forall_eq', and_true, true_and, Bool.not_true, Bool.not_false, decide_true, Nat.reduceAdd, Nat.reduceSub, Nat.reduceLT, Nat.reduceLeDiff, Nat.reduceEqDiff, ↓reduceIte]
      refine ⟨mkE 32 [], gH [X, .cells [.d (.bool false)], .cells [.d (.int .i64 0)], .gone] o F 30 [.cells [.ptr 4 0], rcd L0 rec .busy none], (Wk.sub (by (simp only [go_sem]) <;> trivial)), g2 _ _ _ _, by omega, by rw [t2]⟩
  · have := gaps_it o F (fun _ => F) L0 35 4 (fun i => i = 0) (argG F o.length) (fun i => gH [X, .cells [.d (.bool false)], .cells [.d (.int .i64 0)], .gone] o F 30 [.cells [.ptr 4 0], rcd L0 rec .ready none])
      (fun c τ => c = .ret ∧ 0 < n ∧ τ = gH [X, .cells [.d (.bool false)], .cells [.d (.int .i64 0)], .gone] o F 30 [.cells [.ptr 4 0], rcd L0 rec .done (some .ret)]) ho ok.pos rfl (fun _ _ _ => .inl rfl)
      (fun i _ => gH_post (pre := [X, .cells [.d (.bool false)], .cells [.d (.int .i64 0)], .gone]) (j := 0)) (fun i _ => gH_g (pre := [X, .cells [.d (.bool false)], .cells [.d (.int .i64 0)], .gone])) (fun i _ c hc => gH_r (pre := [X, .cells [.d (.bool false)], .cells [.d (.int .i64 0)], .gone]) hc)
      (fun i c b h => by rw [argG, h]) (fun i _ => Nat.le_refl _)
    rw [← hn] at this
    exact this
  · intro hn0
    refine ⟨g2 _ _ _ _, ?_⟩
    rw [t2]
    rw [decide_eq_true (by omega)] at hR
    simp (maxSteps := 4000000) -implicitDefEqProofs only [go_sem, o1, o2, s1, s2, Option.some.injEq, forall_eq', and_true, true_and, Bool.not_true, Bool.not_false, decide_true, Nat.reduceAdd, Nat.reduceSub, Nat.reduceLT, Nat.reduceLeDiff, Nat.reduceEqDiff, ↓reduceIte]
    rw [hR]
    exact (Wk.forget (by (simp only [go_sem]) <;> trivial) (by simp only [go_sem]))
  · rintro c τ ⟨rfl, hn0, rfl⟩
    refine ⟨g2 _ _ _ _, ?_⟩
    rw [t2]
    rw [decide_eq_false (by omega)] at hR
    simp (maxSteps := 4000000) -implicitDefEqProofs only [go_sem, o1, o2, s1, s2, Option.some.injEq, forall_eq', and_true, true_and, Bool.not_true, Bool.not_false, decide_true, Nat.reduceAdd, Nat.reduceSub, Nat.reduceLT, Nat.reduceLeDiff, Nat.reduceEqDiff, ↓reduceIte]
    rw [hR]
    exact (Wk.forget (by (simp only [go_sem]) <;> trivial) (by simp only [go_sem]))
end
end Go.AX.Fw
namespace Go.Proofs.Ytjdppplgddldcaa
open Go.AX Go.AX.Fw Go.RowKit
end Go.Proofs.Ytjdppplgddldcaa

/- The chapter's examples of Make. -/
import Derived.Test.YtmffhidhmbncbaaK16
set_option maxHeartbeats 8000000
set_option linter.unusedVariables false
set_option linter.unusedSimpArgs false
set_option maxRecDepth 20000
namespace Go.AX.De
open Go.Proofs Go.RowKit Go.IntWalk Go.AX.Co
theorem bytes_decE {l : List Int} (h : l.all (fun x => decide (0 ≤ x ∧ x ≤ 255)) = true) : Bytes l := fun e he => by
  have := List.all_eq_true.1 h e he
  simpa using this
def abc : List Int := [97, 98, 99, 100, 101, 102]
theorem abc_B : Bytes abc := bytes_decE (by kernel_rfl)
theorem made_spec {o : Obj} (hg : GlO o) (t : ByteArray) (l : List Int) (n : Int) (P : List Part) (hl : l.length ≤ 300) (hB : Bytes l) (hm : makes abc l = (P, 0)) (hc : costs P = (n, 0)) (hP : Sm P.length)
    (ht : bytesD t = l.map bY) :
    Spec Try.prog 47 [.d (.str t), .d (.int .i64 n)] [.obj 0 o] (.d (.bool true)) [.obj 0 o] := by
  have c1 := make_dat hg abc l abc_B hB (by decide) (by omega)
  rw [hm] at c1
  have c2 := cost_own P hP
  rw [hc] at c2
  simp only at c1 c2
  have b1 : ∀ n : Int, (n == n) = true := fun n => by simp
  have eab : abc.map bY = [[.int .u8 97], [.int .u8 98], [.int .u8 99], [.int .u8 100], [.int .u8 101], [.int .u8 102]] := rfl
  rw [eab] at c1
  refine spec_of_ev (fn := Try.f47) DX_ok 3000 Try.func47 rfl rfl (Nat.le_of_ble_eq_true rfl) ?_
  simp (maxSteps := 4000000) -implicitDefEqProofs only [Try.f47, go_sem, ht]
  refine ⟨by decide, by decide, .all _ _ (c1.gl _ 0 (by rfl) (by simp only [go_sem]) (by simp only [go_sem])) ?_⟩
  simp (maxSteps := 4000000) -implicitDefEqProofs only [go_sem, Nat.reduceAdd, Nat.reduceSub, Nat.reduceLT, Nat.reduceLeDiff, Nat.reduceEqDiff, ↓reduceIte]
  refine .all _ _ (c2.lift0 _ (by simp only [go_sem]) (by simp only [go_sem])) ?_
  simp (maxSteps := 4000000) -implicitDefEqProofs only [go_sem, b1, Option.some.injEq, forall_eq', and_true, true_and, Bool.not_true, Bool.not_false, decide_true, Nat.reduceAdd, Nat.reduceSub, Nat.reduceLT, Nat.reduceLeDiff, Nat.reduceEqDiff, ↓reduceIte]
  exact Wk.end1 (by simp only [go_sem]; rfl) (by simp only [go_sem]) (by simp only [go_sem])
def aT1 : ByteArray := ⟨#[97, 98, 99, 120, 100, 101, 102]⟩
def aT2 : ByteArray := ⟨#[99, 100, 101, 102, 99, 100, 101, 102]⟩
theorem alive_spec {o : Obj} (hg : GlO o) : Spec Try.prog 25 [] [.obj 0 o] (.d (.bool true)) [.obj 0 o] := by
  have c1 := make_dat hg abc [97, 98, 99, 120, 100, 101, 102] abc_B (bytes_decE (by kernel_rfl)) (by decide) (by decide)
  rw [show makes abc [97, 98, 99, 120, 100, 101, 102] = ([⟨0, 3, []⟩, ⟨0, 0, [120]⟩, ⟨3, 3, []⟩], 0) by kernel_rfl] at c1
  have c2 := make_dat hg abc [97, 98] abc_B (bytes_decE (by kernel_rfl)) (by decide) (by decide)
  rw [show makes abc [97, 98] = ([⟨0, 2, []⟩], 0) by kernel_rfl] at c2
  have c3 := same_parts [⟨0, 3, []⟩, ⟨0, 0, [120]⟩, ⟨3, 3, []⟩] (by decide) (by intro p hp; simp only [List.mem_cons, List.not_mem_nil, or_false] at hp; rcases hp with rfl | rfl | rfl <;> decide)
  have c4 := made_spec hg ⟨#[97, 98, 99, 120, 100, 101, 102]⟩ [97, 98, 99, 120, 100, 101, 102] 8 [⟨0, 3, []⟩, ⟨0, 0, [120]⟩, ⟨3, 3, []⟩] (by decide) (bytes_decE (by kernel_rfl)) (by kernel_rfl) (by kernel_rfl) (by unfold Sm; decide) (by kernel_rfl)
  have c5 := made_spec hg ⟨#[99, 100, 101, 102, 99, 100, 101, 102]⟩ [99, 100, 101, 102, 99, 100, 101, 102] 6 [⟨2, 4, []⟩, ⟨2, 4, []⟩] (by decide) (bytes_decE (by kernel_rfl)) (by kernel_rfl) (by kernel_rfl) (by unfold Sm; decide) (by kernel_rfl)
  have c6 := made_spec hg ⟨#[97, 98]⟩ [97, 98] 3 [⟨0, 2, []⟩] (by decide) (bytes_decE (by kernel_rfl)) (by kernel_rfl) (by kernel_rfl) (by unfold Sm; decide) (by kernel_rfl)
  have c7 := made_spec hg ⟨#[97]⟩ [97] 2 [⟨0, 0, [97]⟩] (by decide) (bytes_decE (by kernel_rfl)) (by kernel_rfl) (by kernel_rfl) (by unfold Sm; decide) (by kernel_rfl)
  have c8 := same_parts [⟨0, 2, []⟩] (by decide) (by intro p hp; simp only [List.mem_cons, List.not_mem_nil, or_false] at hp; subst hp; decide)
  simp only [abc, List.map_cons, List.map_nil, bY, bI, pD] at c1 c2 c3 c8
  have b1 : ∀ n : Int, (n == n) = true := fun n => by simp
  refine spec_of_ev (fn := Try.f25) DX_ok 3000 Try.func25 rfl rfl (Nat.le_of_ble_eq_true rfl) ?_
  simp (maxSteps := 4000000) -implicitDefEqProofs only [Try.f25, go_sem]
  refine ⟨by decide, by decide, by decide, by decide, ?_⟩
  refine .all _ _ (c1.gl _ 0 (by rfl) (by simp only [go_sem]) (by simp only [go_sem])) ?_
  simp (maxSteps := 4000000) -implicitDefEqProofs only [go_sem, b1, Option.some.injEq, forall_eq', and_true, true_and, Bool.not_true, Bool.not_false, decide_true, Nat.reduceAdd, Nat.reduceSub, Nat.reduceLT, Nat.reduceLeDiff, Nat.reduceEqDiff, ↓reduceIte]
  refine ⟨by decide, .all _ _ (c2.gl _ 0 (by rfl) (by simp only [go_sem]) (by simp only [go_sem])) ?_⟩
  simp (maxSteps := 4000000) -implicitDefEqProofs only [go_sem, b1, Option.some.injEq, forall_eq', and_true, true_and, Bool.not_true, Bool.not_false, decide_true, Nat.reduceAdd, Nat.reduceSub, Nat.reduceLT, Nat.reduceLeDiff, Nat.reduceEqDiff, ↓reduceIte]
  refine ECall.dat (by simp only [go_sem]; rfl) (by rfl) ?_
  refine .all _ _ (c3.lift0 _ (by simp only [go_sem]) (by simp only [go_sem])) ?_
  simp (maxSteps := 4000000) -implicitDefEqProofs only [go_sem, b1, Option.some.injEq, forall_eq', and_true, true_and, Bool.not_true, Bool.not_false, decide_true, Nat.reduceAdd, Nat.reduceSub, Nat.reduceLT, Nat.reduceLeDiff, Nat.reduceEqDiff, ↓reduceIte]
  refine .all _ _ (c4.gl _ 0 (by rfl) (by simp only [go_sem]) (by simp only [go_sem])) ?_
  simp (maxSteps := 4000000) -implicitDefEqProofs only [go_sem, b1, Option.some.injEq, forall_eq', and_true, true_and, Bool.not_true, Bool.not_false, decide_true, Nat.reduceAdd, Nat.reduceSub, Nat.reduceLT, Nat.reduceLeDiff, Nat.reduceEqDiff, ↓reduceIte]
  refine .all _ _ (c5.gl _ 0 (by rfl) (by simp only [go_sem]) (by simp only [go_sem])) ?_
  simp (maxSteps := 4000000) -implicitDefEqProofs only [go_sem, b1, Option.some.injEq, forall_eq', and_true, true_and, Bool.not_true, Bool.not_false, decide_true, Nat.reduceAdd, Nat.reduceSub, Nat.reduceLT, Nat.reduceLeDiff, Nat.reduceEqDiff, ↓reduceIte]
  refine .all _ _ (c6.gl _ 0 (by rfl) (by simp only [go_sem]) (by simp only [go_sem])) ?_
  simp (maxSteps := 4000000) -implicitDefEqProofs only [go_sem, b1, Option.some.injEq, forall_eq', and_true, true_and, Bool.not_true, Bool.not_false, decide_true, Nat.reduceAdd, Nat.reduceSub, Nat.reduceLT, Nat.reduceLeDiff, Nat.reduceEqDiff, ↓reduceIte]
  refine .all _ _ (c7.gl _ 0 (by rfl) (by simp only [go_sem]) (by simp only [go_sem])) ?_
  simp (maxSteps := 4000000) -implicitDefEqProofs only [go_sem, b1, Option.some.injEq, forall_eq', and_true, true_and, Bool.not_true, Bool.not_false, decide_true, Nat.reduceAdd, Nat.reduceSub, Nat.reduceLT, Nat.reduceLeDiff, Nat.reduceEqDiff, ↓reduceIte]
  refine ⟨by decide, ?_⟩
  refine ECall.dat (by simp only [go_sem]; rfl) (by rfl) ?_
  refine .all _ _ (c8.lift0 _ (by simp only [go_sem]) (by simp only [go_sem])) ?_
  simp (maxSteps := 4000000) -implicitDefEqProofs only [go_sem, b1, Option.some.injEq, forall_eq', and_true, true_and, Bool.not_true, Bool.not_false, decide_true, Nat.reduceAdd, Nat.reduceSub, Nat.reduceLT, Nat.reduceLeDiff, Nat.reduceEqDiff, ↓reduceIte]
  exact Wk.end1 (by simp only [go_sem]; rfl) (by simp only [go_sem]) (by simp only [go_sem])
end Go.AX.De
/- The least delta: what it puts out, what it costs; no delta costs less. Plain Lean. -/
set_option maxHeartbeats 8000000
set_option linter.unusedVariables false
set_option linter.unusedSimpArgs false
set_option maxRecDepth 20000
namespace Go.AX.De
open Go.Proofs Go.RowKit Go.IntWalk Go.AX.Co
/-- the least cost -/
def lc (b s : List Int) : Int := (lst b s).headD 0
theorem lc_nil (b : List Int) : lc b [] = 0 := rfl
theorem lst_get (b : List Int) {s : List Int} {i : Nat} (h : i ≤ s.length) : (lst b s)[i]? = some (lc b (s.drop i)) := lst_all b s i h
/-- the first of them -/
theorem first_of {P : Nat → Prop} : ∀ n, (∃ j, j < n ∧ P j) → ∃ j, j < n ∧ P j ∧ ∀ i, i < j → ¬ P i
  | 0, h => by obtain ⟨j, h, _⟩ := h; omega
  | n + 1, h => by
    by_cases q : ∃ j, j < n ∧ P j
    · obtain ⟨j, h1, h2, h3⟩ := first_of n q
      exact ⟨j, by omega, h2, h3⟩
    · obtain ⟨j, h1, h2⟩ := h
      refine ⟨j, h1, h2, fun i hi hp => q ⟨i, by omega, hp⟩⟩
theorem pre_eq : ∀ (a p : List Int), pre a p = p.length → a.take p.length = p
  | a, [], _ => by simp
  | [], y :: p, h => by simp [pre] at h
  | x :: a, y :: p, h => by
    rw [pre] at h
    by_cases e : x = y
    · rw [if_pos e, List.length_cons] at h
      rw [List.length_cons, List.take_succ_cons, pre_eq a p (by omega), e]
    · rw [if_neg e] at h; simp at h
theorem pre_of : ∀ (a p q : List Int), a.take p.length = p → p.length ≤ pre a (p ++ q)
  | a, [], q, _ => by simp
  | [], y :: p, q, h => by simp at h
  | x :: a, y :: p, q, h => by
    rw [List.length_cons, List.take_succ_cons, List.cons.injEq] at h
    rw [List.cons_append, pre, if_pos h.1, List.length_cons]
    have := pre_of a p q h.2
    omega
theorem lg_of : ∀ (b s : List Int) (j : Nat), pre (b.drop j) s ≤ lg b s
  | [], s, j => by cases s <;> simp [pre]
  | x :: b, s, 0 => by rw [List.drop_zero, lg]; omega
  | x :: b, s, j + 1 => by
    have := lg_of b s j
    rw [List.drop_succ_cons, lg]; omega
/-- one step of any delta -/
theorem lc_insert (b : List Int) {s : List Int} {k : Nat} (h0 : 0 < k) (h : k ≤ s.length) : lc b s ≤ 1 + k + lc b (s.drop k) := by
  have hne : s ≠ [] := fun e => by subst e; simp at h; omega
  obtain ⟨t, ts, rfl, _, h2, _⟩ := fir_ok (b := b) hne
  obtain ⟨m, rfl⟩ : ∃ m, k = m + 1 := ⟨k - 1, by omega⟩
  simp only [List.length_cons] at h
  have := h2 m _ (lst_get b (s := ts) (i := m) (by omega))
  unfold lc at this ⊢
  rw [List.drop_succ_cons]
  omega
theorem lc_copy (b : List Int) {s : List Int} {k : Nat} (h0 : 0 < k) (h : k ≤ lg b s) : lc b s ≤ 3 + lc b (s.drop k) := by
  have hl := (lg_le b s).1
  have hne : s ≠ [] := fun e => by subst e; simp at hl; omega
  obtain ⟨t, ts, rfl, h2, _, _⟩ := fir_ok (b := b) hne
  obtain ⟨m, rfl⟩ : ∃ m, k = m + 1 := ⟨k - 1, by omega⟩
  simp only [List.length_cons] at hl
  have := h2 m _ (lst_get b (s := ts) (i := m) (by omega)) (by omega)
  unfold lc at this ⊢
  rw [List.drop_succ_cons]
  omega
/-- a part that fits a base -/
def PFit (b : List Int) (p : Part) : Prop := (copies p = true ∨ inserts p = true) ∧ (p.n = 0 ∨ p.at' + p.n ≤ b.length)
/-- no delta costs less -/
theorem lc_least (b : List Int) : ∀ l : List Part, (∀ p ∈ l, PFit b p) → lc b (outs b l) ≤ csum l
  | [], _ => by simp [outs, lc_nil, csum]
  | p :: l, h => by
    have ih := lc_least b l fun q hq => h q (by simp [hq])
    obtain ⟨hp, hf⟩ := h p (by simp)
    rw [outs, csum, put, cost]
    by_cases hc : copies p = true
    · rw [if_pos hc, if_pos hc]
      unfold copies at hc
      rw [decide_eq_true_eq] at hc
      have hlen : ((b.drop p.at'.toNat).take p.n.toNat).length = p.n.toNat := by rw [List.length_take, List.length_drop]; omega
      have h1 := pre_of (b.drop p.at'.toNat) ((b.drop p.at'.toNat).take p.n.toNat) (outs b l) (by rw [hlen])
      have h2 := lg_of b ((b.drop p.at'.toNat).take p.n.toNat ++ outs b l) p.at'.toNat
      have h3 := lc_copy b (s := (b.drop p.at'.toNat).take p.n.toNat ++ outs b l) (k := p.n.toNat) (by omega) (by omega)
      have h4 : ((b.drop p.at'.toNat).take p.n.toNat ++ outs b l).drop p.n.toNat = outs b l := by
        rw [List.drop_append, hlen, Nat.sub_self, List.drop_zero, List.drop_eq_nil_of_le (by omega), List.nil_append]
      rw [h4] at h3
      omega
    · rw [if_neg hc, if_neg hc]
      have hi := hp.resolve_left hc
      unfold inserts at hi
      rw [decide_eq_true_eq] at hi
      have h3 := lc_insert b (s := p.data ++ outs b l) (k := p.data.length) (by omega) (by simp)
      rw [List.drop_left] at h3
      omega
/-- how a least delta begins -/
theorem fir_cost {b s : List Int} (h : s ≠ []) : (0 < fir b s ∧ fir b s ≤ lg b s ∧ lc b s = 3 + lc b (s.drop (fir b s).toNat)) ∨ (fir b s < 0 ∧ -(fir b s) ≤ s.length ∧ lc b s = 1 + -(fir b s) + lc b (s.drop (-(fir b s)).toNat)) := by
  have hb := fir_bd (b := b) h
  have hl := (lg_le b s).1
  obtain ⟨t, ts, rfl, _, _, hf⟩ := fir_ok (b := b) h
  simp only [List.length_cons] at hl
  rcases hf with ⟨k, y, h1, h2, h3, h4, _⟩ | ⟨m, y, h1, h3, h4, _⟩
  · left
    rw [lst_get b (s := ts) (i := k) (by omega)] at h1
    cases h1
    have e : (fir b (t :: ts)).toNat = k + 1 := by omega
    rw [e, List.drop_succ_cons]
    exact ⟨by omega, by omega, h4⟩
  · right
    have hm : m < ts.length + 1 := by
      have := (List.getElem?_eq_some_iff.1 h1).1
      rwa [lst_len] at this
    rw [lst_get b (s := ts) (i := m) (by omega)] at h1
    cases h1
    have e : (-(fir b (t :: ts))).toNat = m + 1 := by omega
    rw [e, List.drop_succ_cons]
    refine ⟨by omega, by simp only [List.length_cons]; omega, ?_⟩
    unfold lc at h4 ⊢
    omega
/-- no two inserts, one behind the other -/
def Apart : List Part → Prop
  | p :: q :: l => ¬ (p.n = 0 ∧ q.n = 0) ∧ Apart (q :: l)
  | _ => True
theorem Apart.at : ∀ {l : List Part}, Apart l → ∀ k p q, l[k]? = some p → l[k + 1]? = some q → ¬ (p.n = 0 ∧ q.n = 0)
  | [], _, k, p, q, h, _ => by simp at h
  | [x], _, k, p, q, _, h => by simp at h
  | x :: y :: l, ha, 0, p, q, h1, h2 => by
    simp at h1 h2
    subst h1; subst h2
    exact ha.1
  | x :: y :: l, ha, k + 1, p, q, h1, h2 => by
    simp only [List.getElem?_cons_succ] at h1
    rw [List.getElem?_cons_succ] at h2
    exact Apart.at ha.2 k p q h1 h2
theorem mkP_ok {b : List Int} (hB : Bytes b) (hb : b.length ≤ 2000) : ∀ (d : Nat) (s : List Int), Bytes s → s.length ≤ d → s.length ≤ 2000 →
    (∀ p ∈ mkP b d s, PFit b p) ∧ outs b (mkP b d s) = s ∧ csum (mkP b d s) = lc b s ∧ Apart (mkP b d s) ∧ (∀ p l, mkP b d s = p :: l → (p.n = 0 ↔ fir b s < 0))
  | 0, s, hS, hd, _ => by
    have : s = [] := List.length_eq_zero_iff.1 (by omega)
    subst this
    simp [mkP, outs, csum, lc_nil, Apart]
  | d + 1, s, hS, hd, h2 => by
    rw [mkP]
    by_cases hs : s = []
    · subst hs
      rw [if_pos rfl]
      simp [outs, csum, lc_nil, Apart]
    rw [if_neg hs]
    have hl := lg_le b s
    rcases fir_cost (b := b) hs with ⟨f1, f2, f3⟩ | ⟨f1, f2, f3⟩
    · rw [if_pos f1]
      obtain ⟨K, hK⟩ : ∃ K : Nat, fir b s = K := ⟨(fir b s).toNat, by omega⟩
      rw [hK] at f1 f2 f3 ⊢
      rw [Int.toNat_natCast] at f3 ⊢
      have ih := mkP_ok hB hb d (s.drop K) (fun e he => hS e (List.mem_of_mem_drop he)) (by rw [List.length_drop]; omega) (by rw [List.length_drop]; omega)
      have pl : (s.take K).length = K := by rw [List.length_take]; omega
      obtain ⟨j, hj1, hj2, hj3⟩ := first_of b.length (lg_take (b := b) (s := s) (k := K) (by omega) (by omega))
      have hix := index_of hB (fun e he => hS e (List.mem_of_mem_take he)) (by omega) hj2 hj3
      rw [hix]
      have hj4 := (pre_le (b.drop j) (s.take K)).2
      rw [hj2, pl, List.length_drop] at hj4
      have hc : copies ⟨(j : Int), (K : Int), []⟩ = true := by unfold copies; rw [decide_eq_true_eq]; simp; omega
      have hput : (b.drop j).take K = s.take K := by
        have := pre_eq _ _ hj2
        rwa [pl] at this
      refine ⟨fun p hp => ?_, ?_, ?_, ?_, fun p l e => ?_⟩
      · rcases List.mem_cons.1 hp with rfl | hp
        · exact ⟨.inl hc, .inr (by simp only; omega)⟩
        · exact ih.1 p hp
      · rw [outs, ih.2.1, put, if_pos hc]
        simp only [Int.toNat_natCast]
        rw [hput, List.take_append_drop]
      · rw [csum, ih.2.2.1, cost, if_pos hc]; omega
      · cases hm : mkP b d (s.drop K) with
        | nil => simp [Apart]
        | cons q l =>
          rw [hm] at ih
          exact ⟨fun h => by have := h.1; simp only at this; omega, ih.2.2.2.1⟩
      · cases e
        simp only
        omega
    · rw [if_neg (by omega)]
      obtain ⟨K, hK⟩ : ∃ K : Nat, fir b s = -(K : Int) := ⟨(-(fir b s)).toNat, by omega⟩
      rw [hK] at f1 f2 f3 ⊢
      rw [Int.neg_neg, Int.toNat_natCast] at f3 ⊢
      rw [Int.neg_neg] at f2
      have hS' : Bytes (s.drop K) := fun e he => hS e (List.mem_of_mem_drop he)
      have ih := mkP_ok hB hb d (s.drop K) hS' (by rw [List.length_drop]; omega) (by rw [List.length_drop]; omega)
      have pl : (s.take K).length = K := by rw [List.length_take]; omega
      have hc : copies ⟨0, 0, s.take K⟩ = false := by unfold copies; rw [decide_eq_false_iff_not]; simp
      have hi : inserts ⟨0, 0, s.take K⟩ = true := by unfold inserts; rw [decide_eq_true_eq]; show (0 : Int) = 0 ∧ (0 : Int) = 0 ∧ 1 ≤ (s.take K).length ∧ (s.take K).length ≤ 2000; omega
      refine ⟨fun p hp => ?_, ?_, ?_, ?_, fun p l e => ?_⟩
      · rcases List.mem_cons.1 hp with rfl | hp
        · exact ⟨.inr hi, .inl rfl⟩
        · exact ih.1 p hp
      · rw [outs, ih.2.1, put, if_neg (by rw [hc]; simp), List.take_append_drop]
      · rw [csum, ih.2.2.1, cost, if_neg (by rw [hc]; simp), pl]; omega
      · cases hm : mkP b d (s.drop K) with
        | nil => simp [Apart]
        | cons q l =>
          have ihq := ih.2.2.2.2 q l hm
          rw [hm] at ih
          refine ⟨fun h => ?_, ih.2.2.2.1⟩
          have hq := ihq.1 h.2
          have hne : s.drop K ≠ [] := fun e => by rw [e] at hm; rw [mkP_nil] at hm; cases hm
          rcases fir_cost (b := b) hne with ⟨g1, _⟩ | ⟨g1, g2, g3⟩
          · omega
          · obtain ⟨M, hM⟩ : ∃ M : Nat, fir b (s.drop K) = -(M : Int) := ⟨(-(fir b (s.drop K))).toNat, by omega⟩
            rw [hM, Int.neg_neg, Int.toNat_natCast, List.drop_drop] at g3
            rw [hM, Int.neg_neg, List.length_drop] at g2
            have := lc_insert b (s := s) (k := K + M) (by omega) (by omega)
            omega
      · cases e
        exact ⟨fun _ => f1, fun _ => rfl⟩
theorem lc_bd (b s : List Int) : 0 ≤ lc b s ∧ lc b s ≤ s.length + 1 := by
  have h := (lst_bd b s).1
  have hl := lst_len b s
  unfold lc
  cases hc : lst b s with
  | nil => rw [hc] at hl; simp at hl
  | cons y ys => rw [hc] at h; exact h y (by simp)
/-- a part of the base costs a copy at most -/
theorem lc_part (b : List Int) (j n : Nat) (h : j + n ≤ b.length) : lc b ((b.drop j).take n) ≤ 3 := by
  by_cases h0 : n = 0
  · subst h0; rw [List.take_zero, lc_nil]; omega
  have hlen : ((b.drop j).take n).length = n := by rw [List.length_take, List.length_drop]; omega
  have h1 := pre_of (b.drop j) ((b.drop j).take n) [] (by rw [hlen])
  rw [List.append_nil] at h1
  have h2 := lg_of b ((b.drop j).take n) j
  have h3 := lc_copy b (s := (b.drop j).take n) (k := n) (by omega) (by omega)
  have e : ((b.drop j).take n).drop n = [] := List.drop_eq_nil_of_le (by omega)
  rw [e, lc_nil] at h3
  omega
theorem valid_of {l : List Part} (h1 : l.length ≤ 200) (h2 : ∀ p ∈ l, copies p = true ∨ inserts p = true) : valid l = 0 := by
  unfold valid
  rw [if_neg (by omega), if_neg]
  intro h
  obtain ⟨p, hp, hb⟩ := List.any_eq_true.1 h
  unfold bad at hb
  rcases h2 p hp with h | h <;> simp [h] at hb
theorem check_of {b : List Int} {l : List Part} (h1 : l.length ≤ 200) (h2 : ∀ p ∈ l, PFit b p) : check l b.length = 0 := by
  unfold check
  rw [if_neg (fun h => h (valid_of h1 fun p hp => (h2 p hp).1)), if_neg]
  intro h
  obtain ⟨p, hp, hb⟩ := List.any_eq_true.1 h
  unfold over at hb
  rw [decide_eq_true_eq] at hb
  rcases (h2 p hp).2 with h | h <;> omega
theorem fit_of {b : List Int} {l : List Part} (h : check l b.length = 0) : ∀ p ∈ l, PFit b p := fun p hp => ⟨valid_parts (check_valid h) p hp, check_fits h p hp⟩
theorem costs_of {l : List Part} (h : valid l = 0) : costs l = (csum l, 0) := by unfold costs; rw [if_neg (fun q => q h)]
theorem applied_of {b : List Int} {l : List Part} (hb : b.length ≤ 2000) (h : check l b.length = 0) (ho : (outs b l).length ≤ 2000) : applied b l = (outs b l, 0) := by
  unfold applied; rw [if_neg (by omega), if_neg (fun q => q h), if_neg (by omega)]
theorem applied_inv {b : List Int} {l : List Part} (h : (applied b l).2 = 0) : check l b.length = 0 ∧ (applied b l).1 = outs b l := by
  unfold applied at h ⊢
  by_cases h1 : 2000 < b.length
  · rw [if_pos h1] at h; simp at h
  rw [if_neg h1] at h ⊢
  by_cases h2 : check l b.length ≠ 0
  · rw [if_pos h2] at h; exact absurd h h2
  rw [if_neg h2] at h ⊢
  have h2 := Decidable.not_not.1 h2
  by_cases h3 : 2000 < (outs b l).length
  · rw [if_pos h3] at h; simp at h
  rw [if_neg h3]
  exact ⟨h2, rfl⟩
/-- what Make answers -/
theorem makes_ok {b s : List Int} (hB : Bytes b) (hS : Bytes s) (hb : b.length ≤ 80) (hs : s.length ≤ 80) :
    ∃ P, makes b s = (P, 0) ∧ P.length ≤ 80 ∧ (∀ p ∈ P, PFit b p) ∧ outs b P = s ∧ csum P = lc b s ∧ Apart P := by
  have h := mkP_ok hB (by omega) s.length s hS (Nat.le_refl _) (by omega)
  exact ⟨mkP b s.length s, by unfold makes; rw [if_neg (by omega)], by have := (mkP_small b s.length s).1; omega, h.1, h.2.1, h.2.2.1, h.2.2.2.1⟩
end Go.AX.De

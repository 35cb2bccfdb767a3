/- Queues: the program's own check of a queue. -/
import Derived.Test.YtamlleliapmhmaaQb
set_option maxHeartbeats 8000000
set_option linter.unusedVariables false
set_option linter.unusedSimpArgs false
set_option maxRecDepth 20000
namespace Go.AX.Qu
open Go.Proofs Go.RowKit Go.IntWalk Go.AX.Br
def k2 (k : ByteArray × ByteArray) : List D := [.str k.1, .str k.2]
theorem k2_eq (a b : ByteArray × ByteArray) : deqs (k2 a) (k2 b) = decide (a = b) := by
  cases a; cases b
  simp only [k2, deqs, deq, ba_beq, Bool.and_true]
  rw [Bool.eq_iff_iff]; simp
theorem k2_kind (s : ByteArray × ByteArray) : kindOk true [.str, .str] (k2 s) := ⟨rfl, fun h => by cases h⟩
theorem seen_succ {q : List Rq} {m : List ((ByteArray × ByteArray) × Bool)} {i : Nat} {x : Rq} (hx : q[i]? = some x) (h : ∀ r : Rq, (look (r.br, r.ch) m).getD false = (q.take i).any fun s => same2 s r) :
    ∀ r : Rq, (look (r.br, r.ch) (mput (x.br, x.ch) ((look (x.br, x.ch) m).getD false || opn x) m)).getD false = (q.take (i + 1)).any fun s => same2 s r := fun r => by
  rw [take_any hx, look_put]
  by_cases e : (r.br, r.ch) = (x.br, x.ch)
  · rw [if_pos e]
    simp only [Prod.mk.injEq] at e
    have e2 : same2 x r = opn x := by simp [same2, e.1, e.2]
    have e3 : ((q.take i).any fun s => same2 s x) = (q.take i).any fun s => same2 s r := by
      congr 1; funext s; simp [same2, e.1, e.2]
    rw [Option.getD_some, h x, e2, e3]
  · rw [if_neg e, h r]
    have : same2 x r = false := by
      simp only [Prod.mk.injEq, not_and] at e
      simp only [same2, Bool.and_eq_false_iff, decide_eq_false_iff_not]
      by_cases e1 : x.br = r.br
      · exact .inr fun e2 => e e1.symm e2.symm
      · exact .inl (.inr e1)
    rw [this, Bool.or_false]
theorem qcheck_own (q : List Rq) (hq : Sm q.length) : Spec Try.prog 20 [.d (.sl (q.map rD))] [] (.d (.int .i64 (qcheck q))) [] := by
  unfold Sm at hq
  refine spec_of_ev (fn := Try.f20) DX_ok 3000 Try.func20 rfl rfl (Nat.le_of_ble_eq_true rfl) ?_
  simp (maxSteps := 4000000) -implicitDefEqProofs only [Try.f20, go_sem]
  rcases Nat.lt_or_ge 30 q.length with h0 | h0
  · have d0 : decide (30 < (q.length : Int)) = true := by simp; omega
    simp (maxSteps := 4000000) -implicitDefEqProofs only [go_sem, d0, Option.some.injEq, forall_eq', and_true, true_and, Bool.not_true, Bool.not_false, decide_true, Nat.reduceAdd, Nat.reduceSub, Nat.reduceLT, Nat.reduceLeDiff, Nat.reduceEqDiff, ↓reduceIte]
    exact wk_int (by simp only [qcheck]; rw [if_pos h0])
  have h0' : ¬ 30 < q.length := by omega
  have d0 : decide (30 < (q.length : Int)) = false := by simp; omega
  simp (maxSteps := 4000000) -implicitDefEqProofs only [go_sem, d0, Option.some.injEq, forall_eq', and_true, true_and, Bool.not_true, Bool.not_false, decide_true, Nat.reduceAdd, Nat.reduceSub, Nat.reduceLT, Nat.reduceLeDiff, Nat.reduceEqDiff, ↓reduceIte]
  refine eloop (S := Nat) (fun i => mkE 78 [(0, .d (.sl (q.map rD))), (12, .d (.sl (q.map rD))), (13, .d (.int .i64 q.length)), (14, .d (.int .i64 i))]) (fun i => []) (fun i => i ≤ q.length ∧ ∀ j x, q[j]? = some x → j < i → valid x = true) (fun i => q.length - i) 0 ⟨by omega, by omega⟩ (Wk.sub (by (simp only [go_sem]) <;> trivial)) ?_
  rintro i ⟨hi, hj⟩
  rcases Nat.lt_or_ge i q.length with h2 | h2
  · have d2 : decide ((i : Int) < q.length) = true := by simp; omega
    obtain ⟨x, hx⟩ : ∃ x, q[i]? = some x := ⟨q[i]'(by omega), List.getElem?_eq_getElem _⟩
    have n1 : (0 ≤ (i : Int) ∧ (i : Int) < q.length) = True := eq_true (by omega)
    have w1 : IntKind.i64.wrap ((i : Int) + 1) = i + 1 := i64_in _ (by omega)
    have bad : valid x = false → qcheck q = 8 := fun h => qcheck_bad h0' (List.mem_of_getElem? hx) h
    rcases Int.lt_or_le x.st 1 with a1 | a1
    · have f1 := decide_eq_true a1
      simp (maxSteps := 4000000) -implicitDefEqProofs only [go_sem, d2, n1, hx, f1, Option.some.injEq, forall_eq', and_true, true_and, Bool.not_true, Bool.not_false, decide_true, Nat.reduceAdd, Nat.reduceSub, Nat.reduceLT, Nat.reduceLeDiff, Nat.reduceEqDiff, ↓reduceIte]
      exact wk_int (bad (by simp only [valid, Bool.and_eq_false_iff, decide_eq_false_iff_not]; omega)).symm
    have f1 := decide_eq_false (Int.not_lt.2 a1)
    rcases Int.lt_or_le 7 x.st with a2 | a2
    · have f2 := decide_eq_true a2
      simp (maxSteps := 4000000) -implicitDefEqProofs only [go_sem, d2, n1, hx, f1, f2, Option.some.injEq, forall_eq', and_true, true_and, Bool.not_true, Bool.not_false, decide_true, Nat.reduceAdd, Nat.reduceSub, Nat.reduceLT, Nat.reduceLeDiff, Nat.reduceEqDiff, ↓reduceIte]
      exact wk_int (bad (by simp only [valid, Bool.and_eq_false_iff, decide_eq_false_iff_not]; omega)).symm
    have f2 := decide_eq_false (Int.not_lt.2 a2)
    rcases Int.lt_or_le x.tr 0 with a3 | a3
    · have f3 := decide_eq_true a3
      simp (maxSteps := 4000000) -implicitDefEqProofs only [go_sem, d2, n1, hx, f1, f2, f3, Option.some.injEq, forall_eq', and_true, true_and, Bool.not_true, Bool.not_false, decide_true, Nat.reduceAdd, Nat.reduceSub, Nat.reduceLT, Nat.reduceLeDiff, Nat.reduceEqDiff, ↓reduceIte]
      exact wk_int (bad (by simp only [valid, Bool.and_eq_false_iff, decide_eq_false_iff_not]; omega)).symm
    have f3 := decide_eq_false (Int.not_lt.2 a3)
    rcases Int.lt_or_le 5 x.tr with a4 | a4
    · have f4 := decide_eq_true a4
      simp (maxSteps := 4000000) -implicitDefEqProofs only [go_sem, d2, n1, hx, f1, f2, f3, f4, Option.some.injEq, forall_eq', and_true, true_and, Bool.not_true, Bool.not_false, decide_true, Nat.reduceAdd, Nat.reduceSub, Nat.reduceLT, Nat.reduceLeDiff, Nat.reduceEqDiff, ↓reduceIte]
      exact wk_int (bad (by simp only [valid, Bool.and_eq_false_iff, decide_eq_false_iff_not]; omega)).symm
    have f4 := decide_eq_false (Int.not_lt.2 a4)
    simp (maxSteps := 4000000) -implicitDefEqProofs only [go_sem, d2, n1, hx, f1, f2, f3, f4, Option.some.injEq, forall_eq', and_true, true_and, Bool.not_true, Bool.not_false, decide_true, Nat.reduceAdd, Nat.reduceSub, Nat.reduceLT, Nat.reduceLeDiff, Nat.reduceEqDiff, ↓reduceIte]
    refine ecall0 _ (isName_own x.br) (by simp only [go_sem]) (by simp only [go_sem]) ?_
    simp (maxSteps := 4000000) -implicitDefEqProofs only [go_sem, Nat.reduceAdd, Nat.reduceSub, Nat.reduceLT, Nat.reduceLeDiff, Nat.reduceEqDiff, ↓reduceIte]
    cases h5 : isNm x.br
    · simp (maxSteps := 4000000) -implicitDefEqProofs only [go_sem, h5, Option.some.injEq, forall_eq', and_true, true_and, Bool.not_true, Bool.not_false, decide_true, Nat.reduceAdd, Nat.reduceSub, Nat.reduceLT, Nat.reduceLeDiff, Nat.reduceEqDiff, ↓reduceIte]
      exact wk_int (bad (by simp [valid, h5])).symm
    simp (maxSteps := 4000000) -implicitDefEqProofs only [go_sem, h5, Option.some.injEq, forall_eq', and_true, true_and, Bool.not_true, Bool.not_false, decide_true, Nat.reduceAdd, Nat.reduceSub, Nat.reduceLT, Nat.reduceLeDiff, Nat.reduceEqDiff, ↓reduceIte]
    refine ecall0 _ (isName_own x.ch) (by simp only [go_sem]) (by simp only [go_sem]) ?_
    simp (maxSteps := 4000000) -implicitDefEqProofs only [go_sem, Nat.reduceAdd, Nat.reduceSub, Nat.reduceLT, Nat.reduceLeDiff, Nat.reduceEqDiff, ↓reduceIte]
    cases h6 : isNm x.ch
    · simp (maxSteps := 4000000) -implicitDefEqProofs only [go_sem, h6, Option.some.injEq, forall_eq', and_true, true_and, Bool.not_true, Bool.not_false, decide_true, Nat.reduceAdd, Nat.reduceSub, Nat.reduceLT, Nat.reduceLeDiff, Nat.reduceEqDiff, ↓reduceIte]
      exact wk_int (bad (by simp [valid, h6])).symm
    · simp (maxSteps := 4000000) -implicitDefEqProofs only [go_sem, h6, w1, Option.some.injEq, forall_eq', and_true, true_and, Bool.not_true, Bool.not_false, decide_true, Nat.reduceAdd, Nat.reduceSub, Nat.reduceLT, Nat.reduceLeDiff, Nat.reduceEqDiff, ↓reduceIte]
      exact .mk (i + 1) ⟨by omega, upto_succ hx (by simp only [valid, h5, h6, Bool.and_eq_true, decide_eq_true_eq, true_and]; omega) hj⟩ (by omega) (Wk.forget (by (simp only [go_sem]) <;> trivial) (by simp only [go_sem]))
  have d2 : decide ((i : Int) < q.length) = false := by simp; omega
  have hall := all_valid (q := q) fun j x hx hlt => hj j x hx (by omega)
  have fin : ∀ b, qtw q = b → qcheck q = if b = true then 14 else 0 := fun b hb => by simp only [qcheck, hall, hb]; rw [if_neg h0']; simp
  simp (maxSteps := 4000000) -implicitDefEqProofs only [go_sem, d2, Option.some.injEq, forall_eq', and_true, true_and, Bool.not_true, Bool.not_false, decide_true, Nat.reduceAdd, Nat.reduceSub, Nat.reduceLT, Nat.reduceLeDiff, Nat.reduceEqDiff, ↓reduceIte]
  clear hj hi h2 d2
  refine eloop (S := Nat × List ((ByteArray × ByteArray) × Bool)) (fun s => mkE 78 [(0, .d (.sl (q.map rD))), (5, .mp 0), (50, .d (.sl (q.map rD))), (51, .d (.int .i64 q.length)), (52, .d (.int .i64 s.1))]) (fun s => [.map true false (mD k2 boD s.2)])
    (fun s => s.1 ≤ q.length ∧ (∀ j x, q[j]? = some x → j < s.1 → (opn x && (q.take j).any fun s => same2 s x) = false) ∧ ∀ r : Rq, (look (r.br, r.ch) s.2).getD false = (q.take s.1).any fun s => same2 s r) (fun s => q.length - s.1) (0, []) ⟨by omega, by omega, fun r => by simp [look]⟩ (Wk.sub (by (simp only [go_sem]) <;> trivial)) ?_
  rintro ⟨i, m⟩ ⟨hi, hj, hm⟩
  simp only at hi hj hm ⊢
  rcases Nat.lt_or_ge i q.length with h2 | h2
  · have d2 : decide ((i : Int) < q.length) = true := by simp; omega
    obtain ⟨x, hx⟩ : ∃ x, q[i]? = some x := ⟨q[i]'(by omega), List.getElem?_eq_getElem _⟩
    have n1 : (0 ≤ (i : Int) ∧ (i : Int) < q.length) = True := eq_true (by omega)
    have w1 : IntKind.i64.wrap ((i : Int) + 1) = i + 1 := i64_in _ (by omega)
    have ox := open_own x
    simp only [rA] at ox
    have hmx := hm x
    obtain ⟨old, hold⟩ : ∃ b, b = (look (x.br, x.ch) m).getD false := ⟨_, rfl⟩
    have nxt := seen_succ hx hm
    rw [← hold] at hmx nxt
    have nd : (∃ ks, KeyT Try.prog 60 true ks ∧ kindOk true ks [D.str x.br, D.str x.ch] ∧ ∀ y ∈ mD k2 boD m, kindOk true ks y.1) = True := mneed (kD := k2) (vD := boD) Ty.keyT_60 k2_kind (x.br, x.ch) m
    have gd : (lkM [D.str x.br, D.str x.ch] (mD k2 boD m)).getD [D.bool false] = [D.bool old] := by
      have := lkM_mD (kD := k2) (vD := boD) k2_eq (x.br, x.ch) m
      simp only [k2] at this
      rw [this, hold]
      cases look (x.br, x.ch) m <;> rfl
    have up : ∀ v : Bool, upM [D.str x.br, D.str x.ch] [.bool v] (mD k2 boD m) = mD k2 boD (mput (x.br, x.ch) v m) := fun v => upM_mD (kD := k2) (vD := boD) k2_eq (x.br, x.ch) v m
    simp (maxSteps := 4000000) -implicitDefEqProofs only [go_sem, d2, n1, hx, Option.some.injEq, forall_eq', and_true, true_and, Bool.not_true, Bool.not_false, decide_true, Nat.reduceAdd, Nat.reduceSub, Nat.reduceLT, Nat.reduceLeDiff, Nat.reduceEqDiff, ↓reduceIte]
    refine ecall0 _ ox (by simp only [go_sem]) (by simp only [go_sem]) ?_
    cases h5 : opn x
    · rw [h5] at ox
      rw [h5, Bool.or_false] at nxt
      have stay : (opn x && (q.take i).any fun s => same2 s x) = false := by rw [h5]; rfl
      cases old
      · simp (maxSteps := 4000000) -implicitDefEqProofs only [go_sem, h5, Option.some.injEq, forall_eq', and_true, true_and, Bool.not_true, Bool.not_false, decide_true, Nat.reduceAdd, Nat.reduceSub, Nat.reduceLT, Nat.reduceLeDiff, Nat.reduceEqDiff, ↓reduceIte]
        refine DX.plain (.take 0 false (.take 1 false (.take 2 false (.take 3 false (.take 4 false (.take 5 false (.take 6 false (.take 7 false (.take 8 false (.run [9] (fun _ => []) fun _ => .done)))))))))) (by kernel_rfl) (by kernel_rfl) Ty.mixed ?_
        simp (maxSteps := 4000000) -implicitDefEqProofs only [go_sem, nd, gd, up, n1, Option.some.injEq, forall_eq', and_true, true_and, Bool.not_true, Bool.not_false, decide_true, Nat.reduceAdd, Nat.reduceSub, Nat.reduceLT, Nat.reduceLeDiff, Nat.reduceEqDiff, ↓reduceIte]
        refine ⟨_, _, ox.lift0 _ (by simp only [go_sem]) (by simp only [go_sem]), rfl, ?_⟩
        simp (maxSteps := 4000000) -implicitDefEqProofs only [go_sem, nd, gd, up, w1, Option.some.injEq, forall_eq', and_true, true_and, Bool.not_true, Bool.not_false, decide_true, Nat.reduceAdd, Nat.reduceSub, Nat.reduceLT, Nat.reduceLeDiff, Nat.reduceEqDiff, ↓reduceIte]
        exact .mk (i + 1, mput (x.br, x.ch) false m) ⟨h2, upto_succ hx stay hj, nxt⟩ (by simp only; omega) (Wk.via [0] (by (simp only [go_sem, ↓reduceIte]) <;> trivial) (by simp (maxSteps := 4000000) -implicitDefEqProofs only [go_sem, Nat.reduceAdd, Nat.reduceSub, Nat.reduceLT, Nat.reduceLeDiff, Nat.reduceEqDiff, ↓reduceIte]) (by simp) (by simp) (by (simp (maxSteps := 4000000) -implicitDefEqProofs only [go_sem, Nat.reduceAdd, Nat.reduceSub, Nat.reduceLT, Nat.reduceLeDiff, Nat.reduceEqDiff, ↓reduceIte]) <;> trivial) (by simp only [go_sem]) (Nat.zero_le _) (fun i h => absurd h (Nat.not_lt_zero i)))
      · simp (maxSteps := 4000000) -implicitDefEqProofs only [go_sem, h5, Option.some.injEq, forall_eq', and_true, true_and, Bool.not_true, Bool.not_false, decide_true, Nat.reduceAdd, Nat.reduceSub, Nat.reduceLT, Nat.reduceLeDiff, Nat.reduceEqDiff, ↓reduceIte]
        refine DX.plain (.take 0 false (.take 1 false (.take 2 false (.take 3 false (.take 4 false (.take 5 false (.take 6 false (.take 7 false (.take 8 false (.run [9] (fun _ => []) fun _ => .done)))))))))) (by kernel_rfl) (by kernel_rfl) Ty.mixed ?_
        simp (maxSteps := 4000000) -implicitDefEqProofs only [go_sem, nd, gd, up, n1, w1, Option.some.injEq, forall_eq', and_true, true_and, Bool.not_true, Bool.not_false, decide_true, Nat.reduceAdd, Nat.reduceSub, Nat.reduceLT, Nat.reduceLeDiff, Nat.reduceEqDiff, ↓reduceIte]
        exact .mk (i + 1, mput (x.br, x.ch) true m) ⟨h2, upto_succ hx stay hj, nxt⟩ (by simp only; omega) (Wk.via [0] (by (simp only [go_sem, ↓reduceIte]) <;> trivial) (by simp (maxSteps := 4000000) -implicitDefEqProofs only [go_sem, Nat.reduceAdd, Nat.reduceSub, Nat.reduceLT, Nat.reduceLeDiff, Nat.reduceEqDiff, ↓reduceIte]) (by simp) (by simp) (by (simp (maxSteps := 4000000) -implicitDefEqProofs only [go_sem, Nat.reduceAdd, Nat.reduceSub, Nat.reduceLT, Nat.reduceLeDiff, Nat.reduceEqDiff, ↓reduceIte]) <;> trivial) (by simp only [go_sem]) (Nat.zero_le _) (fun i h => absurd h (Nat.not_lt_zero i)))
    · rw [h5] at ox
      rw [h5, Bool.or_true] at nxt
      cases old
      · have stay : (opn x && (q.take i).any fun s => same2 s x) = false := by rw [h5, ← hmx]; rfl
        simp (maxSteps := 4000000) -implicitDefEqProofs only [go_sem, h5, nd, gd, Option.some.injEq, forall_eq', and_true, true_and, Bool.not_true, Bool.not_false, decide_true, Nat.reduceAdd, Nat.reduceSub, Nat.reduceLT, Nat.reduceLeDiff, Nat.reduceEqDiff, ↓reduceIte]
        refine DX.plain (.take 0 false (.take 1 false (.take 2 false (.take 3 false (.take 4 false (.take 5 false (.take 6 false (.take 7 false (.take 8 false (.run [9] (fun _ => []) fun _ => .done)))))))))) (by kernel_rfl) (by kernel_rfl) Ty.mixed ?_
        simp (maxSteps := 4000000) -implicitDefEqProofs only [go_sem, nd, gd, up, n1, Option.some.injEq, forall_eq', and_true, true_and, Bool.not_true, Bool.not_false, decide_true, Nat.reduceAdd, Nat.reduceSub, Nat.reduceLT, Nat.reduceLeDiff, Nat.reduceEqDiff, ↓reduceIte]
        refine ⟨_, _, ox.lift0 _ (by simp only [go_sem]) (by simp only [go_sem]), rfl, ?_⟩
        simp (maxSteps := 4000000) -implicitDefEqProofs only [go_sem, nd, gd, up, w1, Option.some.injEq, forall_eq', and_true, true_and, Bool.not_true, Bool.not_false, decide_true, Nat.reduceAdd, Nat.reduceSub, Nat.reduceLT, Nat.reduceLeDiff, Nat.reduceEqDiff, ↓reduceIte]
        exact .mk (i + 1, mput (x.br, x.ch) true m) ⟨h2, upto_succ hx stay hj, nxt⟩ (by simp only; omega) (Wk.via [0] (by (simp only [go_sem, ↓reduceIte]) <;> trivial) (by simp (maxSteps := 4000000) -implicitDefEqProofs only [go_sem, Nat.reduceAdd, Nat.reduceSub, Nat.reduceLT, Nat.reduceLeDiff, Nat.reduceEqDiff, ↓reduceIte]) (by simp) (by simp) (by (simp (maxSteps := 4000000) -implicitDefEqProofs only [go_sem, Nat.reduceAdd, Nat.reduceSub, Nat.reduceLT, Nat.reduceLeDiff, Nat.reduceEqDiff, ↓reduceIte]) <;> trivial) (by simp only [go_sem]) (Nat.zero_le _) (fun i h => absurd h (Nat.not_lt_zero i)))
      · simp (maxSteps := 4000000) -implicitDefEqProofs only [go_sem, h5, nd, gd, Option.some.injEq, forall_eq', and_true, true_and, Bool.not_true, Bool.not_false, decide_true, Nat.reduceAdd, Nat.reduceSub, Nat.reduceLT, Nat.reduceLeDiff, Nat.reduceEqDiff, ↓reduceIte]
        refine wk_int ?_
        have : qtw q = true := anyI_t hx (by rw [h5, ← hmx]; rfl)
        rw [fin true this]; rfl
  · have d2 : decide ((i : Int) < q.length) = false := by simp; omega
    simp (maxSteps := 4000000) -implicitDefEqProofs only [go_sem, d2, Option.some.injEq, forall_eq', and_true, true_and, Bool.not_true, Bool.not_false, decide_true, Nat.reduceAdd, Nat.reduceSub, Nat.reduceLT, Nat.reduceLeDiff, Nat.reduceEqDiff, ↓reduceIte]
    refine wk_int ?_
    rw [fin false (anyI_f fun j x hx => hj j x hx (by have := some_lt hx; omega))]; rfl
end Go.AX.Qu

/- Codes of numbers, written by the program. -/
import Derived.Test.YtmffhidhmbncbaaK6
import Derived.KernelRfl
set_option maxHeartbeats 8000000
set_option linter.unusedVariables false
set_option linter.unusedSimpArgs false
set_option maxRecDepth 20000
namespace Go.AX.Co
open Go.Proofs Go.RowKit Go.IntWalk
theorem or_128a : (List.range 256).all (fun x => (x ||| 128) == x % 128 + 128) = true := by kernel_rfl
theorem orI_128 {x : Nat} (h : x < 256) : orI .u8 (x : Int) 128 = ((x % 128 + 128 : Nat) : Int) := by
  have e : (x ||| 128) = x % 128 + 128 := by
    have := List.all_eq_true.1 or_128a x (by simpa using h)
    simpa using this
  show IntKind.u8.wrap ((BitVec.ofInt 8 (x : Int) ||| BitVec.ofInt 8 128).toNat : Int) = _
  rw [BitVec.toNat_or, bv8 h, show (BitVec.ofInt 8 128).toNat = 128 from rfl, e]
  exact u8_in _ (by omega)
/-- the code of a number -/
def codeF : Nat → Nat → List Int
  | 0, n => [((n % 256 : Nat) : Int)]
  | f + 1, n => if 127 < n then ((n % 128 + 128 : Nat) : Int) :: codeF f (n / 128) else [((n % 256 : Nat) : Int)]
theorem wrap8 {n : Nat} : IntKind.u8.wrap (n : Int) = ((n % 256 : Nat) : Int) := by
  simp only [IntKind.wrap]
  have hb : IntKind.u8.bits = 8 := rfl
  have hs : IntKind.u8.signed = false := rfl
  rw [hb, hs]
  simp
theorem code_own (p : List Int) (n : Nat) (hp : p.length ≤ 1000000) (hn : n < 2 ^ 64) :
    Spec Try.prog 65 [.own 0, .d (.int .u64 n)] [.row 1 (p.map bY)] (.own 1) [.gone, .row 1 ((p ++ codeF 10 n).map bY)] := by
  refine spec_of_ev (fn := Try.f65) DX_ok 3000 Try.func65 rfl rfl (Nat.le_of_ble_eq_true rfl) ?_
  simp (maxSteps := 4000000) -implicitDefEqProofs only [Try.f65, go_sem]
  refine eloop (S := Nat × Nat × List Int × Bool) (fun s => mkE 20 [(0, .own (if s.2.2.2 then 0 else 1)), (1, .d (.int .u64 s.2.1))]) (fun s => if s.2.2.2 then [.row 1 (s.2.2.1.map bY)] else [.gone, .row 1 (s.2.2.1.map bY)])
    (fun s => s.1 ≤ 10 ∧ s.2.1 < 2 ^ 64 ∧ s.2.1 < 2 ^ (7 * s.1) ∧ s.2.2.1.length + s.1 ≤ 1000010 ∧ p ++ codeF 10 n = s.2.2.1 ++ codeF s.1 s.2.1) (fun s => s.1) ((10, n, p, true) : Nat × Nat × List Int × Bool) ⟨by omega, hn, by show n < 2 ^ (7 * 10); omega, by show p.length + 10 ≤ _; omega, rfl⟩ (Wk.sub (by (simp only [go_sem]) <;> trivial)) ?_
  intro s hs
  obtain ⟨f, m, q, fst⟩ := s
  simp only at hs ⊢
  have h2 := hs.2.1
  have h3 := hs.2.2.1
  have h4 := hs.2.2.2.1
  have h5 := hs.2.2.2.2
  rw [h5]
  have wm := wrap8 (n := m)
  have o1 := orI_128 (x := m % 256) (by omega)
  rw [show m % 256 % 128 = m % 128 by omega] at o1
  have sh : Int.fdiv (m : Int) (2 ^ min (Int.toNat 7) 64) = ((m / 128 : Nat) : Int) := by
    rw [show ((2 : Int) ^ min (Int.toNat 7) 64) = 128 from rfl, Int.fdiv_eq_ediv_of_nonneg _ (by omega)]; omega
  by_cases hm : 127 < m
  · have d1 : decide (127 < (m : Int)) = true := by simp; omega
    cases f with
    | zero => exfalso; simp at h3; omega
    | succ f =>
    have ec : codeF (f + 1) m = ((m % 128 + 128 : Nat) : Int) :: codeF f (m / 128) := by rw [codeF, if_pos hm]
    have e7 : 2 ^ (7 * (f + 1)) = 2 ^ (7 * f) * 128 := by rw [Nat.mul_add, Nat.pow_add]
    have hm7 : m / 128 < 2 ^ (7 * f) := by rw [e7] at h3; exact Nat.div_lt_of_lt_mul (by rw [Nat.mul_comm]; exact h3)
    have em : (q.map bY ++ [[.int .u8 ((m % 128 + 128 : Nat) : Int)]] : List (List D)) = (q ++ [((m % 128 + 128 : Nat) : Int)]).map bY := by simp [bY]
    cases fst
    all_goals (simp (maxSteps := 4000000) -implicitDefEqProofs only [go_sem, d1, wm, o1, sh, Option.some.injEq, forall_eq', and_true, true_and, Bool.not_true, Bool.not_false, decide_true, Nat.reduceAdd, Nat.reduceSub, Nat.reduceLT, Nat.reduceLeDiff, Nat.reduceEqDiff, ↓reduceIte])
    all_goals refine ⟨⟨fun e he => by simp at he; subst he; rfl, by omega, by omega⟩, by omega, ?_⟩
    · exact .mk ((f, m / 128, q ++ [((m % 128 + 128 : Nat) : Int)], false) : Nat × Nat × List Int × Bool) ⟨by omega, by show m / 128 < 2 ^ 64; omega, hm7, by show (q ++ [((m % 128 + 128 : Nat) : Int)]).length + f ≤ 1000010; simp; omega, by rw [ec]; simp⟩ (by show f < f + 1; omega) (by rw [em]; exact (Wk.via [0, 3] (by (simp only [go_sem, ↓reduceIte]) <;> trivial) (by (simp (maxSteps := 4000000) -implicitDefEqProofs only [go_sem, Nat.reduceAdd, Nat.reduceSub, Nat.reduceLT, Nat.reduceLeDiff, Nat.reduceEqDiff, ↓reduceIte]) <;> omega) (by simp) (by simp) (by (simp (maxSteps := 4000000) -implicitDefEqProofs only [go_sem, Nat.reduceAdd, Nat.reduceSub, Nat.reduceLT, Nat.reduceLeDiff, Nat.reduceEqDiff, ↓reduceIte]) <;> trivial) (by (simp (maxSteps := 4000000) -implicitDefEqProofs only [go_sem, Nat.reduceAdd, Nat.reduceSub, Nat.reduceLT, Nat.reduceLeDiff, Nat.reduceEqDiff, ↓reduceIte]) <;> omega) (Nat.le_of_ble_eq_true rfl) (at0_pre rfl)))
    · exact .mk ((f, m / 128, q ++ [((m % 128 + 128 : Nat) : Int)], false) : Nat × Nat × List Int × Bool) ⟨by omega, by show m / 128 < 2 ^ 64; omega, hm7, by show (q ++ [((m % 128 + 128 : Nat) : Int)]).length + f ≤ 1000010; simp; omega, by rw [ec]; simp⟩ (by show f < f + 1; omega) (by rw [em]; exact (Wk.via [0, 2] (by (simp only [go_sem, ↓reduceIte]) <;> trivial) (by (simp (maxSteps := 4000000) -implicitDefEqProofs only [go_sem, Nat.reduceAdd, Nat.reduceSub, Nat.reduceLT, Nat.reduceLeDiff, Nat.reduceEqDiff, ↓reduceIte]) <;> omega) (by simp) (by simp) (by (simp (maxSteps := 4000000) -implicitDefEqProofs only [go_sem, Nat.reduceAdd, Nat.reduceSub, Nat.reduceLT, Nat.reduceLeDiff, Nat.reduceEqDiff, ↓reduceIte]) <;> trivial) (by (simp (maxSteps := 4000000) -implicitDefEqProofs only [go_sem, Nat.reduceAdd, Nat.reduceSub, Nat.reduceLT, Nat.reduceLeDiff, Nat.reduceEqDiff, ↓reduceIte]) <;> omega) (Nat.le_of_ble_eq_true rfl) (at0_pre rfl)))
  · have d1 : decide (127 < (m : Int)) = false := by simp; omega
    have ec : codeF f m = [((m % 256 : Nat) : Int)] := by
      cases f with
      | zero => rfl
      | succ f => rw [codeF, if_neg hm]
    have em : (q.map bY ++ [[.int .u8 ((m % 256 : Nat) : Int)]] : List (List D)) = (q ++ codeF f m).map bY := by rw [ec]; simp [bY]
    cases fst
    all_goals (simp (maxSteps := 4000000) -implicitDefEqProofs only [go_sem, d1, wm, Option.some.injEq, forall_eq', and_true, true_and, Bool.not_true, Bool.not_false, decide_true, Nat.reduceAdd, Nat.reduceSub, Nat.reduceLT, Nat.reduceLeDiff, Nat.reduceEqDiff, ↓reduceIte])
    all_goals refine ⟨⟨fun e he => by simp at he; subst he; rfl, by omega, by omega⟩, ?_⟩
    all_goals rw [em]
    · exact (Wk.via [0, 3] (by (simp only [go_sem, ↓reduceIte]) <;> trivial) (by (simp (maxSteps := 4000000) -implicitDefEqProofs only [go_sem, Nat.reduceAdd, Nat.reduceSub, Nat.reduceLT, Nat.reduceLeDiff, Nat.reduceEqDiff, ↓reduceIte]) <;> omega) (by simp) (by simp) (by (simp (maxSteps := 4000000) -implicitDefEqProofs only [go_sem, Nat.reduceAdd, Nat.reduceSub, Nat.reduceLT, Nat.reduceLeDiff, Nat.reduceEqDiff, ↓reduceIte]) <;> trivial) (by (simp (maxSteps := 4000000) -implicitDefEqProofs only [go_sem, Nat.reduceAdd, Nat.reduceSub, Nat.reduceLT, Nat.reduceLeDiff, Nat.reduceEqDiff, ↓reduceIte]) <;> omega) (Nat.le_of_ble_eq_true rfl) (at0_pre rfl))
    · exact (Wk.via [0, 2] (by (simp only [go_sem, ↓reduceIte]) <;> trivial) (by (simp (maxSteps := 4000000) -implicitDefEqProofs only [go_sem, Nat.reduceAdd, Nat.reduceSub, Nat.reduceLT, Nat.reduceLeDiff, Nat.reduceEqDiff, ↓reduceIte]) <;> omega) (by simp) (by simp) (by (simp (maxSteps := 4000000) -implicitDefEqProofs only [go_sem, Nat.reduceAdd, Nat.reduceSub, Nat.reduceLT, Nat.reduceLeDiff, Nat.reduceEqDiff, ↓reduceIte]) <;> trivial) (by (simp (maxSteps := 4000000) -implicitDefEqProofs only [go_sem, Nat.reduceAdd, Nat.reduceSub, Nat.reduceLT, Nat.reduceLeDiff, Nat.reduceEqDiff, ↓reduceIte]) <;> omega) (Nat.le_of_ble_eq_true rfl) (at0_pre rfl))
end Go.AX.Co
/- Values, written by the program. -/
set_option maxHeartbeats 8000000
set_option linter.unusedVariables false
set_option linter.unusedSimpArgs false
set_option maxRecDepth 20000
namespace Go.AX.Co
open Go.Proofs Go.RowKit Go.IntWalk
/-- the fold of a number -/
def foldN (n : Int) : Nat := if 0 ≤ n then (2 * n).toNat else (-2 * n - 1).toNat
theorem wrapU (x : Int) : IntKind.u64.wrap x = x % 18446744073709551616 := by
  simp only [IntKind.wrap]
  have hb : IntKind.u64.bits = 64 := rfl
  have hs : IntKind.u64.signed = false := rfl
  rw [hb, hs]
  simp
theorem foldN_lt {n : Int} (h1 : -9223372036854775808 ≤ n) (h2 : n ≤ 9223372036854775807) : foldN n < 2 ^ 64 := by
  unfold foldN
  split <;> omega
theorem xorI_fold {n : Int} (h1 : -9223372036854775808 ≤ n) (h2 : n ≤ 9223372036854775807) :
    xorI .u64 (IntKind.u64.wrap (IntKind.u64.wrap n * 2 ^ min (Int.toNat 1) 64)) (IntKind.u64.wrap (Int.fdiv n (2 ^ min (Int.toNat 63) 64))) = (foldN n : Int) := by
  rw [show ((2 : Int) ^ min (Int.toNat 1) 64) = 2 from rfl, show ((2 : Int) ^ min (Int.toNat 63) 64) = 9223372036854775808 from rfl, Int.fdiv_eq_ediv_of_nonneg _ (by omega), wrapU, wrapU, wrapU]
  unfold foldN
  by_cases h : 0 ≤ n
  · have e1 : n / 9223372036854775808 % 18446744073709551616 = 0 := by omega
    have e2 : n % 18446744073709551616 * 2 % 18446744073709551616 = ((2 * n).toNat : Int) := by omega
    rw [if_pos h, e1, e2]
    show IntKind.u64.wrap ((BitVec.ofInt 64 (((2 * n).toNat : Nat) : Int) ^^^ BitVec.ofInt 64 0).toNat : Int) = _
    rw [show BitVec.ofInt 64 0 = 0#64 from rfl, BitVec.xor_zero, bv64 (by omega)]
    exact wrap64 (by omega)
  · have e1 : n / 9223372036854775808 % 18446744073709551616 = 18446744073709551615 := by omega
    have e2 : n % 18446744073709551616 * 2 % 18446744073709551616 = (((2 * n + 18446744073709551616).toNat : Nat) : Int) := by omega
    rw [if_neg h, e1, e2]
    show IntKind.u64.wrap ((BitVec.ofInt 64 (((2 * n + 18446744073709551616).toNat : Nat) : Int) ^^^ BitVec.ofInt 64 18446744073709551615).toNat : Int) = _
    rw [show BitVec.ofInt 64 18446744073709551615 = BitVec.allOnes 64 from rfl, BitVec.xor_allOnes, BitVec.toNat_not, bv64 (by omega)]
    rw [wrap64 (by omega)]
    omega
mutual
/-- the bytes of a value, behind others; they stop when there are too many -/
def wrP : Vl → List Int → List Int
  | .mk k n b l, p =>
    if k = 1 then p ++ [k] ++ codeF 10 (foldN n) else if k = 2 then p ++ [k] ++ codeF 10 b.length ++ b else wrL l (p ++ [k] ++ codeF 10 l.length)
def wrL : List Vl → List Int → List Int
  | [], p => p
  | x :: r, p => if 3000 < p.length then p else wrL r (wrP x p)
end
theorem codeF_len : ∀ f n, (codeF f n).length ≤ f + 1
  | 0, n => by simp [codeF]
  | f + 1, n => by
    rw [codeF]
    split
    · have := codeF_len f (n / 128); simp; omega
    · simp
/-- a value that can be written -/
inductive FitW : Vl → Prop where
  | mk (k n : Int) (b : List Int) (l : List Vl) (hn : -9223372036854775808 ≤ n ∧ n ≤ 9223372036854775807) (hb : b.length ≤ 900000) (hl : l.length ≤ 900000) (h : ∀ x, x ∈ l → FitW x) : FitW (.mk k n b l)
theorem wrL_len : ∀ (l : List Vl) (p : List Int), (∀ x ∈ l, ∀ q : List Int, q.length ≤ 3000 → (wrP x q).length ≤ 904000) → p.length ≤ 904000 → (wrL l p).length ≤ 904000
  | [], p, _, hp => by rw [wrL]; exact hp
  | x :: r, p, h, hp => by
    rw [wrL]
    split
    · exact hp
    · exact wrL_len r _ (fun y hy => h y (List.mem_cons_of_mem _ hy)) (h x (by simp) p (by omega))
theorem wrP_len {v : Vl} (h : FitW v) : ∀ p : List Int, p.length ≤ 3000 → (wrP v p).length ≤ 904000 := by
  induction h with
  | mk k n b l hn hb hl hx ih =>
  intro p hp
  have c1 := codeF_len 10 (foldN n)
  have c2 := codeF_len 10 b.length
  have c3 := codeF_len 10 l.length
  rw [wrP]
  split
  · simp; omega
  split
  · simp; omega
  · exact wrL_len l _ ih (by simp; omega)
end Go.AX.Co
/- Values, written by the program: write. -/
set_option maxHeartbeats 8000000
set_option linter.unusedVariables false
set_option linter.unusedSimpArgs false
set_option maxRecDepth 20000
namespace Go.AX
theorem Spec.at1G {P : Program} {f : FuncId} {args args0 : List AV} {σ τ : List AObj} {r : AV} {o : AObj} (l : Nat) (h7 : Spec P f args0 [o] r τ) (h1 : args = rens (at0 [l]) args0) (hb : bds 1 args0) (hl : l < σ.length) (hO : ob σ l = renO (at0 [l]) o) (ho : bdO 1 o) :
    Spec P f args σ (ren (rn [l] σ.length) r) (back σ [l] τ) := by
  subst h1
  exact h7.frame [l] hb (by simp) (by simpa using hl) (by simp [obs, mapO, hO]) ⟨ho, trivial⟩
end Go.AX
namespace Go.AX.Co
open Go.Proofs Go.RowKit Go.IntWalk
theorem write_own {v : Vl} (h : FitW v) : ∀ p : List Int, p.length ≤ 3000 → Spec Try.prog 56 [.own 0, vA v] [.row 1 (p.map bY)] (.own 1) [.gone, .row 1 ((wrP v p).map bY)] := by
  induction h with
  | mk k n b l hn hb hl hx ih =>
  intro p hp
  have em : (p.map bY ++ [[.int .u8 k]] : List (List D)) = (p ++ [k]).map bY := by simp [bY]
  have hpl : (p ++ [k]).length ≤ 3001 := by simp; omega
  rw [wrP]
  generalize hP : p ++ [k] = P at em hpl ⊢
  refine spec_of_ev (fn := Try.f56) DX_ok 3000 Try.func56 rfl rfl (Nat.le_of_ble_eq_true rfl) ?_
  simp (maxSteps := 4000000) -implicitDefEqProofs only [Try.f56, go_sem, vA]
  refine ⟨by omega, ?_⟩
  by_cases k1 : k = 1
  · have z1 : (k == 1) = true := by simp [k1]
    have c1 := code_own P (foldN n) (by omega) (foldN_lt hn.1 hn.2)
    have f1 : xorI .u64 (IntKind.u64.wrap (IntKind.u64.wrap n * 2 ^ min 1 64)) (IntKind.u64.wrap (Int.fdiv n (2 ^ min (Int.toNat 63) 64))) = (foldN n : Int) := xorI_fold hn.1 hn.2
    rw [if_pos k1]
    simp (maxSteps := 4000000) -implicitDefEqProofs only [go_sem, z1, f1, Option.some.injEq, forall_eq', and_true, true_and, Bool.not_true, Bool.not_false, decide_true, Nat.reduceAdd, Nat.reduceSub, Nat.reduceLT, Nat.reduceLeDiff, Nat.reduceEqDiff, ↓reduceIte]
    refine ⟨⟨fun e he => by simp at he; subst he; rfl, by omega, by omega⟩, by omega, by omega, ?_⟩
    rw [em]
    refine .all _ _ (c1.at1G 3 (by simp only [go_sem]) (by simp only [go_sem]; omega) (by simp) (by simp only [go_sem]) (by simp only [go_sem])) ?_
    simp (maxSteps := 4000000) -implicitDefEqProofs only [go_sem, Nat.reduceAdd, Nat.reduceSub, Nat.reduceLT, Nat.reduceLeDiff, Nat.reduceEqDiff, ↓reduceIte]
    exact (Wk.via [0, 4] (by (simp only [go_sem, ↓reduceIte]) <;> trivial) (by (simp (maxSteps := 4000000) -implicitDefEqProofs only [go_sem, Nat.reduceAdd, Nat.reduceSub, Nat.reduceLT, Nat.reduceLeDiff, Nat.reduceEqDiff, ↓reduceIte]) <;> omega) (by simp) (by simp) (by (simp (maxSteps := 4000000) -implicitDefEqProofs only [go_sem, Nat.reduceAdd, Nat.reduceSub, Nat.reduceLT, Nat.reduceLeDiff, Nat.reduceEqDiff, ↓reduceIte]) <;> trivial) (by (simp (maxSteps := 4000000) -implicitDefEqProofs only [go_sem, Nat.reduceAdd, Nat.reduceSub, Nat.reduceLT, Nat.reduceLeDiff, Nat.reduceEqDiff, ↓reduceIte]) <;> omega) (Nat.le_of_ble_eq_true rfl) (at0_pre rfl))
  have z1 : (k == 1) = false := by simp [k1]
  rw [if_neg k1]
  by_cases k2 : k = 2
  · have z2 : (k == 2) = true := by simp [k2]
    have c1 := code_own P b.length (by omega) (by omega)
    have wl : IntKind.u64.wrap (b.length : Int) = (b.length : Int) := u64_in _ (by omega)
    rw [if_pos k2]
    simp (maxSteps := 4000000) -implicitDefEqProofs only [go_sem, z1, z2, Option.some.injEq, forall_eq', and_true, true_and, Bool.not_true, Bool.not_false, decide_true, Nat.reduceAdd, Nat.reduceSub, Nat.reduceLT, Nat.reduceLeDiff, Nat.reduceEqDiff, ↓reduceIte]
    refine ⟨⟨fun e he => by simp at he; subst he; rfl, by omega, by omega⟩, ?_⟩
    rw [em]
    refine DX.plain (.take 0 false (.take 1 false (.take 2 false (.take 3 false (.take 4 false (.take 6 true (.take 7 true (.run [5] (fun _ => [true, true]) fun _ => (.run [8] (fun _ => [false, false]) fun _ => (.take 9 false .done)))))))))) (by kernel_rfl) (by kernel_rfl) Ty.mixed ?_
    simp (maxSteps := 4000000) -implicitDefEqProofs only [go_sem, wl, Option.some.injEq, forall_eq', and_true, true_and, Bool.not_true, Bool.not_false, decide_true, Nat.reduceAdd, Nat.reduceSub, Nat.reduceLT, Nat.reduceLeDiff, Nat.reduceEqDiff, ↓reduceIte]
    have cl := codeF_len 10 b.length
    refine ⟨_, _, c1.at1G 3 (by simp only [go_sem]) (by simp only [go_sem]; omega) (by simp) (by simp only [go_sem]) (by simp only [go_sem]), ?_⟩
    simp (maxSteps := 4000000) -implicitDefEqProofs only [go_sem, Nat.reduceAdd, Nat.reduceSub, Nat.reduceLT, Nat.reduceLeDiff, Nat.reduceEqDiff, ↓reduceIte]
    refine ⟨⟨by simp; omega, by simp; omega⟩, ?_⟩
    exact (Wk.via [0, 5] (by (simp only [go_sem, ↓reduceIte]) <;> trivial) (by (simp (maxSteps := 4000000) -implicitDefEqProofs only [go_sem, Nat.reduceAdd, Nat.reduceSub, Nat.reduceLT, Nat.reduceLeDiff, Nat.reduceEqDiff, ↓reduceIte]) <;> omega) (by simp) (by simp) (by (simp (maxSteps := 4000000) -implicitDefEqProofs only [go_sem, Nat.reduceAdd, Nat.reduceSub, Nat.reduceLT, Nat.reduceLeDiff, Nat.reduceEqDiff, ↓reduceIte]) <;> trivial) (by (simp (maxSteps := 4000000) -implicitDefEqProofs only [go_sem, Nat.reduceAdd, Nat.reduceSub, Nat.reduceLT, Nat.reduceLeDiff, Nat.reduceEqDiff, ↓reduceIte]) <;> omega) (Nat.le_of_ble_eq_true rfl) (at0_pre rfl))
  have z2 : (k == 2) = false := by simp [k2]
  rw [if_neg k2]
  have c1 := code_own P l.length (by omega) (by omega)
  have wl : IntKind.u64.wrap (l.length : Int) = (l.length : Int) := u64_in _ (by omega)
  simp (maxSteps := 4000000) -implicitDefEqProofs only [go_sem, z1, z2, wl, Option.some.injEq, forall_eq', and_true, true_and, Bool.not_true, Bool.not_false, decide_true, Nat.reduceAdd, Nat.reduceSub, Nat.reduceLT, Nat.reduceLeDiff, Nat.reduceEqDiff, ↓reduceIte]
  refine ⟨⟨fun e he => by simp at he; subst he; rfl, by omega, by omega⟩, ?_⟩
  rw [em]
  refine .all _ _ (c1.at1G 3 (by simp only [go_sem]) (by simp only [go_sem]; omega) (by simp) (by simp only [go_sem]) (by simp only [go_sem])) ?_
  simp (maxSteps := 4000000) -implicitDefEqProofs only [go_sem, Nat.reduceAdd, Nat.reduceSub, Nat.reduceLT, Nat.reduceLeDiff, Nat.reduceEqDiff, ↓reduceIte]
  have cl := codeF_len 10 l.length
  have hwl := wrL_len
  generalize hQ : P ++ codeF 10 l.length = Q
  have hQl : Q.length ≤ 904000 := by rw [← hQ]; simp; omega
  refine eloop (S := Nat × List Int) (fun s => mkE 59 [(0, .own 2), (3, .ptr 1 0), (45, .d (.sl (l.map vD))), (46, .d (.int .i64 l.length)), (47, .d (.int .i64 s.1))]) (fun s => [.gone, .cells [.d (.int .u8 k), .d (.int .i64 n), .d (.sl (b.map bY)), .d (.sl (l.map vD))], .row 1 (s.2.map bY)])
    (fun s => s.1 ≤ l.length ∧ s.2.length ≤ 904000 ∧ wrL l Q = wrL (l.drop s.1) s.2) (fun s => l.length - s.1) ((0, Q) : Nat × List Int) ⟨Nat.zero_le _, hQl, rfl⟩ (Wk.via [0, 1, 4] (by (simp only [go_sem, ↓reduceIte]) <;> trivial) (by (simp (maxSteps := 4000000) -implicitDefEqProofs only [go_sem, Nat.reduceAdd, Nat.reduceSub, Nat.reduceLT, Nat.reduceLeDiff, Nat.reduceEqDiff, ↓reduceIte]) <;> omega) (by simp) (by simp) (by (simp (maxSteps := 4000000) -implicitDefEqProofs only [go_sem, Nat.reduceAdd, Nat.reduceSub, Nat.reduceLT, Nat.reduceLeDiff, Nat.reduceEqDiff, ↓reduceIte]) <;> trivial) (by (simp (maxSteps := 4000000) -implicitDefEqProofs only [go_sem, Nat.reduceAdd, Nat.reduceSub, Nat.reduceLT, Nat.reduceLeDiff, Nat.reduceEqDiff, ↓reduceIte]) <;> omega) (Nat.le_of_ble_eq_true rfl) (at0_pre rfl)) ?_
  intro s hs
  obtain ⟨i, q⟩ := s
  simp only at hs ⊢
  have h1 := hs.1
  have h2 := hs.2.1
  have h3 := hs.2.2
  rw [h3]
  rcases Nat.lt_or_ge i l.length with hi | hi
  case inr =>
    have f1 : decide ((i : Int) < l.length) = false := by simp; omega
    rw [List.drop_eq_nil_of_le hi, wrL]
    simp (maxSteps := 4000000) -implicitDefEqProofs only [go_sem, f1, Option.some.injEq, forall_eq', and_true, true_and, Bool.not_true, Bool.not_false, decide_true, Nat.reduceAdd, Nat.reduceSub, Nat.reduceLT, Nat.reduceLeDiff, Nat.reduceEqDiff, ↓reduceIte]
    exact (Wk.via [0, 2] (by (simp only [go_sem, ↓reduceIte]) <;> trivial) (by (simp (maxSteps := 4000000) -implicitDefEqProofs only [go_sem, Nat.reduceAdd, Nat.reduceSub, Nat.reduceLT, Nat.reduceLeDiff, Nat.reduceEqDiff, ↓reduceIte]) <;> omega) (by simp) (by simp) (by (simp (maxSteps := 4000000) -implicitDefEqProofs only [go_sem, Nat.reduceAdd, Nat.reduceSub, Nat.reduceLT, Nat.reduceLeDiff, Nat.reduceEqDiff, ↓reduceIte]) <;> trivial) (by (simp (maxSteps := 4000000) -implicitDefEqProofs only [go_sem, Nat.reduceAdd, Nat.reduceSub, Nat.reduceLT, Nat.reduceLeDiff, Nat.reduceEqDiff, ↓reduceIte]) <;> omega) (Nat.le_of_ble_eq_true rfl) (at0_pre rfl))
  have f1 : decide ((i : Int) < l.length) = true := by simp; omega
  obtain ⟨x, hxi⟩ : ∃ x, l[i]? = some x := ⟨l[i]'hi, List.getElem?_eq_getElem _⟩
  have hdr : l.drop i = x :: l.drop (i + 1) := by rw [List.drop_eq_getElem_cons hi, (List.getElem?_eq_some_iff.1 hxi).2]
  have n1 : (0 ≤ (i : Int) ∧ (i : Int) < l.length) = True := eq_true (by omega)
  have n2 : (i < l.length) = True := eq_true hi
  have w1 : IntKind.i64.wrap ((i : Int) + 1) = ((i + 1 : Nat) : Int) := by rw [i64_in _ (by omega)]; simp
  have hxm := List.mem_of_getElem? hxi
  by_cases h5 : 3000 < q.length
  · have f2 : decide (3000 < (q.length : Int)) = true := by simp; omega
    rw [hdr, wrL, if_pos h5]
    obtain ⟨xk, xn, xb, xl⟩ := x
    simp (maxSteps := 4000000) -implicitDefEqProofs only [go_sem, f1, n1, n2, hxi, vD, vDs_eq, f2, Option.some.injEq, forall_eq', and_true, true_and, Bool.not_true, Bool.not_false, decide_true, Nat.reduceAdd, Nat.reduceSub, Nat.reduceLT, Nat.reduceLeDiff, Nat.reduceEqDiff, ↓reduceIte]
    exact (Wk.via [0, 2] (by (simp only [go_sem, ↓reduceIte]) <;> trivial) (by (simp (maxSteps := 4000000) -implicitDefEqProofs only [go_sem, Nat.reduceAdd, Nat.reduceSub, Nat.reduceLT, Nat.reduceLeDiff, Nat.reduceEqDiff, ↓reduceIte]) <;> omega) (by simp) (by simp) (by (simp (maxSteps := 4000000) -implicitDefEqProofs only [go_sem, Nat.reduceAdd, Nat.reduceSub, Nat.reduceLT, Nat.reduceLeDiff, Nat.reduceEqDiff, ↓reduceIte]) <;> trivial) (by (simp (maxSteps := 4000000) -implicitDefEqProofs only [go_sem, Nat.reduceAdd, Nat.reduceSub, Nat.reduceLT, Nat.reduceLeDiff, Nat.reduceEqDiff, ↓reduceIte]) <;> omega) (Nat.le_of_ble_eq_true rfl) (at0_pre rfl))
  have f2 : decide (3000 < (q.length : Int)) = false := by simp; omega
  have c2 := ih x hxm q (by omega)
  have hln := wrP_len (hx x hxm) q (by omega)
  have e3 : wrL (l.drop i) q = wrL (l.drop (i + 1)) (wrP x q) := by rw [hdr, wrL, if_neg h5]
  rw [e3]
  generalize wrP x q = q2 at c2 hln e3 ⊢
  obtain ⟨xk, xn, xb, xl⟩ := x
  simp only [vA] at c2
  simp (maxSteps := 4000000) -implicitDefEqProofs only [go_sem, f1, n1, n2, hxi, vD, vDs_eq, f2, Option.some.injEq, forall_eq', and_true, true_and, Bool.not_true, Bool.not_false, decide_true, Nat.reduceAdd, Nat.reduceSub, Nat.reduceLT, Nat.reduceLeDiff, Nat.reduceEqDiff, ↓reduceIte]
  refine .all _ _ (c2.at1G 2 (by simp only [go_sem]) (by simp only [go_sem]; omega) (by simp) (by simp only [go_sem]) (by simp only [go_sem])) ?_
  simp (maxSteps := 4000000) -implicitDefEqProofs only [go_sem, w1, Option.some.injEq, forall_eq', and_true, true_and, Bool.not_true, Bool.not_false, decide_true, Nat.reduceAdd, Nat.reduceSub, Nat.reduceLT, Nat.reduceLeDiff, Nat.reduceEqDiff, ↓reduceIte]
  exact .mk ((i + 1, q2) : Nat × List Int) ⟨by show i + 1 ≤ l.length; omega, hln, rfl⟩ (by show l.length - (i + 1) < l.length - i; omega) (Wk.via [0, 1, 4] (by (simp only [go_sem, ↓reduceIte]) <;> trivial) (by (simp (maxSteps := 4000000) -implicitDefEqProofs only [go_sem, Nat.reduceAdd, Nat.reduceSub, Nat.reduceLT, Nat.reduceLeDiff, Nat.reduceEqDiff, ↓reduceIte]) <;> omega) (by simp) (by simp) (by (simp (maxSteps := 4000000) -implicitDefEqProofs only [go_sem, Nat.reduceAdd, Nat.reduceSub, Nat.reduceLT, Nat.reduceLeDiff, Nat.reduceEqDiff, ↓reduceIte]) <;> trivial) (by (simp (maxSteps := 4000000) -implicitDefEqProofs only [go_sem, Nat.reduceAdd, Nat.reduceSub, Nat.reduceLT, Nat.reduceLeDiff, Nat.reduceEqDiff, ↓reduceIte]) <;> omega) (Nat.le_of_ble_eq_true rfl) (at0_pre rfl))
end Go.AX.Co
/- Values: whether they have the kinds that there are, by the program; Encode. -/
set_option maxHeartbeats 8000000
set_option linter.unusedVariables false
set_option linter.unusedSimpArgs false
set_option maxRecDepth 20000
namespace Go.AX.Co
open Go.Proofs Go.RowKit Go.IntWalk
theorem vl_indexFunc (l : List Vl) (p : Vl → Bool) (f : FuncId) (caps : List AV) (τ : List AObj) (hl : l.length ≤ 1000000) (h : ∀ x ∈ l, Spec Try.prog f (vA x :: caps) τ (.d (.bool (p x))) τ) :
    Spec Try.prog 71 [.d (.sl (l.map vD)), .fn f caps] τ (.d (.int .i64 (idx p l))) τ := by
  refine spec_of_ev (fn := Try.f71) DX_ok 3000 Try.func71 rfl rfl (Nat.le_of_ble_eq_true rfl) ?_
  simp (maxSteps := 4000000) -implicitDefEqProofs only [Try.f71, go_sem]
  refine eloop (S := Nat) (fun i => mkE 19 [(0, .d (.sl (l.map vD))), (1, .fn f caps), (6, .d (.sl (l.map vD))), (7, .d (.int .i64 l.length)), (8, .d (.int .i64 i))]) (fun i => τ) (fun i => i ≤ l.length ∧ ∀ j x, l[j]? = some x → j < i → p x = false) (fun i => l.length - i) 0 ⟨by omega, by omega⟩ (Wk.sub (by (simp only [go_sem]) <;> trivial)) ?_
  rintro i ⟨hi, hj⟩
  rcases Nat.lt_or_ge i l.length with h1 | h1
  case inr =>
    have f1 : decide ((i : Int) < l.length) = false := by simp; omega
    simp (maxSteps := 4000000) -implicitDefEqProofs only [go_sem, f1, Option.some.injEq, forall_eq', and_true, true_and, Bool.not_true, Bool.not_false, decide_true, Nat.reduceAdd, Nat.reduceSub, Nat.reduceLT, Nat.reduceLeDiff, Nat.reduceEqDiff, ↓reduceIte]
    rw [idx_none fun j y hy => hj j y hy (by have := some_lt hy; omega)]
    exact Wk.refl _ _ _
  have f1 : decide ((i : Int) < l.length) = true := by simp; omega
  obtain ⟨x, hx⟩ : ∃ x, l[i]? = some x := ⟨l[i]'h1, List.getElem?_eq_getElem _⟩
  have c := h x (List.mem_of_getElem? hx)
  have n1 : (0 ≤ (i : Int) ∧ (i : Int) < l.length) = True := eq_true (by omega)
  have n2 : (i < l.length) = True := eq_true h1
  have w1 : IntKind.i64.wrap ((i : Int) + 1) = ((i + 1 : Nat) : Int) := by rw [i64_in _ (by omega)]; simp
  have hnext : p x = false → ∀ j y, l[j]? = some y → j < i + 1 → p y = false := fun h2 j y hy hlt => by
    rcases Nat.lt_or_ge j i with q | q
    · exact hj j y hy q
    · have : j = i := by omega
      subst this; rw [hx] at hy; cases hy; exact h2
  have hfound : p x = true → idx p l = i := fun h2 => idx_found hx h2 hj
  generalize hB : p x = B at c hnext hfound
  obtain ⟨xk, xn, xb, xl⟩ := x
  simp only [vA] at c
  simp (maxSteps := 4000000) -implicitDefEqProofs only [go_sem, f1, n1, n2, hx, vD, vDs_eq, Option.some.injEq, forall_eq', and_true, true_and, Bool.not_true, Bool.not_false, decide_true, Nat.reduceAdd, Nat.reduceSub, Nat.reduceLT, Nat.reduceLeDiff, Nat.reduceEqDiff, ↓reduceIte]
  refine .all _ _ c ?_
  cases B with
  | true =>
    simp (maxSteps := 4000000) -implicitDefEqProofs only [go_sem, Nat.reduceAdd, Nat.reduceSub, Nat.reduceLT, Nat.reduceLeDiff, Nat.reduceEqDiff, ↓reduceIte]
    rw [hfound rfl]
    exact Wk.refl _ _ _
  | false =>
    simp (maxSteps := 4000000) -implicitDefEqProofs only [go_sem, w1, Option.some.injEq, forall_eq', and_true, true_and, Bool.not_true, Bool.not_false, decide_true, Nat.reduceAdd, Nat.reduceSub, Nat.reduceLT, Nat.reduceLeDiff, Nat.reduceEqDiff, ↓reduceIte]
    exact .mk (i + 1) ⟨by omega, hnext rfl⟩ (by omega) (Wk.sub (by (simp only [go_sem]) <;> trivial))
theorem vl_containsFunc (l : List Vl) (p : Vl → Bool) (f : FuncId) (caps : List AV) (τ : List AObj) (hl : l.length ≤ 1000000) (h : ∀ x ∈ l, Spec Try.prog f (vA x :: caps) τ (.d (.bool (p x))) τ) :
    Spec Try.prog 64 [.d (.sl (l.map vD)), .fn f caps] τ (.d (.bool (l.any p))) τ := by
  refine spec_of_ev (fn := Try.f64) DX_ok 3000 Try.func64 rfl rfl (Nat.le_of_ble_eq_true rfl) ?_
  simp (maxSteps := 4000000) -implicitDefEqProofs only [Try.f64, go_sem]
  refine .all _ _ (vl_indexFunc l p f caps τ hl h) ?_
  simp (maxSteps := 4000000) -implicitDefEqProofs only [go_sem, Nat.reduceAdd, Nat.reduceSub, Nat.reduceLT, Nat.reduceLeDiff, Nat.reduceEqDiff, ↓reduceIte]
  rw [idx_any]
  exact Wk.refl _ _ _
end Go.AX.Co
/- Values: right, by the program. -/
set_option maxHeartbeats 8000000
set_option linter.unusedVariables false
set_option linter.unusedSimpArgs false
set_option maxRecDepth 20000
namespace Go.AX.Co
open Go.Proofs Go.RowKit Go.IntWalk
/-- the kinds that there are, and what belongs to them -/
def rightP : Nat → Vl → Bool
  | 0, _ => false
  | d + 1, .mk k n b l =>
    if k = 1 then decide (b.length + l.length = 0) else if k = 2 then (n == 0) && decide (l.length = 0)
    else if k = 3 then (n == 0) && decide (b.length = 0) && !(l.any fun x => !rightP d x) else false
theorem wrong_own (d : Nat) (hd : d ≤ 6) (x : Vl) (y : List AV) (hy : bds 2 y) (h : Spec Try.prog 55 [vA x, .d (.int .i64 d)] [] (.d (.bool (rightP d x))) []) :
    Spec Try.prog 63 (vA x :: [.ptr 1 0]) [.cells y, .cells [.d (.int .i64 ((d + 1 : Nat) : Int))]] (.d (.bool (!rightP d x))) [.cells y, .cells [.d (.int .i64 ((d + 1 : Nat) : Int))]] := by
  have wd : IntKind.i64.wrap (((d + 1 : Nat) : Int) - 1) = (d : Int) := by rw [i64_in _ (by omega)]; omega
  generalize rightP d x = B at h ⊢
  obtain ⟨xk, xn, xb, xl⟩ := x
  simp only [vA] at h
  refine spec_of_ev (fn := Try.f63) DX_ok 3000 Try.func63 rfl rfl (Nat.le_of_ble_eq_true rfl) ?_
  simp (maxSteps := 4000000) -implicitDefEqProofs only [Try.f63, go_sem, vA]
  simp (maxSteps := 4000000) -implicitDefEqProofs only [go_sem, wd, Option.some.injEq, forall_eq', and_true, true_and, Bool.not_true, Bool.not_false, decide_true, Nat.reduceAdd, Nat.reduceSub, Nat.reduceLT, Nat.reduceLeDiff, Nat.reduceEqDiff, ↓reduceIte]
  refine ecall0 _ h (by simp only [go_sem]) (by simp only [go_sem]) ?_
  simp (maxSteps := 4000000) -implicitDefEqProofs only [go_sem, Nat.reduceAdd, Nat.reduceSub, Nat.reduceLT, Nat.reduceLeDiff, Nat.reduceEqDiff, ↓reduceIte]
  exact Wk.keep (σ := [_, _]) (τ := [_]) (by simp only [go_sem]) ⟨hy, by simp only [go_sem]⟩
theorem right_own : ∀ (d : Nat), d ≤ 6 → ∀ v : Vl, FitW v → Spec Try.prog 55 [vA v, .d (.int .i64 d)] [] (.d (.bool (rightP d v))) [] := by
  intro d
  induction d with
  | zero =>
    intro hd v hv
    rw [show rightP 0 v = false by cases v; rfl]
    obtain ⟨k, n, b, l⟩ := v
    have dz : decide (0 < ((0 : Nat) : Int)) = false := rfl
    refine spec_of_ev (fn := Try.f55) DX_ok 3000 Try.func55 rfl rfl (Nat.le_of_ble_eq_true rfl) ?_
    simp (maxSteps := 4000000) -implicitDefEqProofs only [Try.f55, go_sem, vA]
    by_cases k1 : k = 1
    · have z1 : (k == 1) = true := by simp [k1]
      simp (maxSteps := 4000000) -implicitDefEqProofs only [go_sem, z1, dz, Option.some.injEq, forall_eq', and_true, true_and, Bool.not_true, Bool.not_false, decide_true, Nat.reduceAdd, Nat.reduceSub, Nat.reduceLT, Nat.reduceLeDiff, Nat.reduceEqDiff, ↓reduceIte]
      exact wk_bool rfl
    have z1 : (k == 1) = false := by simp [k1]
    by_cases k2 : k = 2
    · have z2 : (k == 2) = true := by simp [k2]
      simp (maxSteps := 4000000) -implicitDefEqProofs only [go_sem, z1, z2, dz, Option.some.injEq, forall_eq', and_true, true_and, Bool.not_true, Bool.not_false, decide_true, Nat.reduceAdd, Nat.reduceSub, Nat.reduceLT, Nat.reduceLeDiff, Nat.reduceEqDiff, ↓reduceIte]
      exact wk_bool rfl
    have z2 : (k == 2) = false := by simp [k2]
    by_cases k3 : k = 3
    · have z3 : (k == 3) = true := by simp [k3]
      simp (maxSteps := 4000000) -implicitDefEqProofs only [go_sem, z1, z2, z3, dz, Option.some.injEq, forall_eq', and_true, true_and, Bool.not_true, Bool.not_false, decide_true, Nat.reduceAdd, Nat.reduceSub, Nat.reduceLT, Nat.reduceLeDiff, Nat.reduceEqDiff, ↓reduceIte]
      exact wk_bool rfl
    have z3 : (k == 3) = false := by simp [k3]
    simp (maxSteps := 4000000) -implicitDefEqProofs only [go_sem, z1, z2, z3, Option.some.injEq, forall_eq', and_true, true_and, Bool.not_true, Bool.not_false, decide_true, Nat.reduceAdd, Nat.reduceSub, Nat.reduceLT, Nat.reduceLeDiff, Nat.reduceEqDiff, ↓reduceIte]
    exact wk_bool rfl
  | succ d ih =>
    intro hd v hv
    obtain ⟨k, n, b, l, hn, hb, hl, hx⟩ := hv
    have dz : decide (0 < ((d + 1 : Nat) : Int)) = true := decide_eq_true (by omega)
    have b1 : (!true) = false := rfl
    have b2 : (!false) = true := rfl
    rw [rightP]
    refine spec_of_ev (fn := Try.f55) DX_ok 3000 Try.func55 rfl rfl (Nat.le_of_ble_eq_true rfl) ?_
    simp (maxSteps := 4000000) -implicitDefEqProofs only [Try.f55, go_sem, vA]
    by_cases k1 : k = 1
    · have z1 : (k == 1) = true := by simp [k1]
      have e1 : (IntKind.i64.wrap ((b.length : Int) + l.length) == 0) = decide (b.length + l.length = 0) := by
        rw [i64_in ((b.length : Int) + l.length) (by omega)]
        by_cases hz : b.length + l.length = 0
        · rw [decide_eq_true hz, beq_iff_eq]; omega
        · rw [decide_eq_false hz, beq_eq_false_iff_ne]; omega
      rw [if_pos k1]
      simp (maxSteps := 4000000) -implicitDefEqProofs only [go_sem, z1, dz, e1, Option.some.injEq, forall_eq', and_true, true_and, Bool.not_true, Bool.not_false, decide_true, Nat.reduceAdd, Nat.reduceSub, Nat.reduceLT, Nat.reduceLeDiff, Nat.reduceEqDiff, ↓reduceIte]
      exact wk_bool rfl
    have z1 : (k == 1) = false := by simp [k1]
    rw [if_neg k1]
    have el : ((l.length : Int) == 0) = decide (l.length = 0) := by rw [Bool.eq_iff_iff]; simp
    have eb : ((b.length : Int) == 0) = decide (b.length = 0) := by rw [Bool.eq_iff_iff]; simp
    by_cases k2 : k = 2
    · have z2 : (k == 2) = true := by simp [k2]
      rw [if_pos k2]
      generalize decide (l.length = 0) = L at el ⊢
      rcases bz (n == 0) with q | q
      all_goals rw [q]
      all_goals (simp (maxSteps := 4000000) -implicitDefEqProofs only [go_sem, z1, z2, dz, q, el, Bool.false_and, Bool.true_and, Option.some.injEq, forall_eq', and_true, true_and, Bool.not_true, Bool.not_false, decide_true, Nat.reduceAdd, Nat.reduceSub, Nat.reduceLT, Nat.reduceLeDiff, Nat.reduceEqDiff, ↓reduceIte])
      all_goals exact wk_bool rfl
    have z2 : (k == 2) = false := by simp [k2]
    rw [if_neg k2]
    by_cases k3 : k = 3
    case neg =>
      have z3 : (k == 3) = false := by simp [k3]
      rw [if_neg k3]
      simp (maxSteps := 4000000) -implicitDefEqProofs only [go_sem, z1, z2, z3, Option.some.injEq, forall_eq', and_true, true_and, Bool.not_true, Bool.not_false, decide_true, Nat.reduceAdd, Nat.reduceSub, Nat.reduceLT, Nat.reduceLeDiff, Nat.reduceEqDiff, ↓reduceIte]
      exact wk_bool rfl
    have z3 : (k == 3) = true := by simp [k3]
    rw [if_pos k3]
    have c1 := vl_containsFunc l (fun x => !rightP d x) 63 [.ptr 1 0] [.cells [.d (.int .u8 k), .d (.int .i64 n), .d (.sl (b.map bY)), .d (.sl (l.map vD))], .cells [.d (.int .i64 ((d + 1 : Nat) : Int))]] (by omega) (fun x hm => wrong_own d (by omega) x _ (by simp only [go_sem]) (ih (by omega) x (hx x hm)))
    generalize (l.any fun x => !rightP d x) = R at c1 ⊢
    generalize decide (b.length = 0) = L at eb ⊢
    rcases bz (n == 0) with q | q
    case inr =>
      rw [q]
      simp (maxSteps := 4000000) -implicitDefEqProofs only [go_sem, z1, z2, z3, dz, q, Bool.false_and, Option.some.injEq, forall_eq', and_true, true_and, Bool.not_true, Bool.not_false, decide_true, Nat.reduceAdd, Nat.reduceSub, Nat.reduceLT, Nat.reduceLeDiff, Nat.reduceEqDiff, ↓reduceIte]
      exact wk_bool rfl
    cases L with
    | false =>
      rw [q]
      simp (maxSteps := 4000000) -implicitDefEqProofs only [go_sem, z1, z2, z3, dz, q, eb, Bool.false_and, Bool.true_and, Option.some.injEq, forall_eq', and_true, true_and, Bool.not_true, Bool.not_false, decide_true, Nat.reduceAdd, Nat.reduceSub, Nat.reduceLT, Nat.reduceLeDiff, Nat.reduceEqDiff, ↓reduceIte]
      exact wk_bool rfl
    | true =>
      rw [q]
      simp (maxSteps := 4000000) -implicitDefEqProofs only [go_sem, z1, z2, z3, dz, q, eb, Bool.false_and, Bool.true_and, Option.some.injEq, forall_eq', and_true, true_and, Bool.not_true, Bool.not_false, decide_true, Nat.reduceAdd, Nat.reduceSub, Nat.reduceLT, Nat.reduceLeDiff, Nat.reduceEqDiff, ↓reduceIte]
      refine .all _ _ c1 ?_
      simp (maxSteps := 4000000) -implicitDefEqProofs only [go_sem, Nat.reduceAdd, Nat.reduceSub, Nat.reduceLT, Nat.reduceLeDiff, Nat.reduceEqDiff, ↓reduceIte]
      exact wk_bool rfl
end Go.AX.Co
/- Values: Encode, Size, Check, by the program. -/
set_option maxHeartbeats 8000000
set_option linter.unusedVariables false
set_option linter.unusedSimpArgs false
set_option maxRecDepth 20000
namespace Go.AX
theorem ECall.nil0 {Γ : Ctx} {E : List AV → List AObj → Prop} {dst : Option Tmp} {f : FuncId} {env args : List AV} {σ : List AObj} (sz : Nat) (h : ECall Γ E dst f env (.own σ.length :: args) (σ ++ [.row sz []])) : ECall Γ E dst f env (.nil :: args) σ :=
  ECall.wk (args' := AV.own σ.length :: args) (env' := env) (σ' := σ ++ [AObj.row sz []]) rfl (show Wk Γ.n0 (AV.nil :: (args ++ env)) σ (AV.own σ.length :: (args ++ env)) (σ ++ [AObj.row sz []]) from Wk.nil 0 sz rfl) h
end Go.AX
namespace Go.AX.Co
open Go.Proofs Go.RowKit Go.IntWalk
def encP (v : Vl) : List Int × Int := if rightP 6 v = false then ([], 8) else if 3000 < (wrP v []).length then ([], 4) else (wrP v [], 0)
theorem encode_own (v : Vl) (hv : FitW v) : Spec Try.prog 37 [vA v] [] (.tup [.d (.sl ((encP v).1.map bY)), .d (.int .i64 (encP v).2)]) [] := by
  have c1 := right_own 6 (by omega) v hv
  have c2 := write_own hv [] (by simp)
  have hl := wrP_len hv [] (by simp)
  rw [List.map_nil] at c2
  generalize hR : encP v = R
  unfold encP at hR
  generalize wrP v [] = W at c2 hl hR
  generalize rightP 6 v = B at c1 hR
  obtain ⟨k, n, b, l⟩ := v
  simp only [vA] at c1 c2
  rw [show ((6 : Nat) : Int) = 6 from rfl] at c1
  have b1 : (!true) = false := rfl
  have b2 : (!false) = true := rfl
  refine spec_of_ev (fn := Try.f37) DX_ok 3000 Try.func37 rfl rfl (Nat.le_of_ble_eq_true rfl) ?_
  simp (maxSteps := 4000000) -implicitDefEqProofs only [Try.f37, go_sem, vA]
  refine ecall0 _ c1 (by simp only [go_sem]) (by simp only [go_sem]) ?_
  cases B with
  | false =>
    rw [if_pos rfl] at hR
    subst hR
    simp (maxSteps := 4000000) -implicitDefEqProofs only [go_sem, b2, Option.some.injEq, forall_eq', and_true, true_and, Bool.not_true, Bool.not_false, decide_true, Nat.reduceAdd, Nat.reduceSub, Nat.reduceLT, Nat.reduceLeDiff, Nat.reduceEqDiff, ↓reduceIte]
    exact wk_dat (r' := .tup [.d (.sl []), .d (.int .i64 8)]) (by simp only [go_sem]; rfl) (by rfl) (by simp only [go_sem])
  | true =>
  rw [if_neg (by simp)] at hR
  simp (maxSteps := 4000000) -implicitDefEqProofs only [go_sem, b1, Option.some.injEq, forall_eq', and_true, true_and, Bool.not_true, Bool.not_false, decide_true, Nat.reduceAdd, Nat.reduceSub, Nat.reduceLT, Nat.reduceLeDiff, Nat.reduceEqDiff, ↓reduceIte]
  refine ECall.nil0 1 ?_
  simp only [go_sem]
  refine .all _ _ (c2.at1G 1 (by simp only [go_sem]) (by simp only [go_sem]; omega) (by simp) (by simp only [go_sem]) (by simp only [go_sem])) ?_
  by_cases h : 3000 < W.length
  · have f2 : decide (3000 < (W.length : Int)) = true := by simp; omega
    rw [if_pos h] at hR
    subst hR
    simp (maxSteps := 4000000) -implicitDefEqProofs only [go_sem, f2, Option.some.injEq, forall_eq', and_true, true_and, Bool.not_true, Bool.not_false, decide_true, Nat.reduceAdd, Nat.reduceSub, Nat.reduceLT, Nat.reduceLeDiff, Nat.reduceEqDiff, ↓reduceIte]
    exact wk_dat (r' := .tup [.d (.sl []), .d (.int .i64 4)]) (by simp only [go_sem]; rfl) (by rfl) (by simp only [go_sem])
  · have f2 : decide (3000 < (W.length : Int)) = false := by simp; omega
    rw [if_neg h] at hR
    subst hR
    simp (maxSteps := 4000000) -implicitDefEqProofs only [go_sem, f2, Option.some.injEq, forall_eq', and_true, true_and, Bool.not_true, Bool.not_false, decide_true, Nat.reduceAdd, Nat.reduceSub, Nat.reduceLT, Nat.reduceLeDiff, Nat.reduceEqDiff, ↓reduceIte]
    exact wk_dat (r' := .tup [.d (.sl (W.map bY)), .d (.int .i64 0)]) (by simp only [go_sem]; rfl) (by rfl) (by simp only [go_sem])
end Go.AX.Co

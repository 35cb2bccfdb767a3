/- bytes.Compare, called with bytes. -/
import Derived.Test.YtmffhidhmbncbaaK8
import Derived.Laws.Externs
import Derived.Lib.Bytealg
set_option maxHeartbeats 8000000
set_option linter.unusedVariables false
set_option linter.unusedSimpArgs false
set_option maxRecDepth 20000
namespace Go.AX.Co
open Go.Proofs Go.RowKit Go.IntWalk
/-- the order of two rows of bytes -/
def cmpB : List Int → List Int → Int
  | [], [] => 0
  | [], _ :: _ => -1
  | _ :: _, [] => 1
  | x :: a, y :: b => if x < y then -1 else if y < x then 1 else cmpB a b
def u8s (l : List Int) : List UInt8 := l.map fun x => x.toNat.toUInt8
end Go.AX.Co
/- The reference's writer: Fold, Code. -/
set_option maxHeartbeats 8000000
set_option linter.unusedVariables false
set_option linter.unusedSimpArgs false
set_option maxRecDepth 20000
namespace Go.AX.Co
open Go.Proofs Go.RowKit Go.IntWalk
theorem fold_ref (n : Int) (h1 : -9223372036854775808 ≤ n) (h2 : n ≤ 9223372036854775807) : Spec Try.prog 68 [.d (.int .i64 n)] [] (.d (.int .u64 (foldN n))) [] := by
  have hlt := foldN_lt h1 h2
  by_cases h : 0 ≤ n
  · have d1 : decide (0 ≤ n) = true := decide_eq_true h
    have w1 : IntKind.u64.wrap n = n := u64_in _ (by omega)
    have w2 : IntKind.u64.wrap (2 * n) = (foldN n : Int) := by
      have e : (foldN n : Int) = 2 * n := by unfold foldN; rw [if_pos h]; omega
      rw [← e]; exact wrap64 hlt
    refine spec_of_ev (fn := Try.f68) DX_ok 3000 Try.func68 rfl rfl (Nat.le_of_ble_eq_true rfl) ?_
    simp (maxSteps := 4000000) -implicitDefEqProofs only [Try.f68, go_sem, d1, w1, w2]
    exact (Wk.forget (by (simp only [go_sem]) <;> trivial) (by simp only [go_sem]))
  · have d1 : decide (0 ≤ n) = false := decide_eq_false h
    have w0 : IntKind.i64.wrap (n + 1) = n + 1 := i64_in _ (by omega)
    have w1 : IntKind.i64.wrap (0 - (n + 1)) = -n - 1 := by rw [i64_in _ (by omega)]; omega
    have w2 : IntKind.u64.wrap (-n - 1) = -n - 1 := u64_in _ (by omega)
    have w3 : IntKind.u64.wrap (2 * (-n - 1)) = 2 * (-n - 1) := u64_in _ (by omega)
    have w4 : IntKind.u64.wrap (2 * (-n - 1) + 1) = (foldN n : Int) := by
      have e : (foldN n : Int) = 2 * (-n - 1) + 1 := by unfold foldN; rw [if_neg h]; omega
      rw [← e]; exact wrap64 hlt
    refine spec_of_ev (fn := Try.f68) DX_ok 3000 Try.func68 rfl rfl (Nat.le_of_ble_eq_true rfl) ?_
    simp (maxSteps := 4000000) -implicitDefEqProofs only [Try.f68, go_sem, d1, w0, w1, w2, w3, w4]
    exact (Wk.forget (by (simp only [go_sem]) <;> trivial) (by simp only [go_sem]))
theorem code_ref (n : Nat) (hn : n < 2 ^ 64) : Spec Try.prog 67 [.d (.int .u64 n)] [] (.own 0) [.row 1 ((codeF 10 n).map bY)] := by
  refine spec_of_ev (fn := Try.f67) DX_ok 3000 Try.func67 rfl rfl (Nat.le_of_ble_eq_true rfl) ?_
  simp (maxSteps := 4000000) -implicitDefEqProofs only [Try.f67, go_sem]
  refine eloop (S := Nat × Nat × List Int) (fun s => mkE 20 [(0, .d (.int .u64 s.2.1)), (3, .own 0)]) (fun s => [.row 1 (s.2.2.map bY)])
    (fun s => s.1 ≤ 10 ∧ s.2.1 < 2 ^ 64 ∧ s.2.1 < 2 ^ (7 * s.1) ∧ s.2.2.length + s.1 ≤ 10 ∧ codeF 10 n = s.2.2 ++ codeF s.1 s.2.1) (fun s => s.1) ((10, n, []) : Nat × Nat × List Int) ⟨by omega, hn, by show n < 2 ^ (7 * 10); omega, by simp, rfl⟩ (Wk.trans (Wk.nil 3 1 rfl) (Wk.sub (by (simp only [go_sem]) <;> trivial))) ?_
  intro s hs
  obtain ⟨f, m, q⟩ := s
  simp only at hs ⊢
  have h2 := hs.2.1
  have h3 := hs.2.2.1
  have h4 := hs.2.2.2.1
  have h5 := hs.2.2.2.2
  rw [h5]
  have wm := wrap8 (n := m)
  have dm : decide (128 ≤ (m : Int)) = decide (127 < m) := by rw [Bool.eq_iff_iff]; simp; omega
  by_cases hm : 127 < m
  · rw [decide_eq_true hm] at dm
    cases f with
    | zero => exfalso; simp at h3; omega
    | succ f =>
    have ec : codeF (f + 1) m = ((m % 128 + 128 : Nat) : Int) :: codeF f (m / 128) := by rw [codeF, if_pos hm]
    have e7 : 2 ^ (7 * (f + 1)) = 2 ^ (7 * f) * 128 := by rw [Nat.mul_add, Nat.pow_add]
    have hm7 : m / 128 < 2 ^ (7 * f) := by rw [e7] at h3; exact Nat.div_lt_of_lt_mul (by rw [Nat.mul_comm]; exact h3)
    have em : (q.map bY ++ [[.int .u8 ((m % 128 + 128 : Nat) : Int)]] : List (List D)) = (q ++ [((m % 128 + 128 : Nat) : Int)]).map bY := by simp [bY]
    have f1 : Int.tmod (m : Int) 128 = ((m % 128 : Nat) : Int) := by rw [Int.tmod_eq_emod_of_nonneg (by omega)]; omega
    have f2 : Int.tdiv (m : Int) 128 = ((m / 128 : Nat) : Int) := by rw [Int.tdiv_eq_ediv_of_nonneg (by omega)]; omega
    have w1 : IntKind.u64.wrap ((m % 128 : Nat) : Int) = ((m % 128 : Nat) : Int) := wrap64 (by omega)
    have w2 : IntKind.u64.wrap (((m % 128 : Nat) : Int) + 128) = ((m % 128 + 128 : Nat) : Int) := by rw [u64_in _ (by omega)]; omega
    have w3 : IntKind.u8.wrap ((m % 128 + 128 : Nat) : Int) = ((m % 128 + 128 : Nat) : Int) := u8_in _ (by omega)
    have w4 : IntKind.u64.wrap ((m / 128 : Nat) : Int) = ((m / 128 : Nat) : Int) := wrap64 (by omega)
    simp (maxSteps := 4000000) -implicitDefEqProofs only [go_sem, dm, f1, f2, w1, w2, w3, w4, Option.some.injEq, forall_eq', and_true, true_and, Bool.not_true, Bool.not_false, decide_true, Nat.reduceAdd, Nat.reduceSub, Nat.reduceLT, Nat.reduceLeDiff, Nat.reduceEqDiff, ↓reduceIte]
    refine ⟨by decide, ⟨fun e he => by simp at he; subst he; rfl, by omega, by omega⟩, by decide, ?_⟩
    exact .mk ((f, m / 128, q ++ [((m % 128 + 128 : Nat) : Int)]) : Nat × Nat × List Int) ⟨by omega, by show m / 128 < 2 ^ 64; omega, hm7, by show (q ++ [((m % 128 + 128 : Nat) : Int)]).length + f ≤ 10; simp; omega, by rw [ec]; simp⟩ (by show f < f + 1; omega) (by rw [em]; exact (Wk.via [2] (by (simp only [go_sem, ↓reduceIte]) <;> trivial) (by first | (simp (maxSteps := 4000000) -implicitDefEqProofs only [go_sem, Nat.reduceAdd, Nat.reduceSub, Nat.reduceLT, Nat.reduceLeDiff, Nat.reduceEqDiff, ↓reduceIte]; done) | ((simp (maxSteps := 4000000) -implicitDefEqProofs only [go_sem, Nat.reduceAdd, Nat.reduceSub, Nat.reduceLT, Nat.reduceLeDiff, Nat.reduceEqDiff, ↓reduceIte]) <;> omega)) (by simp) (by first | (simp; done) | (simp [so]; done)) (by (simp (maxSteps := 4000000) -implicitDefEqProofs only [go_sem, Nat.reduceAdd, Nat.reduceSub, Nat.reduceLT, Nat.reduceLeDiff, Nat.reduceEqDiff, ↓reduceIte]) <;> trivial) (by first | (simp only [go_sem]; done) | ((simp (maxSteps := 4000000) -implicitDefEqProofs only [go_sem, Nat.reduceAdd, Nat.reduceSub, Nat.reduceLT, Nat.reduceLeDiff, Nat.reduceEqDiff, ↓reduceIte]) <;> omega)) (Nat.zero_le _) (fun i h => absurd h (Nat.not_lt_zero i))))
  · rw [decide_eq_false hm] at dm
    have ec : codeF f m = [((m % 256 : Nat) : Int)] := by
      cases f with
      | zero => rfl
      | succ f => rw [codeF, if_neg hm]
    have em : (q.map bY ++ [[.int .u8 ((m % 256 : Nat) : Int)]] : List (List D)) = (q ++ codeF f m).map bY := by rw [ec]; simp [bY]
    simp (maxSteps := 4000000) -implicitDefEqProofs only [go_sem, dm, wm, Option.some.injEq, forall_eq', and_true, true_and, Bool.not_true, Bool.not_false, decide_true, Nat.reduceAdd, Nat.reduceSub, Nat.reduceLT, Nat.reduceLeDiff, Nat.reduceEqDiff, ↓reduceIte]
    refine ⟨⟨fun e he => by simp at he; subst he; rfl, by omega, by omega⟩, ?_⟩
    rw [em]
    exact (Wk.via [2] (by (simp only [go_sem, ↓reduceIte]) <;> trivial) (by first | (simp (maxSteps := 4000000) -implicitDefEqProofs only [go_sem, Nat.reduceAdd, Nat.reduceSub, Nat.reduceLT, Nat.reduceLeDiff, Nat.reduceEqDiff, ↓reduceIte]; done) | ((simp (maxSteps := 4000000) -implicitDefEqProofs only [go_sem, Nat.reduceAdd, Nat.reduceSub, Nat.reduceLT, Nat.reduceLeDiff, Nat.reduceEqDiff, ↓reduceIte]) <;> omega)) (by simp) (by first | (simp; done) | (simp [so]; done)) (by (simp (maxSteps := 4000000) -implicitDefEqProofs only [go_sem, Nat.reduceAdd, Nat.reduceSub, Nat.reduceLT, Nat.reduceLeDiff, Nat.reduceEqDiff, ↓reduceIte]) <;> trivial) (by first | (simp only [go_sem]; done) | ((simp (maxSteps := 4000000) -implicitDefEqProofs only [go_sem, Nat.reduceAdd, Nat.reduceSub, Nat.reduceLT, Nat.reduceLeDiff, Nat.reduceEqDiff, ↓reduceIte]) <;> omega)) (Nat.zero_le _) (fun i h => absurd h (Nat.not_lt_zero i)))
mutual
/-- the bytes of a value, by the reference -/
def bytR : Vl → List Int
  | .mk k n b l => if k = 1 then [k] ++ codeF 10 (foldN n) else if k = 2 then [k] ++ codeF 10 b.length ++ b else bytRL l ([k] ++ codeF 10 l.length)
def bytRL : List Vl → List Int → List Int
  | [], p => p
  | x :: r, p => if 3000 < p.length then p else bytRL r (p ++ bytR x)
end
theorem bytRL_len (B : Nat) : ∀ (l : List Vl) (p : List Int), (∀ x ∈ l, (bytR x).length ≤ B) → p.length ≤ 3000 + B → (bytRL l p).length ≤ 3000 + B
  | [], p, _, hp => by rw [bytRL]; exact hp
  | x :: r, p, h, hp => by
    rw [bytRL]
    split
    · exact hp
    · refine bytRL_len B r _ (fun y hy => h y (List.mem_cons_of_mem _ hy)) ?_
      have := h x (by simp)
      rw [List.length_append]; omega
theorem right_all {d : Nat} {k n : Int} {b : List Int} {l : List Vl} (h : rightP (d + 1) (.mk k n b l) = true) (k1 : ¬ k = 1) (k2 : ¬ k = 2) : k = 3 ∧ ∀ x ∈ l, rightP d x = true := by
  rw [rightP, if_neg k1, if_neg k2] at h
  by_cases k3 : k = 3
  · rw [if_pos k3] at h
    simp only [Bool.and_eq_true, Bool.not_eq_true', List.any_eq_false] at h
    exact ⟨k3, fun x hx => by simpa using h.2 x hx⟩
  · rw [if_neg k3] at h; cases h
theorem bytR_len : ∀ (d : Nat) (v : Vl), FitW v → rightP d v = true → (bytR v).length ≤ 901000 + 3000 * d
  | 0, .mk _ _ _ _, _, h => by cases h
  | d + 1, .mk k n b l, hw, h => by
    obtain ⟨_, _, _, _, hn, hb, hl, hx⟩ := hw
    have c1 := codeF_len 10 (foldN n)
    have c2 := codeF_len 10 b.length
    have c3 := codeF_len 10 l.length
    rw [bytR]
    by_cases k1 : k = 1
    · rw [if_pos k1]; simp; omega
    rw [if_neg k1]
    by_cases k2 : k = 2
    · rw [if_pos k2]; simp; omega
    rw [if_neg k2]
    have hr := (right_all h k1 k2).2
    have := bytRL_len (901000 + 3000 * d) l ([k] ++ codeF 10 l.length) (fun x hm => bytR_len d x (hx x hm) (hr x hm)) (by simp; omega)
    omega
end Go.AX.Co
/- The reference's writer: Bytes. -/
set_option maxHeartbeats 8000000
set_option linter.unusedVariables false
set_option linter.unusedSimpArgs false
set_option maxRecDepth 20000
namespace Go.AX.Co
open Go.Proofs Go.RowKit Go.IntWalk
theorem bytes_ref : ∀ (d : Nat), d ≤ 6 → ∀ (v : Vl), FitW v → rightP d v = true → Spec Try.prog 58 [vA v] [] (.own 0) [.row 1 ((bytR v).map bY)]
  | 0, _, .mk _ _ _ _, _, h => by cases h
  | d + 1, hd, .mk k n b l, hw, h => by
    have hlen := bytR_len (d + 1) (.mk k n b l) hw h
    obtain ⟨_, _, _, _, hn, hb, hl, hx⟩ := hw
    rw [bytR]
    refine spec_of_ev (fn := Try.f58) DX_ok 3000 Try.func58 rfl rfl (Nat.le_of_ble_eq_true rfl) ?_
    simp (maxSteps := 4000000) -implicitDefEqProofs only [Try.f58, go_sem, vA]
    refine ⟨by decide, ?_⟩
    by_cases k1 : k = 1
    · have z1 : (k == 1) = true := by simp [k1]
      have c1 := fold_ref n hn.1 hn.2
      have c2 := code_ref (foldN n) (foldN_lt hn.1 hn.2)
      have cl := codeF_len 10 (foldN n)
      rw [if_pos k1]
      generalize codeF 10 (foldN n) = C at c2 cl ⊢
      simp (maxSteps := 4000000) -implicitDefEqProofs only [go_sem, z1, Option.some.injEq, forall_eq', and_true, true_and, Bool.not_true, Bool.not_false, decide_true, Nat.reduceAdd, Nat.reduceSub, Nat.reduceLT, Nat.reduceLeDiff, Nat.reduceEqDiff, ↓reduceIte]
      refine ecall0 _ c1 (by simp only [go_sem]) (by simp only [go_sem]) ?_
      simp (maxSteps := 4000000) -implicitDefEqProofs only [go_sem, Nat.reduceAdd, Nat.reduceSub, Nat.reduceLT, Nat.reduceLeDiff, Nat.reduceEqDiff, ↓reduceIte]
      refine ecallN _ _ c2 (by simp only [go_sem]) ?_
      simp (maxSteps := 4000000) -implicitDefEqProofs only [go_sem, Nat.reduceAdd, Nat.reduceSub, Nat.reduceLT, Nat.reduceLeDiff, Nat.reduceEqDiff, ↓reduceIte]
      refine ⟨⟨by omega, by omega⟩, ?_⟩
      exact (Wk.via [3] (by (simp only [go_sem, ↓reduceIte]) <;> trivial) (by first | (simp (maxSteps := 4000000) -implicitDefEqProofs only [go_sem, Nat.reduceAdd, Nat.reduceSub, Nat.reduceLT, Nat.reduceLeDiff, Nat.reduceEqDiff, ↓reduceIte]; done) | ((simp (maxSteps := 4000000) -implicitDefEqProofs only [go_sem, Nat.reduceAdd, Nat.reduceSub, Nat.reduceLT, Nat.reduceLeDiff, Nat.reduceEqDiff, ↓reduceIte]) <;> omega)) (by simp) (by first | (simp; done) | (simp [so]; done)) (by (simp (maxSteps := 4000000) -implicitDefEqProofs only [go_sem, Nat.reduceAdd, Nat.reduceSub, Nat.reduceLT, Nat.reduceLeDiff, Nat.reduceEqDiff, ↓reduceIte]) <;> trivial) (by first | (simp only [go_sem]; done) | ((simp (maxSteps := 4000000) -implicitDefEqProofs only [go_sem, Nat.reduceAdd, Nat.reduceSub, Nat.reduceLT, Nat.reduceLeDiff, Nat.reduceEqDiff, ↓reduceIte]) <;> omega)) (Nat.zero_le _) (fun i h => absurd h (Nat.not_lt_zero i)))
    have z1 : (k == 1) = false := by simp [k1]
    rw [if_neg k1]
    by_cases k2 : k = 2
    · have z2 : (k == 2) = true := by simp [k2]
      have c2 := code_ref b.length (by omega)
      have cl := codeF_len 10 b.length
      have wl : IntKind.u64.wrap (b.length : Int) = (b.length : Int) := u64_in _ (by omega)
      rw [if_pos k2]
      generalize codeF 10 b.length = C at c2 cl ⊢
      simp (maxSteps := 4000000) -implicitDefEqProofs only [go_sem, z1, z2, Option.some.injEq, forall_eq', and_true, true_and, Bool.not_true, Bool.not_false, decide_true, Nat.reduceAdd, Nat.reduceSub, Nat.reduceLT, Nat.reduceLeDiff, Nat.reduceEqDiff, ↓reduceIte]
      refine DX.plain (.take 0 true (.take 1 false (.take 2 false (.take 3 false (.take 4 false (.take 7 true (.take 8 true (.run [5] (fun _ => [true, true, true]) fun _ => (.run [6] (fun _ => [true, true, false]) fun _ => (.run [9] (fun _ => [false, false]) fun _ => (.take 10 false .done))))))))))) (by kernel_rfl) (by kernel_rfl) Ty.mixed ?_
      simp (maxSteps := 4000000) -implicitDefEqProofs only [go_sem, wl, Option.some.injEq, forall_eq', and_true, true_and, Bool.not_true, Bool.not_false, decide_true, Nat.reduceAdd, Nat.reduceSub, Nat.reduceLT, Nat.reduceLeDiff, Nat.reduceEqDiff, ↓reduceIte]
      refine ⟨_, _, c2.liftN _ (by simp only [go_sem]), ?_⟩
      simp (maxSteps := 4000000) -implicitDefEqProofs only [go_sem, Nat.reduceAdd, Nat.reduceSub, Nat.reduceLT, Nat.reduceLeDiff, Nat.reduceEqDiff, ↓reduceIte]
      refine ⟨⟨by omega, by omega⟩, ⟨by omega, by omega⟩, ?_⟩
      exact (Wk.via [4] (by (simp only [go_sem, ↓reduceIte]) <;> trivial) (by first | (simp (maxSteps := 4000000) -implicitDefEqProofs only [go_sem, Nat.reduceAdd, Nat.reduceSub, Nat.reduceLT, Nat.reduceLeDiff, Nat.reduceEqDiff, ↓reduceIte]; done) | ((simp (maxSteps := 4000000) -implicitDefEqProofs only [go_sem, Nat.reduceAdd, Nat.reduceSub, Nat.reduceLT, Nat.reduceLeDiff, Nat.reduceEqDiff, ↓reduceIte]) <;> omega)) (by simp) (by first | (simp; done) | (simp [so]; done)) (by (simp (maxSteps := 4000000) -implicitDefEqProofs only [go_sem, Nat.reduceAdd, Nat.reduceSub, Nat.reduceLT, Nat.reduceLeDiff, Nat.reduceEqDiff, ↓reduceIte]) <;> trivial) (by first | (simp only [go_sem]; done) | ((simp (maxSteps := 4000000) -implicitDefEqProofs only [go_sem, Nat.reduceAdd, Nat.reduceSub, Nat.reduceLT, Nat.reduceLeDiff, Nat.reduceEqDiff, ↓reduceIte]) <;> omega)) (Nat.zero_le _) (fun i h => absurd h (Nat.not_lt_zero i)))
    have z2 : (k == 2) = false := by simp [k2]
    rw [if_neg k2]
    have hr := (right_all h k1 k2).2
    have c2 := code_ref l.length (by omega)
    have cl := codeF_len 10 l.length
    have wl : IntKind.u64.wrap (l.length : Int) = (l.length : Int) := u64_in _ (by omega)
    have ec : ([.int .u8 k] :: (codeF 10 l.length).map bY : List (List D)) = (k :: codeF 10 l.length).map bY := by simp [bY]
    have hP : (k :: codeF 10 l.length).length ≤ 12 := by simp; omega
    simp (maxSteps := 4000000) -implicitDefEqProofs only [go_sem, z1, z2, wl, Option.some.injEq, forall_eq', and_true, true_and, Bool.not_true, Bool.not_false, decide_true, Nat.reduceAdd, Nat.reduceSub, Nat.reduceLT, Nat.reduceLeDiff, Nat.reduceEqDiff, ↓reduceIte]
    refine ecallN _ _ c2 (by simp only [go_sem]) ?_
    simp (maxSteps := 4000000) -implicitDefEqProofs only [go_sem, Nat.reduceAdd, Nat.reduceSub, Nat.reduceLT, Nat.reduceLeDiff, Nat.reduceEqDiff, ↓reduceIte]
    refine ⟨⟨by omega, by omega⟩, ?_⟩
    rw [ec]
    generalize hQ : k :: codeF 10 l.length = Q at hP ⊢
    clear c2 cl ec
    refine eloop (S := Nat × List Int) (fun s => mkE 58 [(1, .ptr 0 0), (3, .own 1), (4, .d (.int .i64 s.1))]) (fun s => [.cells [.d (.int .u8 k), .d (.int .i64 n), .d (.sl (b.map bY)), .d (.sl (l.map vD))], .row 1 (s.2.map bY)])
      (fun s => s.1 ≤ l.length ∧ s.2.length ≤ 901000 + 3000 * (d + 1) ∧ bytRL l Q = bytRL (l.drop s.1) s.2) (fun s => l.length - s.1) ((0, Q) : Nat × List Int) ⟨Nat.zero_le _, by show Q.length ≤ _; omega, rfl⟩ (Wk.via [0, 3] (by (simp only [go_sem, ↓reduceIte]) <;> trivial) (by first | (simp (maxSteps := 4000000) -implicitDefEqProofs only [go_sem, Nat.reduceAdd, Nat.reduceSub, Nat.reduceLT, Nat.reduceLeDiff, Nat.reduceEqDiff, ↓reduceIte]; done) | ((simp (maxSteps := 4000000) -implicitDefEqProofs only [go_sem, Nat.reduceAdd, Nat.reduceSub, Nat.reduceLT, Nat.reduceLeDiff, Nat.reduceEqDiff, ↓reduceIte]) <;> omega)) (by simp) (by first | (simp; done) | (simp [so]; done)) (by (simp (maxSteps := 4000000) -implicitDefEqProofs only [go_sem, Nat.reduceAdd, Nat.reduceSub, Nat.reduceLT, Nat.reduceLeDiff, Nat.reduceEqDiff, ↓reduceIte]) <;> trivial) (by first | (simp only [go_sem]; done) | ((simp (maxSteps := 4000000) -implicitDefEqProofs only [go_sem, Nat.reduceAdd, Nat.reduceSub, Nat.reduceLT, Nat.reduceLeDiff, Nat.reduceEqDiff, ↓reduceIte]) <;> omega)) (Nat.zero_le _) (fun i h => absurd h (Nat.not_lt_zero i))) ?_
    intro s hs
    obtain ⟨i, q⟩ := s
    simp only at hs ⊢
    have h1 := hs.1
    have h2 := hs.2.1
    have h3 := hs.2.2
    rw [h3]
    rcases Nat.lt_or_ge i l.length with hi | hi
    case inr =>
      have f1 : decide ((i : Int) < l.length) = false := by simp; omega
      rw [List.drop_eq_nil_of_le hi, bytRL]
      simp (maxSteps := 4000000) -implicitDefEqProofs only [go_sem, f1, Option.some.injEq, forall_eq', and_true, true_and, Bool.not_true, Bool.not_false, decide_true, Nat.reduceAdd, Nat.reduceSub, Nat.reduceLT, Nat.reduceLeDiff, Nat.reduceEqDiff, ↓reduceIte]
      exact (Wk.via [1] (by (simp only [go_sem, ↓reduceIte]) <;> trivial) (by first | (simp (maxSteps := 4000000) -implicitDefEqProofs only [go_sem, Nat.reduceAdd, Nat.reduceSub, Nat.reduceLT, Nat.reduceLeDiff, Nat.reduceEqDiff, ↓reduceIte]; done) | ((simp (maxSteps := 4000000) -implicitDefEqProofs only [go_sem, Nat.reduceAdd, Nat.reduceSub, Nat.reduceLT, Nat.reduceLeDiff, Nat.reduceEqDiff, ↓reduceIte]) <;> omega)) (by simp) (by first | (simp; done) | (simp [so]; done)) (by (simp (maxSteps := 4000000) -implicitDefEqProofs only [go_sem, Nat.reduceAdd, Nat.reduceSub, Nat.reduceLT, Nat.reduceLeDiff, Nat.reduceEqDiff, ↓reduceIte]) <;> trivial) (by first | (simp only [go_sem]; done) | ((simp (maxSteps := 4000000) -implicitDefEqProofs only [go_sem, Nat.reduceAdd, Nat.reduceSub, Nat.reduceLT, Nat.reduceLeDiff, Nat.reduceEqDiff, ↓reduceIte]) <;> omega)) (Nat.zero_le _) (fun i h => absurd h (Nat.not_lt_zero i)))
    have f1 : decide ((i : Int) < l.length) = true := by simp; omega
    obtain ⟨x, hxi⟩ : ∃ x, l[i]? = some x := ⟨l[i]'hi, List.getElem?_eq_getElem _⟩
    have hdr : l.drop i = x :: l.drop (i + 1) := by rw [List.drop_eq_getElem_cons hi, (List.getElem?_eq_some_iff.1 hxi).2]
    have n1 : (0 ≤ (i : Int) ∧ (i : Int) < l.length) = True := eq_true (by omega)
    have n2 : (i < l.length) = True := eq_true hi
    have w1 : IntKind.i64.wrap ((i : Int) + 1) = ((i + 1 : Nat) : Int) := by rw [i64_in _ (by omega)]; simp
    have hxm := List.mem_of_getElem? hxi
    have f2 : decide ((q.length : Int) ≤ 3000) = decide (q.length ≤ 3000) := by rw [Bool.eq_iff_iff]; simp; omega
    by_cases h5 : 3000 < q.length
    · rw [decide_eq_false (by omega : ¬ q.length ≤ 3000)] at f2
      rw [hdr, bytRL, if_pos h5]
      simp (maxSteps := 4000000) -implicitDefEqProofs only [go_sem, f1, f2, Option.some.injEq, forall_eq', and_true, true_and, Bool.not_true, Bool.not_false, decide_true, Nat.reduceAdd, Nat.reduceSub, Nat.reduceLT, Nat.reduceLeDiff, Nat.reduceEqDiff, ↓reduceIte]
      exact (Wk.via [1] (by (simp only [go_sem, ↓reduceIte]) <;> trivial) (by first | (simp (maxSteps := 4000000) -implicitDefEqProofs only [go_sem, Nat.reduceAdd, Nat.reduceSub, Nat.reduceLT, Nat.reduceLeDiff, Nat.reduceEqDiff, ↓reduceIte]; done) | ((simp (maxSteps := 4000000) -implicitDefEqProofs only [go_sem, Nat.reduceAdd, Nat.reduceSub, Nat.reduceLT, Nat.reduceLeDiff, Nat.reduceEqDiff, ↓reduceIte]) <;> omega)) (by simp) (by first | (simp; done) | (simp [so]; done)) (by (simp (maxSteps := 4000000) -implicitDefEqProofs only [go_sem, Nat.reduceAdd, Nat.reduceSub, Nat.reduceLT, Nat.reduceLeDiff, Nat.reduceEqDiff, ↓reduceIte]) <;> trivial) (by first | (simp only [go_sem]; done) | ((simp (maxSteps := 4000000) -implicitDefEqProofs only [go_sem, Nat.reduceAdd, Nat.reduceSub, Nat.reduceLT, Nat.reduceLeDiff, Nat.reduceEqDiff, ↓reduceIte]) <;> omega)) (Nat.zero_le _) (fun i h => absurd h (Nat.not_lt_zero i)))
    rw [decide_eq_true (by omega : q.length ≤ 3000)] at f2
    have c2 := bytes_ref d (by omega) x (hx x hxm) (hr x hxm)
    have hln := bytR_len d x (hx x hxm) (hr x hxm)
    have e3 : bytRL (l.drop i) q = bytRL (l.drop (i + 1)) (q ++ bytR x) := by rw [hdr, bytRL, if_neg h5]
    rw [e3]
    generalize bytR x = C at c2 hln ⊢
    obtain ⟨xk, xn, xb, xl⟩ := x
    simp only [vA] at c2
    simp (maxSteps := 4000000) -implicitDefEqProofs only [go_sem, f1, f2, n1, n2, hxi, vD, vDs_eq, Option.some.injEq, forall_eq', and_true, true_and, Bool.not_true, Bool.not_false, decide_true, Nat.reduceAdd, Nat.reduceSub, Nat.reduceLT, Nat.reduceLeDiff, Nat.reduceEqDiff, ↓reduceIte]
    refine ecallN _ _ c2 (by simp only [go_sem]) ?_
    simp (maxSteps := 4000000) -implicitDefEqProofs only [go_sem, w1, Option.some.injEq, forall_eq', and_true, true_and, Bool.not_true, Bool.not_false, decide_true, Nat.reduceAdd, Nat.reduceSub, Nat.reduceLT, Nat.reduceLeDiff, Nat.reduceEqDiff, ↓reduceIte]
    refine ⟨⟨by omega, by omega⟩, ?_⟩
    exact .mk ((i + 1, q ++ C) : Nat × List Int) ⟨by show i + 1 ≤ l.length; omega, by show (q ++ C).length ≤ _; rw [List.length_append]; omega, rfl⟩ (by show l.length - (i + 1) < l.length - i; omega) (Wk.via [0, 3] (by (simp only [go_sem, ↓reduceIte]) <;> trivial) (by first | (simp (maxSteps := 4000000) -implicitDefEqProofs only [go_sem, Nat.reduceAdd, Nat.reduceSub, Nat.reduceLT, Nat.reduceLeDiff, Nat.reduceEqDiff, ↓reduceIte]; done) | ((simp (maxSteps := 4000000) -implicitDefEqProofs only [go_sem, Nat.reduceAdd, Nat.reduceSub, Nat.reduceLT, Nat.reduceLeDiff, Nat.reduceEqDiff, ↓reduceIte]) <;> omega)) (by simp) (by first | (simp; done) | (simp [so]; done)) (by (simp (maxSteps := 4000000) -implicitDefEqProofs only [go_sem, Nat.reduceAdd, Nat.reduceSub, Nat.reduceLT, Nat.reduceLeDiff, Nat.reduceEqDiff, ↓reduceIte]) <;> trivial) (by first | (simp only [go_sem]; done) | ((simp (maxSteps := 4000000) -implicitDefEqProofs only [go_sem, Nat.reduceAdd, Nat.reduceSub, Nat.reduceLT, Nat.reduceLeDiff, Nat.reduceEqDiff, ↓reduceIte]) <;> omega)) (Nat.zero_le _) (fun i h => absurd h (Nat.not_lt_zero i)))
end Go.AX.Co
/- The reference's writer: kinds, Check, Size, Encode. -/
set_option maxHeartbeats 8000000
set_option linter.unusedVariables false
set_option linter.unusedSimpArgs false
set_option maxRecDepth 20000
namespace Go.AX.Co
open Go.Proofs Go.RowKit Go.IntWalk
theorem kinds_ref : ∀ (d : Nat), d ≤ 6 → ∀ (v : Vl), FitW v → Spec Try.prog 66 [vA v, .d (.int .i64 d)] [] (.d (.bool (rightP d v))) [] := by
  intro d
  induction d with
  | zero =>
    intro hd v hv
    rw [show rightP 0 v = false by cases v; rfl]
    obtain ⟨k, n, b, l⟩ := v
    have dz : decide (((0 : Nat) : Int) < 1) = true := rfl
    refine spec_of_ev (fn := Try.f66) DX_ok 3000 Try.func66 rfl rfl (Nat.le_of_ble_eq_true rfl) ?_
    simp (maxSteps := 4000000) -implicitDefEqProofs only [Try.f66, go_sem, vA]
    simp (maxSteps := 4000000) -implicitDefEqProofs only [go_sem, dz, Option.some.injEq, forall_eq', and_true, true_and, Bool.not_true, Bool.not_false, decide_true, Nat.reduceAdd, Nat.reduceSub, Nat.reduceLT, Nat.reduceLeDiff, Nat.reduceEqDiff, ↓reduceIte]
    exact wk_bool rfl
  | succ d ih =>
    intro hd v hv
    obtain ⟨k, n, b, l, hn, hb, hl, hx⟩ := hv
    have dz : decide (((d + 1 : Nat) : Int) < 1) = false := by simp; omega
    have b1 : (!true) = false := rfl
    have b2 : (!false) = true := rfl
    have el : ((l.length : Int) == 0) = decide (l.length = 0) := by rw [Bool.eq_iff_iff]; simp
    have eb : ((b.length : Int) == 0) = decide (b.length = 0) := by rw [Bool.eq_iff_iff]; simp
    have eb' : decide (0 < (b.length : Int)) = !decide (b.length = 0) := by
      by_cases h : b.length = 0
      · rw [decide_eq_true h]; simp [h]
      · rw [decide_eq_false h]; simp; omega
    rw [rightP]
    refine spec_of_ev (fn := Try.f66) DX_ok 3000 Try.func66 rfl rfl (Nat.le_of_ble_eq_true rfl) ?_
    simp (maxSteps := 4000000) -implicitDefEqProofs only [Try.f66, go_sem, vA]
    by_cases k1 : k = 1
    · have z1 : (k == 1) = true := by simp [k1]
      have e1 : decide (b.length + l.length = 0) = (decide (b.length = 0) && decide (l.length = 0)) := by rw [Bool.eq_iff_iff]; simp
      rw [if_pos k1, e1]
      generalize decide (b.length = 0) = B at eb ⊢
      generalize decide (l.length = 0) = L at el ⊢
      cases B
      all_goals (simp (maxSteps := 4000000) -implicitDefEqProofs only [go_sem, dz, z1, eb, el, Bool.false_and, Bool.true_and, Option.some.injEq, forall_eq', and_true, true_and, Bool.not_true, Bool.not_false, decide_true, Nat.reduceAdd, Nat.reduceSub, Nat.reduceLT, Nat.reduceLeDiff, Nat.reduceEqDiff, ↓reduceIte])
      all_goals exact wk_bool rfl
    have z1 : (k == 1) = false := by simp [k1]
    rw [if_neg k1]
    by_cases k2 : k = 2
    · have z2 : (k == 2) = true := by simp [k2]
      rw [if_pos k2]
      generalize decide (l.length = 0) = L at el ⊢
      rcases bz (n == 0) with q | q
      all_goals rw [q]
      all_goals (simp (maxSteps := 4000000) -implicitDefEqProofs only [go_sem, dz, z1, z2, q, el, Bool.false_and, Bool.true_and, Option.some.injEq, forall_eq', and_true, true_and, Bool.not_true, Bool.not_false, decide_true, Nat.reduceAdd, Nat.reduceSub, Nat.reduceLT, Nat.reduceLeDiff, Nat.reduceEqDiff, ↓reduceIte])
      all_goals exact wk_bool rfl
    have z2 : (k == 2) = false := by simp [k2]
    rw [if_neg k2]
    by_cases k3 : k = 3
    case neg =>
      have z3 : (k == 3) = false := by simp [k3]
      rw [if_neg k3]
      simp (maxSteps := 4000000) -implicitDefEqProofs only [go_sem, dz, z1, z2, z3, Option.some.injEq, forall_eq', and_true, true_and, Bool.not_true, Bool.not_false, decide_true, Nat.reduceAdd, Nat.reduceSub, Nat.reduceLT, Nat.reduceLeDiff, Nat.reduceEqDiff, ↓reduceIte]
      exact wk_bool rfl
    have z3 : (k == 3) = true := by simp [k3]
    rw [if_pos k3]
    have en : (n != 0) = !(n == 0) := rfl
    generalize hR : (l.any fun x => !rightP d x) = R
    generalize decide (b.length = 0) = L at eb' ⊢
    rcases bz (n == 0) with q | q
    case inr =>
      rw [q] at en ⊢
      simp (maxSteps := 4000000) -implicitDefEqProofs only [go_sem, dz, z1, z2, z3, en, Bool.false_and, b2, Option.some.injEq, forall_eq', and_true, true_and, Bool.not_true, Bool.not_false, decide_true, Nat.reduceAdd, Nat.reduceSub, Nat.reduceLT, Nat.reduceLeDiff, Nat.reduceEqDiff, ↓reduceIte]
      exact wk_bool rfl
    cases L with
    | false =>
      rw [q] at en ⊢
      simp (maxSteps := 4000000) -implicitDefEqProofs only [go_sem, dz, z1, z2, z3, en, eb', b1, b2, Bool.false_and, Bool.true_and, Option.some.injEq, forall_eq', and_true, true_and, Bool.not_true, Bool.not_false, decide_true, Nat.reduceAdd, Nat.reduceSub, Nat.reduceLT, Nat.reduceLeDiff, Nat.reduceEqDiff, ↓reduceIte]
      exact wk_bool rfl
    | true =>
      rw [q] at en ⊢
      simp (maxSteps := 4000000) -implicitDefEqProofs only [go_sem, dz, z1, z2, z3, en, eb', b1, b2, Bool.false_and, Bool.true_and, Option.some.injEq, forall_eq', and_true, true_and, Bool.not_true, Bool.not_false, decide_true, Nat.reduceAdd, Nat.reduceSub, Nat.reduceLT, Nat.reduceLeDiff, Nat.reduceEqDiff, ↓reduceIte]
      have wd : IntKind.i64.wrap (((d + 1 : Nat) : Int) - 1) = (d : Int) := by rw [i64_in _ (by omega)]; omega
      refine eloop (S := Nat) (fun i => mkE 60 [(1, .d (.int .i64 ((d + 1 : Nat) : Int))), (2, .ptr 0 0), (5, .d (.int .i64 i))]) (fun i => [.cells [.d (.int .u8 k), .d (.int .i64 n), .d (.sl (b.map bY)), .d (.sl (l.map vD))]])
        (fun i => i ≤ l.length ∧ ∀ j x, l[j]? = some x → j < i → rightP d x = true) (fun i => l.length - i) 0 ⟨by omega, by omega⟩ (Wk.sub (by (simp only [go_sem]) <;> trivial)) ?_
      intro i hs
      have h1 := hs.1
      have h2 := hs.2
      rcases Nat.lt_or_ge i l.length with hi | hi
      case inr =>
        have f1 : decide ((i : Int) < l.length) = false := by simp; omega
        have : R = false := by
          rw [← hR, List.any_eq_false]
          intro x hxm
          obtain ⟨j, hj⟩ := List.mem_iff_getElem?.1 hxm
          simp [h2 j x hj (by have := some_lt hj; omega)]
        rw [this]
        simp (maxSteps := 4000000) -implicitDefEqProofs only [go_sem, f1, Option.some.injEq, forall_eq', and_true, true_and, Bool.not_true, Bool.not_false, decide_true, Nat.reduceAdd, Nat.reduceSub, Nat.reduceLT, Nat.reduceLeDiff, Nat.reduceEqDiff, ↓reduceIte]
        exact wk_bool rfl
      have f1 : decide ((i : Int) < l.length) = true := by simp; omega
      obtain ⟨x, hxi⟩ : ∃ x, l[i]? = some x := ⟨l[i]'hi, List.getElem?_eq_getElem _⟩
      have hxm := List.mem_of_getElem? hxi
      have n1 : (0 ≤ (i : Int) ∧ (i : Int) < l.length) = True := eq_true (by omega)
      have n2 : (i < l.length) = True := eq_true hi
      have w1 : IntKind.i64.wrap ((i : Int) + 1) = ((i + 1 : Nat) : Int) := by rw [i64_in _ (by omega)]; simp
      have c := ih (by omega) x (hx x hxm)
      have hnext : rightP d x = true → ∀ j y, l[j]? = some y → j < i + 1 → rightP d y = true := fun h => upto_succ (p := fun _ y => rightP d y = true) hxi h h2
      have hbad : rightP d x = false → R = true := fun h => by
        rw [← hR, List.any_eq_true]
        exact ⟨x, hxm, by rw [h]; rfl⟩
      generalize rightP d x = B at c hnext hbad
      obtain ⟨xk, xn, xb, xl⟩ := x
      simp only [vA] at c
      simp (maxSteps := 4000000) -implicitDefEqProofs only [go_sem, f1, n1, n2, hxi, vD, vDs_eq, wd, Option.some.injEq, forall_eq', and_true, true_and, Bool.not_true, Bool.not_false, decide_true, Nat.reduceAdd, Nat.reduceSub, Nat.reduceLT, Nat.reduceLeDiff, Nat.reduceEqDiff, ↓reduceIte]
      refine .all _ _ (c.lift0 _ (by simp only [go_sem]) (by simp only [go_sem])) ?_
      cases B with
      | false =>
        rw [hbad rfl]
        simp (maxSteps := 4000000) -implicitDefEqProofs only [go_sem, b2, Option.some.injEq, forall_eq', and_true, true_and, Bool.not_true, Bool.not_false, decide_true, Nat.reduceAdd, Nat.reduceSub, Nat.reduceLT, Nat.reduceLeDiff, Nat.reduceEqDiff, ↓reduceIte]
        exact wk_bool rfl
      | true =>
        simp (maxSteps := 4000000) -implicitDefEqProofs only [go_sem, b1, w1, Option.some.injEq, forall_eq', and_true, true_and, Bool.not_true, Bool.not_false, decide_true, Nat.reduceAdd, Nat.reduceSub, Nat.reduceLT, Nat.reduceLeDiff, Nat.reduceEqDiff, ↓reduceIte]
        exact .mk (i + 1) ⟨by omega, hnext rfl⟩ (by omega) (Wk.sub (by (simp only [go_sem]) <;> trivial))
end Go.AX.Co
/- Both writers write alike; the reference's Check, Size, Encode. -/
set_option maxHeartbeats 8000000
set_option linter.unusedVariables false
set_option linter.unusedSimpArgs false
set_option maxRecDepth 20000
namespace Go.AX.Co
open Go.Proofs Go.RowKit Go.IntWalk
mutual
/-- all bytes of a value -/
def encV : Vl → List Int
  | .mk k n b l => if k = 1 then k :: codeF 10 (foldN n) else if k = 2 then k :: (codeF 10 b.length ++ b) else k :: (codeF 10 l.length ++ encL l)
def encL : List Vl → List Int
  | [] => []
  | x :: r => encV x ++ encL r
end
mutual
theorem wr_small : ∀ (v : Vl) (p : List Int), (p ++ encV v).length ≤ 3000 → wrP v p = p ++ encV v
  | .mk k n b l, p, h => by
    rw [wrP, encV] at *
    by_cases k1 : k = 1
    · rw [if_pos k1, if_pos k1]; simp
    rw [if_neg k1, if_neg k1] at *
    by_cases k2 : k = 2
    · rw [if_pos k2, if_pos k2]; simp
    rw [if_neg k2, if_neg k2] at *
    have := wrL_small l (p ++ [k] ++ codeF 10 l.length) (by simpa [Nat.add_assoc] using h)
    rw [this]; simp
theorem wrL_small : ∀ (l : List Vl) (p : List Int), (p ++ encL l).length ≤ 3000 → wrL l p = p ++ encL l
  | [], p, _ => by rw [wrL, encL, List.append_nil]
  | x :: r, p, h => by
    rw [encL] at h ⊢
    rw [wrL, if_neg (by simp at h; omega), wr_small x p (by simp at h ⊢; omega), wrL_small r _ (by simpa [Nat.add_assoc] using h), List.append_assoc]
end
mutual
theorem wr_great : ∀ (v : Vl) (p : List Int), 3000 < (p ++ encV v).length → 3000 < (wrP v p).length
  | .mk k n b l, p, h => by
    rw [wrP, encV] at *
    by_cases k1 : k = 1
    · rw [if_pos k1] at *; simpa [Nat.add_assoc, Nat.add_comm, Nat.add_left_comm] using h
    rw [if_neg k1] at *
    by_cases k2 : k = 2
    · rw [if_pos k2] at *; simpa [Nat.add_assoc, Nat.add_comm, Nat.add_left_comm] using h
    rw [if_neg k2] at *
    exact wrL_great l (p ++ [k] ++ codeF 10 l.length) (by simpa [Nat.add_assoc, Nat.add_comm, Nat.add_left_comm] using h)
theorem wrL_great : ∀ (l : List Vl) (p : List Int), 3000 < (p ++ encL l).length → 3000 < (wrL l p).length
  | [], p, h => by rw [wrL]; rw [encL, List.append_nil] at h; exact h
  | x :: r, p, h => by
    rw [encL] at h
    rw [wrL]
    split
    · assumption
    next hp =>
      by_cases h2 : 3000 < (p ++ encV x).length
      · have := wr_great x p h2
        have h3 : ∀ (r : List Vl) (q : List Int), 3000 < q.length → 3000 < (wrL r q).length := fun r q hq => by
          cases r with
          | nil => rw [wrL]; exact hq
          | cons y r => rw [wrL, if_pos hq]; exact hq
        exact h3 r _ this
      · rw [wr_small x p (by omega)]
        exact wrL_great r _ (by rw [List.append_assoc]; exact h)
end
mutual
theorem byt_small : ∀ (v : Vl), (encV v).length ≤ 3000 → bytR v = encV v
  | .mk k n b l, h => by
    rw [bytR, encV] at *
    by_cases k1 : k = 1
    · rw [if_pos k1, if_pos k1]; simp
    rw [if_neg k1, if_neg k1] at *
    by_cases k2 : k = 2
    · rw [if_pos k2, if_pos k2]; simp
    rw [if_neg k2, if_neg k2] at *
    have := bytL_small l ([k] ++ codeF 10 l.length) (by simp at h ⊢; omega)
    rw [this]; simp
theorem bytL_small : ∀ (l : List Vl) (p : List Int), (p ++ encL l).length ≤ 3000 → bytRL l p = p ++ encL l
  | [], p, _ => by rw [bytRL, encL, List.append_nil]
  | x :: r, p, h => by
    rw [encL] at h ⊢
    rw [bytRL, if_neg (by simp at h; omega), byt_small x (by simp at h ⊢; omega), bytL_small r _ (by simpa [Nat.add_assoc] using h), List.append_assoc]
end
theorem bytRL_ge (r : List Vl) : ∀ q : List Int, 3000 < q.length → 3000 < (bytRL r q).length := fun q hq => by
  cases r with
  | nil => rw [bytRL]; exact hq
  | cons y r => rw [bytRL, if_pos hq]; exact hq
mutual
theorem byt_great : ∀ (v : Vl), 3000 < (encV v).length → 3000 < (bytR v).length
  | .mk k n b l, h => by
    rw [bytR, encV] at *
    by_cases k1 : k = 1
    · rw [if_pos k1] at *; simpa [Nat.add_assoc, Nat.add_comm, Nat.add_left_comm] using h
    rw [if_neg k1] at *
    by_cases k2 : k = 2
    · rw [if_pos k2] at *; simpa [Nat.add_assoc, Nat.add_comm, Nat.add_left_comm] using h
    rw [if_neg k2] at *
    exact bytL_great l ([k] ++ codeF 10 l.length) (by simp at h ⊢; omega)
theorem bytL_great : ∀ (l : List Vl) (p : List Int), 3000 < (p ++ encL l).length → 3000 < (bytRL l p).length
  | [], p, h => by rw [bytRL]; rw [encL, List.append_nil] at h; exact h
  | x :: r, p, h => by
    rw [encL] at h
    rw [bytRL]
    split
    · assumption
    next hp =>
      by_cases h2 : 3000 < (encV x).length
      · exact bytRL_ge r _ (by have := byt_great x h2; rw [List.length_append]; omega)
      · rw [byt_small x (by omega)]
        exact bytL_great r _ (by rw [List.append_assoc]; exact h)
end
theorem encP_eq (v : Vl) : encP v = if rightP 6 v = false then ([], 8) else if 3000 < (encV v).length then ([], 4) else (encV v, 0) := by
  unfold encP
  by_cases h : 3000 < (encV v).length
  · rw [if_pos h, if_pos (wr_great v [] h)]
  · have := wr_small v [] (by simpa using h)
    rw [List.nil_append] at this
    rw [this]
theorem byt_len (v : Vl) : (3000 < (bytR v).length) = (3000 < (encV v).length) := by
  by_cases h : 3000 < (encV v).length
  · exact propext ⟨fun _ => h, fun _ => byt_great v h⟩
  · rw [byt_small v (by omega)]
theorem check_ref (v : Vl) (hv : FitW v) : Spec Try.prog 57 [vA v] [] (.d (.int .i64 (encP v).2)) [] := by
  have c1 := kinds_ref 6 (by omega) v hv
  have c2 := bytes_ref 6 (by omega) v hv
  have hl := bytR_len 6 v hv
  have hb := byt_len v
  generalize hR : encP v = R
  rw [encP_eq] at hR
  generalize bytR v = W at c2 hl hb
  generalize encV v = X at hb hR
  generalize rightP 6 v = B at c1 c2 hl hR
  obtain ⟨k, n, b, l⟩ := v
  simp only [vA] at c1 c2
  rw [show ((6 : Nat) : Int) = 6 from rfl] at c1
  have b1 : (!true) = false := rfl
  have b2 : (!false) = true := rfl
  refine spec_of_ev (fn := Try.f57) DX_ok 3000 Try.func57 rfl rfl (Nat.le_of_ble_eq_true rfl) ?_
  simp (maxSteps := 4000000) -implicitDefEqProofs only [Try.f57, go_sem, vA]
  refine .all _ _ (c1.lift0 _ (by simp only [go_sem]) (by simp only [go_sem])) ?_
  cases B with
  | false =>
    rw [if_pos rfl] at hR
    subst hR
    simp (maxSteps := 4000000) -implicitDefEqProofs only [go_sem, b2, Option.some.injEq, forall_eq', and_true, true_and, Bool.not_true, Bool.not_false, decide_true, Nat.reduceAdd, Nat.reduceSub, Nat.reduceLT, Nat.reduceLeDiff, Nat.reduceEqDiff, ↓reduceIte]
    exact (Wk.forget (by (simp only [go_sem]) <;> trivial) (by simp only [go_sem]))
  | true =>
  rw [if_neg (by simp)] at hR
  have c2 := c2 rfl
  have hl := hl rfl
  simp (maxSteps := 4000000) -implicitDefEqProofs only [go_sem, b1, Option.some.injEq, forall_eq', and_true, true_and, Bool.not_true, Bool.not_false, decide_true, Nat.reduceAdd, Nat.reduceSub, Nat.reduceLT, Nat.reduceLeDiff, Nat.reduceEqDiff, ↓reduceIte]
  refine ecallN _ _ c2 (by simp only [go_sem]) ?_
  by_cases h : 3000 < W.length
  · have f2 : decide (3000 < (W.length : Int)) = true := by simp; omega
    have h' : 3000 < X.length := by rw [← hb]; exact h
    rw [if_pos h'] at hR
    subst hR
    simp (maxSteps := 4000000) -implicitDefEqProofs only [go_sem, f2, Option.some.injEq, forall_eq', and_true, true_and, Bool.not_true, Bool.not_false, decide_true, Nat.reduceAdd, Nat.reduceSub, Nat.reduceLT, Nat.reduceLeDiff, Nat.reduceEqDiff, ↓reduceIte]
    exact (Wk.forget (by (simp only [go_sem]) <;> trivial) (by simp only [go_sem]))
  · have f2 : decide (3000 < (W.length : Int)) = false := by simp; omega
    have h' : ¬ 3000 < X.length := by rw [← hb]; exact h
    rw [if_neg h'] at hR
    subst hR
    simp (maxSteps := 4000000) -implicitDefEqProofs only [go_sem, f2, Option.some.injEq, forall_eq', and_true, true_and, Bool.not_true, Bool.not_false, decide_true, Nat.reduceAdd, Nat.reduceSub, Nat.reduceLT, Nat.reduceLeDiff, Nat.reduceEqDiff, ↓reduceIte]
    exact (Wk.forget (by (simp only [go_sem]) <;> trivial) (by simp only [go_sem]))
theorem encode_ref (v : Vl) (hv : FitW v) : Spec Try.prog 41 [vA v] [] (.tup [.d (.sl ((encP v).1.map bY)), .d (.int .i64 (encP v).2)]) [] := by
  have c1 := check_ref v hv
  have c2 := bytes_ref 6 (by omega) v hv
  have hs := byt_small v
  generalize hR : encP v = R at c1 ⊢
  rw [encP_eq] at hR
  generalize bytR v = W at c2 hs
  generalize encV v = X at hs hR
  generalize rightP 6 v = B at c2 hR
  have hc : (R = ([], 8)) ∨ (R = ([], 4)) ∨ (R = (W, 0) ∧ B = true) := by
    rw [← hR]
    cases B with
    | false => exact .inl rfl
    | true =>
      rw [if_neg (by simp)]
      by_cases h : 3000 < X.length
      · rw [if_pos h]; exact .inr (.inl rfl)
      · rw [if_neg h]; exact .inr (.inr ⟨by rw [hs (by omega)], rfl⟩)
  obtain ⟨k, n, b, l⟩ := v
  simp only [vA] at c1 c2
  have z8 : ((8 : Int) != 0) = true := rfl
  have z4 : ((4 : Int) != 0) = true := rfl
  have z0 : ((0 : Int) != 0) = false := rfl
  refine spec_of_ev (fn := Try.f41) DX_ok 3000 Try.func41 rfl rfl (Nat.le_of_ble_eq_true rfl) ?_
  simp (maxSteps := 4000000) -implicitDefEqProofs only [Try.f41, go_sem, vA]
  refine .all _ _ (c1.lift0 _ (by simp only [go_sem]) (by simp only [go_sem])) ?_
  rcases hc with hc | hc | hc
  · subst hc
    simp (maxSteps := 4000000) -implicitDefEqProofs only [go_sem, z8, Option.some.injEq, forall_eq', and_true, true_and, Bool.not_true, Bool.not_false, decide_true, Nat.reduceAdd, Nat.reduceSub, Nat.reduceLT, Nat.reduceLeDiff, Nat.reduceEqDiff, ↓reduceIte]
    refine .all _ _ (c1.lift0 _ (by simp only [go_sem]) (by simp only [go_sem])) ?_
    simp (maxSteps := 4000000) -implicitDefEqProofs only [go_sem, Nat.reduceAdd, Nat.reduceSub, Nat.reduceLT, Nat.reduceLeDiff, Nat.reduceEqDiff, ↓reduceIte]
    exact wk_dat (by simp only [go_sem]; rfl) (by rfl) (by simp only [go_sem])
  · subst hc
    simp (maxSteps := 4000000) -implicitDefEqProofs only [go_sem, z4, Option.some.injEq, forall_eq', and_true, true_and, Bool.not_true, Bool.not_false, decide_true, Nat.reduceAdd, Nat.reduceSub, Nat.reduceLT, Nat.reduceLeDiff, Nat.reduceEqDiff, ↓reduceIte]
    refine .all _ _ (c1.lift0 _ (by simp only [go_sem]) (by simp only [go_sem])) ?_
    simp (maxSteps := 4000000) -implicitDefEqProofs only [go_sem, Nat.reduceAdd, Nat.reduceSub, Nat.reduceLT, Nat.reduceLeDiff, Nat.reduceEqDiff, ↓reduceIte]
    exact wk_dat (by simp only [go_sem]; rfl) (by rfl) (by simp only [go_sem])
  · have c2 := c2 hc.2
    have hc := hc.1
    subst hc
    simp (maxSteps := 4000000) -implicitDefEqProofs only [go_sem, z0, Option.some.injEq, forall_eq', and_true, true_and, Bool.not_true, Bool.not_false, decide_true, Nat.reduceAdd, Nat.reduceSub, Nat.reduceLT, Nat.reduceLeDiff, Nat.reduceEqDiff, ↓reduceIte]
    refine ecallN _ _ c2 (by simp only [go_sem]) ?_
    simp (maxSteps := 4000000) -implicitDefEqProofs only [go_sem, Nat.reduceAdd, Nat.reduceSub, Nat.reduceLT, Nat.reduceLeDiff, Nat.reduceEqDiff, ↓reduceIte]
    exact wk_dat (by simp only [go_sem]; rfl) (by rfl) (by simp only [go_sem])
end Go.AX.Co
/- The order of values, by the program. -/
set_option maxHeartbeats 8000000
set_option linter.unusedVariables false
set_option linter.unusedSimpArgs false
set_option maxRecDepth 20000
namespace Go.AX.Co
open Go.Proofs Go.RowKit Go.IntWalk
def cmpI (x y : Int) : Int := if x < y then -1 else if y < x then 1 else 0
def first0 : List Int → Int
  | [] => 0
  | x :: r => if x = 0 then first0 r else x
mutual
/-- the order of two values -/
def ordV : Vl → Vl → Int
  | .mk k n b l, .mk k' n' b' l' => first0 [cmpI k k', cmpI n n', cmpB b b', ordL l l']
def ordL : List Vl → List Vl → Int
  | [], [] => 0
  | [], _ :: _ => -1
  | _ :: _, [] => 1
  | x :: a, y :: b => if ordV x y = 0 then ordL a b else ordV x y
end
/-- a value all of whose bytes are bytes -/
inductive FitB : Vl → Prop where
  | mk (k n : Int) (b : List Int) (l : List Vl) (hk : 0 ≤ k ∧ k ≤ 255) (hn : -9223372036854775808 ≤ n ∧ n ≤ 9223372036854775807) (hbb : Bytes b) (hb : b.length ≤ 900000) (hl : l.length ≤ 900000) (h : ∀ x, x ∈ l → FitB x) : FitB (.mk k n b l)
def iI (n : Int) : List D := [.int .i64 n]
attribute [go_sem] iI
end Go.AX.Co

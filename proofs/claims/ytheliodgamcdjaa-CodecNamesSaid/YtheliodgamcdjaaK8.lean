/- bytes.Compare, called with bytes. -/
import Derived.Test.YtheliodgamcdjaaK7
import Derived.Laws.Externs
import Derived.Lib.Bytealg
set_option maxHeartbeats 8000000
set_option linter.unusedVariables false
set_option linter.unusedSimpArgs false
set_option maxRecDepth 20000
namespace Go.AX.Co
open Go.Proofs Go.RowKit Go.IntWalk
theorem compare_calls (v1 v2 r : Value) (w : World) (h : (Extern.BytealgCompare.compare #[v1, v2]).run Try.prog w = .ok r w) :
    Calls Try.prog 56 #[v1, v2] w fun e w' => e = .returned r ∧ w' = w := by
  go_enter Try.func56, Try.f56
  go_wp2
  rw [run_callFunc_extern Try.func62 (by kernel_rfl) (by kernel_rfl) (by kernel_rfl) (e := Extern.BytealgCompare.compare) (by kernel_rfl), h]
  simp only [Result.andThen]
  rw [Oper.upon_value]
  go_wp2
  go_ret
  exact ⟨rfl, rfl⟩
/-- the order of two rows of bytes -/
def cmpB : List Int → List Int → Int
  | [], [] => 0
  | [], _ :: _ => -1
  | _ :: _, [] => 1
  | x :: a, y :: b => if x < y then -1 else if y < x then 1 else cmpB a b
def u8s (l : List Int) : List UInt8 := l.map fun x => x.toNat.toUInt8
theorem cmpB_eq : ∀ (a b : List Int), Bytes a → Bytes b → Lib.compareBytes (u8s a) (u8s b) = cmpB a b
  | [], [], _, _ => rfl
  | [], _ :: _, _, _ => rfl
  | _ :: _, [], _, _ => rfl
  | x :: a, y :: b, ha, hb => by
    have ih := cmpB_eq a b (fun e he => ha e (by simp [he])) (fun e he => hb e (by simp [he]))
    have hx := ha x (by simp)
    have hy := hb y (by simp)
    have lt : ∀ p q : Int, 0 ≤ p ∧ p ≤ 255 → 0 ≤ q ∧ q ≤ 255 → (p.toNat.toUInt8 < q.toNat.toUInt8 ↔ p < q) := fun p q hp hq => by
      rw [UInt8.lt_iff_toNat_lt]
      have e1 : p.toNat.toUInt8.toNat = p.toNat := by simp; omega
      have e2 : q.toNat.toUInt8.toNat = q.toNat := by simp; omega
      rw [e1, e2]; omega
    unfold u8s at ih ⊢
    simp only [List.map_cons, Lib.compareBytes, cmpB]
    by_cases h1 : x < y
    · rw [if_pos h1, if_pos ((lt x y hx hy).2 h1)]
    · rw [if_neg h1, if_neg (fun h => h1 ((lt x y hx hy).1 h))]
      by_cases h2 : y < x
      · rw [if_pos h2, if_pos ((lt y x hy hx).2 h2)]
      · rw [if_neg h2, if_neg (fun h => h2 ((lt y x hy hx).1 h))]
        exact ih
theorem load_bytes {P : Program} {w : World} {h : Snap} (hs : ∀ b o v, h b o = some v → w.cell? ⟨b, o, none⟩ = some v) : ∀ (l : List Int) (A : Addr) (sz k : Nat) (acc : ByteArray), DRows h (l.map bY) (some A) sz k →
    (Extern.Bytes.loadBytes (A.add k) l.length acc).run P w = .ok (ByteArray.mk (acc.data ++ (u8s l).toArray)) w
  | [], A, sz, k, acc, _ => by simp [Extern.Bytes.loadBytes, u8s]
  | x :: l, A, sz, k, acc, H => by
    simp only [List.map_cons, bY, DRows, DCells, DR] at H
    obtain ⟨h1, ⟨⟨a, v, e1, e2, e3, e4⟩, _⟩, h3⟩ := H
    simp at h1 e1
    subst e1
    subst h1
    have hc := hs _ _ _ e3
    have hl : (load (A.add k)).run P w = .ok (.int .u8 x) w := by
      have ea : A.add k = ⟨A.block, A.off + k, none⟩ := by rw [addr_add' e2]
      rw [ea, run_load, hc, e4]
    have ih := load_bytes (P := P) hs l A 1 (k + 1) (acc.push x.toNat.toUInt8) h3
    rw [List.length_cons, Extern.Bytes.loadBytes]
    have ea : (A.add k).add 1 = A.add (k + 1) := by rw [addr_add' e2, addr_add' e2, addr_add' (by rfl)]; rfl
    simp only [Sem.run_bind, hl, Result.andThen, ea, ih]
    simp [u8s, ByteArray.push]
theorem bytes_load {P : Program} {w : World} {h : Snap} (hs : ∀ b o v, h b o = some v → w.cell? ⟨b, o, none⟩ = some v) {l : List Int} {v : Value} (H : DR h (.sl (l.map bY)) v) :
    (Extern.Bytes.bytesOf v).run P w = .ok (ByteArray.mk (u8s l).toArray) w := by
  simp only [DR, List.length_map] at H
  obtain ⟨A, c, sz, rfl, _, _, h3, h4⟩ := H
  cases A with
  | none =>
    have : l = [] := by simpa using h3 rfl
    subst this
    rfl
  | some a =>
    have := load_bytes (P := P) hs l a sz 0 .empty h4
    simp only [Extern.Bytes.bytesOf]
    rw [show a.add 0 = a by simp [Addr.add]] at this
    rw [this]
    have e0 : ByteArray.empty.data = #[] := rfl
    rw [e0, Array.empty_append]
theorem compare_own (a b : List Int) (ha : Bytes a) (hb : Bytes b) : Spec Try.prog 56 [.d (.sl (a.map bY)), .d (.sl (b.map bY))] [] (.d (.int .i64 (cmpB a b))) [] := by
  refine ⟨⟨_, Try.func56, by rfl, by rfl⟩, fun c vs H r => ?_⟩
  obtain ⟨vs⟩ := vs
  obtain ⟨v1, q, rfl, h1, h2⟩ := ARs_cons_left r
  obtain ⟨v2, q, rfl, h2', h3⟩ := ARs_cons_left h2
  clear h2
  have h2 := h2'
  clear h2'
  have := ARs_nil_left h3
  subst this
  simp only [AR] at h1 h2
  refine (compare_calls v1 v2 (.int .i64 (cmpB a b)) c.w ?_).mono ?_
  · show Sem.run _ (do pure (goInt (Extern.BytealgCompare.cmp (← Extern.Bytes.bytesOf v1) (← Extern.Bytes.bytesOf v2)))) _ = _
    simp only [Sem.run_bind, bytes_load H.snap h1, bytes_load H.snap h2, Result.andThen, Sem.run_pure]
    rw [Lib.cmp_eq, cmpB_eq a b ha hb]
    rfl
  · rintro e w' ⟨rfl, rfl⟩
    exact ⟨c, _, rfl, rfl, by simp [AR, DR], Nxt.refl H⟩
end Go.AX.Co
/- The reference's writer: Fold, Code. -/
set_option maxHeartbeats 8000000
set_option linter.unusedVariables false
set_option linter.unusedSimpArgs false
set_option maxRecDepth 20000
namespace Go.AX.Co
open Go.Proofs Go.RowKit Go.IntWalk
mutual
/-- the bytes of a value, by the reference -/
def bytR : Vl → List Int
  | .mk k n b l => if k = 1 then [k] ++ codeF 10 (foldN n) else if k = 2 then [k] ++ codeF 10 b.length ++ b else bytRL l ([k] ++ codeF 10 l.length)
def bytRL : List Vl → List Int → List Int
  | [], p => p
  | x :: r, p => if 3000 < p.length then p else bytRL r (p ++ bytR x)
end
theorem right_all {d : Nat} {k n : Int} {b : List Int} {l : List Vl} (h : rightP (d + 1) (.mk k n b l) = true) (k1 : ¬ k = 1) (k2 : ¬ k = 2) : k = 3 ∧ ∀ x ∈ l, rightP d x = true := by
  rw [rightP, if_neg k1, if_neg k2] at h
  by_cases k3 : k = 3
  · rw [if_pos k3] at h
    simp only [Bool.and_eq_true, Bool.not_eq_true', List.any_eq_false] at h
    exact ⟨k3, fun x hx => by simpa using h.2 x hx⟩
  · rw [if_neg k3] at h; cases h
end Go.AX.Co
/- The reference's writer: Bytes. -/
set_option maxHeartbeats 8000000
set_option linter.unusedVariables false
set_option linter.unusedSimpArgs false
set_option maxRecDepth 20000
namespace Go.AX.Co
open Go.Proofs Go.RowKit Go.IntWalk
end Go.AX.Co
/- The reference's writer: kinds, Check, Size, Encode. -/
set_option maxHeartbeats 8000000
set_option linter.unusedVariables false
set_option linter.unusedSimpArgs false
set_option maxRecDepth 20000
namespace Go.AX.Co
open Go.Proofs Go.RowKit Go.IntWalk
end Go.AX.Co
/- Both writers write alike; the reference's Check, Size, Encode. -/
set_option maxHeartbeats 8000000
set_option linter.unusedVariables false
set_option linter.unusedSimpArgs false
set_option maxRecDepth 20000
namespace Go.AX.Co
open Go.Proofs Go.RowKit Go.IntWalk
mutual
/-- all bytes of a value -/
def encV : Vl → List Int
  | .mk k n b l => if k = 1 then k :: codeF 10 (foldN n) else if k = 2 then k :: (codeF 10 b.length ++ b) else k :: (codeF 10 l.length ++ encL l)
def encL : List Vl → List Int
  | [] => []
  | x :: r => encV x ++ encL r
end
mutual
theorem wr_small : ∀ (v : Vl) (p : List Int), (p ++ encV v).length ≤ 3000 → wrP v p = p ++ encV v
  | .mk k n b l, p, h => by
    rw [wrP, encV] at *
    by_cases k1 : k = 1
    · rw [if_pos k1, if_pos k1]; simp
    rw [if_neg k1, if_neg k1] at *
    by_cases k2 : k = 2
    · rw [if_pos k2, if_pos k2]; simp
    rw [if_neg k2, if_neg k2] at *
    have := wrL_small l (p ++ [k] ++ codeF 10 l.length) (by simpa [Nat.add_assoc] using h)
    rw [this]; simp
theorem wrL_small : ∀ (l : List Vl) (p : List Int), (p ++ encL l).length ≤ 3000 → wrL l p = p ++ encL l
  | [], p, _ => by rw [wrL, encL, List.append_nil]
  | x :: r, p, h => by
    rw [encL] at h ⊢
    rw [wrL, if_neg (by simp at h; omega), wr_small x p (by simp at h ⊢; omega), wrL_small r _ (by simpa [Nat.add_assoc] using h), List.append_assoc]
end
mutual
theorem wr_great : ∀ (v : Vl) (p : List Int), 3000 < (p ++ encV v).length → 3000 < (wrP v p).length
  | .mk k n b l, p, h => by
    rw [wrP, encV] at *
    by_cases k1 : k = 1
    · rw [if_pos k1] at *; simpa [Nat.add_assoc, Nat.add_comm, Nat.add_left_comm] using h
    rw [if_neg k1] at *
    by_cases k2 : k = 2
    · rw [if_pos k2] at *; simpa [Nat.add_assoc, Nat.add_comm, Nat.add_left_comm] using h
    rw [if_neg k2] at *
    exact wrL_great l (p ++ [k] ++ codeF 10 l.length) (by simpa [Nat.add_assoc, Nat.add_comm, Nat.add_left_comm] using h)
theorem wrL_great : ∀ (l : List Vl) (p : List Int), 3000 < (p ++ encL l).length → 3000 < (wrL l p).length
  | [], p, h => by rw [wrL]; rw [encL, List.append_nil] at h; exact h
  | x :: r, p, h => by
    rw [encL] at h
    rw [wrL]
    split
    · assumption
    next hp =>
      by_cases h2 : 3000 < (p ++ encV x).length
      · have := wr_great x p h2
        have h3 : ∀ (r : List Vl) (q : List Int), 3000 < q.length → 3000 < (wrL r q).length := fun r q hq => by
          cases r with
          | nil => rw [wrL]; exact hq
          | cons y r => rw [wrL, if_pos hq]; exact hq
        exact h3 r _ this
      · rw [wr_small x p (by omega)]
        exact wrL_great r _ (by rw [List.append_assoc]; exact h)
end
mutual
theorem byt_small : ∀ (v : Vl), (encV v).length ≤ 3000 → bytR v = encV v
  | .mk k n b l, h => by
    rw [bytR, encV] at *
    by_cases k1 : k = 1
    · rw [if_pos k1, if_pos k1]; simp
    rw [if_neg k1, if_neg k1] at *
    by_cases k2 : k = 2
    · rw [if_pos k2, if_pos k2]; simp
    rw [if_neg k2, if_neg k2] at *
    have := bytL_small l ([k] ++ codeF 10 l.length) (by simp at h ⊢; omega)
    rw [this]; simp
theorem bytL_small : ∀ (l : List Vl) (p : List Int), (p ++ encL l).length ≤ 3000 → bytRL l p = p ++ encL l
  | [], p, _ => by rw [bytRL, encL, List.append_nil]
  | x :: r, p, h => by
    rw [encL] at h ⊢
    rw [bytRL, if_neg (by simp at h; omega), byt_small x (by simp at h ⊢; omega), bytL_small r _ (by simpa [Nat.add_assoc] using h), List.append_assoc]
end
theorem bytRL_ge (r : List Vl) : ∀ q : List Int, 3000 < q.length → 3000 < (bytRL r q).length := fun q hq => by
  cases r with
  | nil => rw [bytRL]; exact hq
  | cons y r => rw [bytRL, if_pos hq]; exact hq
mutual
theorem byt_great : ∀ (v : Vl), 3000 < (encV v).length → 3000 < (bytR v).length
  | .mk k n b l, h => by
    rw [bytR, encV] at *
    by_cases k1 : k = 1
    · rw [if_pos k1] at *; simpa [Nat.add_assoc, Nat.add_comm, Nat.add_left_comm] using h
    rw [if_neg k1] at *
    by_cases k2 : k = 2
    · rw [if_pos k2] at *; simpa [Nat.add_assoc, Nat.add_comm, Nat.add_left_comm] using h
    rw [if_neg k2] at *
    exact bytL_great l ([k] ++ codeF 10 l.length) (by simp at h ⊢; omega)
theorem bytL_great : ∀ (l : List Vl) (p : List Int), 3000 < (p ++ encL l).length → 3000 < (bytRL l p).length
  | [], p, h => by rw [bytRL]; rw [encL, List.append_nil] at h; exact h
  | x :: r, p, h => by
    rw [encL] at h
    rw [bytRL]
    split
    · assumption
    next hp =>
      by_cases h2 : 3000 < (encV x).length
      · exact bytRL_ge r _ (by have := byt_great x h2; rw [List.length_append]; omega)
      · rw [byt_small x (by omega)]
        exact bytL_great r _ (by rw [List.append_assoc]; exact h)
end
theorem encP_eq (v : Vl) : encP v = if rightP 6 v = false then ([], 8) else if 3000 < (encV v).length then ([], 4) else (encV v, 0) := by
  unfold encP
  by_cases h : 3000 < (encV v).length
  · rw [if_pos h, if_pos (wr_great v [] h)]
  · have := wr_small v [] (by simpa using h)
    rw [List.nil_append] at this
    rw [this]
end Go.AX.Co
/- The order of values, by the program. -/
set_option maxHeartbeats 8000000
set_option linter.unusedVariables false
set_option linter.unusedSimpArgs false
set_option maxRecDepth 20000
namespace Go.AX.Co
open Go.Proofs Go.RowKit Go.IntWalk
def cmpI (x y : Int) : Int := if x < y then -1 else if y < x then 1 else 0
def first0 : List Int → Int
  | [] => 0
  | x :: r => if x = 0 then first0 r else x
mutual
/-- the order of two values -/
def ordV : Vl → Vl → Int
  | .mk k n b l, .mk k' n' b' l' => first0 [cmpI k k', cmpI n n', cmpB b b', ordL l l']
def ordL : List Vl → List Vl → Int
  | [], [] => 0
  | [], _ :: _ => -1
  | _ :: _, [] => 1
  | x :: a, y :: b => if ordV x y = 0 then ordL a b else ordV x y
end
/-- a value all of whose bytes are bytes -/
inductive FitB : Vl → Prop where
  | mk (k n : Int) (b : List Int) (l : List Vl) (hk : 0 ≤ k ∧ k ≤ 255) (hn : -9223372036854775808 ≤ n ∧ n ≤ 9223372036854775807) (hbb : Bytes b) (hb : b.length ≤ 900000) (hl : l.length ≤ 900000) (h : ∀ x, x ∈ l → FitB x) : FitB (.mk k n b l)
theorem FitB.fitW {v : Vl} (h : FitB v) : FitW v := by
  induction h with
  | mk k n b l hk hn hbb hb hl hx ih => exact .mk k n b l hn hb hl ih
theorem isNaN8_own (x : Int) : Spec Try.prog 60 [.d (.int .u8 x)] [] (.d (.bool false)) [] := by
  have zn : (x != x) = false := by simp
  refine spec_of_ev (fn := Try.f60) DX_ok 3000 Try.func60 rfl rfl (Nat.le_of_ble_eq_true rfl) ?_
  simp (maxSteps := 4000000) -implicitDefEqProofs only [Try.f60, go_sem, zn]
  exact wk_bool rfl
theorem isNaN64_own (x : Int) : Spec Try.prog 61 [.d (.int .i64 x)] [] (.d (.bool false)) [] := by
  have zn : (x != x) = false := by simp
  refine spec_of_ev (fn := Try.f61) DX_ok 3000 Try.func61 rfl rfl (Nat.le_of_ble_eq_true rfl) ?_
  simp (maxSteps := 4000000) -implicitDefEqProofs only [Try.f61, go_sem, zn]
  exact wk_bool rfl
theorem compare8_own (x y : Int) : Spec Try.prog 54 [.d (.int .u8 x), .d (.int .u8 y)] [] (.d (.int .i64 (cmpI x y))) [] := by
  unfold cmpI
  refine spec_of_ev (fn := Try.f54) DX_ok 3000 Try.func54 rfl rfl (Nat.le_of_ble_eq_true rfl) ?_
  simp (maxSteps := 4000000) -implicitDefEqProofs only [Try.f54, go_sem]
  refine ecall0 _ (isNaN8_own x) (by simp only [go_sem]) (by simp only [go_sem]) ?_
  simp (maxSteps := 4000000) -implicitDefEqProofs only [go_sem, Nat.reduceAdd, Nat.reduceSub, Nat.reduceLT, Nat.reduceLeDiff, Nat.reduceEqDiff, ↓reduceIte]
  refine ecall0 _ (isNaN8_own y) (by simp only [go_sem]) (by simp only [go_sem]) ?_
  by_cases h1 : x < y
  · have d1 : decide (x < y) = true := decide_eq_true h1
    rw [if_pos h1]
    simp (maxSteps := 4000000) -implicitDefEqProofs only [go_sem, d1, Option.some.injEq, forall_eq', and_true, true_and, Bool.not_true, Bool.not_false, decide_true, Nat.reduceAdd, Nat.reduceSub, Nat.reduceLT, Nat.reduceLeDiff, Nat.reduceEqDiff, ↓reduceIte]
    exact (Wk.forget (by (simp only [go_sem]) <;> trivial) (by simp only [go_sem]))
  have d1 : decide (x < y) = false := decide_eq_false h1
  rw [if_neg h1]
  by_cases h2 : y < x
  · have d2 : decide (y < x) = true := decide_eq_true h2
    rw [if_pos h2]
    simp (maxSteps := 4000000) -implicitDefEqProofs only [go_sem, d1, d2, Option.some.injEq, forall_eq', and_true, true_and, Bool.not_true, Bool.not_false, decide_true, Nat.reduceAdd, Nat.reduceSub, Nat.reduceLT, Nat.reduceLeDiff, Nat.reduceEqDiff, ↓reduceIte]
    exact (Wk.forget (by (simp only [go_sem]) <;> trivial) (by simp only [go_sem]))
  have d2 : decide (y < x) = false := decide_eq_false h2
  rw [if_neg h2]
  simp (maxSteps := 4000000) -implicitDefEqProofs only [go_sem, d1, d2, Option.some.injEq, forall_eq', and_true, true_and, Bool.not_true, Bool.not_false, decide_true, Nat.reduceAdd, Nat.reduceSub, Nat.reduceLT, Nat.reduceLeDiff, Nat.reduceEqDiff, ↓reduceIte]
  exact (Wk.forget (by (simp only [go_sem]) <;> trivial) (by simp only [go_sem]))
theorem compare64_own (x y : Int) : Spec Try.prog 55 [.d (.int .i64 x), .d (.int .i64 y)] [] (.d (.int .i64 (cmpI x y))) [] := by
  unfold cmpI
  refine spec_of_ev (fn := Try.f55) DX_ok 3000 Try.func55 rfl rfl (Nat.le_of_ble_eq_true rfl) ?_
  simp (maxSteps := 4000000) -implicitDefEqProofs only [Try.f55, go_sem]
  refine ecall0 _ (isNaN64_own x) (by simp only [go_sem]) (by simp only [go_sem]) ?_
  simp (maxSteps := 4000000) -implicitDefEqProofs only [go_sem, Nat.reduceAdd, Nat.reduceSub, Nat.reduceLT, Nat.reduceLeDiff, Nat.reduceEqDiff, ↓reduceIte]
  refine ecall0 _ (isNaN64_own y) (by simp only [go_sem]) (by simp only [go_sem]) ?_
  by_cases h1 : x < y
  · have d1 : decide (x < y) = true := decide_eq_true h1
    rw [if_pos h1]
    simp (maxSteps := 4000000) -implicitDefEqProofs only [go_sem, d1, Option.some.injEq, forall_eq', and_true, true_and, Bool.not_true, Bool.not_false, decide_true, Nat.reduceAdd, Nat.reduceSub, Nat.reduceLT, Nat.reduceLeDiff, Nat.reduceEqDiff, ↓reduceIte]
    exact (Wk.forget (by (simp only [go_sem]) <;> trivial) (by simp only [go_sem]))
  have d1 : decide (x < y) = false := decide_eq_false h1
  rw [if_neg h1]
  by_cases h2 : y < x
  · have d2 : decide (y < x) = true := decide_eq_true h2
    rw [if_pos h2]
    simp (maxSteps := 4000000) -implicitDefEqProofs only [go_sem, d1, d2, Option.some.injEq, forall_eq', and_true, true_and, Bool.not_true, Bool.not_false, decide_true, Nat.reduceAdd, Nat.reduceSub, Nat.reduceLT, Nat.reduceLeDiff, Nat.reduceEqDiff, ↓reduceIte]
    exact (Wk.forget (by (simp only [go_sem]) <;> trivial) (by simp only [go_sem]))
  have d2 : decide (y < x) = false := decide_eq_false h2
  rw [if_neg h2]
  simp (maxSteps := 4000000) -implicitDefEqProofs only [go_sem, d1, d2, Option.some.injEq, forall_eq', and_true, true_and, Bool.not_true, Bool.not_false, decide_true, Nat.reduceAdd, Nat.reduceSub, Nat.reduceLT, Nat.reduceLeDiff, Nat.reduceEqDiff, ↓reduceIte]
  exact (Wk.forget (by (simp only [go_sem]) <;> trivial) (by simp only [go_sem]))
def iI (n : Int) : List D := [.int .i64 n]
attribute [go_sem] iI
theorem or_own (l : List Int) (hl : l.length ≤ 1000) : Spec Try.prog 53 [.d (.sl (l.map iI))] [] (.d (.int .i64 (first0 l))) [] := by
  refine spec_of_ev (fn := Try.f53) DX_ok 3000 Try.func53 rfl rfl (Nat.le_of_ble_eq_true rfl) ?_
  simp (maxSteps := 4000000) -implicitDefEqProofs only [Try.f53, go_sem]
  refine eloop (S := Nat) (fun i => mkE 18 [(3, .d (.int .i64 0)), (6, .d (.sl (l.map iI))), (7, .d (.int .i64 l.length)), (8, .d (.int .i64 i))]) (fun i => []) (fun i => i ≤ l.length ∧ first0 l = first0 (l.drop i)) (fun i => l.length - i) 0 ⟨by omega, rfl⟩ (Wk.sub (by (simp only [go_sem]) <;> trivial)) ?_
  intro i hs
  have h1 := hs.1
  have h2 := hs.2
  rw [h2]
  rcases Nat.lt_or_ge i l.length with hi | hi
  case inr =>
    have f1 : decide ((i : Int) < l.length) = false := by simp; omega
    rw [List.drop_eq_nil_of_le hi, first0]
    simp (maxSteps := 4000000) -implicitDefEqProofs only [go_sem, f1, Option.some.injEq, forall_eq', and_true, true_and, Bool.not_true, Bool.not_false, decide_true, Nat.reduceAdd, Nat.reduceSub, Nat.reduceLT, Nat.reduceLeDiff, Nat.reduceEqDiff, ↓reduceIte]
    exact (Wk.forget (by (simp only [go_sem]) <;> trivial) (by simp only [go_sem]))
  have f1 : decide ((i : Int) < l.length) = true := by simp; omega
  obtain ⟨x, hxi⟩ : ∃ x, l[i]? = some x := ⟨l[i]'hi, List.getElem?_eq_getElem _⟩
  have hdr : l.drop i = x :: l.drop (i + 1) := by rw [List.drop_eq_getElem_cons hi, (List.getElem?_eq_some_iff.1 hxi).2]
  have n1 : (0 ≤ (i : Int) ∧ (i : Int) < l.length) = True := eq_true (by omega)
  have n2 : (i < l.length) = True := eq_true hi
  have w1 : IntKind.i64.wrap ((i : Int) + 1) = ((i + 1 : Nat) : Int) := by rw [i64_in _ (by omega)]; simp
  rw [hdr, first0]
  by_cases hz : x = 0
  · have z : (x != 0) = false := by simp [hz]
    rw [if_pos hz]
    simp (maxSteps := 4000000) -implicitDefEqProofs only [go_sem, f1, n1, n2, hxi, z, w1, Option.some.injEq, forall_eq', and_true, true_and, Bool.not_true, Bool.not_false, decide_true, Nat.reduceAdd, Nat.reduceSub, Nat.reduceLT, Nat.reduceLeDiff, Nat.reduceEqDiff, ↓reduceIte]
    exact .mk (i + 1) ⟨by omega, rfl⟩ (by omega) (Wk.sub (by (simp only [go_sem]) <;> trivial))
  · have z : (x != 0) = true := by simp [hz]
    rw [if_neg hz]
    simp (maxSteps := 4000000) -implicitDefEqProofs only [go_sem, f1, n1, n2, hxi, z, Option.some.injEq, forall_eq', and_true, true_and, Bool.not_true, Bool.not_false, decide_true, Nat.reduceAdd, Nat.reduceSub, Nat.reduceLT, Nat.reduceLeDiff, Nat.reduceEqDiff, ↓reduceIte]
    exact (Wk.forget (by (simp only [go_sem]) <;> trivial) (by simp only [go_sem]))
theorem compareFunc_own (l l' : List Vl) (f : FuncId) (hl : l.length ≤ 1000000) (hl' : l'.length ≤ 1000000) (h : ∀ x ∈ l, ∀ y ∈ l', Spec Try.prog f [vA x, vA y] [] (.d (.int .i64 (ordV x y))) []) :
    Spec Try.prog 57 [.d (.sl (l.map vD)), .d (.sl (l'.map vD)), .fn f []] [] (.d (.int .i64 (ordL l l'))) [] := by
  refine spec_of_ev (fn := Try.f57) DX_ok 3000 Try.func57 rfl rfl (Nat.le_of_ble_eq_true rfl) ?_
  simp (maxSteps := 4000000) -implicitDefEqProofs only [Try.f57, go_sem]
  refine eloop (S := Nat) (fun i => mkE 39 [(0, .d (.sl (l.map vD))), (1, .d (.sl (l'.map vD))), (2, .fn f []), (11, .d (.sl (l.map vD))), (12, .d (.int .i64 l.length)), (13, .d (.int .i64 i))]) (fun i => []) (fun i => i ≤ l.length ∧ i ≤ l'.length ∧ ordL l l' = ordL (l.drop i) (l'.drop i)) (fun i => l.length - i) 0 ⟨by omega, by omega, rfl⟩ (Wk.sub (by (simp only [go_sem]) <;> trivial)) ?_
  intro i hs
  have h1 := hs.1
  have h1' := hs.2.1
  have h2 := hs.2.2
  rw [h2]
  have dl : decide ((l.length : Int) < l'.length) = decide (l.length < l'.length) := by rw [Bool.eq_iff_iff]; simp
  rcases Nat.lt_or_ge i l.length with hi | hi
  case inr =>
    have f1 : decide ((i : Int) < l.length) = false := by simp; omega
    rw [List.drop_eq_nil_of_le hi]
    by_cases hq : l.length < l'.length
    · rw [decide_eq_true hq] at dl
      obtain ⟨y, hy⟩ : ∃ x, l'[i]? = some x := ⟨l'[i]'(by omega), List.getElem?_eq_getElem _⟩
      have hdr : l'.drop i = y :: l'.drop (i + 1) := by rw [List.drop_eq_getElem_cons (by omega), (List.getElem?_eq_some_iff.1 hy).2]
      rw [hdr, ordL]
      simp (maxSteps := 4000000) -implicitDefEqProofs only [go_sem, f1, dl, Option.some.injEq, forall_eq', and_true, true_and, Bool.not_true, Bool.not_false, decide_true, Nat.reduceAdd, Nat.reduceSub, Nat.reduceLT, Nat.reduceLeDiff, Nat.reduceEqDiff, ↓reduceIte]
      exact (Wk.forget (by (simp only [go_sem]) <;> trivial) (by simp only [go_sem]))
    · rw [decide_eq_false hq] at dl
      rw [List.drop_eq_nil_of_le (by omega), ordL]
      simp (maxSteps := 4000000) -implicitDefEqProofs only [go_sem, f1, dl, Option.some.injEq, forall_eq', and_true, true_and, Bool.not_true, Bool.not_false, decide_true, Nat.reduceAdd, Nat.reduceSub, Nat.reduceLT, Nat.reduceLeDiff, Nat.reduceEqDiff, ↓reduceIte]
      exact (Wk.forget (by (simp only [go_sem]) <;> trivial) (by simp only [go_sem]))
  have f1 : decide ((i : Int) < l.length) = true := by simp; omega
  obtain ⟨x, hxi⟩ : ∃ x, l[i]? = some x := ⟨l[i]'hi, List.getElem?_eq_getElem _⟩
  have hdr : l.drop i = x :: l.drop (i + 1) := by rw [List.drop_eq_getElem_cons hi, (List.getElem?_eq_some_iff.1 hxi).2]
  have n1 : (0 ≤ (i : Int) ∧ (i : Int) < l.length) = True := eq_true (by omega)
  have n2 : (i < l.length) = True := eq_true hi
  have w1 : IntKind.i64.wrap ((i : Int) + 1) = ((i + 1 : Nat) : Int) := by rw [i64_in _ (by omega)]; simp
  rw [hdr]
  have hxm := List.mem_of_getElem? hxi
  rcases Nat.lt_or_ge i l'.length with hi' | hi'
  case inr =>
    have f2 : decide ((l'.length : Int) ≤ i) = true := decide_eq_true (by omega)
    rw [List.drop_eq_nil_of_le hi', ordL]
    obtain ⟨xk, xn, xb, xl⟩ := x
    simp (maxSteps := 4000000) -implicitDefEqProofs only [go_sem, f1, n1, n2, hxi, vD, vDs_eq, f2, Option.some.injEq, forall_eq', and_true, true_and, Bool.not_true, Bool.not_false, decide_true, Nat.reduceAdd, Nat.reduceSub, Nat.reduceLT, Nat.reduceLeDiff, Nat.reduceEqDiff, ↓reduceIte]
    exact (Wk.forget (by (simp only [go_sem]) <;> trivial) (by simp only [go_sem]))
  have f2 : decide ((l'.length : Int) ≤ i) = false := decide_eq_false (by omega)
  obtain ⟨y, hyi⟩ : ∃ x, l'[i]? = some x := ⟨l'[i]'hi', List.getElem?_eq_getElem _⟩
  have hdr' : l'.drop i = y :: l'.drop (i + 1) := by rw [List.drop_eq_getElem_cons hi', (List.getElem?_eq_some_iff.1 hyi).2]
  have n3 : (0 ≤ (i : Int) ∧ (i : Int) < l'.length) = True := eq_true (by omega)
  have n4 : (i < l'.length) = True := eq_true hi'
  have c := h x hxm y (List.mem_of_getElem? hyi)
  rw [hdr', ordL]
  generalize ordV x y = O at c ⊢
  obtain ⟨xk, xn, xb, xl⟩ := x
  obtain ⟨yk, yn, yb, yl⟩ := y
  simp only [vA] at c
  simp (maxSteps := 4000000) -implicitDefEqProofs only [go_sem, f1, n1, n2, n3, n4, hxi, hyi, vD, vDs_eq, f2, Option.some.injEq, forall_eq', and_true, true_and, Bool.not_true, Bool.not_false, decide_true, Nat.reduceAdd, Nat.reduceSub, Nat.reduceLT, Nat.reduceLeDiff, Nat.reduceEqDiff, ↓reduceIte]
  refine .all _ _ (c.lift0 _ (by simp only [go_sem]) (by simp only [go_sem])) ?_
  by_cases hz : O = 0
  · have z : (O != 0) = false := by simp [hz]
    rw [if_pos hz]
    simp (maxSteps := 4000000) -implicitDefEqProofs only [go_sem, z, w1, Option.some.injEq, forall_eq', and_true, true_and, Bool.not_true, Bool.not_false, decide_true, Nat.reduceAdd, Nat.reduceSub, Nat.reduceLT, Nat.reduceLeDiff, Nat.reduceEqDiff, ↓reduceIte]
    exact .mk (i + 1) ⟨by omega, by omega, rfl⟩ (by omega) (Wk.forget (by (simp only [go_sem]) <;> trivial) (by simp only [go_sem]))
  · have z : (O != 0) = true := by simp [hz]
    rw [if_neg hz]
    simp (maxSteps := 4000000) -implicitDefEqProofs only [go_sem, z, Option.some.injEq, forall_eq', and_true, true_and, Bool.not_true, Bool.not_false, decide_true, Nat.reduceAdd, Nat.reduceSub, Nat.reduceLT, Nat.reduceLeDiff, Nat.reduceEqDiff, ↓reduceIte]
    exact (Wk.forget (by (simp only [go_sem]) <;> trivial) (by simp only [go_sem]))
theorem order_own {v : Vl} (hv : FitB v) : ∀ w : Vl, FitB w → Spec Try.prog 40 [vA v, vA w] [] (.d (.int .i64 (ordV v w))) [] := by
  induction hv with
  | mk k n b l hk hn hbb hb hl hx ih =>
  intro w hw
  obtain ⟨k', n', b', l', hk', hn', hbb', hb', hl', hx'⟩ := hw
  have c1 := compare8_own k k'
  have c2 := compare64_own n n'
  have c3 := compare_own b b' hbb hbb'
  have c4 := compareFunc_own l l' 40 (by omega) (by omega) (fun x hxm y hym => ih x hxm y (hx' y hym))
  rw [ordV]
  have c5 := or_own [cmpI k k', cmpI n n', cmpB b b', ordL l l'] (by simp)
  generalize first0 [cmpI k k', cmpI n n', cmpB b b', ordL l l'] = F at c5 ⊢
  simp only [List.map_cons, List.map_nil, iI] at c5
  generalize cmpI k k' = q1 at c1 c5
  generalize cmpI n n' = q2 at c2 c5
  generalize cmpB b b' = q3 at c3 c5
  generalize ordL l l' = q4 at c4 c5
  have c6 := Spec.keep1 (args := [.own 0]) (sz := 1) (es := [[.int .i64 q1], [.int .i64 q2], [.int .i64 q3], [.int .i64 q4]]) c5 (by simp only [go_sem]) (by simp only [go_sem]) (by simp only [go_sem]) rfl
  refine spec_of_ev (fn := Try.f40) DX_ok 3000 Try.func40 rfl rfl (Nat.le_of_ble_eq_true rfl) ?_
  simp (maxSteps := 4000000) -implicitDefEqProofs only [Try.f40, go_sem, vA]
  refine DX.plain (.take 0 false (.take 1 false (.take 2 false (.take 3 false (.take 4 false (.take 5 false (.take 6 false (.take 7 false (.take 8 false (.take 9 false (.take 10 false (.take 11 false (.take 12 false (.take 13 false (.take 14 false (.take 15 false (.take 16 false (.take 17 false (.take 18 false (.take 19 false (.run [20] (fun _ => []) fun _ => (.take 21 false (.take 22 false .done))))))))))))))))))))))) (by kernel_rfl) (by kernel_rfl) Ty.mixed ?_
  simp (maxSteps := 4000000) -implicitDefEqProofs only [go_sem, hk, Option.some.injEq, forall_eq', and_true, true_and, Bool.not_true, Bool.not_false, decide_true, Nat.reduceAdd, Nat.reduceSub, Nat.reduceLT, Nat.reduceLeDiff, Nat.reduceEqDiff, ↓reduceIte]
  refine ⟨_, _, c1.lift0 _ (by simp only [go_sem]) (by simp only [go_sem]), rfl, ?_⟩
  refine ⟨_, _, c2.lift0 _ (by simp only [go_sem]) (by simp only [go_sem]), rfl, ?_⟩
  refine ⟨_, _, c3.lift0 _ (by simp only [go_sem]) (by simp only [go_sem]), rfl, ?_⟩
  refine ⟨_, _, c4.lift0 _ (by simp only [go_sem]) (by simp only [go_sem]), rfl, ?_⟩
  simp (maxSteps := 4000000) -implicitDefEqProofs only [go_sem, Nat.reduceAdd, Nat.reduceSub, Nat.reduceLT, Nat.reduceLeDiff, Nat.reduceEqDiff, ↓reduceIte]
  refine ⟨_, _, c6.at1' 2 (by simp only [go_sem]) (by simp only [go_sem]; omega) (by simp) (by simp only [go_sem]) (by simp only [go_sem]), by simp only [go_sem], ?_⟩
  simp (maxSteps := 4000000) -implicitDefEqProofs only [go_sem, Nat.reduceAdd, Nat.reduceSub, Nat.reduceLT, Nat.reduceLeDiff, Nat.reduceEqDiff, ↓reduceIte]
  exact (Wk.forget (by (simp only [go_sem]) <;> trivial) (by simp only [go_sem]))
end Go.AX.Co

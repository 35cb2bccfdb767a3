/- The order of values, by the reference; Cmp. -/
import Derived.Test.YtheliodgamcdjaaK8
import Derived.KernelRfl
set_option maxHeartbeats 8000000
set_option linter.unusedVariables false
set_option linter.unusedSimpArgs false
set_option maxRecDepth 20000
namespace Go.AX.Co
open Go.Proofs Go.RowKit Go.IntWalk
theorem cmpI_self (x : Int) : cmpI x x = 0 := by unfold cmpI; rw [if_neg (by omega), if_neg (by omega)]
theorem cmpI_ne {x y : Int} (h : x ≠ y) : cmpI x y ≠ 0 := by unfold cmpI; split <;> (try split) <;> omega
theorem cmpB_cons {x y : Int} {a b : List Int} : cmpB (x :: a) (y :: b) = if x = y then cmpB a b else cmpI x y := by
  rw [cmpB]; unfold cmpI
  by_cases h : x = y
  · subst h; rw [if_neg (by omega), if_neg (by omega), if_pos rfl]
  · rw [if_neg h]
    by_cases h1 : x < y
    · rw [if_pos h1, if_pos h1]
    · rw [if_neg h1, if_neg h1, if_pos (by omega), if_pos (by omega)]
/-- what a right value of a kind is like -/
theorem right_kind {d : Nat} {k n : Int} {b : List Int} {l : List Vl} (h : rightP (d + 1) (.mk k n b l) = true) :
    (k = 1 ∧ b = [] ∧ l = []) ∨ (k = 2 ∧ n = 0 ∧ l = []) ∨ (k = 3 ∧ n = 0 ∧ b = [] ∧ ∀ x ∈ l, rightP d x = true) := by
  have ha := right_all h
  rw [rightP] at h
  by_cases k1 : k = 1
  · rw [if_pos k1, decide_eq_true_eq] at h
    exact .inl ⟨k1, List.length_eq_zero_iff.1 (by omega), List.length_eq_zero_iff.1 (by omega)⟩
  rw [if_neg k1] at h
  by_cases k2 : k = 2
  · rw [if_pos k2] at h
    simp only [Bool.and_eq_true, beq_iff_eq, decide_eq_true_eq] at h
    exact .inr (.inl ⟨k2, h.1, List.length_eq_zero_iff.1 h.2⟩)
  rw [if_neg k2] at h
  have := ha k1 k2
  rw [if_pos this.1] at h
  simp only [Bool.and_eq_true, beq_iff_eq, decide_eq_true_eq] at h
  exact .inr (.inr ⟨this.1, h.1.1, List.length_eq_zero_iff.1 h.1.2, this.2⟩)
end Go.AX.Co
/- Cmp, of the program and of the reference. -/
set_option maxHeartbeats 8000000
set_option linter.unusedVariables false
set_option linter.unusedSimpArgs false
set_option maxRecDepth 20000
namespace Go.AX.Co
open Go.Proofs Go.RowKit Go.IntWalk
def cmpP (a b : Vl) : Int × Int := if (encP a).2 ≠ 0 then (0, (encP a).2) else if (encP b).2 ≠ 0 then (0, (encP b).2) else (ordV a b, 0)
theorem cmp_own (a b : Vl) (ha : FitB a) (hb : FitB b) : Spec Try.prog 19 [vA a, vA b] [] (.tup [.d (.int .i64 (cmpP a b).1), .d (.int .i64 (cmpP a b).2)]) [] := by
  have c1 := check_own a ha.fitW
  have c2 := check_own b hb.fitW
  have c3 := order_own ha b hb
  generalize hR : cmpP a b = R
  unfold cmpP at hR
  generalize (encP a).2 = e at c1 hR
  generalize (encP b).2 = f at c2 hR
  generalize ordV a b = o at c3 hR
  obtain ⟨k, n, b, l⟩ := a
  rename_i bb
  obtain ⟨k', n', b', l'⟩ := bb
  simp only [vA] at c1 c2 c3
  refine spec_of_ev (fn := Try.f19) DX_ok 3000 Try.func19 rfl rfl (Nat.le_of_ble_eq_true rfl) ?_
  simp (maxSteps := 4000000) -implicitDefEqProofs only [Try.f19, go_sem, vA]
  refine .all _ _ (c1.lift0 _ (by simp only [go_sem]) (by simp only [go_sem])) ?_
  by_cases h1 : e = 0
  case neg =>
    have z1 : (e != 0) = true := by simp [h1]
    rw [if_pos h1] at hR
    subst hR
    simp (maxSteps := 4000000) -implicitDefEqProofs only [go_sem, z1, Option.some.injEq, forall_eq', and_true, true_and, Bool.not_true, Bool.not_false, decide_true, Nat.reduceAdd, Nat.reduceSub, Nat.reduceLT, Nat.reduceLeDiff, Nat.reduceEqDiff, ↓reduceIte]
    exact (Wk.forget (by (simp only [go_sem]) <;> trivial) (by simp only [go_sem]))
  have z1 : (e != 0) = false := by simp [h1]
  rw [if_neg (fun h => h h1)] at hR
  simp (maxSteps := 4000000) -implicitDefEqProofs only [go_sem, z1, Option.some.injEq, forall_eq', and_true, true_and, Bool.not_true, Bool.not_false, decide_true, Nat.reduceAdd, Nat.reduceSub, Nat.reduceLT, Nat.reduceLeDiff, Nat.reduceEqDiff, ↓reduceIte]
  refine .all _ _ (c2.lift0 _ (by simp only [go_sem]) (by simp only [go_sem])) ?_
  by_cases h2 : f = 0
  case neg =>
    have z2 : (f != 0) = true := by simp [h2]
    rw [if_pos h2] at hR
    subst hR
    simp (maxSteps := 4000000) -implicitDefEqProofs only [go_sem, z2, Option.some.injEq, forall_eq', and_true, true_and, Bool.not_true, Bool.not_false, decide_true, Nat.reduceAdd, Nat.reduceSub, Nat.reduceLT, Nat.reduceLeDiff, Nat.reduceEqDiff, ↓reduceIte]
    exact (Wk.forget (by (simp only [go_sem]) <;> trivial) (by simp only [go_sem]))
  have z2 : (f != 0) = false := by simp [h2]
  rw [if_neg (fun h => h h2)] at hR
  subst hR
  simp (maxSteps := 4000000) -implicitDefEqProofs only [go_sem, z2, Option.some.injEq, forall_eq', and_true, true_and, Bool.not_true, Bool.not_false, decide_true, Nat.reduceAdd, Nat.reduceSub, Nat.reduceLT, Nat.reduceLeDiff, Nat.reduceEqDiff, ↓reduceIte]
  refine .all _ _ (c3.lift0 _ (by simp only [go_sem]) (by simp only [go_sem])) ?_
  simp (maxSteps := 4000000) -implicitDefEqProofs only [go_sem, Nat.reduceAdd, Nat.reduceSub, Nat.reduceLT, Nat.reduceLeDiff, Nat.reduceEqDiff, ↓reduceIte]
  exact (Wk.forget (by (simp only [go_sem]) <;> trivial) (by simp only [go_sem]))
theorem enc_right {v : Vl} (h : (encP v).2 = 0) : rightP 6 v = true := by
  rw [encP_eq] at h
  cases hr : rightP 6 v with
  | true => rfl
  | false => rw [hr, if_pos rfl] at h; cases h
/-! ### values that are great -/
/-- all lengths are those of a machine -/
inductive SmV : Vl → Prop where
  | mk (k n : Int) (b : List Int) (l : List Vl) (hk : 0 ≤ k ∧ k ≤ 255) (hn : -9223372036854775808 ≤ n ∧ n ≤ 9223372036854775807) (hbb : Bytes b) (hb : Sm b.length) (hl : Sm l.length) (h : ∀ x, x ∈ l → SmV x) : SmV (.mk k n b l)
mutual
def cntV : Vl → Nat → Nat → Nat
  | .mk _ _ _ l, most, deep => cntL l 1 most deep
def cntL : List Vl → Nat → Nat → Nat → Nat
  | [], n, _, _ => n
  | x :: r, n, most, deep => if n < most ∧ 0 < deep then cntL r (n + cntV x (most - n) (deep - 1)) most deep else n
end
/-- wide: false means at most so deep -/
def widV : Nat → Vl → Bool
  | 0, .mk _ _ b l => decide (4000 < b.length) || !l.isEmpty
  | d + 1, .mk _ _ b l => decide (4000 < b.length) || l.any (widV d)
mutual
theorem cntV_le : ∀ (v : Vl) (most deep : Nat), 1 ≤ most → 1 ≤ cntV v most deep ∧ cntV v most deep ≤ most
  | .mk k n b l, most, deep, h => by rw [cntV]; exact ⟨cntL_ge l 1 most deep h, (cntL_le l 1 most deep h)⟩
theorem cntL_le : ∀ (l : List Vl) (n most deep : Nat), n ≤ most → cntL l n most deep ≤ most
  | [], n, most, deep, h => by rw [cntL]; exact h
  | x :: r, n, most, deep, h => by
    rw [cntL]
    split
    · next q => exact cntL_le r _ most deep (by have := (cntV_le x (most - n) (deep - 1) (by omega)).2; omega)
    · exact h
theorem cntL_ge : ∀ (l : List Vl) (n most deep : Nat), n ≤ most → n ≤ cntL l n most deep
  | [], n, most, deep, h => by rw [cntL]; exact Nat.le_refl _
  | x :: r, n, most, deep, h => by
    rw [cntL]
    split
    · next q => have := cntL_ge r (n + cntV x (most - n) (deep - 1)) most deep (by have := (cntV_le x (most - n) (deep - 1) (by omega)).2; omega); omega
    · exact Nat.le_refl _
end
end Go.AX.Co
/- Values that are great. -/
set_option maxHeartbeats 8000000
set_option linter.unusedVariables false
set_option linter.unusedSimpArgs false
set_option maxRecDepth 20000
namespace Go.AX.Co
open Go.Proofs Go.RowKit Go.IntWalk
def grV (v : Vl) : Bool := decide (2000 < cntV v 2001 20) || widV 20 v
end Go.AX.Co
/- A law's arguments, opened, where a type may hold itself. -/
set_option maxHeartbeats 8000000
set_option linter.unusedVariables false
set_option linter.unusedSimpArgs false
set_option maxRecDepth 20000
namespace Go.AX
open Go.ChangeShapes
/-- types of data, closed under their parts -/
def okT (P : Program) (S : List TypeId) (t : TypeId) : Bool := match P.underlying t with
  | some .bool => true
  | some (.int _) => true
  | some .string => true
  | some (.slice e) => decide (0 < P.cellsOf e) && S.contains e
  | some (.struct fs) => tile P 0 fs.toList == some (P.cellsOf t) && fs.toList.all fun f => S.contains f.type
  | some (.array m e) => m * P.cellsOf e == P.cellsOf t && S.contains e
  | _ => false
theorem Sq.mono : ∀ {p q : List (List D → Prop)} {ds : List D}, p.length = q.length → (∀ (i : Nat) (a b : List D → Prop) (ds : List D), p[i]? = some a → q[i]? = some b → a ds → b ds) → Sq p ds → Sq q ds
  | [], [], ds, _, _, h => h
  | a :: p, b :: q, ds, hl, H, h => by
    obtain ⟨x, y, rfl, h1, h2⟩ := h
    exact ⟨x, y, rfl, H 0 a b _ rfl rfl h1, Sq.mono (by simpa using hl) (fun i a b ds e1 e2 => H (i + 1) a b ds (by simpa using e1) (by simpa using e2)) h2⟩
  | [], _ :: _, _, hl, _, _ => by simp at hl
  | _ :: _, [], _, hl, _, _ => by simp at hl
theorem Tyd.succ {P : Program} : ∀ {n : Nat} {t : TypeId} {ds : List D}, Tyd P n t ds → Tyd P (n + 1) t ds := by
  intro n
  induction n with
  | zero => intro t ds h; exact h.elim
  | succ n ih =>
    intro t ds h
    rw [Tyd] at h ⊢
    cases hu : P.underlying t with
    | none => rw [hu] at h; exact h.elim
    | some u =>
      rw [hu] at h
      cases u <;> simp only at h ⊢ <;> try exact h
      case slice e =>
        obtain ⟨es, rfl, h1, h2⟩ := h
        exact ⟨es, rfl, h1, fun x hx => ih (h2 x hx)⟩
      case struct fs =>
        refine Sq.mono (by simp) (fun i a b ds e1 e2 hd => ?_) h
        rw [List.getElem?_map] at e1 e2
        cases q : fs.toList[i]? with
        | none => rw [q] at e1; simp at e1
        | some f => rw [q] at e1 e2; simp at e1 e2; subst e1 e2; exact ih hd
      case array m e =>
        refine Sq.mono (by simp) (fun i a b ds e1 e2 hd => ?_) h
        rw [List.getElem?_replicate] at e1 e2
        split at e1
        · next hi => rw [if_pos hi] at e2; simp at e1 e2; subst e1 e2; exact ih hd
        · simp at e1
theorem Tyd.more {P : Program} {n : Nat} {t : TypeId} {ds : List D} : ∀ k, Tyd P n t ds → Tyd P (n + k) t ds
  | 0, h => h
  | k + 1, h => (Tyd.more k h).succ
def TydsX (P : Program) : List TypeId → List (List D) → Prop
  | [], [] => True
  | t :: ts, d :: ds => (∃ n, Tyd P (n + 8) t d) ∧ TydsX P ts ds
  | _, _ => False
section
variable {H : Type} {enc : TypeId × Value → H} {P : Program} {W : World} {base : Nat} {spare : Nat → Bool} {held : Bool}
end
end Go.AX
namespace Go.AX.Co
open Go.Proofs Go.RowKit Go.IntWalk
end Go.AX.Co
/- Values: what is written is read, and the other way about. -/
set_option maxHeartbeats 8000000
set_option linter.unusedVariables false
set_option linter.unusedSimpArgs false
set_option maxRecDepth 20000
namespace Go.AX.Co
open Go.Proofs Go.RowKit Go.IntWalk
theorem pow7 (i : Nat) : 2 ^ (7 * (i + 1)) = 128 * 2 ^ (7 * i) := by rw [Nat.mul_add, Nat.pow_add, Nat.mul_comm]
theorem num_read : ∀ (f i a m : Nat) (r : List Int), i + f = 10 → m < 2 ^ (64 - 7 * i) → (0 < i → 1 ≤ m) → numP f i a (codeF f m ++ r) = (m * 2 ^ (7 * i) + a, r, false) ∨ f = 0
  | 0, _, _, _, _, _, _, _ => .inr rfl
  | f + 1, i, a, m, r, hf, hm, h0 => by
    left
    have hi : i ≤ 9 := by omega
    have h9 : i = 9 → m < 2 := fun h => by subst h; exact hm
    rw [codeF]
    by_cases h : 127 < m
    · rw [if_pos h, List.cons_append, numP]
      have hx : ¬ ((i = 9 ∧ (1 : Int) < ((m % 128 + 128 : Nat) : Int)) ∨ (0 < i ∧ ((m % 128 + 128 : Nat) : Int) = 0)) := by omega
      rw [if_neg hx, if_neg (by omega), Int.toNat_natCast]
      have e : (m % 128 + 128) % 128 = m % 128 := by omega
      rw [e]
      have hi8 : i ≤ 8 := by
        rcases Nat.lt_or_ge i 9 with q | q
        · omega
        · have := h9 (by omega); omega
      have hm' : m / 128 < 2 ^ (64 - 7 * (i + 1)) := by
        apply Nat.div_lt_of_lt_mul
        have : 64 - 7 * i = 7 + (64 - 7 * (i + 1)) := by omega
        rw [this, Nat.pow_add] at hm
        exact hm
      rcases num_read f (i + 1) (m % 128 * 2 ^ (7 * i) + a) (m / 128) r (by omega) hm' (fun _ => by omega) with q | q
      · rw [q, pow7]
        congr 1
        have : m / 128 * (128 * 2 ^ (7 * i)) + m % 128 * 2 ^ (7 * i) = m * 2 ^ (7 * i) := by
          rw [← Nat.mul_assoc, ← Nat.add_mul]; congr 1; omega
        omega
      · omega
    · rw [if_neg h, List.singleton_append, numP]
      have hx : ¬ ((i = 9 ∧ (1 : Int) < ((m % 256 : Nat) : Int)) ∨ (0 < i ∧ ((m % 256 : Nat) : Int) = 0)) := by
        rintro (q | q)
        · have := h9 q.1; omega
        · have := h0 q.1; omega
      rw [if_neg hx, if_pos (by omega), Int.toNat_natCast]
      have e : m % 256 % 128 = m := by omega
      rw [e]
theorem num_back (n : Nat) (hn : n < 2 ^ 64) (r : List Int) : numR (codeF 10 n ++ r) false = (n, r, false) := by
  rcases num_read 10 0 0 n r rfl hn (fun h => absurd h (Nat.lt_irrefl 0)) with h | h
  · show numP 10 0 0 _ = _
    rw [h]; simp
  · omega
theorem unf_fold {n : Int} : unf (foldN n) = n := by
  unfold foldN unf
  by_cases h : 0 ≤ n
  · rw [if_pos h, if_pos (by omega)]; omega
  · rw [if_neg h, if_neg (by omega)]; omega
theorem encV_pos (v : Vl) : 1 ≤ (encV v).length := by
  cases v; rw [encV]; split
  · simp
  split
  · simp
  · simp
theorem encL_len : ∀ l : List Vl, l.length ≤ (encL l).length
  | [] => by simp
  | x :: r => by have := encV_pos x; have := encL_len r; rw [encL, List.length_append, List.length_cons]; omega
theorem lis_back {g : List Int → Vl × List Int × Bool} : ∀ (l : List Vl) (r : List Int), (∀ x ∈ l, ∀ r, g (encV x ++ r) = (x, r, false)) → lisP g l.length (encL l ++ r) false = (l, r, false)
  | [], r, _ => by rw [encL]; rfl
  | x :: l, r, h => by
    rw [encL, List.append_assoc, List.length_cons, lisP, if_neg (by simp), h x (by simp)]
    rw [lis_back l r fun y hy => h y (List.mem_cons_of_mem _ hy)]
/-- what is written is read -/
theorem val_back : ∀ (d : Nat) (v : Vl), FitW v → rightP d v = true → ∀ r, valP d (encV v ++ r) = (v, r, false)
  | 0, .mk _ _ _ _, _, h, _ => by cases h
  | d + 1, .mk k n b l, hv, h, r => by
    obtain ⟨_, _, _, _, hn, hb, hl, hx⟩ := hv
    have q := right_kind h
    rw [encV]
    by_cases k1 : k = 1
    · obtain ⟨_, rfl, rfl⟩ : k = 1 ∧ b = [] ∧ l = [] := by rcases q with q | q | q <;> first | exact q | (exfalso; omega)
      rw [if_pos k1, List.cons_append, valP, num_back _ (foldN_lt hn.1 hn.2), if_pos k1, unf_fold, k1]
    rw [if_neg k1]
    by_cases k2 : k = 2
    · obtain ⟨_, rfl, rfl⟩ : k = 2 ∧ n = 0 ∧ l = [] := by rcases q with q | q | q <;> first | exact q | (exfalso; omega)
      rw [if_pos k2, List.cons_append, List.append_assoc, valP, num_back _ (by omega), if_neg k1, if_pos k2, k2]
      have e : takeP b.length (b ++ r) false = (b, r, false) := by unfold takeP; rw [if_neg (by simp)]; simp
      simp only [e]
    rw [if_neg k2]
    obtain ⟨k3, rfl, rfl, hr⟩ : k = 3 ∧ n = 0 ∧ b = [] ∧ ∀ x ∈ l, rightP d x = true := by rcases q with q | q | q <;> first | exact q | (exfalso; omega)
    rw [List.cons_append, List.append_assoc, valP, num_back _ (by omega), if_neg k1, if_neg k2, if_pos k3, k3]
    have hlen := encL_len l
    have e : (false || decide ((encL l ++ r).length < l.length)) = false := by rw [Bool.false_or, decide_eq_false_iff_not, List.length_append]; omega
    simp only [e, lis_back l r fun x hm r => val_back d x (hx x hm) (hr x hm) r]
/-- one encoding for each value -/
theorem dec_enc {v : Vl} (hv : FitW v) (h : (encP v).2 = 0) : decP (encP v).1 = (v, 0) ∧ ∀ r, nextP ((encP v).1 ++ r) = (v, (encP v).1.length, 0) := by
  have hr := enc_right h
  rw [encP_eq, hr, if_neg (by simp)] at h ⊢
  by_cases hl : 3000 < (encV v).length
  · rw [if_pos hl] at h; cases h
  rw [if_neg hl] at h ⊢
  have hn : ∀ r, nextP (encV v ++ r) = (v, (encV v).length, 0) := fun r => by
    unfold nextP
    rw [val_back 6 v hv hr r]
    simp only [List.length_append, Nat.add_sub_cancel]
    rw [if_neg (by simp; omega)]
  refine ⟨?_, hn⟩
  have := hn []
  rw [List.append_nil] at this
  unfold decP
  rw [this]
  simp
theorem enc_len' (v : Vl) : (encP v).1.length ≤ 3000 := by
  rw [encP_eq]
  split
  · simp
  split
  · simp
  · show (encV v).length ≤ 3000; omega
end Go.AX.Co
/- The statements' own functions: fit, is, refused; constructors. -/
set_option maxHeartbeats 8000000
set_option linter.unusedVariables false
set_option linter.unusedSimpArgs false
set_option maxRecDepth 20000
namespace Go.AX.Co
open Go.Proofs Go.RowKit Go.IntWalk
theorem number_spec (n : Int) : Spec Try.prog 28 [.d (.int .i64 n)] [] (vA (.mk 1 n [] [])) [] := by
  refine spec_of_ev (fn := Try.f28) DX_ok 3000 Try.func28 rfl rfl (Nat.le_of_ble_eq_true rfl) ?_
  simp (maxSteps := 4000000) -implicitDefEqProofs only [Try.f28, go_sem]
  simp (maxSteps := 4000000) -implicitDefEqProofs only [go_sem, Nat.reduceAdd, Nat.reduceSub, Nat.reduceLT, Nat.reduceLeDiff, Nat.reduceEqDiff, ↓reduceIte]
  exact wk_dat (by simp only [go_sem]; rfl) (by simp only [vA, List.map_nil]) (by simp only [go_sem, vA, List.map_nil])
theorem text_spec (b : List Int) (hb : b.length ≤ 1000000) : Spec Try.prog 31 [.d (.sl (b.map bY))] [] (vA (.mk 2 0 b [])) [] := by
  refine spec_of_ev (fn := Try.f31) DX_ok 3000 Try.func31 rfl rfl (Nat.le_of_ble_eq_true rfl) ?_
  simp (maxSteps := 4000000) -implicitDefEqProofs only [Try.f31, go_sem]
  refine ⟨by decide, ⟨by omega, by omega⟩, ?_⟩
  simp (maxSteps := 4000000) -implicitDefEqProofs only [go_sem, Nat.reduceAdd, Nat.reduceSub, Nat.reduceLT, Nat.reduceLeDiff, Nat.reduceEqDiff, ↓reduceIte]
  exact wk_dat (by simp only [go_sem]; rfl) (by simp only [vA, List.map_nil]) (by simp only [go_sem, vA, List.map_nil])
theorem list_spec (l : List Vl) : Spec Try.prog 32 [.d (.sl (l.map vD))] [] (vA (.mk 3 0 [] l)) [] := by
  refine spec_of_ev (fn := Try.f32) DX_ok 3000 Try.func32 rfl rfl (Nat.le_of_ble_eq_true rfl) ?_
  simp (maxSteps := 4000000) -implicitDefEqProofs only [Try.f32, go_sem]
  simp (maxSteps := 4000000) -implicitDefEqProofs only [go_sem, Nat.reduceAdd, Nat.reduceSub, Nat.reduceLT, Nat.reduceLeDiff, Nat.reduceEqDiff, ↓reduceIte]
  exact wk_dat (by simp only [go_sem]; rfl) (by simp only [vA, List.map_nil]) (by simp only [go_sem, vA, List.map_nil])
theorem is_spec (v : Vl) (want : List Int) (hv : FitW v) (hw : Bytes want) (h : encP v = (want, 0)) : Spec Try.prog 27 [vA v, .d (.sl (want.map bY))] [] (.d (.bool true)) [] := by
  have hl : want.length ≤ 3000 := by
    have := enc_len' v
    rw [h] at this; exact this
  have c1 := encode_own v hv
  have c2 := decode_own want (by omega) hw
  have hd := (dec_enc hv (by rw [h])).1
  rw [h] at c1 hd
  rw [show decP want = (v, 0) from hd] at c2
  have c3 := sameBytes_ref want want (by unfold Sm; omega)
  rw [decide_eq_true rfl] at c3
  have c4 := same_refl hv.fitV
  obtain ⟨k, n, b, l⟩ := v
  simp only [vA] at c1 c2 c4
  have z0 : ((0 : Int) == 0) = true := rfl
  refine spec_of_ev (fn := Try.f27) DX_ok 3000 Try.func27 rfl rfl (Nat.le_of_ble_eq_true rfl) ?_
  simp (maxSteps := 4000000) -implicitDefEqProofs only [Try.f27, go_sem, vA]
  refine .all _ _ (c1.lift0 _ (by simp only [go_sem]) (by simp only [go_sem])) ?_
  simp (maxSteps := 4000000) -implicitDefEqProofs only [go_sem, Nat.reduceAdd, Nat.reduceSub, Nat.reduceLT, Nat.reduceLeDiff, Nat.reduceEqDiff, ↓reduceIte]
  refine .all _ _ (c2.lift0 _ (by simp only [go_sem]) (by simp only [go_sem])) ?_
  simp (maxSteps := 4000000) -implicitDefEqProofs only [go_sem, z0, Option.some.injEq, forall_eq', and_true, true_and, Bool.not_true, Bool.not_false, decide_true, Nat.reduceAdd, Nat.reduceSub, Nat.reduceLT, Nat.reduceLeDiff, Nat.reduceEqDiff, ↓reduceIte]
  refine .all _ _ (c3.lift0 _ (by simp only [go_sem]) (by simp only [go_sem])) ?_
  simp (maxSteps := 4000000) -implicitDefEqProofs only [go_sem, z0, Option.some.injEq, forall_eq', and_true, true_and, Bool.not_true, Bool.not_false, decide_true, Nat.reduceAdd, Nat.reduceSub, Nat.reduceLT, Nat.reduceLeDiff, Nat.reduceEqDiff, ↓reduceIte]
  refine .all _ _ (c4.lift0 _ (by simp only [go_sem]) (by simp only [go_sem])) ?_
  simp (maxSteps := 4000000) -implicitDefEqProofs only [go_sem, Nat.reduceAdd, Nat.reduceSub, Nat.reduceLT, Nat.reduceLeDiff, Nat.reduceEqDiff, ↓reduceIte]
  exact wk_bool rfl
theorem refused_spec (b : List Int) (hl : b.length ≤ 3000) (hb : Bytes b) (h : nextP b = (v0, 0, 12)) : Spec Try.prog 29 [.d (.sl (b.map bY))] [] (.d (.bool true)) [] := by
  have c1 := decode_own b (by omega) hb
  have c2 := next_own b (by omega) hb
  have hd : decP b = (v0, 12) := by unfold decP; rw [h, if_pos (.inl (by decide))]
  rw [h] at c2
  rw [hd] at c1
  simp only [vA, v0, List.map_nil] at c1 c2
  have z0 : ((12 : Int) == 12) = true := rfl
  have z1 : (((0 : Nat) : Int) == 0) = true := rfl
  refine spec_of_ev (fn := Try.f29) DX_ok 3000 Try.func29 rfl rfl (Nat.le_of_ble_eq_true rfl) ?_
  simp (maxSteps := 4000000) -implicitDefEqProofs only [Try.f29, go_sem]
  refine .all _ _ (c1.lift0 _ (by simp only [go_sem]) (by simp only [go_sem])) ?_
  simp (maxSteps := 4000000) -implicitDefEqProofs only [go_sem, Nat.reduceAdd, Nat.reduceSub, Nat.reduceLT, Nat.reduceLeDiff, Nat.reduceEqDiff, ↓reduceIte]
  refine .all _ _ (c2.lift0 _ (by simp only [go_sem]) (by simp only [go_sem])) ?_
  simp (maxSteps := 4000000) -implicitDefEqProofs only [go_sem, z0, z1, Option.some.injEq, forall_eq', and_true, true_and, Bool.not_true, Bool.not_false, decide_true, Nat.reduceAdd, Nat.reduceSub, Nat.reduceLT, Nat.reduceLeDiff, Nat.reduceEqDiff, ↓reduceIte]
  exact wk_bool rfl
def fitP (v : Vl) : Bool := !grV v && decide ((encP v).2 = 0)
/-- what starts with what -/
def stP (a b : List Int) : Bool := decide (b.length ≤ a.length) && decide (a.take b.length = b)
mutual
def sameV : Vl → Vl → Bool
  | .mk k n b l, .mk k' n' b' l' => decide (k = k') && decide (n = n') && decide (b = b') && sameL l l'
def sameL : List Vl → List Vl → Bool
  | [], [] => true
  | x :: a, y :: b => sameV x y && sameL a b
  | _, _ => false
end
mutual
theorem sameV_eq : ∀ v w : Vl, sameV v w = true ↔ v = w
  | .mk k n b l, .mk k' n' b' l' => by
    rw [sameV]
    simp only [Bool.and_eq_true, decide_eq_true_eq, sameL_eq l l', Vl.mk.injEq, and_assoc]
theorem sameL_eq : ∀ a b : List Vl, sameL a b = true ↔ a = b
  | [], [] => by rw [sameL]; simp
  | x :: a, y :: b => by rw [sameL]; simp only [Bool.and_eq_true, sameV_eq x y, sameL_eq a b, List.cons.injEq]
  | [], _ :: _ => by rw [sameL] <;> simp
  | _ :: _, [] => by rw [sameL] <;> simp
end
end Go.AX.Co
/- The chapter's examples. -/
set_option maxHeartbeats 8000000
set_option linter.unusedVariables false
set_option linter.unusedSimpArgs false
set_option maxRecDepth 20000
namespace Go.AX.Co
open Go.Proofs Go.RowKit Go.IntWalk
theorem bytes_dec {l : List Int} (h : l.all (fun x => decide (0 ≤ x ∧ x ≤ 255)) = true) : Bytes l := fun e he => by
  have := List.all_eq_true.1 h e he
  simpa using this
theorem fit_num (n : Int) (h : -9223372036854775808 ≤ n ∧ n ≤ 9223372036854775807) : FitW (.mk 1 n [] []) := .mk _ _ _ _ h (by simp) (by simp) (by simp)
theorem fit_txt (b : List Int) (h : b.length ≤ 900000) : FitW (.mk 2 0 b []) := .mk _ _ _ _ (by omega) h (by simp) (by simp)
theorem fit_lst (l : List Vl) (hl : l.length ≤ 900000) (h : ∀ x ∈ l, FitW x) : FitW (.mk 3 0 [] l) := .mk _ _ _ _ (by omega) (by simp) hl h
def n300 : Vl := .mk 1 300 [] []
def sab : Vl := .mk 2 0 [97, 98] []
theorem alive_spec : Spec Try.prog 25 [] [] (.d (.bool true)) [] := by
  have c1 := number_spec 300
  have c2 := text_spec [97, 98] (by simp)
  have c3 := decode_own [1, 128, 0] (by simp) (bytes_dec (by kernel_rfl))
  have c4 := number_spec 0
  have c5 := is_spec (.mk 1 0 [] []) [1, 0] (fit_num _ (by decide)) (bytes_dec (by kernel_rfl)) (by kernel_rfl)
  have c6 := number_spec (-1)
  have c7 := is_spec (.mk 1 (-1) [] []) [1, 1] (fit_num _ (by decide)) (bytes_dec (by kernel_rfl)) (by kernel_rfl)
  have c8 := is_spec n300 [1, 216, 4] (fit_num _ (by decide)) (bytes_dec (by kernel_rfl)) (by kernel_rfl)
  have c9 := is_spec sab [2, 2, 97, 98] (fit_txt _ (by simp)) (bytes_dec (by kernel_rfl)) (by kernel_rfl)
  have c10 := list_spec [n300, sab]
  have c11 := is_spec (.mk 3 0 [] [n300, sab]) [3, 2, 1, 216, 4, 2, 2, 97, 98] (fit_lst _ (by simp) (by intro x hx; simp at hx; rcases hx with rfl | rfl; exact fit_num _ (by decide); exact fit_txt _ (by simp))) (bytes_dec (by kernel_rfl)) (by kernel_rfl)
  rw [show decP [1, 128, 0] = (v0, 12) by kernel_rfl] at c3
  simp only [vA, vD, vDs, v0, n300, sab, List.map_cons, List.map_nil, bY] at c1 c2 c3 c4 c5 c6 c7 c8 c9 c10 c11
  have z12 : ((12 : Int) == 12) = true := rfl
  have t02 : (0 < 1 + 1) = True := eq_true (by decide)
  have t02' : (0 < 2) = True := eq_true (by decide)
  refine spec_of_ev (fn := Try.f25) DX_ok 3000 Try.func25 rfl rfl (Nat.le_of_ble_eq_true rfl) ?_
  simp (maxSteps := 4000000) -implicitDefEqProofs only [Try.f25, go_sem]
  refine ecall0 _ c1 (by simp only [go_sem]) (by simp only [go_sem]) ?_
  simp (maxSteps := 4000000) -implicitDefEqProofs only [go_sem, t02, t02', Option.some.injEq, forall_eq', and_true, true_and, Bool.not_true, Bool.not_false, decide_true, Nat.reduceAdd, Nat.reduceSub, Nat.reduceLT, Nat.reduceLeDiff, Nat.reduceEqDiff, ↓reduceIte]
  refine .all _ _ (c2.lift0 _ (by simp only [go_sem]) (by simp only [go_sem])) ?_
  simp (maxSteps := 4000000) -implicitDefEqProofs only [go_sem, Nat.reduceAdd, Nat.reduceSub, Nat.reduceLT, Nat.reduceLeDiff, Nat.reduceEqDiff, ↓reduceIte]
  refine ECall.dat (by simp only [go_sem]; rfl) (by rfl) ?_
  refine .all _ _ (c3.lift0 _ (by simp only [go_sem]) (by simp only [go_sem])) ?_
  simp (maxSteps := 4000000) -implicitDefEqProofs only [go_sem, Nat.reduceAdd, Nat.reduceSub, Nat.reduceLT, Nat.reduceLeDiff, Nat.reduceEqDiff, ↓reduceIte]
  refine .all _ _ (c4.lift0 _ (by simp only [go_sem]) (by simp only [go_sem])) ?_
  simp (maxSteps := 4000000) -implicitDefEqProofs only [go_sem, Nat.reduceAdd, Nat.reduceSub, Nat.reduceLT, Nat.reduceLeDiff, Nat.reduceEqDiff, ↓reduceIte]
  refine ECall.dat (by simp only [go_sem]; rfl) (by rfl) ?_
  refine .all _ _ (c5.lift0 _ (by simp only [go_sem]) (by simp only [go_sem])) ?_
  simp (maxSteps := 4000000) -implicitDefEqProofs only [go_sem, Nat.reduceAdd, Nat.reduceSub, Nat.reduceLT, Nat.reduceLeDiff, Nat.reduceEqDiff, ↓reduceIte]
  refine .all _ _ (c6.lift0 _ (by simp only [go_sem]) (by simp only [go_sem])) ?_
  simp (maxSteps := 4000000) -implicitDefEqProofs only [go_sem, Nat.reduceAdd, Nat.reduceSub, Nat.reduceLT, Nat.reduceLeDiff, Nat.reduceEqDiff, ↓reduceIte]
  refine ECall.dat (by simp only [go_sem]; rfl) (by rfl) ?_
  refine .all _ _ (c7.lift0 _ (by simp only [go_sem]) (by simp only [go_sem])) ?_
  simp (maxSteps := 4000000) -implicitDefEqProofs only [go_sem, Nat.reduceAdd, Nat.reduceSub, Nat.reduceLT, Nat.reduceLeDiff, Nat.reduceEqDiff, ↓reduceIte]
  refine ECall.dat (by simp only [go_sem]; rfl) (by rfl) ?_
  refine .all _ _ (c8.lift0 _ (by simp only [go_sem]) (by simp only [go_sem])) ?_
  simp (maxSteps := 4000000) -implicitDefEqProofs only [go_sem, Nat.reduceAdd, Nat.reduceSub, Nat.reduceLT, Nat.reduceLeDiff, Nat.reduceEqDiff, ↓reduceIte]
  refine ECall.dat (by simp only [go_sem]; rfl) (by rfl) ?_
  refine .all _ _ (c9.lift0 _ (by simp only [go_sem]) (by simp only [go_sem])) ?_
  simp (maxSteps := 4000000) -implicitDefEqProofs only [go_sem, Nat.reduceAdd, Nat.reduceSub, Nat.reduceLT, Nat.reduceLeDiff, Nat.reduceEqDiff, ↓reduceIte]
  refine ⟨by decide, ?_⟩
  refine ECall.dat (by simp only [go_sem]; rfl) (by rfl) ?_
  refine .all _ _ (c10.lift0 _ (by simp only [go_sem]) (by simp only [go_sem])) ?_
  simp (maxSteps := 4000000) -implicitDefEqProofs only [go_sem, Nat.reduceAdd, Nat.reduceSub, Nat.reduceLT, Nat.reduceLeDiff, Nat.reduceEqDiff, ↓reduceIte]
  refine ECall.dat (by simp only [go_sem]; rfl) (by rfl) ?_
  refine .all _ _ (c11.lift0 _ (by simp only [go_sem]) (by simp only [go_sem])) ?_
  simp (maxSteps := 4000000) -implicitDefEqProofs only [go_sem, z12, Option.some.injEq, forall_eq', and_true, true_and, Bool.not_true, Bool.not_false, decide_true, Nat.reduceAdd, Nat.reduceSub, Nat.reduceLT, Nat.reduceLeDiff, Nat.reduceEqDiff, ↓reduceIte]
  exact wk_bool rfl
end Go.AX.Co
/- Cmp is an order (plain law). -/
set_option maxHeartbeats 8000000
set_option linter.unusedVariables false
set_option linter.unusedSimpArgs false
set_option maxRecDepth 20000
namespace Go.AX.Co
open Go.Proofs Go.RowKit Go.IntWalk
/-- three comparisons of three things fit -/
def Tri (x y w : Int) : Prop := (x = 0 → w = y) ∧ (y = 0 → w = x) ∧ (x < 0 → y < 0 → w < 0)
def lex (p q : Int) : Int := if p = 0 then q else p
theorem Tri.lex {x1 y1 w1 x2 y2 w2 : Int} (h : Tri x1 y1 w1) (k : Tri x2 y2 w2) : Tri (lex x1 x2) (lex y1 y2) (lex w1 w2) := by
  obtain ⟨a1, a2, a3⟩ := h
  obtain ⟨b1, b2, b3⟩ := k
  unfold Tri Co.lex
  by_cases hx : x1 = 0
  · have e := a1 hx
    by_cases hy : y1 = 0
    · rw [if_pos hx, if_pos hy, if_pos (by omega)]; exact ⟨b1, b2, b3⟩
    · rw [if_pos hx, if_neg hy, if_neg (by omega)]; exact ⟨fun _ => e, fun h => absurd h hy, fun _ h => by omega⟩
  · by_cases hy : y1 = 0
    · have e := a2 hy
      rw [if_neg hx, if_pos hy, if_neg (by omega)]; exact ⟨fun h => absurd h hx, fun _ => e, fun h _ => by omega⟩
    · rw [if_neg hx, if_neg hy]
      refine ⟨fun h => absurd h hx, fun h => absurd h hy, fun p q => ?_⟩
      have := a3 p q
      rw [if_neg (by omega)]; exact this
theorem tri_cmpI (a b c : Int) : Tri (cmpI a b) (cmpI b c) (cmpI a c) := by
  unfold Tri cmpI
  refine ⟨fun h => ?_, fun h => ?_, fun h k => ?_⟩
  · split at h
    · omega
    · split at h
      · omega
      · have : a = b := by omega
        rw [this]
  · split at h
    · omega
    · split at h
      · omega
      · have : b = c := by omega
        rw [this]
  · split at h
    · split at k
      · rw [if_pos (by omega)]; omega
      · split at k <;> omega
    · split at h <;> omega
theorem cmpB_lex {x y : Int} {a b : List Int} : cmpB (x :: a) (y :: b) = lex (cmpI x y) (cmpB a b) := by
  rw [cmpB_cons]; unfold lex
  by_cases h : x = y
  · rw [if_pos h, if_pos (by rw [h]; exact cmpI_self y)]
  · rw [if_neg h, if_neg (cmpI_ne h)]
theorem tri_cmpB : ∀ a b c : List Int, Tri (cmpB a b) (cmpB b c) (cmpB a c)
  | [], [], [] => by simp [Tri, cmpB]
  | [], [], _ :: _ => by simp [Tri, cmpB]
  | [], _ :: _, [] => by simp [Tri, cmpB]
  | [], _ :: _, _ :: _ => by simp [Tri, cmpB]
  | _ :: _, [], [] => by simp [Tri, cmpB]
  | _ :: _, [], _ :: _ => by simp [Tri, cmpB]
  | _ :: _, _ :: _, [] => by simp [Tri, cmpB]
  | x :: a, y :: b, z :: c => by rw [cmpB_lex, cmpB_lex, cmpB_lex]; exact (tri_cmpI x y z).lex (tri_cmpB a b c)
theorem ordV_lex {k n k' n' : Int} {b b' : List Int} {l l' : List Vl} : ordV (.mk k n b l) (.mk k' n' b' l') = lex (cmpI k k') (lex (cmpI n n') (lex (cmpB b b') (ordL l l'))) := by
  rw [ordV]
  simp only [first0, lex]
  split
  · split
    · split
      · split
        · next h => exact h.symm
        · rfl
      · rfl
    · rfl
  · rfl
theorem ordL_lex {x y : Vl} {a b : List Vl} : ordL (x :: a) (y :: b) = lex (ordV x y) (ordL a b) := by rw [ordL]; rfl
mutual
theorem tri_ordV : ∀ a b c : Vl, Tri (ordV a b) (ordV b c) (ordV a c)
  | .mk k n b l, .mk k' n' b' l', .mk k2 n2 b2 l2 => by
    rw [ordV_lex, ordV_lex, ordV_lex]
    exact (tri_cmpI k k' k2).lex ((tri_cmpI n n' n2).lex ((tri_cmpB b b' b2).lex (tri_ordL l l' l2)))
theorem tri_ordL : ∀ a b c : List Vl, Tri (ordL a b) (ordL b c) (ordL a c)
  | [], [], [] => by simp [Tri, ordL]
  | [], [], _ :: _ => by simp [Tri, ordL]
  | [], _ :: _, [] => by simp [Tri, ordL]
  | [], _ :: _, _ :: _ => by simp [Tri, ordL]
  | _ :: _, [], [] => by simp [Tri, ordL]
  | _ :: _, [], _ :: _ => by simp [Tri, ordL]
  | _ :: _, _ :: _, [] => by simp [Tri, ordL]
  | x :: a, y :: b, z :: c => by rw [ordL_lex, ordL_lex, ordL_lex]; exact (tri_ordV x y z).lex (tri_ordL a b c)
end
theorem lex_neg (p q : Int) : lex (-p) (-q) = - lex p q := by
  unfold lex
  by_cases h : p = 0
  · rw [if_pos h, if_pos (by omega)]
  · rw [if_neg h, if_neg (by omega)]
theorem neg_cmpI (x y : Int) : cmpI y x = -cmpI x y := by
  unfold cmpI
  by_cases h1 : x < y
  · rw [if_pos h1, if_neg (by omega), if_pos h1]; rfl
  · by_cases h2 : y < x
    · rw [if_pos h2, if_neg h1, if_pos h2]
    · rw [if_neg h2, if_neg h1, if_neg h1, if_neg h2]; rfl
theorem neg_cmpB : ∀ a b : List Int, cmpB b a = -cmpB a b
  | [], [] => rfl
  | [], _ :: _ => rfl
  | _ :: _, [] => rfl
  | x :: a, y :: b => by rw [cmpB_lex, cmpB_lex, neg_cmpI, neg_cmpB a b, lex_neg]
mutual
theorem neg_ordV : ∀ a b : Vl, ordV b a = -ordV a b
  | .mk k n b l, .mk k' n' b' l' => by
    rw [ordV_lex, ordV_lex, neg_cmpI k k', neg_cmpI n n', neg_cmpB b b', neg_ordL l l', lex_neg, lex_neg, lex_neg]
theorem neg_ordL : ∀ a b : List Vl, ordL b a = -ordL a b
  | [], [] => by rw [ordL]; rfl
  | [], _ :: _ => by rw [ordL, ordL]; rfl
  | _ :: _, [] => by rw [ordL, ordL]
  | x :: a, y :: b => by rw [ordL_lex, ordL_lex, neg_ordV x y, neg_ordL a b, lex_neg]
end
theorem lex_zero {p q : Int} : lex p q = 0 ↔ p = 0 ∧ q = 0 := by
  unfold lex
  by_cases h : p = 0
  · rw [if_pos h]; exact ⟨fun e => ⟨h, e⟩, fun e => e.2⟩
  · rw [if_neg h]; exact ⟨fun e => absurd e h, fun e => e.1⟩
theorem zero_cmpI {x y : Int} : cmpI x y = 0 ↔ x = y := ⟨fun h => Decidable.byContradiction fun q => cmpI_ne q h, fun h => by rw [h]; exact cmpI_self y⟩
theorem zero_cmpB : ∀ {a b : List Int}, cmpB a b = 0 ↔ a = b
  | [], [] => by simp [cmpB]
  | [], _ :: _ => by simp [cmpB]
  | _ :: _, [] => by simp [cmpB]
  | x :: a, y :: b => by rw [cmpB_lex, lex_zero, zero_cmpI, zero_cmpB]; simp
mutual
theorem zero_ordV : ∀ a b : Vl, ordV a b = 0 ↔ a = b
  | .mk k n b l, .mk k' n' b' l' => by
    rw [ordV_lex, lex_zero, lex_zero, lex_zero, zero_cmpI, zero_cmpI, zero_cmpB, zero_ordL l l', Vl.mk.injEq]
theorem zero_ordL : ∀ a b : List Vl, ordL a b = 0 ↔ a = b
  | [], [] => by simp [ordL]
  | [], _ :: _ => by simp [ordL]
  | _ :: _, [] => by simp [ordL]
  | x :: a, y :: b => by rw [ordL_lex, lex_zero, zero_ordV x y, zero_ordL a b]; simp
end
def Rng (x : Int) : Prop := -1 ≤ x ∧ x ≤ 1
theorem rng_lex {p q : Int} (h : Rng p) (k : Rng q) : Rng (lex p q) := by unfold lex; split <;> assumption
theorem rng_cmpI (x y : Int) : Rng (cmpI x y) := by unfold cmpI Rng; split <;> (try split) <;> omega
theorem rng_cmpB : ∀ a b : List Int, Rng (cmpB a b)
  | [], [] => by simp [Rng, cmpB]
  | [], _ :: _ => by simp [Rng, cmpB]
  | _ :: _, [] => by simp [Rng, cmpB]
  | x :: a, y :: b => by rw [cmpB_lex]; exact rng_lex (rng_cmpI x y) (rng_cmpB a b)
mutual
theorem rng_ordV : ∀ a b : Vl, Rng (ordV a b)
  | .mk k n b l, .mk k' n' b' l' => by rw [ordV_lex]; exact rng_lex (rng_cmpI _ _) (rng_lex (rng_cmpI _ _) (rng_lex (rng_cmpB _ _) (rng_ordL l l')))
theorem rng_ordL : ∀ a b : List Vl, Rng (ordL a b)
  | [], [] => by simp [Rng, ordL]
  | [], _ :: _ => by simp [Rng, ordL]
  | _ :: _, [] => by simp [Rng, ordL]
  | x :: a, y :: b => by rw [ordL_lex]; exact rng_lex (rng_ordV x y) (rng_ordL a b)
end
end Go.AX.Co
/- Values that are deep. -/
set_option maxHeartbeats 8000000
set_option linter.unusedVariables false
set_option linter.unusedSimpArgs false
set_option maxRecDepth 20000
namespace Go.AX.Co
open Go.Proofs Go.RowKit Go.IntWalk
/-- what a deep value holds -/
def deepL : Nat → List Vl
  | 0 => []
  | n + 1 => [.mk 3 0 [] (deepL n)]
def deepV (n : Nat) : Vl := .mk 3 0 [] (deepL n)
theorem deep_fit : ∀ n, FitB (deepV n)
  | 0 => .mk _ _ _ _ (by omega) (by omega) (fun e he => by simp at he) (by simp) (by simp [deepL]) (by simp [deepL])
  | n + 1 => .mk _ _ _ _ (by omega) (by omega) (fun e he => by simp at he) (by simp) (by simp [deepL]) (fun x hx => by
    simp only [deepL, List.mem_singleton] at hx; subst hx; exact deep_fit n)
theorem deep_spec (n : Nat) (h1 : 1 ≤ n) (h2 : n ≤ 100) : Spec Try.prog 30 [.d (.int .i64 n)] [] (vA (deepV (n - 1))) [] := by
  refine spec_of_ev (fn := Try.f30) DX_ok 3000 Try.func30 rfl rfl (Nat.le_of_ble_eq_true rfl) ?_
  simp (maxSteps := 4000000) -implicitDefEqProofs only [Try.f30, go_sem]
  simp (maxSteps := 4000000) -implicitDefEqProofs only [go_sem, Nat.reduceAdd, Nat.reduceSub, Nat.reduceLT, Nat.reduceLeDiff, Nat.reduceEqDiff, ↓reduceIte]
  refine eloop (S := Nat) (fun k => mkE 13 [(0, .d (.int .i64 ((n - k : Nat) : Int))), (2, .ptr 0 0), (3, .ptr 1 0)]) (fun k => [.cells [.d (.int .u8 0), .d (.int .i64 0), .nil, .nil], if k = 0 then .cells [.d (.int .u8 3), .d (.int .i64 0), .nil, .nil] else .cells [.d (.int .u8 3), .d (.int .i64 0), .d (.sl []), .d (.sl ((deepL k).map vD))]])
    (fun k => k < n) (fun k => n - k) 0 (by omega) (Wk.sub (by (simp only [go_sem]) <;> trivial)) ?_
  intro k hk
  have d1 : decide (1 < ((n - k : Nat) : Int)) = decide (1 < n - k) := by rw [Bool.eq_iff_iff]; simp; omega
  by_cases h : 1 < n - k
  case neg =>
    rw [decide_eq_false h] at d1
    have e : n - 1 = k := by omega
    rw [e]
    cases k with
    | zero =>
      simp (maxSteps := 4000000) -implicitDefEqProofs only [go_sem, d1, Option.some.injEq, forall_eq', and_true, true_and, Bool.not_true, Bool.not_false, decide_true, Nat.reduceAdd, Nat.reduceSub, Nat.reduceLT, Nat.reduceLeDiff, Nat.reduceEqDiff, ↓reduceIte]
      exact wk_dat (by simp only [go_sem]; rfl) (by simp only [deepV, deepL, vA, List.map_nil]) (by simp only [go_sem, deepV, deepL, vA, List.map_nil])
    | succ k =>
      rw [if_neg (by omega)]
      simp (maxSteps := 4000000) -implicitDefEqProofs only [go_sem, d1, Option.some.injEq, forall_eq', and_true, true_and, Bool.not_true, Bool.not_false, decide_true, Nat.reduceAdd, Nat.reduceSub, Nat.reduceLT, Nat.reduceLeDiff, Nat.reduceEqDiff, ↓reduceIte]
      exact wk_dat (by simp only [go_sem]; rfl) (by simp only [deepV, vA, List.map_nil]) (by simp only [go_sem, deepV, vA, List.map_nil])
  rw [decide_eq_true h] at d1
  have w1 : IntKind.i64.wrap (((n - k : Nat) : Int) - 1) = ((n - (k + 1) : Nat) : Int) := by rw [i64_in _ (by omega)]; omega
  have c1 := list_spec (deepL (k + 1))
  rw [deepL, List.map_cons, List.map_nil, vD, vDs_eq, List.map_nil] at c1
  simp only [vA, List.map_nil] at c1
  cases k with
  | zero =>
    rw [if_pos rfl]
    simp only [deepL, List.map_cons, List.map_nil, vD, vDs] at c1
    simp (maxSteps := 4000000) -implicitDefEqProofs only [go_sem, d1, Option.some.injEq, forall_eq', and_true, true_and, Bool.not_true, Bool.not_false, decide_true, Nat.reduceAdd, Nat.reduceSub, Nat.reduceLT, Nat.reduceLeDiff, Nat.reduceEqDiff, ↓reduceIte]
    refine ⟨by decide, ?_⟩
    refine ECall.dat (by simp only [go_sem]; rfl) (by rfl) ?_
    refine .all _ _ (c1.lift0 _ (by simp only [go_sem]) (by simp only [go_sem])) ?_
    simp (maxSteps := 4000000) -implicitDefEqProofs only [go_sem, w1, Option.some.injEq, forall_eq', and_true, true_and, Bool.not_true, Bool.not_false, decide_true, Nat.reduceAdd, Nat.reduceSub, Nat.reduceLT, Nat.reduceLeDiff, Nat.reduceEqDiff, ↓reduceIte]
    exact .mk 1 (by omega) (by omega) (by rw [if_neg (by omega)]; simp only [deepL, List.map_cons, List.map_nil, vD, vDs]; exact (Wk.via [0, 1] (by (simp only [go_sem, ↓reduceIte]) <;> trivial) (by first | (simp (maxSteps := 4000000) -implicitDefEqProofs only [go_sem, Nat.reduceAdd, Nat.reduceSub, Nat.reduceLT, Nat.reduceLeDiff, Nat.reduceEqDiff, ↓reduceIte]; done) | ((simp (maxSteps := 4000000) -implicitDefEqProofs only [go_sem, Nat.reduceAdd, Nat.reduceSub, Nat.reduceLT, Nat.reduceLeDiff, Nat.reduceEqDiff, ↓reduceIte]) <;> omega)) (by simp) (by first | (simp; done) | (simp [so]; done)) (by (simp (maxSteps := 4000000) -implicitDefEqProofs only [go_sem, Nat.reduceAdd, Nat.reduceSub, Nat.reduceLT, Nat.reduceLeDiff, Nat.reduceEqDiff, ↓reduceIte]) <;> trivial) (by first | (simp only [go_sem]; done) | ((simp (maxSteps := 4000000) -implicitDefEqProofs only [go_sem, Nat.reduceAdd, Nat.reduceSub, Nat.reduceLT, Nat.reduceLeDiff, Nat.reduceEqDiff, ↓reduceIte]) <;> omega)) (Nat.zero_le _) (fun i h => absurd h (Nat.not_lt_zero i))))
  | succ k =>
    rw [if_neg (by omega)]
    simp (maxSteps := 4000000) -implicitDefEqProofs only [go_sem, d1, Option.some.injEq, forall_eq', and_true, true_and, Bool.not_true, Bool.not_false, decide_true, Nat.reduceAdd, Nat.reduceSub, Nat.reduceLT, Nat.reduceLeDiff, Nat.reduceEqDiff, ↓reduceIte]
    refine ⟨by decide, ?_⟩
    refine ECall.dat (by simp only [go_sem]; rfl) (by rfl) ?_
    refine .all _ _ (c1.lift0 _ (by simp only [go_sem]) (by simp only [go_sem])) ?_
    simp (maxSteps := 4000000) -implicitDefEqProofs only [go_sem, w1, Option.some.injEq, forall_eq', and_true, true_and, Bool.not_true, Bool.not_false, decide_true, Nat.reduceAdd, Nat.reduceSub, Nat.reduceLT, Nat.reduceLeDiff, Nat.reduceEqDiff, ↓reduceIte]
    exact .mk (k + 1 + 1) (by omega) (by omega) (by rw [if_neg (by omega), deepL, List.map_cons, List.map_nil, vD, vDs_eq, List.map_nil]; exact (Wk.via [0, 1] (by (simp only [go_sem, ↓reduceIte]) <;> trivial) (by first | (simp (maxSteps := 4000000) -implicitDefEqProofs only [go_sem, Nat.reduceAdd, Nat.reduceSub, Nat.reduceLT, Nat.reduceLeDiff, Nat.reduceEqDiff, ↓reduceIte]; done) | ((simp (maxSteps := 4000000) -implicitDefEqProofs only [go_sem, Nat.reduceAdd, Nat.reduceSub, Nat.reduceLT, Nat.reduceLeDiff, Nat.reduceEqDiff, ↓reduceIte]) <;> omega)) (by simp) (by first | (simp; done) | (simp [so]; done)) (by (simp (maxSteps := 4000000) -implicitDefEqProofs only [go_sem, Nat.reduceAdd, Nat.reduceSub, Nat.reduceLT, Nat.reduceLeDiff, Nat.reduceEqDiff, ↓reduceIte]) <;> trivial) (by first | (simp only [go_sem]; done) | ((simp (maxSteps := 4000000) -implicitDefEqProofs only [go_sem, Nat.reduceAdd, Nat.reduceSub, Nat.reduceLT, Nat.reduceLeDiff, Nat.reduceEqDiff, ↓reduceIte]) <;> omega)) (Nat.zero_le _) (fun i h => absurd h (Nat.not_lt_zero i))))
end Go.AX.Co

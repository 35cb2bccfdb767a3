/- The order of values, by the reference; Cmp. -/
import Derived.Test.YtmffhidhmbncbaaK9
import Derived.KernelRfl
set_option maxHeartbeats 8000000
set_option linter.unusedVariables false
set_option linter.unusedSimpArgs false
set_option maxRecDepth 20000
namespace Go.AX.Co
open Go.Proofs Go.RowKit Go.IntWalk
/-- what a right value of a kind is like -/
theorem right_kind {d : Nat} {k n : Int} {b : List Int} {l : List Vl} (h : rightP (d + 1) (.mk k n b l) = true) :
    (k = 1 ∧ b = [] ∧ l = []) ∨ (k = 2 ∧ n = 0 ∧ l = []) ∨ (k = 3 ∧ n = 0 ∧ b = [] ∧ ∀ x ∈ l, rightP d x = true) := by
  have ha := right_all h
  rw [rightP] at h
  by_cases k1 : k = 1
  · rw [if_pos k1, decide_eq_true_eq] at h
    exact .inl ⟨k1, List.length_eq_zero_iff.1 (by omega), List.length_eq_zero_iff.1 (by omega)⟩
  rw [if_neg k1] at h
  by_cases k2 : k = 2
  · rw [if_pos k2] at h
    simp only [Bool.and_eq_true, beq_iff_eq, decide_eq_true_eq] at h
    exact .inr (.inl ⟨k2, h.1, List.length_eq_zero_iff.1 h.2⟩)
  rw [if_neg k2] at h
  have := ha k1 k2
  rw [if_pos this.1] at h
  simp only [Bool.and_eq_true, beq_iff_eq, decide_eq_true_eq] at h
  exact .inr (.inr ⟨this.1, h.1.1, List.length_eq_zero_iff.1 h.1.2, this.2⟩)
end Go.AX.Co
/- Cmp, of the program and of the reference. -/
set_option maxHeartbeats 8000000
set_option linter.unusedVariables false
set_option linter.unusedSimpArgs false
set_option maxRecDepth 20000
namespace Go.AX.Co
open Go.Proofs Go.RowKit Go.IntWalk
def cmpP (a b : Vl) : Int × Int := if (encP a).2 ≠ 0 then (0, (encP a).2) else if (encP b).2 ≠ 0 then (0, (encP b).2) else (ordV a b, 0)
theorem enc_right {v : Vl} (h : (encP v).2 = 0) : rightP 6 v = true := by
  rw [encP_eq] at h
  cases hr : rightP 6 v with
  | true => rfl
  | false => rw [hr, if_pos rfl] at h; cases h
/-! ### values that are great -/
/-- all lengths are those of a machine -/
inductive SmV : Vl → Prop where
  | mk (k n : Int) (b : List Int) (l : List Vl) (hk : 0 ≤ k ∧ k ≤ 255) (hn : -9223372036854775808 ≤ n ∧ n ≤ 9223372036854775807) (hbb : Bytes b) (hb : Sm b.length) (hl : Sm l.length) (h : ∀ x, x ∈ l → SmV x) : SmV (.mk k n b l)
mutual
def cntV : Vl → Nat → Nat → Nat
  | .mk _ _ _ l, most, deep => cntL l 1 most deep
def cntL : List Vl → Nat → Nat → Nat → Nat
  | [], n, _, _ => n
  | x :: r, n, most, deep => if n < most ∧ 0 < deep then cntL r (n + cntV x (most - n) (deep - 1)) most deep else n
end
/-- wide: false means at most so deep -/
def widV : Nat → Vl → Bool
  | 0, .mk _ _ b l => decide (4000 < b.length) || !l.isEmpty
  | d + 1, .mk _ _ b l => decide (4000 < b.length) || l.any (widV d)
mutual
theorem cntV_le : ∀ (v : Vl) (most deep : Nat), 1 ≤ most → 1 ≤ cntV v most deep ∧ cntV v most deep ≤ most
  | .mk k n b l, most, deep, h => by rw [cntV]; exact ⟨cntL_ge l 1 most deep h, (cntL_le l 1 most deep h)⟩
theorem cntL_le : ∀ (l : List Vl) (n most deep : Nat), n ≤ most → cntL l n most deep ≤ most
  | [], n, most, deep, h => by rw [cntL]; exact h
  | x :: r, n, most, deep, h => by
    rw [cntL]
    split
    · next q => exact cntL_le r _ most deep (by have := (cntV_le x (most - n) (deep - 1) (by omega)).2; omega)
    · exact h
theorem cntL_ge : ∀ (l : List Vl) (n most deep : Nat), n ≤ most → n ≤ cntL l n most deep
  | [], n, most, deep, h => by rw [cntL]; exact Nat.le_refl _
  | x :: r, n, most, deep, h => by
    rw [cntL]
    split
    · next q => have := cntL_ge r (n + cntV x (most - n) (deep - 1)) most deep (by have := (cntV_le x (most - n) (deep - 1) (by omega)).2; omega); omega
    · exact Nat.le_refl _
end
end Go.AX.Co
/- Values that are great. -/
set_option maxHeartbeats 8000000
set_option linter.unusedVariables false
set_option linter.unusedSimpArgs false
set_option maxRecDepth 20000
namespace Go.AX.Co
open Go.Proofs Go.RowKit Go.IntWalk
def grV (v : Vl) : Bool := decide (2000 < cntV v 2001 20) || widV 20 v
end Go.AX.Co
/- A law's arguments, opened, where a type may hold itself. -/
set_option maxHeartbeats 8000000
set_option linter.unusedVariables false
set_option linter.unusedSimpArgs false
set_option maxRecDepth 20000
namespace Go.AX
open Go.ChangeShapes
/-- types of data, closed under their parts -/
def okT (P : Program) (S : List TypeId) (t : TypeId) : Bool := match P.underlying t with
  | some .bool => true
  | some (.int _) => true
  | some .string => true
  | some (.slice e) => decide (0 < P.cellsOf e) && S.contains e
  | some (.struct fs) => tile P 0 fs.toList == some (P.cellsOf t) && fs.toList.all fun f => S.contains f.type
  | some (.array m e) => m * P.cellsOf e == P.cellsOf t && S.contains e
  | _ => false
theorem Sq.mono : ∀ {p q : List (List D → Prop)} {ds : List D}, p.length = q.length → (∀ (i : Nat) (a b : List D → Prop) (ds : List D), p[i]? = some a → q[i]? = some b → a ds → b ds) → Sq p ds → Sq q ds
  | [], [], ds, _, _, h => h
  | a :: p, b :: q, ds, hl, H, h => by
    obtain ⟨x, y, rfl, h1, h2⟩ := h
    exact ⟨x, y, rfl, H 0 a b _ rfl rfl h1, Sq.mono (by simpa using hl) (fun i a b ds e1 e2 => H (i + 1) a b ds (by simpa using e1) (by simpa using e2)) h2⟩
  | [], _ :: _, _, hl, _, _ => by simp at hl
  | _ :: _, [], _, hl, _, _ => by simp at hl
theorem Tyd.succ {P : Program} : ∀ {n : Nat} {t : TypeId} {ds : List D}, Tyd P n t ds → Tyd P (n + 1) t ds := by
  intro n
  induction n with
  | zero => intro t ds h; exact h.elim
  | succ n ih =>
    intro t ds h
    rw [Tyd] at h ⊢
    cases hu : P.underlying t with
    | none => rw [hu] at h; exact h.elim
    | some u =>
      rw [hu] at h
      cases u <;> simp only at h ⊢ <;> try exact h
      case slice e =>
        obtain ⟨es, rfl, h1, h2⟩ := h
        exact ⟨es, rfl, h1, fun x hx => ih (h2 x hx)⟩
      case struct fs =>
        refine Sq.mono (by simp) (fun i a b ds e1 e2 hd => ?_) h
        rw [List.getElem?_map] at e1 e2
        cases q : fs.toList[i]? with
        | none => rw [q] at e1; simp at e1
        | some f => rw [q] at e1 e2; simp at e1 e2; subst e1 e2; exact ih hd
      case array m e =>
        refine Sq.mono (by simp) (fun i a b ds e1 e2 hd => ?_) h
        rw [List.getElem?_replicate] at e1 e2
        split at e1
        · next hi => rw [if_pos hi] at e2; simp at e1 e2; subst e1 e2; exact ih hd
        · simp at e1
theorem Tyd.more {P : Program} {n : Nat} {t : TypeId} {ds : List D} : ∀ k, Tyd P n t ds → Tyd P (n + k) t ds
  | 0, h => h
  | k + 1, h => (Tyd.more k h).succ
def TydsX (P : Program) : List TypeId → List (List D) → Prop
  | [], [] => True
  | t :: ts, d :: ds => (∃ n, Tyd P (n + 8) t d) ∧ TydsX P ts ds
  | _, _ => False
section
variable {H : Type} {enc : TypeId × Value → H} {P : Program} {W : World} {base : Nat} {spare : Nat → Bool} {held : Bool}
end
end Go.AX
namespace Go.AX.Co
open Go.Proofs Go.RowKit Go.IntWalk
end Go.AX.Co
/- Values: what is written is read, and the other way about. -/
set_option maxHeartbeats 8000000
set_option linter.unusedVariables false
set_option linter.unusedSimpArgs false
set_option maxRecDepth 20000
namespace Go.AX.Co
open Go.Proofs Go.RowKit Go.IntWalk
theorem pow7 (i : Nat) : 2 ^ (7 * (i + 1)) = 128 * 2 ^ (7 * i) := by rw [Nat.mul_add, Nat.pow_add, Nat.mul_comm]
theorem num_read : ∀ (f i a m : Nat) (r : List Int), i + f = 10 → m < 2 ^ (64 - 7 * i) → (0 < i → 1 ≤ m) → numP f i a (codeF f m ++ r) = (m * 2 ^ (7 * i) + a, r, false) ∨ f = 0
  | 0, _, _, _, _, _, _, _ => .inr rfl
  | f + 1, i, a, m, r, hf, hm, h0 => by
    left
    have hi : i ≤ 9 := by omega
    have h9 : i = 9 → m < 2 := fun h => by subst h; exact hm
    rw [codeF]
    by_cases h : 127 < m
    · rw [if_pos h, List.cons_append, numP]
      have hx : ¬ ((i = 9 ∧ (1 : Int) < ((m % 128 + 128 : Nat) : Int)) ∨ (0 < i ∧ ((m % 128 + 128 : Nat) : Int) = 0)) := by omega
      rw [if_neg hx, if_neg (by omega), Int.toNat_natCast]
      have e : (m % 128 + 128) % 128 = m % 128 := by omega
      rw [e]
      have hi8 : i ≤ 8 := by
        rcases Nat.lt_or_ge i 9 with q | q
        · omega
        · have := h9 (by omega); omega
      have hm' : m / 128 < 2 ^ (64 - 7 * (i + 1)) := by
        apply Nat.div_lt_of_lt_mul
        have : 64 - 7 * i = 7 + (64 - 7 * (i + 1)) := by omega
        rw [this, Nat.pow_add] at hm
        exact hm
      rcases num_read f (i + 1) (m % 128 * 2 ^ (7 * i) + a) (m / 128) r (by omega) hm' (fun _ => by omega) with q | q
      · rw [q, pow7]
        congr 1
        have : m / 128 * (128 * 2 ^ (7 * i)) + m % 128 * 2 ^ (7 * i) = m * 2 ^ (7 * i) := by
          rw [← Nat.mul_assoc, ← Nat.add_mul]; congr 1; omega
        omega
      · omega
    · rw [if_neg h, List.singleton_append, numP]
      have hx : ¬ ((i = 9 ∧ (1 : Int) < ((m % 256 : Nat) : Int)) ∨ (0 < i ∧ ((m % 256 : Nat) : Int) = 0)) := by
        rintro (q | q)
        · have := h9 q.1; omega
        · have := h0 q.1; omega
      rw [if_neg hx, if_pos (by omega), Int.toNat_natCast]
      have e : m % 256 % 128 = m := by omega
      rw [e]
theorem num_back (n : Nat) (hn : n < 2 ^ 64) (r : List Int) : numR (codeF 10 n ++ r) false = (n, r, false) := by
  rcases num_read 10 0 0 n r rfl hn (fun h => absurd h (Nat.lt_irrefl 0)) with h | h
  · show numP 10 0 0 _ = _
    rw [h]; simp
  · omega
theorem num_inv : ∀ (f i a N : Nat) (q r : List Int), i + f = 10 → Bytes q → numP f i a q = (N, r, false) → ∃ m, N = m * 2 ^ (7 * i) + a ∧ q = codeF f m ++ r ∧ (0 < i → 1 ≤ m)
  | 0, _, _, _, _, _, _, _, h => by simp [numP] at h
  | _ + 1, _, _, _, [], _, _, _, h => by simp [numP] at h
  | f + 1, i, a, N, x :: q, r, hf, hB, h => by
    have hx := hB x (by simp)
    rw [numP] at h
    split at h
    · simp at h
    next hb =>
    split at h
    next h1 =>
      simp only [Prod.mk.injEq, and_true] at h
      obtain ⟨rfl, rfl⟩ := h
      refine ⟨x.toNat, by congr 2; omega, ?_, fun h => by omega⟩
      rw [codeF, if_neg (by omega), List.singleton_append]
      congr 1; omega
    next h1 =>
      obtain ⟨m, e1, e2, e3⟩ := num_inv f (i + 1) _ N q r (by omega) (fun e he => hB e (by simp [he])) h
      have h3 := e3 (by omega)
      refine ⟨m * 128 + x.toNat % 128, ?_, ?_, fun _ => by omega⟩
      · rw [e1, pow7, Nat.add_mul, Nat.mul_assoc]; omega
      · rw [codeF, if_pos (by omega), List.cons_append, e2]
        congr 1
        · omega
        · congr 2; omega
theorem num_inv' {N : Nat} {q r : List Int} (hB : Bytes q) (h : numR q false = (N, r, false)) : q = codeF 10 N ++ r := by
  obtain ⟨m, e1, e2, _⟩ := num_inv 10 0 0 N q r rfl hB h
  have : N = m := by simpa using e1
  subst this; exact e2
theorem unf_fold {n : Int} : unf (foldN n) = n := by
  unfold foldN unf
  by_cases h : 0 ≤ n
  · rw [if_pos h, if_pos (by omega)]; omega
  · rw [if_neg h, if_neg (by omega)]; omega
theorem fold_unf {n : Nat} : foldN (unf n) = n := by
  unfold foldN unf
  by_cases h : n % 2 = 0
  · rw [if_pos h, if_pos (by omega)]; omega
  · rw [if_neg h, if_neg (by omega)]; omega
theorem encV_pos (v : Vl) : 1 ≤ (encV v).length := by
  cases v; rw [encV]; split
  · simp
  split
  · simp
  · simp
theorem encL_len : ∀ l : List Vl, l.length ≤ (encL l).length
  | [] => by simp
  | x :: r => by have := encV_pos x; have := encL_len r; rw [encL, List.length_append, List.length_cons]; omega
theorem lis_back {g : List Int → Vl × List Int × Bool} : ∀ (l : List Vl) (r : List Int), (∀ x ∈ l, ∀ r, g (encV x ++ r) = (x, r, false)) → lisP g l.length (encL l ++ r) false = (l, r, false)
  | [], r, _ => by rw [encL]; rfl
  | x :: l, r, h => by
    rw [encL, List.append_assoc, List.length_cons, lisP, if_neg (by simp), h x (by simp)]
    rw [lis_back l r fun y hy => h y (List.mem_cons_of_mem _ hy)]
/-- what is written is read -/
theorem val_back : ∀ (d : Nat) (v : Vl), FitW v → rightP d v = true → ∀ r, valP d (encV v ++ r) = (v, r, false)
  | 0, .mk _ _ _ _, _, h, _ => by cases h
  | d + 1, .mk k n b l, hv, h, r => by
    obtain ⟨_, _, _, _, hn, hb, hl, hx⟩ := hv
    have q := right_kind h
    rw [encV]
    by_cases k1 : k = 1
    · obtain ⟨_, rfl, rfl⟩ : k = 1 ∧ b = [] ∧ l = [] := by rcases q with q | q | q <;> first | exact q | (exfalso; omega)
      rw [if_pos k1, List.cons_append, valP, num_back _ (foldN_lt hn.1 hn.2), if_pos k1, unf_fold, k1]
    rw [if_neg k1]
    by_cases k2 : k = 2
    · obtain ⟨_, rfl, rfl⟩ : k = 2 ∧ n = 0 ∧ l = [] := by rcases q with q | q | q <;> first | exact q | (exfalso; omega)
      rw [if_pos k2, List.cons_append, List.append_assoc, valP, num_back _ (by omega), if_neg k1, if_pos k2, k2]
      have e : takeP b.length (b ++ r) false = (b, r, false) := by unfold takeP; rw [if_neg (by simp)]; simp
      simp only [e]
    rw [if_neg k2]
    obtain ⟨k3, rfl, rfl, hr⟩ : k = 3 ∧ n = 0 ∧ b = [] ∧ ∀ x ∈ l, rightP d x = true := by rcases q with q | q | q <;> first | exact q | (exfalso; omega)
    rw [List.cons_append, List.append_assoc, valP, num_back _ (by omega), if_neg k1, if_neg k2, if_pos k3, k3]
    have hlen := encL_len l
    have e : (false || decide ((encL l ++ r).length < l.length)) = false := by rw [Bool.false_or, decide_eq_false_iff_not, List.length_append]; omega
    simp only [e, lis_back l r fun x hm r => val_back d x (hx x hm) (hr x hm) r]
theorem lis_inv {g : List Int → Vl × List Int × Bool} {K : List Int → Prop} {Q : Vl → Prop} (hK : ∀ r, K r → K (g r).2.1) (hg : ∀ r, K r → (g r).2.2 = false → r = encV (g r).1 ++ (g r).2.1 ∧ Q (g r).1) :
    ∀ (n : Nat) (r : List Int) (b : Bool), K r → (lisP g n r b).2.2 = false → r = encL (lisP g n r b).1 ++ (lisP g n r b).2.1 ∧ (lisP g n r b).1.length = n ∧ b = false ∧ ∀ x ∈ (lisP g n r b).1, Q x
  | 0, r, b, _, h => ⟨by simp [lisP, encL], rfl, by simpa [lisP] using h, by simp [lisP]⟩
  | n + 1, r, b, hr, h => by
    rw [lisP] at h ⊢
    cases b with
    | true => rw [if_pos rfl] at h; cases h
    | false =>
      rw [if_neg (by simp)] at h ⊢
      obtain ⟨e1, e2, e3, e4⟩ := lis_inv hK hg n (g r).2.1 (g r).2.2 (hK r hr) h
      obtain ⟨e5, e6⟩ := hg r hr e3
      refine ⟨?_, by simp [e2], rfl, fun x hx => ?_⟩
      · rw [encL, List.append_assoc, ← e1, ← e5]
      · rcases List.mem_cons.1 hx with rfl | hx
        · exact e6
        · exact e4 x hx
/-- what is read was written -/
theorem val_inv : ∀ (d : Nat) (b : List Int), Bytes b → b.length ≤ 900000 → (valP d b).2.2 = false → b = encV (valP d b).1 ++ (valP d b).2.1 ∧ rightP d (valP d b).1 = true
  | 0, [], _, _, h => by cases h
  | _ + 1, [], _, _, h => by cases h
  | 0, x :: q, _, _, h => by cases h
  | d + 1, x :: q, hB, hlen, h => by
    have hqB : Bytes q := fun e he => hB e (by simp [he])
    have hql : q.length ≤ 900000 := by simp at hlen; omega
    have hnum := num_inv' (N := (numR q false).1) (r := (numR q false).2.1) hqB
    have hnb := valP_bad (d := d) (x := x) (q := q)
    have hb : (numR q false).2.2 = false := by
      cases hh : (numR q false).2.2 with
      | false => rfl
      | true => rw [hnb hh] at h; cases h
    have nl := numR_left q false
    have hq := hnum (Prod.ext rfl (Prod.ext rfl hb))
    rw [valP] at h ⊢
    generalize numR q false = m at h hb hq nl ⊢
    have hmB := nl.bytes hqB
    have hml := nl.len
    by_cases k1 : x = 1
    · rw [if_pos k1] at h ⊢
      refine ⟨?_, ?_⟩
      · simp only
        rw [encV, if_pos rfl, fold_unf, k1, List.cons_append, ← hq]
      · simp only; rw [rightP, if_pos rfl]; simp
    rw [if_neg k1] at h ⊢
    by_cases k2 : x = 2
    · rw [if_pos k2] at h ⊢
      have ht : ¬ (m.2.2 = true ∨ m.2.1.length < m.1) := fun hh => by
        have e : takeP m.1 m.2.1 m.2.2 = ([], m.2.1, true) := by unfold takeP; rw [if_pos hh]
        rw [e] at h; cases h
      have e : takeP m.1 m.2.1 m.2.2 = (m.2.1.take m.1, m.2.1.drop m.1, false) := by unfold takeP; rw [if_neg ht]
      rw [e]
      have hlt : (m.2.1.take m.1).length = m.1 := by rw [List.length_take]; omega
      refine ⟨?_, ?_⟩
      · simp only
        rw [encV, if_neg (by omega), if_pos rfl, hlt, List.cons_append, List.append_assoc, List.take_append_drop, ← hq, k2]
      · simp only; rw [rightP, if_neg (by omega), if_pos rfl]; simp
    rw [if_neg k2] at h ⊢
    by_cases k3 : x = 3
    · rw [if_pos k3] at h ⊢
      simp only at h ⊢
      have hinv := lis_inv (g := valP d) (K := fun r => Bytes r ∧ r.length ≤ 900000) (Q := fun v => rightP d v = true) (fun r hr => ⟨(valP_left d r).bytes hr.1, by have := (valP_left d r).len; omega⟩)
        (fun r hr hf => val_inv d r hr.1 hr.2 hf) m.1 m.2.1 (m.2.2 || decide (m.2.1.length < m.1)) ⟨hmB, by omega⟩ h
      generalize lisP (valP d) m.1 m.2.1 (m.2.2 || decide (m.2.1.length < m.1)) = F at hinv h ⊢
      obtain ⟨e1, e2, e3, e4⟩ := hinv
      refine ⟨?_, ?_⟩
      · rw [encV, if_neg (by omega), if_neg (by omega), e2, List.cons_append, List.append_assoc, ← e1, ← hq, k3]
      · rw [rightP, if_neg (by omega), if_neg (by omega), if_pos rfl]
        have : (F.1.any fun x => !rightP d x) = false := by rw [List.any_eq_false]; intro y hy; simp [e4 y hy]
        rw [this]; simp
    · rw [if_neg k3] at h; cases h
/-- one encoding for each value -/
theorem dec_enc {v : Vl} (hv : FitW v) (h : (encP v).2 = 0) : decP (encP v).1 = (v, 0) ∧ ∀ r, nextP ((encP v).1 ++ r) = (v, (encP v).1.length, 0) := by
  have hr := enc_right h
  rw [encP_eq, hr, if_neg (by simp)] at h ⊢
  by_cases hl : 3000 < (encV v).length
  · rw [if_pos hl] at h; cases h
  rw [if_neg hl] at h ⊢
  have hn : ∀ r, nextP (encV v ++ r) = (v, (encV v).length, 0) := fun r => by
    unfold nextP
    rw [val_back 6 v hv hr r]
    simp only [List.length_append, Nat.add_sub_cancel]
    rw [if_neg (by simp; omega)]
  refine ⟨?_, hn⟩
  have := hn []
  rw [List.append_nil] at this
  unfold decP
  rw [this]
  simp
theorem enc_dec {b : List Int} (hB : Bytes b) (hl : b.length ≤ 900000) (h : (decP b).2 = 0) : encP (decP b).1 = (b, 0) := by
  have hd : decP b = ((nextP b).1, 0) ∧ (nextP b).2.2 = 0 ∧ (nextP b).2.1 = b.length := by
    unfold decP at h ⊢
    split at h
    · cases h
    next hh =>
      rw [if_neg hh]
      exact ⟨rfl, Decidable.byContradiction fun q => hh (.inl q), Decidable.byContradiction fun q => hh (.inr q)⟩
  rw [hd.1]
  have hn : (valP 6 b).2.2 = false ∧ b.length - (valP 6 b).2.1.length ≤ 3000 ∧ nextP b = ((valP 6 b).1, b.length - (valP 6 b).2.1.length, 0) := by
    have h0 := hd.2.1
    unfold nextP at h0 ⊢
    split at h0
    · cases h0
    next hh =>
      rw [if_neg hh]
      exact ⟨by simpa using fun q => hh (.inl q), by omega, rfl⟩
  have hlen := hd.2.2
  rw [hn.2.2] at hlen ⊢
  obtain ⟨e1, e2⟩ := val_inv 6 b hB hl hn.1
  have hrest : (valP 6 b).2.1 = [] := by
    have := (valP_left 6 b).len
    have hu := valP_used 6 b hn.1
    exact List.length_eq_zero_iff.1 (by simp only at hlen; omega)
  rw [hrest, List.append_nil] at e1
  rw [encP_eq]
  simp only
  rw [e2, if_neg (by simp), ← e1, if_neg (by have := hn.2.1; rw [hrest] at this; simp at this; omega)]
theorem enc_len' (v : Vl) : (encP v).1.length ≤ 3000 := by
  rw [encP_eq]
  split
  · simp
  split
  · simp
  · show (encV v).length ≤ 3000; omega
end Go.AX.Co
/- The statements' own functions: fit, is, refused; constructors. -/
set_option maxHeartbeats 8000000
set_option linter.unusedVariables false
set_option linter.unusedSimpArgs false
set_option maxRecDepth 20000
namespace Go.AX.Co
open Go.Proofs Go.RowKit Go.IntWalk
theorem number_spec (n : Int) : Spec Try.prog 39 [.d (.int .i64 n)] [] (vA (.mk 1 n [] [])) [] := by
  refine spec_of_ev (fn := Try.f39) DX_ok 3000 Try.func39 rfl rfl (Nat.le_of_ble_eq_true rfl) ?_
  simp (maxSteps := 4000000) -implicitDefEqProofs only [Try.f39, go_sem]
  simp (maxSteps := 4000000) -implicitDefEqProofs only [go_sem, Nat.reduceAdd, Nat.reduceSub, Nat.reduceLT, Nat.reduceLeDiff, Nat.reduceEqDiff, ↓reduceIte]
  exact wk_dat (by simp only [go_sem]; rfl) (by simp only [vA, List.map_nil]) (by simp only [go_sem, vA, List.map_nil])
theorem text_spec (b : List Int) (hb : b.length ≤ 1000000) : Spec Try.prog 40 [.d (.sl (b.map bY))] [] (vA (.mk 2 0 b [])) [] := by
  refine spec_of_ev (fn := Try.f40) DX_ok 3000 Try.func40 rfl rfl (Nat.le_of_ble_eq_true rfl) ?_
  simp (maxSteps := 4000000) -implicitDefEqProofs only [Try.f40, go_sem]
  refine ⟨by decide, ⟨by omega, by omega⟩, ?_⟩
  simp (maxSteps := 4000000) -implicitDefEqProofs only [go_sem, Nat.reduceAdd, Nat.reduceSub, Nat.reduceLT, Nat.reduceLeDiff, Nat.reduceEqDiff, ↓reduceIte]
  exact wk_dat (by simp only [go_sem]; rfl) (by simp only [vA, List.map_nil]) (by simp only [go_sem, vA, List.map_nil])
theorem list_spec (l : List Vl) : Spec Try.prog 38 [.d (.sl (l.map vD))] [] (vA (.mk 3 0 [] l)) [] := by
  refine spec_of_ev (fn := Try.f38) DX_ok 3000 Try.func38 rfl rfl (Nat.le_of_ble_eq_true rfl) ?_
  simp (maxSteps := 4000000) -implicitDefEqProofs only [Try.f38, go_sem]
  simp (maxSteps := 4000000) -implicitDefEqProofs only [go_sem, Nat.reduceAdd, Nat.reduceSub, Nat.reduceLT, Nat.reduceLeDiff, Nat.reduceEqDiff, ↓reduceIte]
  exact wk_dat (by simp only [go_sem]; rfl) (by simp only [vA, List.map_nil]) (by simp only [go_sem, vA, List.map_nil])
def fitP (v : Vl) : Bool := !grV v && decide ((encP v).2 = 0)
/-- what starts with what -/
def stP (a b : List Int) : Bool := decide (b.length ≤ a.length) && decide (a.take b.length = b)
mutual
def sameV : Vl → Vl → Bool
  | .mk k n b l, .mk k' n' b' l' => decide (k = k') && decide (n = n') && decide (b = b') && sameL l l'
def sameL : List Vl → List Vl → Bool
  | [], [] => true
  | x :: a, y :: b => sameV x y && sameL a b
  | _, _ => false
end
mutual
theorem sameV_eq : ∀ v w : Vl, sameV v w = true ↔ v = w
  | .mk k n b l, .mk k' n' b' l' => by
    rw [sameV]
    simp only [Bool.and_eq_true, decide_eq_true_eq, sameL_eq l l', Vl.mk.injEq, and_assoc]
theorem sameL_eq : ∀ a b : List Vl, sameL a b = true ↔ a = b
  | [], [] => by rw [sameL]; simp
  | x :: a, y :: b => by rw [sameL]; simp only [Bool.and_eq_true, sameV_eq x y, sameL_eq a b, List.cons.injEq]
  | [], _ :: _ => by rw [sameL] <;> simp
  | _ :: _, [] => by rw [sameL] <;> simp
end
theorem codeF_bytes : ∀ f n, Bytes (codeF f n)
  | 0, n => fun e he => by simp only [codeF, List.mem_singleton] at he; omega
  | f + 1, n => fun e he => by
    rw [codeF] at he
    split at he
    · rcases List.mem_cons.1 he with rfl | he
      · omega
      · exact codeF_bytes f _ e he
    · simp only [List.mem_singleton] at he; omega
theorem encL_bytes : ∀ l : List Vl, (∀ x ∈ l, Bytes (encV x)) → Bytes (encL l)
  | [], _ => fun e he => by simp [encL] at he
  | x :: l, h => fun e he => by
    rw [encL] at he
    rcases List.mem_append.1 he with he | he
    · exact h x (by simp) e he
    · exact encL_bytes l (fun y hy => h y (List.mem_cons_of_mem _ hy)) e he
theorem encV_bytes {v : Vl} (h : FitB v) : Bytes (encV v) := by
  induction h with
  | mk k n b l hk hn hbb hb hl hx ih =>
  intro e he
  rw [encV] at he
  split at he
  · rcases List.mem_cons.1 he with rfl | he
    · exact hk
    · exact codeF_bytes _ _ e he
  split at he
  · rcases List.mem_cons.1 he with rfl | he
    · exact hk
    · rcases List.mem_append.1 he with he | he
      · exact codeF_bytes _ _ e he
      · exact hbb e he
  · rcases List.mem_cons.1 he with rfl | he
    · exact hk
    · rcases List.mem_append.1 he with he | he
      · exact codeF_bytes _ _ e he
      · exact encL_bytes l ih e he
theorem enc_bytes {v : Vl} (h : FitB v) : Bytes (encP v).1 := by
  rw [encP_eq]
  split
  · exact fun e he => by simp at he
  split
  · exact fun e he => by simp at he
  · exact encV_bytes h
end Go.AX.Co

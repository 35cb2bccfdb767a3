/- Codes of numbers: bits and sums. -/
import Derived.Test.YtmffhidhmbncbaaK5
set_option maxHeartbeats 8000000
set_option linter.unusedVariables false
set_option linter.unusedSimpArgs false
set_option maxRecDepth 20000
namespace Go.AX.Co
open Go.Proofs Go.RowKit Go.IntWalk
theorem bv64 {x : Nat} (h : x < 2 ^ 64) : (BitVec.ofInt 64 (x : Int)).toNat = x := by
  rw [BitVec.toNat_ofInt]
  omega
theorem bv8 {x : Nat} (h : x < 256) : (BitVec.ofInt 8 (x : Int)).toNat = x := by
  rw [BitVec.toNat_ofInt]
  omega
theorem wrap64 {x : Nat} (h : x < 2 ^ 64) : IntKind.u64.wrap (x : Int) = (x : Int) := u64_in _ (by omega)
theorem or_sum {x a s : Nat} (hx : x < 2 ^ s) (h : a * 2 ^ s + x < 2 ^ 64) :
    IntKind.u64.wrap ((BitVec.ofInt 64 (x : Int) ||| BitVec.ofInt 64 ((a * 2 ^ s : Nat) : Int)).toNat : Int) = ((a * 2 ^ s + x : Nat) : Int) := by
  have e : x ||| a * 2 ^ s = a * 2 ^ s + x := by
    rw [Nat.or_comm, Nat.mul_comm, ← Nat.two_pow_add_eq_or_of_lt hx]
  rw [BitVec.toNat_or, bv64 (by omega), bv64 (by omega), e]
  exact wrap64 h
theorem and_127 {x : Nat} (h : x < 256) : ((BitVec.ofInt 8 (x : Int) &&& BitVec.ofInt 8 127).toNat : Int) = ((x % 128 : Nat) : Int) := by
  rw [BitVec.toNat_and, bv8 h, show (BitVec.ofInt 8 127).toNat = 2 ^ 7 - 1 from rfl, Nat.and_two_pow_sub_one_eq_mod]
/-! bits, not to be taken apart by the evaluator -/
def andI (k : IntKind) (x y : Int) : Int := k.wrap ((BitVec.ofInt k.bits x &&& BitVec.ofInt k.bits y).toNat : Int)
def orI (k : IntKind) (x y : Int) : Int := k.wrap ((BitVec.ofInt k.bits x ||| BitVec.ofInt k.bits y).toNat : Int)
def xorI (k : IntKind) (x y : Int) : Int := k.wrap ((BitVec.ofInt k.bits x ^^^ BitVec.ofInt k.bits y).toNat : Int)
theorem evInt_and {σ : List AObj} {k : IntKind} {x y : Int} : evInt σ .and k x y = .to (.d (.int k (andI k x y))) σ := rfl
theorem evInt_or {σ : List AObj} {k : IntKind} {x y : Int} : evInt σ .or k x y = .to (.d (.int k (orI k x y))) σ := rfl
theorem evInt_xor {σ : List AObj} {k : IntKind} {x y : Int} : evInt σ .xor k x y = .to (.d (.int k (xorI k x y))) σ := rfl
attribute [go_sem ↓] evInt_and evInt_or evInt_xor
/-- the number of a fold -/
def unf (n : Nat) : Int := if n % 2 = 0 then ((n / 2 : Nat) : Int) else -((n / 2 : Nat) : Int) - 1
theorem and_1 {n : Nat} (h : n < 2 ^ 64) : ((BitVec.ofInt 64 (n : Int) &&& BitVec.ofInt 64 1).toNat : Int) = ((n % 2 : Nat) : Int) := by
  rw [BitVec.toNat_and, bv64 h, show (BitVec.ofInt 64 1).toNat = 2 ^ 1 - 1 from rfl, Nat.and_two_pow_sub_one_eq_mod]
theorem xor_unf {n : Nat} (h : n < 2 ^ 64) : IntKind.i64.wrap ((BitVec.ofInt 64 ((n / 2 : Nat) : Int) ^^^ BitVec.ofInt 64 (-((n % 2 : Nat) : Int))).toNat : Int) = unf n := by
  have hl : n / 2 < 2 ^ 63 := by omega
  unfold unf
  rcases Nat.mod_two_eq_zero_or_one n with e | e
  · rw [if_pos e, e, show BitVec.ofInt 64 (-((0 : Nat) : Int)) = 0#64 from rfl, BitVec.xor_zero, bv64 (by omega)]
    exact i64_in _ (by omega)
  · rw [if_neg (by omega), e, show BitVec.ofInt 64 (-((1 : Nat) : Int)) = BitVec.allOnes 64 from rfl, BitVec.xor_allOnes, BitVec.toNat_not, bv64 (by omega)]
    generalize n / 2 = m at hl ⊢
    simp only [IntKind.wrap]
    have hb : IntKind.i64.bits = 64 := rfl
    have hs : IntKind.i64.signed = true := rfl
    rw [hb, hs, if_pos (by simp; omega)]
    omega
/-- the code of a number, read -/
def numP : Nat → Nat → Nat → List Int → Nat × List Int × Bool
  | 0, _, _, r => (0, r, true)
  | _ + 1, _, _, [] => (0, [], true)
  | f + 1, i, n, x :: r =>
    if (i = 9 ∧ 1 < x) ∨ (0 < i ∧ x = 0) then (0, r, true)
    else if x < 128 then ((x.toNat % 128) * 2 ^ (7 * i) + n, r, false)
    else numP f (i + 1) ((x.toNat % 128) * 2 ^ (7 * i) + n) r
theorem sum_lt {x i n : Nat} (hi : i ≤ 9) (hn : n < 2 ^ (7 * i)) (h9 : i = 9 → x ≤ 1) : (x % 128) * 2 ^ (7 * i) + n < 2 ^ 64 ∧ (x % 128) * 2 ^ (7 * i) < 2 ^ 64 := by
  have hx : x % 128 < 128 := Nat.mod_lt _ (by omega)
  have : i = 0 ∨ i = 1 ∨ i = 2 ∨ i = 3 ∨ i = 4 ∨ i = 5 ∨ i = 6 ∨ i = 7 ∨ i = 8 ∨ i = 9 := by omega
  rcases this with h | h | h | h | h | h | h | h | h | h
  all_goals
    subst h
    simp only [Nat.reduceMul, Nat.reducePow] at hn ⊢
    omega
theorem next_lt {x i n : Nat} (hn : n < 2 ^ (7 * i)) : (x % 128) * 2 ^ (7 * i) + n < 2 ^ (7 * (i + 1)) := by
  have hx : x % 128 < 128 := Nat.mod_lt _ (by omega)
  have e : 2 ^ (7 * (i + 1)) = 128 * 2 ^ (7 * i) := by rw [Nat.mul_add, Nat.pow_add, Nat.mul_comm]
  rw [e]
  have : (x % 128 + 1) * 2 ^ (7 * i) ≤ 128 * 2 ^ (7 * i) := Nat.mul_le_mul_right _ (by omega)
  rw [Nat.add_mul] at this
  omega
/-- one byte of a number, by the machine's operations -/
theorem num_byte {x i n : Nat} (hx : x < 256) (hi : i ≤ 9) (hn : n < 2 ^ (7 * i)) (h9 : i = 9 → x ≤ 1) :
    IntKind.u64.wrap ((BitVec.ofInt 64 (n : Int) ||| BitVec.ofInt 64 (IntKind.u64.wrap (((x % 128 : Nat) : Int) * 2 ^ (7 * i)))).toNat : Int) = (((x % 128) * 2 ^ (7 * i) + n : Nat) : Int) := by
  obtain ⟨h1, h2⟩ := sum_lt (x := x) hi hn h9
  have e : ((x % 128 : Nat) : Int) * 2 ^ (7 * i) = ((x % 128 * 2 ^ (7 * i) : Nat) : Int) := by push_cast; rfl
  rw [e, wrap64 h2]
  exact or_sum hn h1
theorem andI_127 {x : Nat} (h : x < 256) : andI .u8 (x : Int) 127 = ((x % 128 : Nat) : Int) := by
  have e := and_127 h
  show IntKind.u8.wrap ((BitVec.ofInt 8 (x : Int) &&& BitVec.ofInt 8 127).toNat : Int) = _
  rw [e]; exact u8_in _ (by omega)
theorem andI_1 {n : Nat} (h : n < 2 ^ 64) : andI .u64 (n : Int) 1 = ((n % 2 : Nat) : Int) := by
  have e := and_1 h
  show IntKind.u64.wrap ((BitVec.ofInt 64 (n : Int) &&& BitVec.ofInt 64 1).toNat : Int) = _
  rw [e]; exact wrap64 (by omega)
theorem xorI_unf {n : Nat} (h : n < 2 ^ 64) : xorI .i64 ((n / 2 : Nat) : Int) (-((n % 2 : Nat) : Int)) = unf n := xor_unf h
theorem orI_byte {x i n : Nat} (hx : x < 256) (hi : i ≤ 9) (hn : n < 2 ^ (7 * i)) (h9 : i = 9 → x ≤ 1) :
    orI .u64 (n : Int) (IntKind.u64.wrap (((x % 128 : Nat) : Int) * 2 ^ (7 * i))) = (((x % 128) * 2 ^ (7 * i) + n : Nat) : Int) := num_byte hx hi hn h9
end Go.AX.Co
/- Values: as data. -/
set_option maxHeartbeats 8000000
set_option linter.unusedVariables false
set_option linter.unusedSimpArgs false
set_option maxRecDepth 20000
namespace Go.AX.Co
open Go.Proofs Go.RowKit Go.IntWalk
/-- a value: kind, number, bytes, elements -/
inductive Vl where
  | mk (kd : Int) (nu : Int) (by' : List Int) (li : List Vl)
def bY (n : Int) : List D := [.int .u8 n]
mutual
def vD : Vl → List D
  | .mk k n b l => [.int .u8 k, .int .i64 n, .sl (b.map bY), .sl (vDs l)]
def vDs : List Vl → List (List D)
  | [] => []
  | x :: r => vD x :: vDs r
end
theorem vDs_eq : ∀ l, vDs l = l.map vD
  | [] => rfl
  | x :: r => by rw [vDs, vDs_eq r]; rfl
theorem bY_len {l : List Int} : (∀ e ∈ l.map bY, e.length = 1) = True := eq_true (map_len (g := bY) fun _ => rfl)
theorem vD_len1 : ∀ x, (vD x).length = 4
  | .mk _ _ _ _ => by rw [vD]; rfl
theorem vD_len {l : List Vl} : (∀ e ∈ l.map vD, e.length = 4) = True := eq_true (map_len (g := vD) vD_len1)
attribute [go_sem] bY bY_len vD_len
def v0 : Vl := .mk 0 0 [] []
end Go.AX.Co
/- Readers of bytes: take, number. -/
set_option maxHeartbeats 8000000
set_option linter.unusedVariables false
set_option linter.unusedSimpArgs false
set_option maxRecDepth 20000
namespace Go.AX.Co
open Go.Proofs Go.RowKit Go.IntWalk
/-- a reader -/
def rC (r : List Int) (b : Bool) : AObj := .cells [.d (.sl (r.map bY)), .d (.bool b)]
attribute [go_sem] rC
def takeP (n : Nat) (r : List Int) (b : Bool) : List Int × List Int × Bool := if b = true ∨ r.length < n then ([], r, true) else (r.take n, r.drop n, false)
theorem bz : ∀ b : Bool, b = true ∨ b = false := by decide
theorem take_own (n : Nat) (r : List Int) (b : Bool) (hr : r.length ≤ 1000000) (hn : n < 2 ^ 64) :
    Spec Try.prog 72 [.ptr 0 0, .d (.int .u64 n)] [rC r b] (.d (.sl ((takeP n r b).1.map bY))) [rC (takeP n r b).2.1 (takeP n r b).2.2] := by
  have b1 : (!true) = false := rfl
  have wl : IntKind.u64.wrap (r.length : Int) = (r.length : Int) := u64_in _ (by omega)
  refine spec_of_ev (fn := Try.f72) DX_ok 3000 Try.func72 rfl rfl (Nat.le_of_ble_eq_true rfl) ?_
  simp (maxSteps := 4000000) -implicitDefEqProofs only [Try.f72, go_sem]
  apply Or.elim (Bool.eq_false_or_eq_true b)
  · intro h
    rw [h]
    have e : takeP n r true = ([], r, true) := by unfold takeP; rw [if_pos (.inl rfl)]
    rw [e]
    simp (maxSteps := 4000000) -implicitDefEqProofs only [go_sem, Nat.reduceAdd, Nat.reduceSub, Nat.reduceLT, Nat.reduceLeDiff, Nat.reduceEqDiff, ↓reduceIte]
    exact Wk.nilD _ _
  intro h
  rw [h]
  apply Or.elim (Decidable.em (r.length < n))
  · intro h2
    have e : takeP n r false = ([], r, true) := by unfold takeP; rw [if_pos (.inr h2)]
    have d1 : decide ((r.length : Int) < n) = true := by simp; omega
    rw [e]
    simp (maxSteps := 4000000) -implicitDefEqProofs only [go_sem, wl, d1, Option.some.injEq, forall_eq', and_true, true_and, Bool.not_true, Bool.not_false, decide_true, Nat.reduceAdd, Nat.reduceSub, Nat.reduceLT, Nat.reduceLeDiff, Nat.reduceEqDiff, ↓reduceIte]
    exact Wk.nilD _ _
  intro h2
  have e : takeP n r false = (r.take n, r.drop n, false) := by unfold takeP; rw [if_neg (by simp; omega)]
  have d1 : decide ((r.length : Int) < n) = false := by simp; omega
  rw [e]
  simp (maxSteps := 4000000) -implicitDefEqProofs only [go_sem, wl, d1, Option.some.injEq, forall_eq', and_true, true_and, Bool.not_true, Bool.not_false, decide_true, Nat.reduceAdd, Nat.reduceSub, Nat.reduceLT, Nat.reduceLeDiff, Nat.reduceEqDiff, ↓reduceIte]
  refine ⟨⟨by omega, by omega, by omega⟩, ⟨by omega, by omega, by omega⟩, ?_⟩
  rw [List.take_length]
  exact Wk.sub (wkE_refl _)
theorem clone_bytes (r : List Int) (hr : r.length ≤ 1000000) : Spec Try.prog 33 [.d (.sl (r.map bY))] [] (.d (.sl (r.map bY))) [] := by
  refine spec_of_ev (fn := Try.f33) DX_ok 3000 Try.func33 rfl rfl (Nat.le_of_ble_eq_true rfl) ?_
  simp (maxSteps := 4000000) -implicitDefEqProofs only [Try.f33, go_sem]
  intro bb hb
  apply Or.elim (Bool.eq_false_or_eq_true bb)
  · intro h
    rw [hb h, h]
    simp (maxSteps := 4000000) -implicitDefEqProofs only [go_sem, Nat.reduceAdd, Nat.reduceSub, Nat.reduceLT, Nat.reduceLeDiff, Nat.reduceEqDiff, ↓reduceIte]
    exact Wk.nilD _ _
  intro h
  rw [h]
  simp (maxSteps := 4000000) -implicitDefEqProofs only [go_sem, Nat.reduceAdd, Nat.reduceSub, Nat.reduceLT, Nat.reduceLeDiff, Nat.reduceEqDiff, ↓reduceIte]
  refine ⟨by omega, ?_⟩
  exact wk_dat (r' := .d (.sl (r.map bY))) (by simp only [go_sem]; rfl) rfl (by simp only [go_sem])
/-- a number read, from a reader -/
def numR (r : List Int) (b : Bool) : Nat × List Int × Bool := if b = true then (0, r, true) else numP 10 0 0 r
def Bytes (r : List Int) : Prop := ∀ e ∈ r, 0 ≤ e ∧ e ≤ 255
theorem number_own (r : List Int) (b : Bool) (hr : r.length ≤ 1000000) (hB : Bytes r) :
    Spec Try.prog 73 [.ptr 0 0] [rC r b] (.d (.int .u64 (numR r b).1)) [rC (numR r b).2.1 (numR r b).2.2] := by
  have c1 := fun r b (h : r.length ≤ 1000000) => take_own 1 r b h (by omega)
  have z0 : ((0 : Int) != 0) = false := rfl
  simp only [rC] at c1
  refine spec_of_ev (fn := Try.f73) DX_ok 3000 Try.func73 rfl rfl (Nat.le_of_ble_eq_true rfl) ?_
  simp (maxSteps := 4000000) -implicitDefEqProofs only [Try.f73, go_sem]
  refine eloop (S := Nat × Nat × List Int) (fun s => mkE 49 [(0, .ptr 0 0), (3, .d (.int .u64 s.2.1)), (4, .d (.int .i64 ((7 * s.1 : Nat) : Int)))]) (fun s => [rC s.2.2 b])
    (fun s => s.1 ≤ 9 ∧ s.2.1 < 2 ^ (7 * s.1) ∧ s.2.2.length ≤ 1000000 ∧ Bytes s.2.2 ∧ (b = false → numP 10 0 0 r = numP (10 - s.1) s.1 s.2.1 s.2.2) ∧ (b = true → s.1 = 0 ∧ s.2.2 = r)) (fun s => 10 - s.1) ((0, 0, r) : Nat × Nat × List Int) ⟨by omega, by show 0 < 2 ^ (7 * 0); omega, hr, hB, fun _ => rfl, fun _ => ⟨rfl, rfl⟩⟩ (Wk.sub (by (simp only [go_sem]) <;> trivial)) ?_
  intro s hs
  obtain ⟨i, n, q⟩ := s
  simp only at hs ⊢
  have h1 := hs.1
  have h2 := hs.2.1
  have h3 := hs.2.2.1
  have h4 := hs.2.2.2.1
  have h5 := hs.2.2.2.2.1
  have h6 := hs.2.2.2.2.2
  have c1q := c1 q b h3
  simp (maxSteps := 4000000) -implicitDefEqProofs only [go_sem, Nat.reduceAdd, Nat.reduceSub, Nat.reduceLT, Nat.reduceLeDiff, Nat.reduceEqDiff, ↓reduceIte]
  refine .all _ _ c1q ?_
  apply Or.elim (Bool.eq_false_or_eq_true b)
  · intro hb
    have e := h6 hb
    rw [hb, e.2]
    have e1 : takeP 1 r true = ([], r, true) := by unfold takeP; rw [if_pos (.inl rfl)]
    have e2 : numR r true = (0, r, true) := by unfold numR; rw [if_pos rfl]
    rw [e1, e2]
    simp (maxSteps := 4000000) -implicitDefEqProofs only [go_sem, Nat.reduceAdd, Nat.reduceSub, Nat.reduceLT, Nat.reduceLeDiff, Nat.reduceEqDiff, ↓reduceIte]
    exact (Wk.sub (by (simp only [go_sem]) <;> trivial))
  intro hb
  have e := h5 hb
  have en : numR r b = numP (10 - i) i n q := by unfold numR; rw [if_neg (by simp [hb]), e]
  rw [en, hb]
  generalize hf : 9 - i = f
  have hi10 : 10 - i = f + 1 := by omega
  rw [hi10]
  apply Or.elim (Decidable.em (q = []))
  · intro hq
    have e1 : takeP 1 ([] : List Int) false = ([], [], true) := by unfold takeP; rw [if_pos (.inr (by simp))]
    rw [hq, e1, numP]
    simp (maxSteps := 4000000) -implicitDefEqProofs only [go_sem, Nat.reduceAdd, Nat.reduceSub, Nat.reduceLT, Nat.reduceLeDiff, Nat.reduceEqDiff, ↓reduceIte]
    exact (Wk.sub (by (simp only [go_sem]) <;> trivial))
  intro hq
  apply Exists.elim (List.exists_cons_of_ne_nil hq)
  intro x0 hx; apply Exists.elim hx
  intro q' hx
  have hx0 := h4 x0 (by rw [hx]; simp)
  apply Exists.elim (show ∃ x : Nat, x0 = (x : Int) from ⟨x0.toNat, by omega⟩)
  intro x hxx
  have x256 : x < 256 := by omega
  have e1 : takeP 1 (x0 :: q') false = ([x0], q', false) := by unfold takeP; rw [if_neg (by simp)]; rfl
  rw [hx, e1, hxx]
  have e63 : (((7 * i : Nat) : Int) == 63) = decide (i = 9) := by rw [Bool.eq_iff_iff]; simp; omega
  have d1 : decide (1 < (x : Int)) = decide (1 < x) := by rw [Bool.eq_iff_iff]; simp; omega
  have s0 : decide (0 < ((7 * i : Nat) : Int)) = decide (0 < i) := by rw [Bool.eq_iff_iff]; simp; omega
  have x0' : ((x : Int) == 0) = decide (x = 0) := by rw [Bool.eq_iff_iff]; simp
  have n00 : (0 ≤ (0 : Int) ∧ (0 : Int) < ((1 : Nat) : Int)) = True := eq_true (by omega)
  have l1 : ([(x : Int)] : List Int).length = 1 := rfl
  have a1 := andI_127 x256
  have a3 : IntKind.u64.wrap ((x % 128 : Nat) : Int) = ((x % 128 : Nat) : Int) := wrap64 (by omega)
  have w7 : IntKind.i64.wrap (((7 * i : Nat) : Int) + 7) = ((7 * (i + 1) : Nat) : Int) := by rw [i64_in _ (by omega)]; omega
  by_cases hbad : (i = 9 ∧ 1 < x) ∨ (0 < i ∧ x = 0)
  · have en : numP (f + 1) i n ((x : Int) :: q') = (0, q', true) := by rw [numP, if_pos (by omega)]
    rw [en]
    by_cases p1 : i = 9 <;> by_cases p2 : 1 < x <;> by_cases p3 : 0 < i <;> by_cases p4 : x = 0
    all_goals first | (exfalso; omega) | skip
    all_goals first | rw [decide_eq_true p1] at e63 | rw [decide_eq_false p1] at e63
    all_goals first | rw [decide_eq_true p2] at d1 | rw [decide_eq_false p2] at d1
    all_goals first | rw [decide_eq_true p3] at s0 | rw [decide_eq_false p3] at s0
    all_goals first | rw [decide_eq_true p4] at x0' | rw [decide_eq_false p4] at x0'
    all_goals (simp (maxSteps := 4000000) -implicitDefEqProofs only [go_sem, e63, d1, s0, x0', n00, List.getElem?_cons_zero, Option.some.injEq, forall_eq', and_true, true_and, Bool.not_true, Bool.not_false, decide_true, Nat.reduceAdd, Nat.reduceSub, Nat.reduceLT, Nat.reduceLeDiff, Nat.reduceEqDiff, ↓reduceIte])
    all_goals exact (Wk.sub (by (simp only [go_sem]) <;> trivial))
  have h9 : i = 9 → x ≤ 1 := fun h => by omega
  have nb := orI_byte x256 h1 h2 h9
  have h3' : q'.length ≤ 1000000 := by rw [hx] at h3; simp at h3; omega
  have nx := next_lt (x := x) h2
  generalize hN : x % 128 * 2 ^ (7 * i) + n = N at nb nx
  have en : numP (f + 1) i n ((x : Int) :: q') = if x < 128 then (N, q', false) else numP f (i + 1) N q' := by
    rw [numP, if_neg (by omega), Int.toNat_natCast, hN]
    by_cases h : x < 128
    · rw [if_pos h, if_pos (by omega)]
    · rw [if_neg h, if_neg (by omega)]
  rw [en]
  have d128 : decide ((x : Int) < 128) = decide (x < 128) := by rw [Bool.eq_iff_iff]; simp; omega
  have mn : min (7 * i) 64 = 7 * i := by omega
  have mn' : min (7 * i) IntKind.u64.bits = 7 * i := mn
  have g0 : (0 ≤ ((7 * i : Nat) : Int)) = True := eq_true (by omega)
  rcases bz (decide (x < 128)) with hx8 | hx8
  · have hx8' : x < 128 := of_decide_eq_true hx8
    rw [hx8] at d128
    rw [if_pos hx8']
    by_cases p1 : i = 9 <;> by_cases p2 : 1 < x <;> by_cases p3 : 0 < i <;> by_cases p4 : x = 0
    all_goals first | (exfalso; omega) | skip
    all_goals first | rw [decide_eq_true p1] at e63 | rw [decide_eq_false p1] at e63
    all_goals first | rw [decide_eq_true p2] at d1 | rw [decide_eq_false p2] at d1
    all_goals first | rw [decide_eq_true p3] at s0 | rw [decide_eq_false p3] at s0
    all_goals first | rw [decide_eq_true p4] at x0' | rw [decide_eq_false p4] at x0'
    all_goals (simp (maxSteps := 4000000) -implicitDefEqProofs only [go_sem, e63, d1, s0, x0', n00, List.getElem?_cons_zero, a1, a3, mn, mn', nb, g0, d128, w7, Option.some.injEq, forall_eq', and_true, true_and, Bool.not_true, Bool.not_false, decide_true, Nat.reduceAdd, Nat.reduceSub, Nat.reduceLT, Nat.reduceLeDiff, Nat.reduceEqDiff, ↓reduceIte])
    all_goals exact (Wk.sub (by (simp only [go_sem]) <;> trivial))
  have hx8' : ¬ x < 128 := of_decide_eq_false hx8
  rw [hx8] at d128
  rw [if_neg hx8']
  by_cases p1 : i = 9 <;> by_cases p2 : 1 < x <;> by_cases p3 : 0 < i <;> by_cases p4 : x = 0
  all_goals first | (exfalso; omega) | skip
  all_goals first | rw [decide_eq_true p1] at e63 | rw [decide_eq_false p1] at e63
  all_goals first | rw [decide_eq_true p2] at d1 | rw [decide_eq_false p2] at d1
  all_goals first | rw [decide_eq_true p3] at s0 | rw [decide_eq_false p3] at s0
  all_goals first | rw [decide_eq_true p4] at x0' | rw [decide_eq_false p4] at x0'
  all_goals (simp (maxSteps := 4000000) -implicitDefEqProofs only [go_sem, e63, d1, s0, x0', n00, List.getElem?_cons_zero, a1, a3, mn, mn', nb, g0, d128, w7, Option.some.injEq, forall_eq', and_true, true_and, Bool.not_true, Bool.not_false, decide_true, Nat.reduceAdd, Nat.reduceSub, Nat.reduceLT, Nat.reduceLeDiff, Nat.reduceEqDiff, ↓reduceIte])
  all_goals exact .mk ((i + 1, N, q') : Nat × Nat × List Int) ⟨by show i + 1 ≤ 9; omega, nx, h3', fun e he => h4 e (by rw [hx]; simp [he]), by show numP 10 0 0 r = numP (10 - (i + 1)) (i + 1) N q'; rw [e, hx, hxx, hi10, en, if_neg hx8']; congr 1; omega⟩ (by show 10 - (i + 1) < f + 1; omega) (Wk.sub (by (simp only [go_sem]) <;> trivial))
end Go.AX.Co
/- Readers of bytes: values: the plain law. -/
set_option maxHeartbeats 8000000
set_option linter.unusedVariables false
set_option linter.unusedSimpArgs false
set_option maxRecDepth 20000
namespace Go.AX.Co
open Go.Proofs Go.RowKit Go.IntWalk
def lisP (g : List Int → Vl × List Int × Bool) : Nat → List Int → Bool → List Vl × List Int × Bool
  | 0, r, b => ([], r, b)
  | n + 1, r, b => if b = true then ([], r, true) else ((g r).1 :: (lisP g n (g r).2.1 (g r).2.2).1, (lisP g n (g r).2.1 (g r).2.2).2)
/-- a value read, not deeper than so much -/
def valP : Nat → List Int → Vl × List Int × Bool
  | _, [] => (v0, [], true)
  | 0, _ :: q => (v0, q, true)
  | d + 1, x :: q =>
    if x = 1 then (.mk 1 (unf (numR q false).1) [] [], (numR q false).2)
    else if x = 2 then (.mk 2 0 (takeP (numR q false).1 (numR q false).2.1 (numR q false).2.2).1 [], (takeP (numR q false).1 (numR q false).2.1 (numR q false).2.2).2)
    else if x = 3 then (.mk 3 0 [] (lisP (valP d) (numR q false).1 (numR q false).2.1 ((numR q false).2.2 || decide ((numR q false).2.1.length < (numR q false).1))).1, (lisP (valP d) (numR q false).1 (numR q false).2.1 ((numR q false).2.2 || decide ((numR q false).2.1.length < (numR q false).1))).2)
    else (.mk x 0 [] [], (numR q false).2.1, true)
def valR (d : Nat) (r : List Int) (b : Bool) : Vl × List Int × Bool := if b = true then (v0, r, true) else valP d r
/-- what is left stands at the end of what was there -/
def Left (r q : List Int) : Prop := ∃ a, r = a ++ q
theorem Left.refl (r : List Int) : Left r r := ⟨[], rfl⟩
theorem Left.trans {a b c : List Int} (h : Left a b) (k : Left b c) : Left a c := by
  obtain ⟨x, rfl⟩ := h; obtain ⟨y, rfl⟩ := k; exact ⟨x ++ y, by simp⟩
theorem Left.cons {x : Int} {q : List Int} : Left (x :: q) q := ⟨[x], rfl⟩
theorem Left.len {r q : List Int} (h : Left r q) : q.length ≤ r.length := by obtain ⟨a, rfl⟩ := h; simp
theorem Left.bytes {r q : List Int} (h : Left r q) (b : Bytes r) : Bytes q := by obtain ⟨a, rfl⟩ := h; exact fun e he => b e (by simp [he])
theorem numP_left : ∀ (f i n : Nat) (r : List Int), Left r (numP f i n r).2.1
  | 0, _, _, r => Left.refl r
  | _ + 1, _, _, [] => Left.refl _
  | f + 1, i, n, x :: r => by
    rw [numP]
    split
    · exact Left.cons
    split
    · exact Left.cons
    · exact Left.cons.trans (numP_left f (i + 1) _ r)
theorem numR_left (r : List Int) (b : Bool) : Left r (numR r b).2.1 := by
  unfold numR
  split
  · exact Left.refl r
  · exact numP_left _ _ _ _
theorem numP_lt : ∀ (f i n : Nat) (r : List Int), Bytes r → i + f = 10 → n < 2 ^ (7 * i) → (numP f i n r).1 < 2 ^ 64
  | 0, _, _, r, _, _, _ => by show 0 < 2 ^ 64; omega
  | _ + 1, _, _, [], _, _, _ => by show 0 < 2 ^ 64; omega
  | f + 1, i, n, x :: r, hB, hf, hn => by
    have hx := hB x (by simp)
    rw [numP]
    split
    · show 0 < 2 ^ 64; omega
    next hb =>
    have h9 : i = 9 → x.toNat ≤ 1 := fun h => by omega
    have sl := sum_lt (x := x.toNat) (by omega) hn h9
    split
    · exact sl.1
    · exact numP_lt f (i + 1) _ r (fun e he => hB e (by simp [he])) (by omega) (next_lt hn)
theorem numR_lt (r : List Int) (b : Bool) (hB : Bytes r) : (numR r b).1 < 2 ^ 64 := by
  unfold numR
  split
  · show 0 < 2 ^ 64; omega
  · exact numP_lt 10 0 0 r hB rfl (by show 0 < 2 ^ (7 * 0); omega)
theorem takeP_left (n : Nat) (r : List Int) (b : Bool) : Left r (takeP n r b).2.1 := by
  unfold takeP
  split
  · exact Left.refl r
  · exact ⟨r.take n, (List.take_append_drop n r).symm⟩
theorem lisP_left {g : List Int → Vl × List Int × Bool} (hg : ∀ r, Left r (g r).2.1) : ∀ (n : Nat) (r : List Int) (b : Bool), Left r (lisP g n r b).2.1
  | 0, r, _ => Left.refl r
  | n + 1, r, b => by
    rw [lisP]
    split
    · exact Left.refl r
    · exact (hg r).trans (lisP_left hg n _ _)
theorem valP_left : ∀ (d : Nat) (r : List Int), Left r (valP d r).2.1
  | 0, [] => Left.refl _
  | _ + 1, [] => Left.refl _
  | 0, x :: q => Left.cons
  | d + 1, x :: q => by
    have hn : Left (x :: q) (numR q false).2.1 := Left.trans Left.cons (numR_left q false)
    rw [valP]
    split
    · exact hn
    split
    · exact hn.trans (takeP_left _ _ _)
    split
    · exact hn.trans (lisP_left (valP_left d) _ _ _)
    · exact hn
end Go.AX.Co
/- Readers of bytes: values, by the program. -/
set_option maxHeartbeats 8000000
set_option linter.unusedVariables false
set_option linter.unusedSimpArgs false
set_option maxRecDepth 20000
namespace Go.AX
theorem Spec.at1' {P : Program} {f : FuncId} {args args0 : List AV} {σ : List AObj} {r : AV} {o o' : AObj} (l : Nat) (h7 : Spec P f args0 [o] r [o']) (h1 : args = rens (at0 [l]) args0) (hb : bds 1 args0) (hl : l < σ.length) (hO : ob σ l = renO (at0 [l]) o) (ho : bdO 1 o) :
    Spec P f args σ (ren (rn [l] σ.length) r) (back σ [l] [o']) := by
  subst h1
  exact h7.frame [l] hb (by simp) (by simpa using hl) (by simp [obs, mapO, hO]) ⟨ho, trivial⟩
theorem Wk.end1 {r r' : AV} {o : AObj} {σ τ' : List AObj} (h : dat σ r = some (r', o :: τ')) (hb1 : bd 1 r') (hb2 : bdO 1 o) : Wk 1 [r] σ [r'] [o] :=
  Wk.trans (dat_sound r h 1) (Wk.keep (σ := [o]) (τ := τ') ⟨hb1, trivial⟩ ⟨hb2, trivial⟩)
end Go.AX
namespace Go.AX.Co
open Go.Proofs Go.RowKit Go.IntWalk
def vA : Vl → AV
  | .mk k n b l => .agg [.d (.int .u8 k), .d (.int .i64 n), .d (.sl (b.map bY)), .d (.sl (l.map vD))]
theorem value_step (d : Nat) (hd : d ≤ 6) (ih : ∀ d', d = d' + 1 → ∀ r : List Int, r.length ≤ 1000000 → Bytes r → Spec Try.prog 69 [.ptr 0 0, .d (.int .i64 d')] [rC r false] (vA (valP d' r).1) [rC (valP d' r).2.1 (valP d' r).2.2])
    (r : List Int) (b : Bool) (hr : r.length ≤ 1000000) (hB : Bytes r) :
    Spec Try.prog 69 [.ptr 0 0, .d (.int .i64 d)] [rC r b] (vA (valR d r b).1) [rC (valR d r b).2.1 (valR d r b).2.2] := by
  have c1 := take_own 1 r b hr (by omega)
  have b1 : (!true) = false := rfl
  have b2 : (!false) = true := rfl
  rw [show ((1 : Nat) : Int) = 1 from rfl] at c1
  simp only [rC] at c1
  refine spec_of_ev (fn := Try.f69) DX_ok 3000 Try.func69 rfl rfl (Nat.le_of_ble_eq_true rfl) ?_
  simp (maxSteps := 4000000) -implicitDefEqProofs only [Try.f69, go_sem]
  refine .all _ _ (c1.at1' 0 (by simp only [go_sem]) (by simp only [go_sem]; omega) (by simp) (by simp only [go_sem]) (by simp only [go_sem])) ?_
  apply Or.elim (Bool.eq_false_or_eq_true b)
  · intro hb
    have e1 : takeP 1 r b = ([], r, true) := by unfold takeP; rw [if_pos (.inl hb)]
    have e2 : valR d r b = (v0, r, true) := by unfold valR; rw [if_pos hb]
    rw [e1, e2]
    simp (maxSteps := 4000000) -implicitDefEqProofs only [go_sem, Nat.reduceAdd, Nat.reduceSub, Nat.reduceLT, Nat.reduceLeDiff, Nat.reduceEqDiff, ↓reduceIte]
    exact Wk.end1 (by simp only [go_sem, vA, v0]; rfl) (by simp only [go_sem, vA, v0, List.map_nil]) (by simp only [go_sem])
  intro hb
  have e0 : valR d r b = valP d r := by unfold valR; rw [if_neg (by simp [hb])]
  rw [e0]
  rw [hb]
  apply Or.elim (Decidable.em (r = []))
  · intro hq
    have e1 : takeP 1 ([] : List Int) false = ([], [], true) := by unfold takeP; rw [if_pos (.inr (by simp))]
    have e2 : valP d [] = (v0, [], true) := by cases d <;> rfl
    rw [hq, e1, e2]
    simp (maxSteps := 4000000) -implicitDefEqProofs only [go_sem, Nat.reduceAdd, Nat.reduceSub, Nat.reduceLT, Nat.reduceLeDiff, Nat.reduceEqDiff, ↓reduceIte]
    exact Wk.end1 (by simp only [go_sem, vA, v0]; rfl) (by simp only [go_sem, vA, v0, List.map_nil]) (by simp only [go_sem])
  intro hq
  apply Exists.elim (List.exists_cons_of_ne_nil hq)
  intro x0 hx; apply Exists.elim hx
  intro q hx
  have hx0 := hB x0 (by rw [hx]; simp)
  have hqB : Bytes q := fun e he => hB e (by rw [hx]; simp [he])
  have hql : q.length ≤ 1000000 := by rw [hx] at hr; simp at hr; omega
  have e1 : takeP 1 (x0 :: q) false = ([x0], q, false) := by unfold takeP; rw [if_neg (by simp)]; rfl
  rw [hx, e1]
  have n00 : (0 ≤ (0 : Int) ∧ (0 : Int) < ((1 : Nat) : Int)) = True := eq_true (by omega)
  cases d with
  | zero =>
    have dz : (((0 : Nat) : Int) == 0) = true := rfl
    rw [show valP 0 (x0 :: q) = (v0, q, true) from rfl]
    simp (maxSteps := 4000000) -implicitDefEqProofs only [go_sem, dz, Option.some.injEq, forall_eq', and_true, true_and, Bool.not_true, Bool.not_false, decide_true, Nat.reduceAdd, Nat.reduceSub, Nat.reduceLT, Nat.reduceLeDiff, Nat.reduceEqDiff, ↓reduceIte]
    exact Wk.end1 (by simp only [go_sem, vA, v0]; rfl) (by simp only [go_sem, vA, v0, List.map_nil]) (by simp only [go_sem])
  | succ d =>
  have dz : (((d + 1 : Nat) : Int) == 0) = false := by rw [beq_eq_false_iff_ne]; omega
  have ihd := ih d rfl
  have c2 := number_own q false hql hqB
  have nl := numR_left q false
  have nlt := numR_lt q false hqB
  rw [valP]
  generalize numR q false = m at c2 nl nlt ⊢
  have hml : m.2.1.length ≤ 1000000 := by have := nl.len; omega
  have hmB : Bytes m.2.1 := nl.bytes hqB
  simp only [rC] at c2
  simp (maxSteps := 4000000) -implicitDefEqProofs only [go_sem, dz, n00, List.getElem?_cons_zero, Option.some.injEq, forall_eq', and_true, true_and, Bool.not_true, Bool.not_false, decide_true, Nat.reduceAdd, Nat.reduceSub, Nat.reduceLT, Nat.reduceLeDiff, Nat.reduceEqDiff, ↓reduceIte]
  refine .all _ _ (c2.at1' 0 (by simp only [go_sem]) (by simp only [go_sem]; omega) (by simp) (by simp only [go_sem]) (by simp only [go_sem])) ?_
  by_cases k1 : x0 = 1
  · have z1 : (x0 == 1) = true := by simp [k1]
    have f1 : Int.fdiv (m.1 : Int) (2 ^ min 1 64) = ((m.1 / 2 : Nat) : Int) := by
      rw [show ((2 : Int) ^ min 1 64) = 2 from rfl, Int.fdiv_eq_ediv_of_nonneg _ (by omega)]; omega
    have f2 : IntKind.i64.wrap ((m.1 / 2 : Nat) : Int) = ((m.1 / 2 : Nat) : Int) := i64_in _ (by omega)
    have f3 := andI_1 nlt
    have f4 : IntKind.i64.wrap ((m.1 % 2 : Nat) : Int) = ((m.1 % 2 : Nat) : Int) := i64_in _ (by omega)
    have f5 : IntKind.i64.wrap (0 - ((m.1 % 2 : Nat) : Int)) = -((m.1 % 2 : Nat) : Int) := by rw [i64_in _ (by omega)]; omega
    have f6 := xorI_unf nlt
    rw [if_pos k1]
    simp (maxSteps := 4000000) -implicitDefEqProofs only [go_sem, z1, f1, f2, f3, f4, f5, f6, Option.some.injEq, forall_eq', and_true, true_and, Bool.not_true, Bool.not_false, decide_true, Nat.reduceAdd, Nat.reduceSub, Nat.reduceLT, Nat.reduceLeDiff, Nat.reduceEqDiff, ↓reduceIte]
    refine ⟨by omega, ?_⟩
    rw [k1]
    exact Wk.end1 (by simp only [go_sem, vA, List.map_nil]; rfl) (by simp only [go_sem, vA, List.map_nil]) (by simp only [go_sem])
  rw [if_neg k1]
  have z1 : (x0 == 1) = false := by simp [k1]
  have c3 := take_own m.1 m.2.1 m.2.2 hml nlt
  have htl : (takeP m.1 m.2.1 m.2.2).1.length ≤ 1000000 := by
    unfold takeP
    split
    · exact Nat.zero_le _
    · rw [List.length_take]; omega
  by_cases k2 : x0 = 2
  · have z2 : (x0 == 2) = true := by simp [k2]
    rw [if_pos k2]
    generalize takeP m.1 m.2.1 m.2.2 = t at c3 htl ⊢
    have c4 := clone_bytes t.1 htl
    simp only [rC] at c3
    simp (maxSteps := 4000000) -implicitDefEqProofs only [go_sem, z1, z2, Option.some.injEq, forall_eq', and_true, true_and, Bool.not_true, Bool.not_false, decide_true, Nat.reduceAdd, Nat.reduceSub, Nat.reduceLT, Nat.reduceLeDiff, Nat.reduceEqDiff, ↓reduceIte]
    refine .all _ _ (c3.at1' 0 (by simp only [go_sem]) (by simp only [go_sem]; omega) (by simp) (by simp only [go_sem]) (by simp only [go_sem])) ?_
    simp (maxSteps := 4000000) -implicitDefEqProofs only [go_sem, Nat.reduceAdd, Nat.reduceSub, Nat.reduceLT, Nat.reduceLeDiff, Nat.reduceEqDiff, ↓reduceIte]
    refine ecall0 _ c4 (by simp only [go_sem]) (by simp only [go_sem]) ?_
    simp (maxSteps := 4000000) -implicitDefEqProofs only [go_sem, Nat.reduceAdd, Nat.reduceSub, Nat.reduceLT, Nat.reduceLeDiff, Nat.reduceEqDiff, ↓reduceIte]
    rw [k2]
    exact Wk.end1 (by simp only [go_sem, vA, List.map_nil]; rfl) (by simp only [go_sem, vA, List.map_nil]) (by simp only [go_sem])
  rw [if_neg k2]
  have z2 : (x0 == 2) = false := by simp [k2]
  have wl : IntKind.u64.wrap (m.2.1.length : Int) = (m.2.1.length : Int) := u64_in _ (by omega)
  have dl : decide ((m.2.1.length : Int) < m.1) = decide (m.2.1.length < m.1) := by rw [Bool.eq_iff_iff]; simp
  by_cases k3 : x0 = 3
  case neg =>
    rw [if_neg k3]
    have z3 : (x0 == 3) = false := by simp [k3]
    simp (maxSteps := 4000000) -implicitDefEqProofs only [go_sem, z1, z2, z3, Option.some.injEq, forall_eq', and_true, true_and, Bool.not_true, Bool.not_false, decide_true, Nat.reduceAdd, Nat.reduceSub, Nat.reduceLT, Nat.reduceLeDiff, Nat.reduceEqDiff, ↓reduceIte]
    exact Wk.end1 (by simp only [go_sem, vA, List.map_nil]; rfl) (by simp only [go_sem, vA, List.map_nil]) (by simp only [go_sem])
  rw [if_pos k3]
  have z3 : (x0 == 3) = true := by simp [k3]
  have hwd : IntKind.i64.wrap (((d + 1 : Nat) : Int) - 1) = (d : Int) := by rw [i64_in _ (by omega)]; omega
  rw [k3]
  rw [k3] at z1 z2 z3
  generalize hBe : (m.2.2 || decide (m.2.1.length < m.1)) = B
  have hB0 : B = false → m.1 ≤ 1000000 := fun h => by
    rw [h, Bool.or_eq_false_iff, decide_eq_false_iff_not] at hBe; omega
  have hcase : (decide (m.2.1.length < m.1) = true ∧ B = true) ∨ (decide (m.2.1.length < m.1) = false ∧ m.2.2 = B) := by
    rcases bz (decide (m.2.1.length < m.1)) with h | h
    · exact .inl ⟨h, by rw [h, Bool.or_true] at hBe; exact hBe.symm⟩
    · exact .inr ⟨h, by rw [h, Bool.or_false] at hBe; exact hBe⟩
  generalize hF : lisP (valP d) m.1 m.2.1 B = F
  apply Or.elim hcase
  all_goals
    intro hc
    have hlt := hc.1
    rw [hlt] at dl
    simp (maxSteps := 4000000) -implicitDefEqProofs only [go_sem, z1, z2, z3, wl, dl, Option.some.injEq, forall_eq', and_true, true_and, Bool.not_true, Bool.not_false, decide_true, Nat.reduceAdd, Nat.reduceSub, Nat.reduceLT, Nat.reduceLeDiff, Nat.reduceEqDiff, ↓reduceIte]
    try rw [hc.2]
    refine eloop (S := Nat × List Vl × List Int × Bool) (fun s => mkE 84 [(0, .ptr 0 0), (1, .d (.int .i64 ((d + 1 : Nat) : Int))), (4, .ptr 1 0), (6, .d (.int .u64 s.1))]) (fun s => [rC s.2.2.1 s.2.2.2, .cells [.d (.int .u8 3), .d (.int .i64 0), .nil, .own 2], .row 4 (s.2.1.map vD)])
      (fun s => s.1 < 2 ^ 64 ∧ s.2.2.1.length ≤ 1000000 ∧ Bytes s.2.2.1 ∧ (s.2.2.2 = false → s.2.1.length + s.1 ≤ 1000000) ∧ F = (s.2.1 ++ (lisP (valP d) s.1 s.2.2.1 s.2.2.2).1, (lisP (valP d) s.1 s.2.2.1 s.2.2.2).2)) (fun s => s.1) ((m.1, [], m.2.1, B) : Nat × List Vl × List Int × Bool) ⟨nlt, hml, hmB, fun h => by have := hB0 h; simpa using this, by rw [← hF]; rfl⟩ (by (try rw [hc.2]); exact (Wk.trans (Wk.nilC 1 3 4 rfl rfl) (Wk.sub (by (simp only [go_sem]) <;> trivial)))) ?_
    clear hBe hF hcase hc hB0
    intro s hs
    obtain ⟨n, l, q1, bd⟩ := s
    simp only at hs ⊢
    have g1 := hs.1
    have g2 := hs.2.1
    have g3 := hs.2.2.1
    have g4 := hs.2.2.2.1
    have g5 := hs.2.2.2.2
    cases bd with
    | true =>
      have e0 : lisP (valP d) n q1 true = ([], q1, true) := by
        cases n with
        | zero => rfl
        | succ n => rw [lisP, if_pos rfl]
      have g6 : F = (l, q1, true) := by rw [g5, e0, List.append_nil]
      rw [g6]
      rcases bz (decide (0 < (n : Int))) with dn | dn
      all_goals (simp (maxSteps := 4000000) -implicitDefEqProofs only [go_sem, dn, b1, b2, Option.some.injEq, forall_eq', and_true, true_and, Bool.not_true, Bool.not_false, decide_true, Nat.reduceAdd, Nat.reduceSub, Nat.reduceLT, Nat.reduceLeDiff, Nat.reduceEqDiff, ↓reduceIte])
      all_goals exact Wk.end1 (by simp only [go_sem, vA, List.map_nil]; rfl) (by simp only [go_sem, vA, List.map_nil]) (by simp only [go_sem])
    | false =>
    cases n with
    | zero =>
      have dn : decide (0 < ((0 : Nat) : Int)) = false := rfl
      have dn' : decide ((0 : Int) < 0) = false := rfl
      have g6 : F = (l, q1, false) := by rw [g5, show lisP (valP d) 0 q1 false = ([], q1, false) from rfl, List.append_nil]
      rw [g6]
      simp (maxSteps := 4000000) -implicitDefEqProofs only [go_sem, dn, dn', b1, b2, Option.some.injEq, forall_eq', and_true, true_and, Bool.not_true, Bool.not_false, decide_true, Nat.reduceAdd, Nat.reduceSub, Nat.reduceLT, Nat.reduceLeDiff, Nat.reduceEqDiff, ↓reduceIte]
      exact Wk.end1 (by simp only [go_sem, vA, List.map_nil]; rfl) (by simp only [go_sem, vA, List.map_nil]) (by simp only [go_sem])
    | succ n =>
    have dn : decide (0 < ((n + 1 : Nat) : Int)) = true := decide_eq_true (by omega)
    have wn : IntKind.u64.wrap (((n + 1 : Nat) : Int) - 1) = (n : Int) := by rw [u64_in _ (by omega)]; omega
    have gl := g4 rfl
    have c5 := ihd q1 g2 g3
    have vl := valP_left d q1
    rw [lisP, if_neg (by simp)] at g5
    generalize valP d q1 = w at c5 vl g5
    obtain ⟨⟨kk, nn, bb, ll⟩, wr⟩ := w
    simp only [rC, vA] at c5
    simp only at vl g5
    have hvd : (l.map vD ++ [[.int .u8 kk, .int .i64 nn, .sl (bb.map bY), .sl (ll.map vD)]] : List (List D)) = (l ++ [Vl.mk kk nn bb ll]).map vD := by
      rw [List.map_append, List.map_cons, List.map_nil, vD, vDs_eq]
    simp (maxSteps := 4000000) -implicitDefEqProofs only [go_sem, dn, b1, b2, Option.some.injEq, forall_eq', and_true, true_and, Bool.not_true, Bool.not_false, decide_true, Nat.reduceAdd, Nat.reduceSub, Nat.reduceLT, Nat.reduceLeDiff, Nat.reduceEqDiff, ↓reduceIte]
    refine DX.plain (.take 0 true (.take 1 true (.take 2 false (.take 3 false (.take 4 false (.run [5] (fun _ => [true, true]) fun _ => (.run [6] (fun _ => [true, true]) fun _ => (.run [7] (fun _ => [false, false]) fun _ => (.take 8 false (.run [9] (fun _ => []) fun _ => .done)))))))))) (by kernel_rfl) (by kernel_rfl) Ty.mixed ?_
    simp (maxSteps := 4000000) -implicitDefEqProofs only [go_sem, hwd, Option.some.injEq, forall_eq', and_true, true_and, Bool.not_true, Bool.not_false, decide_true, Nat.reduceAdd, Nat.reduceSub, Nat.reduceLT, Nat.reduceLeDiff, Nat.reduceEqDiff, ↓reduceIte]
    refine ⟨_, _, c5.at1' 0 (by simp only [go_sem]) (by simp only [go_sem]; omega) (by simp) (by simp only [go_sem]) (by simp only [go_sem]), ?_⟩
    simp (maxSteps := 4000000) -implicitDefEqProofs only [go_sem, Nat.reduceAdd, Nat.reduceSub, Nat.reduceLT, Nat.reduceLeDiff, Nat.reduceEqDiff, ↓reduceIte]
    refine ⟨by omega, ⟨fun e he => by simp at he; subst he; rfl, by omega, by omega⟩, ?_⟩
    exact .mk ((n, l ++ [Vl.mk kk nn bb ll], wr.1, wr.2) : Nat × List Vl × List Int × Bool) ⟨by show n < 2 ^ 64; omega, by show wr.1.length ≤ 1000000; have := vl.len; omega, vl.bytes g3, fun _ => by show (l ++ [Vl.mk kk nn bb ll]).length + n ≤ 1000000; simp; omega, by rw [g5]; simp⟩ (by show n < n + 1; omega) (by rw [wn, hvd]; exact (Wk.via [0, 1, 4] (by (simp only [go_sem, ↓reduceIte]) <;> trivial) (by (simp (maxSteps := 4000000) -implicitDefEqProofs only [go_sem, Nat.reduceAdd, Nat.reduceSub, Nat.reduceLT, Nat.reduceLeDiff, Nat.reduceEqDiff, ↓reduceIte]) <;> omega) (by simp) (by simp) (by (simp (maxSteps := 4000000) -implicitDefEqProofs only [go_sem, Nat.reduceAdd, Nat.reduceSub, Nat.reduceLT, Nat.reduceLeDiff, Nat.reduceEqDiff, ↓reduceIte]) <;> trivial) (by (simp (maxSteps := 4000000) -implicitDefEqProofs only [go_sem, Nat.reduceAdd, Nat.reduceSub, Nat.reduceLT, Nat.reduceLeDiff, Nat.reduceEqDiff, ↓reduceIte]) <;> omega) (Nat.le_of_ble_eq_true rfl) (at0_pre rfl)))
theorem value_own : ∀ (d : Nat), d ≤ 6 → ∀ (r : List Int) (b : Bool), r.length ≤ 1000000 → Bytes r →
    Spec Try.prog 69 [.ptr 0 0, .d (.int .i64 d)] [rC r b] (vA (valR d r b).1) [rC (valR d r b).2.1 (valR d r b).2.2]
  | 0, hd, r, b, hr, hB => value_step 0 hd (fun d' h => by omega) r b hr hB
  | d + 1, hd, r, b, hr, hB => value_step (d + 1) hd (fun d' h r hr hB => by
      have e : d' = d := by omega
      subst e
      have := value_own d' (by omega) r false hr hB
      rwa [show valR d' r false = valP d' r from rfl] at this) r b hr hB
end Go.AX.Co
/- Readers of bytes: Next and Decode, by the program, of data. -/
set_option maxHeartbeats 8000000
set_option linter.unusedVariables false
set_option linter.unusedSimpArgs false
set_option maxRecDepth 20000
namespace Go.AX.Co
open Go.Proofs Go.RowKit Go.IntWalk
def nextP (b : List Int) : Vl × Nat × Int := if (valP 6 b).2.2 = true ∨ 3000 < b.length - (valP 6 b).2.1.length then (v0, 0, 12) else ((valP 6 b).1, b.length - (valP 6 b).2.1.length, 0)
def decP (b : List Int) : Vl × Int := if (nextP b).2.2 ≠ 0 ∨ (nextP b).2.1 ≠ b.length then (v0, 12) else ((nextP b).1, 0)
theorem next_own (b : List Int) (hr : b.length ≤ 1000000) (hB : Bytes b) : Spec Try.prog 59 [.d (.sl (b.map bY))] [] (.tup [vA (nextP b).1, .d (.int .i64 (nextP b).2.1), .d (.int .i64 (nextP b).2.2)]) [] := by
  have c1 := value_own 6 (by omega) b false hr hB
  rw [show valR 6 b false = valP 6 b from rfl] at c1
  have vl := (valP_left 6 b).len
  generalize hR : nextP b = R
  unfold nextP at hR
  generalize valP 6 b = w at c1 vl hR
  obtain ⟨⟨kk, nn, bb, ll⟩, q, bd⟩ := w
  simp only [rC, vA] at c1
  simp only at vl hR
  rw [show ((6 : Nat) : Int) = 6 from rfl] at c1
  have ws : IntKind.i64.wrap ((b.length : Int) - q.length) = ((b.length - q.length : Nat) : Int) := by rw [i64_in _ (by omega)]; omega
  have d1 : decide (3000 < ((b.length - q.length : Nat) : Int)) = decide (3000 < b.length - q.length) := by rw [Bool.eq_iff_iff]; simp; omega
  refine spec_of_ev (fn := Try.f59) DX_ok 3000 Try.func59 rfl rfl (Nat.le_of_ble_eq_true rfl) ?_
  simp (maxSteps := 4000000) -implicitDefEqProofs only [Try.f59, go_sem]
  simp (maxSteps := 4000000) -implicitDefEqProofs only [go_sem, Nat.reduceAdd, Nat.reduceSub, Nat.reduceLT, Nat.reduceLeDiff, Nat.reduceEqDiff, ↓reduceIte]
  refine .all _ _ (c1.at1' 1 (by simp only [go_sem]) (by simp only [go_sem]; omega) (by simp) (by simp only [go_sem]) (by simp only [go_sem])) ?_
  cases bd with
  | true =>
    rw [if_pos (.inl rfl)] at hR
    subst hR
    simp (maxSteps := 4000000) -implicitDefEqProofs only [go_sem, Nat.reduceAdd, Nat.reduceSub, Nat.reduceLT, Nat.reduceLeDiff, Nat.reduceEqDiff, ↓reduceIte]
    exact wk_dat (r' := .tup [.agg [.d (.int .u8 0), .d (.int .i64 0), .d (.sl []), .d (.sl [])], .d (.int .i64 0), .d (.int .i64 12)]) (by simp only [go_sem]; rfl) (by simp only [vA, v0, List.map_nil]; rfl) (by simp only [go_sem, vA, v0, List.map_nil])
  | false =>
  by_cases h : 3000 < b.length - q.length
  · rw [if_pos (.inr h)] at hR
    subst hR
    rw [decide_eq_true h] at d1
    simp (maxSteps := 4000000) -implicitDefEqProofs only [go_sem, ws, d1, Option.some.injEq, forall_eq', and_true, true_and, Bool.not_true, Bool.not_false, decide_true, Nat.reduceAdd, Nat.reduceSub, Nat.reduceLT, Nat.reduceLeDiff, Nat.reduceEqDiff, ↓reduceIte]
    exact wk_dat (r' := .tup [.agg [.d (.int .u8 0), .d (.int .i64 0), .d (.sl []), .d (.sl [])], .d (.int .i64 0), .d (.int .i64 12)]) (by simp only [go_sem]; rfl) (by simp only [vA, v0, List.map_nil]; rfl) (by simp only [go_sem, vA, v0, List.map_nil])
  · rw [if_neg (fun h' => h'.elim (fun h' => by cases h') h)] at hR
    subst hR
    rw [decide_eq_false h] at d1
    simp (maxSteps := 4000000) -implicitDefEqProofs only [go_sem, ws, d1, Option.some.injEq, forall_eq', and_true, true_and, Bool.not_true, Bool.not_false, decide_true, Nat.reduceAdd, Nat.reduceSub, Nat.reduceLT, Nat.reduceLeDiff, Nat.reduceEqDiff, ↓reduceIte]
    exact wk_dat (r' := .tup [.agg [.d (.int .u8 kk), .d (.int .i64 nn), .d (.sl (bb.map bY)), .d (.sl (ll.map vD))], .d (.int .i64 ((b.length - q.length : Nat) : Int)), .d (.int .i64 0)]) (by simp only [go_sem]; rfl) (by simp only [vA]) (by simp only [go_sem, vA])
theorem decode_own (b : List Int) (hr : b.length ≤ 1000000) (hB : Bytes b) : Spec Try.prog 42 [.d (.sl (b.map bY))] [] (.tup [vA (decP b).1, .d (.int .i64 (decP b).2)]) [] := by
  have c1 := next_own b hr hB
  generalize hR : decP b = R
  unfold decP at hR
  generalize nextP b = w at c1 hR
  obtain ⟨⟨kk, nn, bb, ll⟩, n, e⟩ := w
  simp only [vA] at c1
  simp only at hR
  refine spec_of_ev (fn := Try.f42) DX_ok 3000 Try.func42 rfl rfl (Nat.le_of_ble_eq_true rfl) ?_
  simp (maxSteps := 4000000) -implicitDefEqProofs only [Try.f42, go_sem]
  refine ecall0 _ c1 (by simp only [go_sem]) (by simp only [go_sem]) ?_
  by_cases h1 : e = 0
  case neg =>
    have z1 : (e != 0) = true := by simp [h1]
    rw [if_pos (.inl h1)] at hR
    subst hR
    simp (maxSteps := 4000000) -implicitDefEqProofs only [go_sem, z1, Option.some.injEq, forall_eq', and_true, true_and, Bool.not_true, Bool.not_false, decide_true, Nat.reduceAdd, Nat.reduceSub, Nat.reduceLT, Nat.reduceLeDiff, Nat.reduceEqDiff, ↓reduceIte]
    exact wk_dat (r' := .tup [.agg [.d (.int .u8 0), .d (.int .i64 0), .d (.sl []), .d (.sl [])], .d (.int .i64 12)]) (by simp only [go_sem]; rfl) (by simp only [vA, v0, List.map_nil]) (by simp only [go_sem, vA, v0, List.map_nil])
  have z1 : (e != 0) = false := by simp [h1]
  by_cases h2 : n = b.length
  case neg =>
    have z2 : ((n : Int) != b.length) = true := by simp; omega
    rw [if_pos (.inr h2)] at hR
    subst hR
    simp (maxSteps := 4000000) -implicitDefEqProofs only [go_sem, z1, z2, Option.some.injEq, forall_eq', and_true, true_and, Bool.not_true, Bool.not_false, decide_true, Nat.reduceAdd, Nat.reduceSub, Nat.reduceLT, Nat.reduceLeDiff, Nat.reduceEqDiff, ↓reduceIte]
    exact wk_dat (r' := .tup [.agg [.d (.int .u8 0), .d (.int .i64 0), .d (.sl []), .d (.sl [])], .d (.int .i64 12)]) (by simp only [go_sem]; rfl) (by simp only [vA, v0, List.map_nil]) (by simp only [go_sem, vA, v0, List.map_nil])
  have z2 : ((n : Int) != b.length) = false := by simp; omega
  rw [if_neg (fun h => h.elim (fun h => h h1) (fun h => h h2))] at hR
  subst hR
  simp (maxSteps := 4000000) -implicitDefEqProofs only [go_sem, z1, z2, Option.some.injEq, forall_eq', and_true, true_and, Bool.not_true, Bool.not_false, decide_true, Nat.reduceAdd, Nat.reduceSub, Nat.reduceLT, Nat.reduceLeDiff, Nat.reduceEqDiff, ↓reduceIte]
  exact wk_dat (r' := .tup [.agg [.d (.int .u8 kk), .d (.int .i64 nn), .d (.sl (bb.map bY)), .d (.sl (ll.map vD))], .d (.int .i64 0)]) (by simp only [go_sem]; rfl) (by simp only [vA]) (by simp only [go_sem, vA])
end Go.AX.Co
/- Values: compared with themselves. -/
set_option maxHeartbeats 8000000
set_option linter.unusedVariables false
set_option linter.unusedSimpArgs false
set_option maxRecDepth 20000
namespace Go.AX.Co
open Go.Proofs Go.RowKit Go.IntWalk
/-- a value that is not great -/
inductive FitV : Vl → Prop where
  | mk (k n : Int) (b : List Int) (l : List Vl) (hb : b.length ≤ 1000000) (hl : l.length ≤ 1000000) (h : ∀ x, x ∈ l → FitV x) : FitV (.mk k n b l)
end Go.AX.Co

/- Codes of numbers: bits and sums. -/
import Derived.Test.YtheliodgamcdjaaK4
set_option maxHeartbeats 8000000
set_option linter.unusedVariables false
set_option linter.unusedSimpArgs false
set_option maxRecDepth 20000
namespace Go.AX.Co
open Go.Proofs Go.RowKit Go.IntWalk
theorem bv64 {x : Nat} (h : x < 2 ^ 64) : (BitVec.ofInt 64 (x : Int)).toNat = x := by
  rw [BitVec.toNat_ofInt]
  omega
theorem bv8 {x : Nat} (h : x < 256) : (BitVec.ofInt 8 (x : Int)).toNat = x := by
  rw [BitVec.toNat_ofInt]
  omega
theorem wrap64 {x : Nat} (h : x < 2 ^ 64) : IntKind.u64.wrap (x : Int) = (x : Int) := u64_in _ (by omega)
theorem or_sum {x a s : Nat} (hx : x < 2 ^ s) (h : a * 2 ^ s + x < 2 ^ 64) :
    IntKind.u64.wrap ((BitVec.ofInt 64 (x : Int) ||| BitVec.ofInt 64 ((a * 2 ^ s : Nat) : Int)).toNat : Int) = ((a * 2 ^ s + x : Nat) : Int) := by
  have e : x ||| a * 2 ^ s = a * 2 ^ s + x := by
    rw [Nat.or_comm, Nat.mul_comm, ← Nat.two_pow_add_eq_or_of_lt hx]
  rw [BitVec.toNat_or, bv64 (by omega), bv64 (by omega), e]
  exact wrap64 h
theorem and_127 {x : Nat} (h : x < 256) : ((BitVec.ofInt 8 (x : Int) &&& BitVec.ofInt 8 127).toNat : Int) = ((x % 128 : Nat) : Int) := by
  rw [BitVec.toNat_and, bv8 h, show (BitVec.ofInt 8 127).toNat = 2 ^ 7 - 1 from rfl, Nat.and_two_pow_sub_one_eq_mod]
/-! bits, not to be taken apart by the evaluator -/
def andI (k : IntKind) (x y : Int) : Int := k.wrap ((BitVec.ofInt k.bits x &&& BitVec.ofInt k.bits y).toNat : Int)
def orI (k : IntKind) (x y : Int) : Int := k.wrap ((BitVec.ofInt k.bits x ||| BitVec.ofInt k.bits y).toNat : Int)
def xorI (k : IntKind) (x y : Int) : Int := k.wrap ((BitVec.ofInt k.bits x ^^^ BitVec.ofInt k.bits y).toNat : Int)
theorem evInt_and {σ : List AObj} {k : IntKind} {x y : Int} : evInt σ .and k x y = .to (.d (.int k (andI k x y))) σ := rfl
theorem evInt_or {σ : List AObj} {k : IntKind} {x y : Int} : evInt σ .or k x y = .to (.d (.int k (orI k x y))) σ := rfl
theorem evInt_xor {σ : List AObj} {k : IntKind} {x y : Int} : evInt σ .xor k x y = .to (.d (.int k (xorI k x y))) σ := rfl
attribute [go_sem ↓] evInt_and evInt_or evInt_xor
/-- the number of a fold -/
def unf (n : Nat) : Int := if n % 2 = 0 then ((n / 2 : Nat) : Int) else -((n / 2 : Nat) : Int) - 1
theorem and_1 {n : Nat} (h : n < 2 ^ 64) : ((BitVec.ofInt 64 (n : Int) &&& BitVec.ofInt 64 1).toNat : Int) = ((n % 2 : Nat) : Int) := by
  rw [BitVec.toNat_and, bv64 h, show (BitVec.ofInt 64 1).toNat = 2 ^ 1 - 1 from rfl, Nat.and_two_pow_sub_one_eq_mod]
theorem xor_unf {n : Nat} (h : n < 2 ^ 64) : IntKind.i64.wrap ((BitVec.ofInt 64 ((n / 2 : Nat) : Int) ^^^ BitVec.ofInt 64 (-((n % 2 : Nat) : Int))).toNat : Int) = unf n := by
  have hl : n / 2 < 2 ^ 63 := by omega
  unfold unf
  rcases Nat.mod_two_eq_zero_or_one n with e | e
  · rw [if_pos e, e, show BitVec.ofInt 64 (-((0 : Nat) : Int)) = 0#64 from rfl, BitVec.xor_zero, bv64 (by omega)]
    exact i64_in _ (by omega)
  · rw [if_neg (by omega), e, show BitVec.ofInt 64 (-((1 : Nat) : Int)) = BitVec.allOnes 64 from rfl, BitVec.xor_allOnes, BitVec.toNat_not, bv64 (by omega)]
    generalize n / 2 = m at hl ⊢
    simp only [IntKind.wrap]
    have hb : IntKind.i64.bits = 64 := rfl
    have hs : IntKind.i64.signed = true := rfl
    rw [hb, hs, if_pos (by simp; omega)]
    omega
/-- the code of a number, read -/
def numP : Nat → Nat → Nat → List Int → Nat × List Int × Bool
  | 0, _, _, r => (0, r, true)
  | _ + 1, _, _, [] => (0, [], true)
  | f + 1, i, n, x :: r =>
    if (i = 9 ∧ 1 < x) ∨ (0 < i ∧ x = 0) then (0, r, true)
    else if x < 128 then ((x.toNat % 128) * 2 ^ (7 * i) + n, r, false)
    else numP f (i + 1) ((x.toNat % 128) * 2 ^ (7 * i) + n) r
theorem sum_lt {x i n : Nat} (hi : i ≤ 9) (hn : n < 2 ^ (7 * i)) (h9 : i = 9 → x ≤ 1) : (x % 128) * 2 ^ (7 * i) + n < 2 ^ 64 ∧ (x % 128) * 2 ^ (7 * i) < 2 ^ 64 := by
  have hx : x % 128 < 128 := Nat.mod_lt _ (by omega)
  have : i = 0 ∨ i = 1 ∨ i = 2 ∨ i = 3 ∨ i = 4 ∨ i = 5 ∨ i = 6 ∨ i = 7 ∨ i = 8 ∨ i = 9 := by omega
  rcases this with h | h | h | h | h | h | h | h | h | h
  all_goals
    subst h
    simp only [Nat.reduceMul, Nat.reducePow] at hn ⊢
    omega
theorem next_lt {x i n : Nat} (hn : n < 2 ^ (7 * i)) : (x % 128) * 2 ^ (7 * i) + n < 2 ^ (7 * (i + 1)) := by
  have hx : x % 128 < 128 := Nat.mod_lt _ (by omega)
  have e : 2 ^ (7 * (i + 1)) = 128 * 2 ^ (7 * i) := by rw [Nat.mul_add, Nat.pow_add, Nat.mul_comm]
  rw [e]
  have : (x % 128 + 1) * 2 ^ (7 * i) ≤ 128 * 2 ^ (7 * i) := Nat.mul_le_mul_right _ (by omega)
  rw [Nat.add_mul] at this
  omega
/-- one byte of a number, by the machine's operations -/
theorem num_byte {x i n : Nat} (hx : x < 256) (hi : i ≤ 9) (hn : n < 2 ^ (7 * i)) (h9 : i = 9 → x ≤ 1) :
    IntKind.u64.wrap ((BitVec.ofInt 64 (n : Int) ||| BitVec.ofInt 64 (IntKind.u64.wrap (((x % 128 : Nat) : Int) * 2 ^ (7 * i)))).toNat : Int) = (((x % 128) * 2 ^ (7 * i) + n : Nat) : Int) := by
  obtain ⟨h1, h2⟩ := sum_lt (x := x) hi hn h9
  have e : ((x % 128 : Nat) : Int) * 2 ^ (7 * i) = ((x % 128 * 2 ^ (7 * i) : Nat) : Int) := by push_cast; rfl
  rw [e, wrap64 h2]
  exact or_sum hn h1
theorem andI_127 {x : Nat} (h : x < 256) : andI .u8 (x : Int) 127 = ((x % 128 : Nat) : Int) := by
  have e := and_127 h
  show IntKind.u8.wrap ((BitVec.ofInt 8 (x : Int) &&& BitVec.ofInt 8 127).toNat : Int) = _
  rw [e]; exact u8_in _ (by omega)
theorem andI_1 {n : Nat} (h : n < 2 ^ 64) : andI .u64 (n : Int) 1 = ((n % 2 : Nat) : Int) := by
  have e := and_1 h
  show IntKind.u64.wrap ((BitVec.ofInt 64 (n : Int) &&& BitVec.ofInt 64 1).toNat : Int) = _
  rw [e]; exact wrap64 (by omega)
theorem xorI_unf {n : Nat} (h : n < 2 ^ 64) : xorI .i64 ((n / 2 : Nat) : Int) (-((n % 2 : Nat) : Int)) = unf n := xor_unf h
theorem orI_byte {x i n : Nat} (hx : x < 256) (hi : i ≤ 9) (hn : n < 2 ^ (7 * i)) (h9 : i = 9 → x ≤ 1) :
    orI .u64 (n : Int) (IntKind.u64.wrap (((x % 128 : Nat) : Int) * 2 ^ (7 * i))) = (((x % 128) * 2 ^ (7 * i) + n : Nat) : Int) := num_byte hx hi hn h9
end Go.AX.Co
/- Values: as data. -/
set_option maxHeartbeats 8000000
set_option linter.unusedVariables false
set_option linter.unusedSimpArgs false
set_option maxRecDepth 20000
namespace Go.AX.Co
open Go.Proofs Go.RowKit Go.IntWalk
/-- a value: kind, number, bytes, elements -/
inductive Vl where
  | mk (kd : Int) (nu : Int) (by' : List Int) (li : List Vl)
def bY (n : Int) : List D := [.int .u8 n]
mutual
def vD : Vl → List D
  | .mk k n b l => [.int .u8 k, .int .i64 n, .sl (b.map bY), .sl (vDs l)]
def vDs : List Vl → List (List D)
  | [] => []
  | x :: r => vD x :: vDs r
end
theorem vDs_eq : ∀ l, vDs l = l.map vD
  | [] => rfl
  | x :: r => by rw [vDs, vDs_eq r]; rfl
theorem bY_len {l : List Int} : (∀ e ∈ l.map bY, e.length = 1) = True := eq_true (map_len (g := bY) fun _ => rfl)
theorem vD_len1 : ∀ x, (vD x).length = 4
  | .mk _ _ _ _ => by rw [vD]; rfl
theorem vD_len {l : List Vl} : (∀ e ∈ l.map vD, e.length = 4) = True := eq_true (map_len (g := vD) vD_len1)
attribute [go_sem] bY bY_len vD_len
def v0 : Vl := .mk 0 0 [] []
end Go.AX.Co
/- Readers of bytes: take, number. -/
set_option maxHeartbeats 8000000
set_option linter.unusedVariables false
set_option linter.unusedSimpArgs false
set_option maxRecDepth 20000
namespace Go.AX.Co
open Go.Proofs Go.RowKit Go.IntWalk
/-- a reader -/
def rC (r : List Int) (b : Bool) : AObj := .cells [.d (.sl (r.map bY)), .d (.bool b)]
attribute [go_sem] rC
def takeP (n : Nat) (r : List Int) (b : Bool) : List Int × List Int × Bool := if b = true ∨ r.length < n then ([], r, true) else (r.take n, r.drop n, false)
theorem bz : ∀ b : Bool, b = true ∨ b = false := by decide
/-- a number read, from a reader -/
def numR (r : List Int) (b : Bool) : Nat × List Int × Bool := if b = true then (0, r, true) else numP 10 0 0 r
def Bytes (r : List Int) : Prop := ∀ e ∈ r, 0 ≤ e ∧ e ≤ 255
end Go.AX.Co
/- Readers of bytes: values: the plain law. -/
set_option maxHeartbeats 8000000
set_option linter.unusedVariables false
set_option linter.unusedSimpArgs false
set_option maxRecDepth 20000
namespace Go.AX.Co
open Go.Proofs Go.RowKit Go.IntWalk
def lisP (g : List Int → Vl × List Int × Bool) : Nat → List Int → Bool → List Vl × List Int × Bool
  | 0, r, b => ([], r, b)
  | n + 1, r, b => if b = true then ([], r, true) else ((g r).1 :: (lisP g n (g r).2.1 (g r).2.2).1, (lisP g n (g r).2.1 (g r).2.2).2)
/-- a value read, not deeper than so much -/
def valP : Nat → List Int → Vl × List Int × Bool
  | _, [] => (v0, [], true)
  | 0, _ :: q => (v0, q, true)
  | d + 1, x :: q =>
    if x = 1 then (.mk 1 (unf (numR q false).1) [] [], (numR q false).2)
    else if x = 2 then (.mk 2 0 (takeP (numR q false).1 (numR q false).2.1 (numR q false).2.2).1 [], (takeP (numR q false).1 (numR q false).2.1 (numR q false).2.2).2)
    else if x = 3 then (.mk 3 0 [] (lisP (valP d) (numR q false).1 (numR q false).2.1 ((numR q false).2.2 || decide ((numR q false).2.1.length < (numR q false).1))).1, (lisP (valP d) (numR q false).1 (numR q false).2.1 ((numR q false).2.2 || decide ((numR q false).2.1.length < (numR q false).1))).2)
    else (.mk x 0 [] [], (numR q false).2.1, true)
def valR (d : Nat) (r : List Int) (b : Bool) : Vl × List Int × Bool := if b = true then (v0, r, true) else valP d r
/-- what is left stands at the end of what was there -/
def Left (r q : List Int) : Prop := ∃ a, r = a ++ q
theorem Left.refl (r : List Int) : Left r r := ⟨[], rfl⟩
theorem Left.trans {a b c : List Int} (h : Left a b) (k : Left b c) : Left a c := by
  obtain ⟨x, rfl⟩ := h; obtain ⟨y, rfl⟩ := k; exact ⟨x ++ y, by simp⟩
theorem Left.cons {x : Int} {q : List Int} : Left (x :: q) q := ⟨[x], rfl⟩
theorem Left.len {r q : List Int} (h : Left r q) : q.length ≤ r.length := by obtain ⟨a, rfl⟩ := h; simp
theorem Left.bytes {r q : List Int} (h : Left r q) (b : Bytes r) : Bytes q := by obtain ⟨a, rfl⟩ := h; exact fun e he => b e (by simp [he])
theorem numP_left : ∀ (f i n : Nat) (r : List Int), Left r (numP f i n r).2.1
  | 0, _, _, r => Left.refl r
  | _ + 1, _, _, [] => Left.refl _
  | f + 1, i, n, x :: r => by
    rw [numP]
    split
    · exact Left.cons
    split
    · exact Left.cons
    · exact Left.cons.trans (numP_left f (i + 1) _ r)
theorem numR_left (r : List Int) (b : Bool) : Left r (numR r b).2.1 := by
  unfold numR
  split
  · exact Left.refl r
  · exact numP_left _ _ _ _
theorem numP_lt : ∀ (f i n : Nat) (r : List Int), Bytes r → i + f = 10 → n < 2 ^ (7 * i) → (numP f i n r).1 < 2 ^ 64
  | 0, _, _, r, _, _, _ => by show 0 < 2 ^ 64; omega
  | _ + 1, _, _, [], _, _, _ => by show 0 < 2 ^ 64; omega
  | f + 1, i, n, x :: r, hB, hf, hn => by
    have hx := hB x (by simp)
    rw [numP]
    split
    · show 0 < 2 ^ 64; omega
    next hb =>
    have h9 : i = 9 → x.toNat ≤ 1 := fun h => by omega
    have sl := sum_lt (x := x.toNat) (by omega) hn h9
    split
    · exact sl.1
    · exact numP_lt f (i + 1) _ r (fun e he => hB e (by simp [he])) (by omega) (next_lt hn)
theorem numR_lt (r : List Int) (b : Bool) (hB : Bytes r) : (numR r b).1 < 2 ^ 64 := by
  unfold numR
  split
  · show 0 < 2 ^ 64; omega
  · exact numP_lt 10 0 0 r hB rfl (by show 0 < 2 ^ (7 * 0); omega)
theorem takeP_left (n : Nat) (r : List Int) (b : Bool) : Left r (takeP n r b).2.1 := by
  unfold takeP
  split
  · exact Left.refl r
  · exact ⟨r.take n, (List.take_append_drop n r).symm⟩
theorem lisP_left {g : List Int → Vl × List Int × Bool} (hg : ∀ r, Left r (g r).2.1) : ∀ (n : Nat) (r : List Int) (b : Bool), Left r (lisP g n r b).2.1
  | 0, r, _ => Left.refl r
  | n + 1, r, b => by
    rw [lisP]
    split
    · exact Left.refl r
    · exact (hg r).trans (lisP_left hg n _ _)
theorem valP_left : ∀ (d : Nat) (r : List Int), Left r (valP d r).2.1
  | 0, [] => Left.refl _
  | _ + 1, [] => Left.refl _
  | 0, x :: q => Left.cons
  | d + 1, x :: q => by
    have hn : Left (x :: q) (numR q false).2.1 := Left.trans Left.cons (numR_left q false)
    rw [valP]
    split
    · exact hn
    split
    · exact hn.trans (takeP_left _ _ _)
    split
    · exact hn.trans (lisP_left (valP_left d) _ _ _)
    · exact hn
end Go.AX.Co
/- Readers of bytes: values, by the program. -/
set_option maxHeartbeats 8000000
set_option linter.unusedVariables false
set_option linter.unusedSimpArgs false
set_option maxRecDepth 20000
namespace Go.AX
theorem Spec.at1' {P : Program} {f : FuncId} {args args0 : List AV} {σ : List AObj} {r : AV} {o o' : AObj} (l : Nat) (h7 : Spec P f args0 [o] r [o']) (h1 : args = rens (at0 [l]) args0) (hb : bds 1 args0) (hl : l < σ.length) (hO : ob σ l = renO (at0 [l]) o) (ho : bdO 1 o) :
    Spec P f args σ (ren (rn [l] σ.length) r) (back σ [l] [o']) := by
  subst h1
  exact h7.frame [l] hb (by simp) (by simpa using hl) (by simp [obs, mapO, hO]) ⟨ho, trivial⟩
theorem Wk.end1 {r r' : AV} {o : AObj} {σ τ' : List AObj} (h : dat σ r = some (r', o :: τ')) (hb1 : bd 1 r') (hb2 : bdO 1 o) : Wk 1 [r] σ [r'] [o] :=
  Wk.trans (dat_sound r h 1) (Wk.keep (σ := [o]) (τ := τ') ⟨hb1, trivial⟩ ⟨hb2, trivial⟩)
end Go.AX
namespace Go.AX.Co
open Go.Proofs Go.RowKit Go.IntWalk
def vA : Vl → AV
  | .mk k n b l => .agg [.d (.int .u8 k), .d (.int .i64 n), .d (.sl (b.map bY)), .d (.sl (l.map vD))]
end Go.AX.Co
/- Readers of bytes: Next and Decode, by the program, of data. -/
set_option maxHeartbeats 8000000
set_option linter.unusedVariables false
set_option linter.unusedSimpArgs false
set_option maxRecDepth 20000
namespace Go.AX.Co
open Go.Proofs Go.RowKit Go.IntWalk
def nextP (b : List Int) : Vl × Nat × Int := if (valP 6 b).2.2 = true ∨ 3000 < b.length - (valP 6 b).2.1.length then (v0, 0, 12) else ((valP 6 b).1, b.length - (valP 6 b).2.1.length, 0)
def decP (b : List Int) : Vl × Int := if (nextP b).2.2 ≠ 0 ∨ (nextP b).2.1 ≠ b.length then (v0, 12) else ((nextP b).1, 0)
end Go.AX.Co
/- Values: compared with themselves. -/
set_option maxHeartbeats 8000000
set_option linter.unusedVariables false
set_option linter.unusedSimpArgs false
set_option maxRecDepth 20000
namespace Go.AX.Co
open Go.Proofs Go.RowKit Go.IntWalk
theorem intEq8 (x y : Int) : (x == y) = decide (x = y) := by rw [Bool.eq_iff_iff]; simp
theorem bne8 (a b : Int) : (a != b) = !(a == b) := rfl
theorem sameBytes_ref (a b : List Int) (ha : Sm a.length) : Spec Try.prog 23 [.d (.sl (a.map bY)), .d (.sl (b.map bY))] [] (.d (.bool (decide (a = b)))) [] := by
  unfold Sm at ha
  refine spec_of_ev (fn := Try.f23) DX_ok 3000 Try.func23 rfl rfl (Nat.le_of_ble_eq_true rfl) ?_
  simp (maxSteps := 4000000) -implicitDefEqProofs only [Try.f23, go_sem]
  by_cases h1 : a.length = b.length
  · have d1 : ((a.length : Int) != b.length) = false := by simp [h1]
    simp (maxSteps := 4000000) -implicitDefEqProofs only [go_sem, d1, Option.some.injEq, forall_eq', and_true, true_and, Bool.not_true, Bool.not_false, decide_true, Nat.reduceAdd, Nat.reduceSub, Nat.reduceLT, Nat.reduceLeDiff, Nat.reduceEqDiff, ↓reduceIte]
    refine eloop (S := Nat) (fun i => mkE 26 [(0, .d (.sl (a.map bY))), (1, .d (.sl (b.map bY))), (5, .d (.int .i64 i))]) (fun i => []) (fun i => i ≤ a.length ∧ ∀ j x, a[j]? = some x → j < i → b[j]? = some x) (fun i => a.length - i) 0 ⟨by omega, by omega⟩ (Wk.sub (by (simp only [go_sem]) <;> trivial)) ?_
    rintro i ⟨hi, hj⟩
    rcases Nat.lt_or_ge i a.length with h2 | h2
    · have d2 : decide ((i : Int) < a.length) = true := by simp; omega
      obtain ⟨x, hx⟩ : ∃ x, a[i]? = some x := ⟨a[i]'(by omega), List.getElem?_eq_getElem _⟩
      obtain ⟨y, hy⟩ : ∃ x, b[i]? = some x := ⟨b[i]'(by omega), List.getElem?_eq_getElem _⟩
      have n1 : (0 ≤ (i : Int) ∧ (i : Int) < a.length) = True := eq_true (by omega)
      have n2 : (0 ≤ (i : Int) ∧ (i : Int) < b.length) = True := eq_true (by omega)
      have n3 : (i < a.length) = True := eq_true (by omega)
      have n4 : (i < b.length) = True := eq_true (by omega)
      have w1 : IntKind.i64.wrap ((i : Int) + 1) = i + 1 := i64_in _ (by omega)
      by_cases h3 : x = y
      · have hxy := (intEq8 x y).trans (decide_eq_true h3)
        simp (maxSteps := 4000000) -implicitDefEqProofs only [go_sem, d2, Option.some.injEq, forall_eq', and_true, true_and, Bool.not_true, Bool.not_false, decide_true, Nat.reduceAdd, Nat.reduceSub, Nat.reduceLT, Nat.reduceLeDiff, Nat.reduceEqDiff, ↓reduceIte]
        refine DX.plain (.take 0 false (.take 1 false (.take 2 false (.take 3 false (.take 4 false (.take 5 false (.take 6 false (.take 7 false (.take 8 false .done))))))))) (by kernel_rfl) (by kernel_rfl) Ty.mixed ?_
        simp (maxSteps := 4000000) -implicitDefEqProofs only [go_sem, n1, n2, n3, n4, hx, hy, hxy, w1, bne8, Option.some.injEq, forall_eq', and_true, true_and, Bool.not_true, Bool.not_false, decide_true, Nat.reduceAdd, Nat.reduceSub, Nat.reduceLT, Nat.reduceLeDiff, Nat.reduceEqDiff, ↓reduceIte]
        exact .mk (i + 1) ⟨by omega, upto_succ hx (by rw [h3]; exact hy) hj⟩ (by omega) (Wk.sub (by (simp only [go_sem]) <;> trivial))
      · have hxy := (intEq8 x y).trans (decide_eq_false h3)
        simp (maxSteps := 4000000) -implicitDefEqProofs only [go_sem, d2, Option.some.injEq, forall_eq', and_true, true_and, Bool.not_true, Bool.not_false, decide_true, Nat.reduceAdd, Nat.reduceSub, Nat.reduceLT, Nat.reduceLeDiff, Nat.reduceEqDiff, ↓reduceIte]
        refine DX.plain (.take 0 false (.take 1 false (.take 2 false (.take 3 false (.take 4 false (.take 5 false (.take 6 false (.take 7 false (.take 8 false .done))))))))) (by kernel_rfl) (by kernel_rfl) Ty.mixed ?_
        simp (maxSteps := 4000000) -implicitDefEqProofs only [go_sem, n1, n2, n3, n4, hx, hy, hxy, bne8, Option.some.injEq, forall_eq', and_true, true_and, Bool.not_true, Bool.not_false, decide_true, Nat.reduceAdd, Nat.reduceSub, Nat.reduceLT, Nat.reduceLeDiff, Nat.reduceEqDiff, ↓reduceIte]
        refine wk_bool (decide_eq_false fun e => h3 ?_).symm
        subst e; rw [hx] at hy; exact Option.some.inj hy
    · have d2 : decide ((i : Int) < a.length) = false := by simp; omega
      simp (maxSteps := 4000000) -implicitDefEqProofs only [go_sem, d2, Option.some.injEq, forall_eq', and_true, true_and, Bool.not_true, Bool.not_false, decide_true, Nat.reduceAdd, Nat.reduceSub, Nat.reduceLT, Nat.reduceLeDiff, Nat.reduceEqDiff, ↓reduceIte]
      refine wk_bool (decide_eq_true ?_).symm
      refine List.ext_getElem? fun j => ?_
      rcases Nat.lt_or_ge j a.length with q | q
      · have hx := List.getElem?_eq_getElem q
        rw [hx]; exact (hj j _ hx (by omega)).symm
      · rw [List.getElem?_eq_none q, List.getElem?_eq_none (by omega)]
  · have d1 : ((a.length : Int) != b.length) = true := by simp; omega
    simp (maxSteps := 4000000) -implicitDefEqProofs only [go_sem, d1, Option.some.injEq, forall_eq', and_true, true_and, Bool.not_true, Bool.not_false, decide_true, Nat.reduceAdd, Nat.reduceSub, Nat.reduceLT, Nat.reduceLeDiff, Nat.reduceEqDiff, ↓reduceIte]
    exact wk_bool (decide_eq_false fun e => h1 (by rw [e])).symm

/-- a value that is not great -/
inductive FitV : Vl → Prop where
  | mk (k n : Int) (b : List Int) (l : List Vl) (hb : b.length ≤ 1000000) (hl : l.length ≤ 1000000) (h : ∀ x, x ∈ l → FitV x) : FitV (.mk k n b l)
theorem same_refl {v : Vl} (h : FitV v) : Spec Try.prog 13 [vA v, vA v] [] (.d (.bool true)) [] := by
  induction h with
  | mk k n b l hb hl hx ih =>
  have c1 := sameBytes_ref b b (by unfold Sm; omega)
  rw [decide_eq_true rfl] at c1
  have zn : ∀ n : Int, (n != n) = false := fun n => by simp
  have b1 : (!true) = false := rfl
  refine spec_of_ev (fn := Try.f13) DX_ok 3000 Try.func13 rfl rfl (Nat.le_of_ble_eq_true rfl) ?_
  simp (maxSteps := 4000000) -implicitDefEqProofs only [Try.f13, go_sem, vA]
  simp (maxSteps := 4000000) -implicitDefEqProofs only [go_sem, zn, Option.some.injEq, forall_eq', and_true, true_and, Bool.not_true, Bool.not_false, decide_true, Nat.reduceAdd, Nat.reduceSub, Nat.reduceLT, Nat.reduceLeDiff, Nat.reduceEqDiff, ↓reduceIte]
  refine ecall0 _ c1 (by simp only [go_sem]) (by simp only [go_sem]) ?_
  simp (maxSteps := 4000000) -implicitDefEqProofs only [go_sem, zn, b1, Option.some.injEq, forall_eq', and_true, true_and, Bool.not_true, Bool.not_false, decide_true, Nat.reduceAdd, Nat.reduceSub, Nat.reduceLT, Nat.reduceLeDiff, Nat.reduceEqDiff, ↓reduceIte]
  refine eloop (S := Nat) (fun i => mkE 54 [(2, .ptr 0 0), (3, .ptr 1 0), (5, .d (.int .i64 i))]) (fun i => [.cells [.d (.int .u8 k), .d (.int .i64 n), .d (.sl (b.map bY)), .d (.sl (l.map vD))], .cells [.d (.int .u8 k), .d (.int .i64 n), .d (.sl (b.map bY)), .d (.sl (l.map vD))]]) (fun i => i ≤ l.length) (fun i => l.length - i) 0 (by omega) (Wk.via [0, 1] (by (simp only [go_sem, ↓reduceIte]) <;> trivial) (by first | (simp (maxSteps := 4000000) -implicitDefEqProofs only [go_sem, Nat.reduceAdd, Nat.reduceSub, Nat.reduceLT, Nat.reduceLeDiff, Nat.reduceEqDiff, ↓reduceIte]; done) | ((simp (maxSteps := 4000000) -implicitDefEqProofs only [go_sem, Nat.reduceAdd, Nat.reduceSub, Nat.reduceLT, Nat.reduceLeDiff, Nat.reduceEqDiff, ↓reduceIte]) <;> omega)) (by simp) (by first | (simp; done) | (simp [so]; done)) (by (simp (maxSteps := 4000000) -implicitDefEqProofs only [go_sem, Nat.reduceAdd, Nat.reduceSub, Nat.reduceLT, Nat.reduceLeDiff, Nat.reduceEqDiff, ↓reduceIte]) <;> trivial) (by first | (simp only [go_sem]; done) | ((simp (maxSteps := 4000000) -implicitDefEqProofs only [go_sem, Nat.reduceAdd, Nat.reduceSub, Nat.reduceLT, Nat.reduceLeDiff, Nat.reduceEqDiff, ↓reduceIte]) <;> omega)) (Nat.zero_le _) (fun i h => absurd h (Nat.not_lt_zero i))) ?_
  intro i hi
  rcases Nat.lt_or_ge i l.length with h2 | h2
  case inr =>
    have f1 : decide ((i : Int) < l.length) = false := by simp; omega
    simp (maxSteps := 4000000) -implicitDefEqProofs only [go_sem, f1, Option.some.injEq, forall_eq', and_true, true_and, Bool.not_true, Bool.not_false, decide_true, Nat.reduceAdd, Nat.reduceSub, Nat.reduceLT, Nat.reduceLeDiff, Nat.reduceEqDiff, ↓reduceIte]
    exact wk_bool rfl
  have f1 : decide ((i : Int) < l.length) = true := by simp; omega
  obtain ⟨x, hxi⟩ : ∃ x, l[i]? = some x := ⟨l[i]'h2, List.getElem?_eq_getElem _⟩
  have c2 := ih x (List.mem_of_getElem? hxi)
  have n1 : (0 ≤ (i : Int) ∧ (i : Int) < l.length) = True := eq_true (by omega)
  have n2 : (i < l.length) = True := eq_true h2
  have w1 : IntKind.i64.wrap ((i : Int) + 1) = ((i + 1 : Nat) : Int) := by rw [i64_in _ (by omega)]; simp
  obtain ⟨xk, xn, xb, xl⟩ := x
  simp only [vA] at c2
  simp (maxSteps := 4000000) -implicitDefEqProofs only [go_sem, f1, Option.some.injEq, forall_eq', and_true, true_and, Bool.not_true, Bool.not_false, decide_true, Nat.reduceAdd, Nat.reduceSub, Nat.reduceLT, Nat.reduceLeDiff, Nat.reduceEqDiff, ↓reduceIte]
  refine DX.plain (.take 0 false (.take 1 false (.take 2 false (.take 3 false (.take 4 false (.take 5 false (.take 6 false (.take 7 false (.take 8 false (.take 9 false (.take 10 false (.take 11 false .done)))))))))))) (by kernel_rfl) (by kernel_rfl) Ty.mixed ?_
  simp (maxSteps := 4000000) -implicitDefEqProofs only [go_sem, n1, n2, hxi, vD, vDs_eq, Option.some.injEq, forall_eq', and_true, true_and, Bool.not_true, Bool.not_false, decide_true, Nat.reduceAdd, Nat.reduceSub, Nat.reduceLT, Nat.reduceLeDiff, Nat.reduceEqDiff, ↓reduceIte]
  refine ⟨_, _, c2.lift0 _ (by simp only [go_sem]) (by simp only [go_sem]), rfl, ?_⟩
  simp (maxSteps := 4000000) -implicitDefEqProofs only [go_sem, b1, w1, Option.some.injEq, forall_eq', and_true, true_and, Bool.not_true, Bool.not_false, decide_true, Nat.reduceAdd, Nat.reduceSub, Nat.reduceLT, Nat.reduceLeDiff, Nat.reduceEqDiff, ↓reduceIte]
  exact .mk (i + 1) (by omega) (by omega) (Wk.via [0, 1] (by (simp only [go_sem, ↓reduceIte]) <;> trivial) (by first | (simp (maxSteps := 4000000) -implicitDefEqProofs only [go_sem, Nat.reduceAdd, Nat.reduceSub, Nat.reduceLT, Nat.reduceLeDiff, Nat.reduceEqDiff, ↓reduceIte]; done) | ((simp (maxSteps := 4000000) -implicitDefEqProofs only [go_sem, Nat.reduceAdd, Nat.reduceSub, Nat.reduceLT, Nat.reduceLeDiff, Nat.reduceEqDiff, ↓reduceIte]) <;> omega)) (by simp) (by first | (simp; done) | (simp [so]; done)) (by (simp (maxSteps := 4000000) -implicitDefEqProofs only [go_sem, Nat.reduceAdd, Nat.reduceSub, Nat.reduceLT, Nat.reduceLeDiff, Nat.reduceEqDiff, ↓reduceIte]) <;> trivial) (by first | (simp only [go_sem]; done) | ((simp (maxSteps := 4000000) -implicitDefEqProofs only [go_sem, Nat.reduceAdd, Nat.reduceSub, Nat.reduceLT, Nat.reduceLeDiff, Nat.reduceEqDiff, ↓reduceIte]) <;> omega)) (Nat.zero_le _) (fun i h => absurd h (Nat.not_lt_zero i)))
end Go.AX.Co

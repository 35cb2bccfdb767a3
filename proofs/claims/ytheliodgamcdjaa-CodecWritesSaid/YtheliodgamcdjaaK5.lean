/- Codes of numbers: bits and sums. -/
import Derived.Test.YtheliodgamcdjaaK4
set_option maxHeartbeats 8000000
set_option linter.unusedVariables false
set_option linter.unusedSimpArgs false
set_option maxRecDepth 20000
namespace Go.AX.Co
open Go.Proofs Go.RowKit Go.IntWalk
theorem bv64 {x : Nat} (h : x < 2 ^ 64) : (BitVec.ofInt 64 (x : Int)).toNat = x := by
  rw [BitVec.toNat_ofInt]
  omega
theorem bv8 {x : Nat} (h : x < 256) : (BitVec.ofInt 8 (x : Int)).toNat = x := by
  rw [BitVec.toNat_ofInt]
  omega
theorem wrap64 {x : Nat} (h : x < 2 ^ 64) : IntKind.u64.wrap (x : Int) = (x : Int) := u64_in _ (by omega)
/-! bits, not to be taken apart by the evaluator -/
def andI (k : IntKind) (x y : Int) : Int := k.wrap ((BitVec.ofInt k.bits x &&& BitVec.ofInt k.bits y).toNat : Int)
def orI (k : IntKind) (x y : Int) : Int := k.wrap ((BitVec.ofInt k.bits x ||| BitVec.ofInt k.bits y).toNat : Int)
def xorI (k : IntKind) (x y : Int) : Int := k.wrap ((BitVec.ofInt k.bits x ^^^ BitVec.ofInt k.bits y).toNat : Int)
theorem evInt_and {σ : List AObj} {k : IntKind} {x y : Int} : evInt σ .and k x y = .to (.d (.int k (andI k x y))) σ := rfl
theorem evInt_or {σ : List AObj} {k : IntKind} {x y : Int} : evInt σ .or k x y = .to (.d (.int k (orI k x y))) σ := rfl
theorem evInt_xor {σ : List AObj} {k : IntKind} {x y : Int} : evInt σ .xor k x y = .to (.d (.int k (xorI k x y))) σ := rfl
attribute [go_sem ↓] evInt_and evInt_or evInt_xor
/-- the number of a fold -/
def unf (n : Nat) : Int := if n % 2 = 0 then ((n / 2 : Nat) : Int) else -((n / 2 : Nat) : Int) - 1
/-- the code of a number, read -/
def numP : Nat → Nat → Nat → List Int → Nat × List Int × Bool
  | 0, _, _, r => (0, r, true)
  | _ + 1, _, _, [] => (0, [], true)
  | f + 1, i, n, x :: r =>
    if (i = 9 ∧ 1 < x) ∨ (0 < i ∧ x = 0) then (0, r, true)
    else if x < 128 then ((x.toNat % 128) * 2 ^ (7 * i) + n, r, false)
    else numP f (i + 1) ((x.toNat % 128) * 2 ^ (7 * i) + n) r
end Go.AX.Co
/- Values: as data. -/
set_option maxHeartbeats 8000000
set_option linter.unusedVariables false
set_option linter.unusedSimpArgs false
set_option maxRecDepth 20000
namespace Go.AX.Co
open Go.Proofs Go.RowKit Go.IntWalk
/-- a value: kind, number, bytes, elements -/
inductive Vl where
  | mk (kd : Int) (nu : Int) (by' : List Int) (li : List Vl)
def bY (n : Int) : List D := [.int .u8 n]
mutual
def vD : Vl → List D
  | .mk k n b l => [.int .u8 k, .int .i64 n, .sl (b.map bY), .sl (vDs l)]
def vDs : List Vl → List (List D)
  | [] => []
  | x :: r => vD x :: vDs r
end
theorem vDs_eq : ∀ l, vDs l = l.map vD
  | [] => rfl
  | x :: r => by rw [vDs, vDs_eq r]; rfl
theorem bY_len {l : List Int} : (∀ e ∈ l.map bY, e.length = 1) = True := eq_true (map_len (g := bY) fun _ => rfl)
theorem vD_len1 : ∀ x, (vD x).length = 4
  | .mk _ _ _ _ => by rw [vD]; rfl
theorem vD_len {l : List Vl} : (∀ e ∈ l.map vD, e.length = 4) = True := eq_true (map_len (g := vD) vD_len1)
attribute [go_sem] bY bY_len vD_len
def v0 : Vl := .mk 0 0 [] []
end Go.AX.Co
/- Readers of bytes: take, number. -/
set_option maxHeartbeats 8000000
set_option linter.unusedVariables false
set_option linter.unusedSimpArgs false
set_option maxRecDepth 20000
namespace Go.AX.Co
open Go.Proofs Go.RowKit Go.IntWalk
/-- a reader -/
def rC (r : List Int) (b : Bool) : AObj := .cells [.d (.sl (r.map bY)), .d (.bool b)]
attribute [go_sem] rC
def takeP (n : Nat) (r : List Int) (b : Bool) : List Int × List Int × Bool := if b = true ∨ r.length < n then ([], r, true) else (r.take n, r.drop n, false)
theorem bz : ∀ b : Bool, b = true ∨ b = false := by decide
/-- a number read, from a reader -/
def numR (r : List Int) (b : Bool) : Nat × List Int × Bool := if b = true then (0, r, true) else numP 10 0 0 r
def Bytes (r : List Int) : Prop := ∀ e ∈ r, 0 ≤ e ∧ e ≤ 255
end Go.AX.Co
/- Readers of bytes: values: the plain law. -/
set_option maxHeartbeats 8000000
set_option linter.unusedVariables false
set_option linter.unusedSimpArgs false
set_option maxRecDepth 20000
namespace Go.AX.Co
open Go.Proofs Go.RowKit Go.IntWalk
def lisP (g : List Int → Vl × List Int × Bool) : Nat → List Int → Bool → List Vl × List Int × Bool
  | 0, r, b => ([], r, b)
  | n + 1, r, b => if b = true then ([], r, true) else ((g r).1 :: (lisP g n (g r).2.1 (g r).2.2).1, (lisP g n (g r).2.1 (g r).2.2).2)
/-- a value read, not deeper than so much -/
def valP : Nat → List Int → Vl × List Int × Bool
  | _, [] => (v0, [], true)
  | 0, _ :: q => (v0, q, true)
  | d + 1, x :: q =>
    if x = 1 then (.mk 1 (unf (numR q false).1) [] [], (numR q false).2)
    else if x = 2 then (.mk 2 0 (takeP (numR q false).1 (numR q false).2.1 (numR q false).2.2).1 [], (takeP (numR q false).1 (numR q false).2.1 (numR q false).2.2).2)
    else if x = 3 then (.mk 3 0 [] (lisP (valP d) (numR q false).1 (numR q false).2.1 ((numR q false).2.2 || decide ((numR q false).2.1.length < (numR q false).1))).1, (lisP (valP d) (numR q false).1 (numR q false).2.1 ((numR q false).2.2 || decide ((numR q false).2.1.length < (numR q false).1))).2)
    else (.mk x 0 [] [], (numR q false).2.1, true)
def valR (d : Nat) (r : List Int) (b : Bool) : Vl × List Int × Bool := if b = true then (v0, r, true) else valP d r
/-- what is left stands at the end of what was there -/
def Left (r q : List Int) : Prop := ∃ a, r = a ++ q
theorem Left.refl (r : List Int) : Left r r := ⟨[], rfl⟩
theorem Left.trans {a b c : List Int} (h : Left a b) (k : Left b c) : Left a c := by
  obtain ⟨x, rfl⟩ := h; obtain ⟨y, rfl⟩ := k; exact ⟨x ++ y, by simp⟩
theorem Left.cons {x : Int} {q : List Int} : Left (x :: q) q := ⟨[x], rfl⟩
theorem Left.len {r q : List Int} (h : Left r q) : q.length ≤ r.length := by obtain ⟨a, rfl⟩ := h; simp
theorem Left.bytes {r q : List Int} (h : Left r q) (b : Bytes r) : Bytes q := by obtain ⟨a, rfl⟩ := h; exact fun e he => b e (by simp [he])
end Go.AX.Co
/- Readers of bytes: values, by the program. -/
set_option maxHeartbeats 8000000
set_option linter.unusedVariables false
set_option linter.unusedSimpArgs false
set_option maxRecDepth 20000
namespace Go.AX
theorem Spec.at1' {P : Program} {f : FuncId} {args args0 : List AV} {σ : List AObj} {r : AV} {o o' : AObj} (l : Nat) (h7 : Spec P f args0 [o] r [o']) (h1 : args = rens (at0 [l]) args0) (hb : bds 1 args0) (hl : l < σ.length) (hO : ob σ l = renO (at0 [l]) o) (ho : bdO 1 o) :
    Spec P f args σ (ren (rn [l] σ.length) r) (back σ [l] [o']) := by
  subst h1
  exact h7.frame [l] hb (by simp) (by simpa using hl) (by simp [obs, mapO, hO]) ⟨ho, trivial⟩
end Go.AX
namespace Go.AX.Co
open Go.Proofs Go.RowKit Go.IntWalk
def vA : Vl → AV
  | .mk k n b l => .agg [.d (.int .u8 k), .d (.int .i64 n), .d (.sl (b.map bY)), .d (.sl (l.map vD))]
end Go.AX.Co
/- Readers of bytes: Next and Decode, by the program, of data. -/
set_option maxHeartbeats 8000000
set_option linter.unusedVariables false
set_option linter.unusedSimpArgs false
set_option maxRecDepth 20000
namespace Go.AX.Co
open Go.Proofs Go.RowKit Go.IntWalk
def nextP (b : List Int) : Vl × Nat × Int := if (valP 6 b).2.2 = true ∨ 3000 < b.length - (valP 6 b).2.1.length then (v0, 0, 12) else ((valP 6 b).1, b.length - (valP 6 b).2.1.length, 0)
def decP (b : List Int) : Vl × Int := if (nextP b).2.2 ≠ 0 ∨ (nextP b).2.1 ≠ b.length then (v0, 12) else ((nextP b).1, 0)
end Go.AX.Co
/- Values: compared with themselves. -/
set_option maxHeartbeats 8000000
set_option linter.unusedVariables false
set_option linter.unusedSimpArgs false
set_option maxRecDepth 20000
namespace Go.AX.Co
open Go.Proofs Go.RowKit Go.IntWalk
theorem intEq8 (x y : Int) : (x == y) = decide (x = y) := by rw [Bool.eq_iff_iff]; simp
theorem bne8 (a b : Int) : (a != b) = !(a == b) := rfl
theorem sameBytes_ref (a b : List Int) (ha : Sm a.length) : Spec Try.prog 23 [.d (.sl (a.map bY)), .d (.sl (b.map bY))] [] (.d (.bool (decide (a = b)))) [] := by
  unfold Sm at ha
  refine spec_of_ev (fn := Try.f23) DX_ok 3000 Try.func23 rfl rfl (Nat.le_of_ble_eq_true rfl) ?_
  simp (maxSteps := 4000000) -implicitDefEqProofs only [Try.f23, go_sem]
  by_cases h1 : a.length = b.length
  · have d1 : ((a.length : Int) != b.length) = false := by simp [h1]
    simp (maxSteps := 4000000) -implicitDefEqProofs only [go_sem, d1, Option.some.injEq, forall_eq', and_true, true_and, Bool.not_true, Bool.not_false, decide_true, Nat.reduceAdd, Nat.reduceSub, Nat.reduceLT, Nat.reduceLeDiff, Nat.reduceEqDiff, ↓reduceIte]
    refine eloop (S := Nat) (fun i => mkE 26 [(0, .d (.sl (a.map bY))), (1, .d (.sl (b.map bY))), (5, .d (.int .i64 i))]) (fun i => []) (fun i => i ≤ a.length ∧ ∀ j x, a[j]? = some x → j < i → b[j]? = some x) (fun i => a.length - i) 0 ⟨by omega, by omega⟩ (Wk.sub (by (simp only [go_sem]) <;> trivial)) ?_
    rintro i ⟨hi, hj⟩
    rcases Nat.lt_or_ge i a.length with h2 | h2
    · have d2 : decide ((i : Int) < a.length) = true := by simp; omega
      obtain ⟨x, hx⟩ : ∃ x, a[i]? = some x := ⟨a[i]'(by omega), List.getElem?_eq_getElem _⟩
      obtain ⟨y, hy⟩ : ∃ x, b[i]? = some x := ⟨b[i]'(by omega), List.getElem?_eq_getElem _⟩
      have n1 : (0 ≤ (i : Int) ∧ (i : Int) < a.length) = True := eq_true (by omega)
      have n2 : (0 ≤ (i : Int) ∧ (i : Int) < b.length) = True := eq_true (by omega)
      have n3 : (i < a.length) = True := eq_true (by omega)
      have n4 : (i < b.length) = True := eq_true (by omega)
      have w1 : IntKind.i64.wrap ((i : Int) + 1) = i + 1 := i64_in _ (by omega)
      by_cases h3 : x = y
      · have hxy := (intEq8 x y).trans (decide_eq_true h3)
        simp (maxSteps := 4000000) -implicitDefEqProofs only [go_sem, d2, Option.some.injEq, forall_eq', and_true, true_and, Bool.not_true, Bool.not_false, decide_true, Nat.reduceAdd, Nat.reduceSub, Nat.reduceLT, Nat.reduceLeDiff, Nat.reduceEqDiff, ↓reduceIte]
        refine DX.plain (.take 0 false (.take 1 false (.take 2 false (.take 3 false (.take 4 false (.take 5 false (.take 6 false (.take 7 false (.take 8 false .done))))))))) (by kernel_rfl) (by kernel_rfl) Ty.mixed ?_
        simp (maxSteps := 4000000) -implicitDefEqProofs only [go_sem, n1, n2, n3, n4, hx, hy, hxy, w1, bne8, Option.some.injEq, forall_eq', and_true, true_and, Bool.not_true, Bool.not_false, decide_true, Nat.reduceAdd, Nat.reduceSub, Nat.reduceLT, Nat.reduceLeDiff, Nat.reduceEqDiff, ↓reduceIte]
        exact .mk (i + 1) ⟨by omega, upto_succ hx (by rw [h3]; exact hy) hj⟩ (by omega) (Wk.sub (by (simp only [go_sem]) <;> trivial))
      · have hxy := (intEq8 x y).trans (decide_eq_false h3)
        simp (maxSteps := 4000000) -implicitDefEqProofs only [go_sem, d2, Option.some.injEq, forall_eq', and_true, true_and, Bool.not_true, Bool.not_false, decide_true, Nat.reduceAdd, Nat.reduceSub, Nat.reduceLT, Nat.reduceLeDiff, Nat.reduceEqDiff, ↓reduceIte]
        refine DX.plain (.take 0 false (.take 1 false (.take 2 false (.take 3 false (.take 4 false (.take 5 false (.take 6 false (.take 7 false (.take 8 false .done))))))))) (by kernel_rfl) (by kernel_rfl) Ty.mixed ?_
        simp (maxSteps := 4000000) -implicitDefEqProofs only [go_sem, n1, n2, n3, n4, hx, hy, hxy, bne8, Option.some.injEq, forall_eq', and_true, true_and, Bool.not_true, Bool.not_false, decide_true, Nat.reduceAdd, Nat.reduceSub, Nat.reduceLT, Nat.reduceLeDiff, Nat.reduceEqDiff, ↓reduceIte]
        refine wk_bool (decide_eq_false fun e => h3 ?_).symm
        subst e; rw [hx] at hy; exact Option.some.inj hy
    · have d2 : decide ((i : Int) < a.length) = false := by simp; omega
      simp (maxSteps := 4000000) -implicitDefEqProofs only [go_sem, d2, Option.some.injEq, forall_eq', and_true, true_and, Bool.not_true, Bool.not_false, decide_true, Nat.reduceAdd, Nat.reduceSub, Nat.reduceLT, Nat.reduceLeDiff, Nat.reduceEqDiff, ↓reduceIte]
      refine wk_bool (decide_eq_true ?_).symm
      refine List.ext_getElem? fun j => ?_
      rcases Nat.lt_or_ge j a.length with q | q
      · have hx := List.getElem?_eq_getElem q
        rw [hx]; exact (hj j _ hx (by omega)).symm
      · rw [List.getElem?_eq_none q, List.getElem?_eq_none (by omega)]
  · have d1 : ((a.length : Int) != b.length) = true := by simp; omega
    simp (maxSteps := 4000000) -implicitDefEqProofs only [go_sem, d1, Option.some.injEq, forall_eq', and_true, true_and, Bool.not_true, Bool.not_false, decide_true, Nat.reduceAdd, Nat.reduceSub, Nat.reduceLT, Nat.reduceLeDiff, Nat.reduceEqDiff, ↓reduceIte]
    exact wk_bool (decide_eq_false fun e => h1 (by rw [e])).symm

/-- a value that is not great -/
inductive FitV : Vl → Prop where
  | mk (k n : Int) (b : List Int) (l : List Vl) (hb : b.length ≤ 1000000) (hl : l.length ≤ 1000000) (h : ∀ x, x ∈ l → FitV x) : FitV (.mk k n b l)
end Go.AX.Co

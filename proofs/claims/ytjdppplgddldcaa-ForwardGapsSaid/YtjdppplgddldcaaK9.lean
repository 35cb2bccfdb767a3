/- Forward: names in an order; Check of the program and of the reference. -/
import Derived.Test.YtjdppplgddldcaaK8
set_option maxHeartbeats 8000000
set_option linter.unusedVariables false
set_option linter.unusedSimpArgs false
set_option maxRecDepth 20000
namespace Go.AX.Fw
open Go.Proofs Go.RowKit Go.IntWalk Go.AX.Br Go.AX.Lg
structure St where
  cl : Int
  fr : ByteArray
  to : ByteArray
def stD (s : St) : List D := [.int .i64 s.cl, .str s.fr, .str s.to]
theorem stD_len {l : List St} : (∀ e ∈ l.map stD, e.length = 3) = True := eq_true (map_len (g := stD) fun _ => rfl)
theorem sD_len {l : List ByteArray} : (∀ e ∈ l.map sD, e.length = 1) = True := eq_true (map_len (g := sD) fun _ => rfl)
attribute [go_sem] stD stD_len sD sD_len
def isS (nm : ByteArray) (x : ByteArray) : Bool := decide (x = nm)
theorem indexS (v : List ByteArray) (m : ByteArray) (hl : Sm v.length) : Spec Try.prog 38 [.d (.sl (v.map sD)), .d (.str m)] [] (.d (.int .i64 (idx (isS m) v))) [] := by
  unfold Sm at hl
  refine spec_of_ev (fn := Try.f38) DX_ok 3000 Try.func38 rfl rfl (Nat.le_of_ble_eq_true rfl) ?_
  simp (maxSteps := 4000000) -implicitDefEqProofs only [Try.f38, go_sem]
  refine eloop (S := Nat) (fun i => mkE 19 [(0, .d (.sl (v.map sD))), (1, .d (.str m)), (7, .d (.int .i64 v.length)), (8, .d (.int .i64 i))]) (fun i => []) (fun i => i ≤ v.length ∧ ∀ j x, v[j]? = some x → j < i → isS m x = false) (fun i => v.length - i) 0 ⟨by omega, by omega⟩ (Wk.sub (by (simp only [go_sem]) <;> trivial)) ?_
  rintro i ⟨hi, hj⟩
  rcases Nat.lt_or_ge i v.length with h2 | h2
  · have d2 : decide ((i : Int) < v.length) = true := by simp; omega
    obtain ⟨x, hx⟩ : ∃ x, v[i]? = some x := ⟨v[i]'(by omega), List.getElem?_eq_getElem _⟩
    have n1 : (0 ≤ (i : Int) ∧ (i : Int) < v.length) = True := eq_true (by omega)
    have n3 : (i < v.length) = True := eq_true (by omega)
    have hxy : decide (m = x) = isS m x := by unfold isS; rw [decide_eq_decide]; exact eq_comm
    have w1 : IntKind.i64.wrap ((i : Int) + 1) = i + 1 := i64_in _ (by omega)
    cases h3 : isS m x
    · rw [h3] at hxy
      simp (maxSteps := 4000000) -implicitDefEqProofs only [go_sem, d2, n1, n3, hx, hxy, w1, Option.some.injEq, forall_eq', and_true, true_and, Bool.not_true, Bool.not_false, decide_true, Nat.reduceAdd, Nat.reduceSub, Nat.reduceLT, Nat.reduceLeDiff, Nat.reduceEqDiff, ↓reduceIte]
      exact .mk (i + 1) ⟨by omega, upto_succ hx h3 hj⟩ (by omega) (Wk.sub (by (simp only [go_sem]) <;> trivial))
    · rw [h3] at hxy
      simp (maxSteps := 4000000) -implicitDefEqProofs only [go_sem, d2, n1, n3, hx, hxy, w1, Option.some.injEq, forall_eq', and_true, true_and, Bool.not_true, Bool.not_false, decide_true, Nat.reduceAdd, Nat.reduceSub, Nat.reduceLT, Nat.reduceLeDiff, Nat.reduceEqDiff, ↓reduceIte]
      exact wk_int (idx_found (p := isS m) hx h3 hj).symm
  · have d2 : decide ((i : Int) < v.length) = false := by simp; omega
    simp (maxSteps := 4000000) -implicitDefEqProofs only [go_sem, d2, Option.some.injEq, forall_eq', and_true, true_and, Bool.not_true, Bool.not_false, decide_true, Nat.reduceAdd, Nat.reduceSub, Nat.reduceLT, Nat.reduceLeDiff, Nat.reduceEqDiff, ↓reduceIte]
    exact wk_int (idx_none (p := isS m) fun j x hx => hj j x hx (by have := some_lt hx; omega)).symm
theorem containsS (v : List ByteArray) (m : ByteArray) (hl : Sm v.length) : Spec Try.prog 45 [.d (.sl (v.map sD)), .d (.str m)] [] (.d (.bool (v.any (isS m)))) [] := by
  refine spec_of_ev (fn := Try.f45) DX_ok 3000 Try.func45 rfl rfl (Nat.le_of_ble_eq_true rfl) ?_
  simp (maxSteps := 4000000) -implicitDefEqProofs only [Try.f45, go_sem]
  refine ecall0 _ (indexS v m hl) (by simp only [go_sem]) (by simp only [go_sem]) ?_
  simp (maxSteps := 4000000) -implicitDefEqProofs only [go_sem, Nat.reduceAdd, Nat.reduceSub, Nat.reduceLT, Nat.reduceLeDiff, Nat.reduceEqDiff, ↓reduceIte]
  refine wk_bool ?_
  rw [idx_any]
theorem Index_fref (v : List ByteArray) (m : ByteArray) (hl : Sm v.length) : Spec Try.prog 40 [.d (.sl (v.map sD)), .d (.str m)] [] (.d (.int .i64 (idx (isS m) v))) [] := by
  unfold Sm at hl
  refine spec_of_ev (fn := Try.f40) DX_ok 3000 Try.func40 rfl rfl (Nat.le_of_ble_eq_true rfl) ?_
  simp (maxSteps := 4000000) -implicitDefEqProofs only [Try.f40, go_sem]
  refine eloop (S := Nat) (fun i => mkE 19 [(0, .d (.sl (v.map sD))), (1, .d (.str m)), (5, .d (.int .i64 i))]) (fun i => []) (fun i => i ≤ v.length ∧ ∀ j x, v[j]? = some x → j < i → isS m x = false) (fun i => v.length - i) 0 ⟨by omega, by omega⟩ (Wk.sub (by (simp only [go_sem]) <;> trivial)) ?_
  rintro i ⟨hi, hj⟩
  rcases Nat.lt_or_ge i v.length with h2 | h2
  · have d2 : decide ((i : Int) < v.length) = true := by simp; omega
    obtain ⟨x, hx⟩ : ∃ x, v[i]? = some x := ⟨v[i]'(by omega), List.getElem?_eq_getElem _⟩
    have n1 : (0 ≤ (i : Int) ∧ (i : Int) < v.length) = True := eq_true (by omega)
    have n3 : (i < v.length) = True := eq_true (by omega)
    have w1 : IntKind.i64.wrap ((i : Int) + 1) = i + 1 := i64_in _ (by omega)
    cases h3 : isS m x
    · have hxy : decide (x = m) = false := h3
      simp (maxSteps := 4000000) -implicitDefEqProofs only [go_sem, d2, n1, n3, hx, hxy, w1, Option.some.injEq, forall_eq', and_true, true_and, Bool.not_true, Bool.not_false, decide_true, Nat.reduceAdd, Nat.reduceSub, Nat.reduceLT, Nat.reduceLeDiff, Nat.reduceEqDiff, ↓reduceIte]
      exact .mk (i + 1) ⟨by omega, upto_succ hx h3 hj⟩ (by omega) (Wk.sub (by (simp only [go_sem]) <;> trivial))
    · have hxy : decide (x = m) = true := h3
      simp (maxSteps := 4000000) -implicitDefEqProofs only [go_sem, d2, n1, n3, hx, hxy, w1, Option.some.injEq, forall_eq', and_true, true_and, Bool.not_true, Bool.not_false, decide_true, Nat.reduceAdd, Nat.reduceSub, Nat.reduceLT, Nat.reduceLeDiff, Nat.reduceEqDiff, ↓reduceIte]
      exact wk_int (idx_found (p := isS m) hx h3 hj).symm
  · have d2 : decide ((i : Int) < v.length) = false := by simp; omega
    simp (maxSteps := 4000000) -implicitDefEqProofs only [go_sem, d2, Option.some.injEq, forall_eq', and_true, true_and, Bool.not_true, Bool.not_false, decide_true, Nat.reduceAdd, Nat.reduceSub, Nat.reduceLT, Nat.reduceLeDiff, Nat.reduceEqDiff, ↓reduceIte]
    exact wk_int (idx_none (p := isS m) fun j x hx => hj j x hx (by have := some_lt hx; omega)).symm
def noB (l : Lg) (nm : ByteArray) : Bool := !(l.br.any (has nm))
def fcheck (l : Lg) (o : List ByteArray) : Int :=
  if lcheck l ≠ 0 then lcheck l else if o.length = 0 then 2 else if 8 < o.length then 4 else if o.any (noB l) then 6 else if anyI (fun i nm => (o.take i).any (isS nm)) o then 14 else 0
/-- all is well -/
structure FOk (l : Lg) (o : List ByteArray) : Prop where
  lo : LOk l
  pos : 0 < o.length
  len : o.length ≤ 8
  br : ∀ nm ∈ o, 0 ≤ idx (has nm) l.br
  nd : ∀ (i j : Nat) (x : ByteArray), o[i]? = some x → o[j]? = some x → i = j
theorem fok_of {l : Lg} {o : List ByteArray} (h : fcheck l o = 0) : FOk l o := by
  unfold fcheck at h
  split at h
  · next q => exact absurd h q
  next q1 =>
  split at h
  · cases h
  next q2 =>
  split at h
  · cases h
  next q3 =>
  split at h
  · cases h
  next q4 =>
  split at h
  · cases h
  next q5 =>
  refine ⟨lok_of (by omega), by omega, by omega, fun nm hm => ?_, ?_⟩
  · have : noB l nm = false := by
      cases z : noB l nm with
      | false => rfl
      | true => exact absurd (List.any_eq_true.2 ⟨nm, hm, z⟩) q4
    simp only [noB, Bool.not_eq_false'] at this
    rw [← idx_any] at this
    exact of_decide_eq_true this
  · have key : ∀ (i j : Nat) (x : ByteArray), i < j → o[i]? = some x → o[j]? = some x → False := fun i j x hij hi hj => by
      refine q5 (anyI_t hj (List.any_eq_true.2 ⟨x, ?_, by simp [isS]⟩))
      exact List.mem_of_getElem? (i := i) (by rw [List.getElem?_take_of_lt hij]; exact hi)
    intro i j x hi hj
    rcases Nat.lt_trichotomy i j with q | q | q
    · exact (key i j x q hi hj).elim
    · exact q
    · exact (key j i x q hj hi).elim
theorem hasF_own (b : Br) (nm : ByteArray) (h : AObj) : Spec Try.prog 44 [bA b, .ptr 0 0] [.cells [.d (.str nm)]] (.d (.bool (has nm b))) [.cells [.d (.str nm)]] := by
  unfold bA
  refine spec_of_ev (fn := Try.f44) DX_ok 3000 Try.func44 rfl rfl (Nat.le_of_ble_eq_true rfl) ?_
  simp (maxSteps := 4000000) -implicitDefEqProofs only [Try.f44, go_sem]
  exact Wk.keep (σ := [_]) (τ := [_]) (by simp only [go_sem]) (by simp only [go_sem])
end Go.AX.Fw
namespace Go.AX.Br
open Go.Proofs Go.RowKit Go.IntWalk
theorem br_containsFunc (l : List Br) (p : Br → Bool) (f : FuncId) (caps : List AV) (τ : List AObj) (hl : Sm l.length) (h : ∀ x ∈ l, Spec Try.prog f (bA x :: caps) τ (.d (.bool (p x))) τ) :
    Spec Try.prog 43 [.d (.sl (l.map bD)), .fn f caps] τ (.d (.bool (l.any p))) τ := by
  refine spec_of_ev (fn := Try.f43) DX_ok 3000 Try.func43 rfl rfl (Nat.le_of_ble_eq_true rfl) ?_
  simp (maxSteps := 4000000) -implicitDefEqProofs only [Try.f43, go_sem]
  refine .all _ _ (br_indexFunc l p f caps τ hl h) ?_
  simp (maxSteps := 4000000) -implicitDefEqProofs only [go_sem, Nat.reduceAdd, Nat.reduceSub, Nat.reduceLT, Nat.reduceLeDiff, Nat.reduceEqDiff, ↓reduceIte]
  rw [idx_any]
  exact Wk.refl _ _ _

end Go.AX.Br
namespace Go.AX.Fw
open Go.Proofs Go.RowKit Go.IntWalk Go.AX.Br Go.AX.Lg
theorem fcheck_own (l : Lg) (o : List ByteArray) (hk : l.kn.length ≤ 1000) (hb : l.br.length ≤ 1000) (he : l.ev.length ≤ 1000) (ho : o.length ≤ 1000) : Spec Try.prog 21 [lA l, .d (.sl (o.map sD))] [] (.d (.int .i64 (fcheck l o))) [] := by
  have c1 := lcheck_own l hk hb he
  obtain ⟨R, hR⟩ : ∃ R, R = fcheck l o := ⟨_, rfl⟩
  rw [← hR]
  unfold fcheck at hR
  have b1 : (!true) = false := rfl
  have b2 : (!false) = true := rfl
  simp only [lA] at c1
  refine spec_of_ev (fn := Try.f21) DX_ok 3000 Try.func21 rfl rfl (Nat.le_of_ble_eq_true rfl) ?_
  simp (maxSteps := 4000000) -implicitDefEqProofs only [Try.f21, go_sem, lA]
  refine ecall0 _ c1 (by simp only [go_sem]) (by simp only [go_sem]) ?_
  cases k1 : (lcheck l != 0)
  case true =>
    rw [if_pos (by simpa using k1)] at hR
    simp (maxSteps := 4000000) -implicitDefEqProofs only [go_sem, k1, Option.some.injEq, forall_eq', and_true, true_and, Bool.not_true, Bool.not_false, decide_true, Nat.reduceAdd, Nat.reduceSub, Nat.reduceLT, Nat.reduceLeDiff, Nat.reduceEqDiff, ↓reduceIte]
    exact wk_int hR.symm
  rw [if_neg (by simpa using k1)] at hR
  cases k2 : ((o.length : Int) == 0)
  case true =>
    rw [if_pos (by have := eq_of_beq k2; omega)] at hR
    simp (maxSteps := 4000000) -implicitDefEqProofs only [go_sem, k1, k2, Option.some.injEq, forall_eq', and_true, true_and, Bool.not_true, Bool.not_false, decide_true, Nat.reduceAdd, Nat.reduceSub, Nat.reduceLT, Nat.reduceLeDiff, Nat.reduceEqDiff, ↓reduceIte]
    exact wk_int hR.symm
  rw [if_neg (by have := ne_of_beq_false k2; omega)] at hR
  cases k3 : decide (8 < (o.length : Int))
  case true =>
    rw [if_pos (by have := of_decide_eq_true k3; omega)] at hR
    simp (maxSteps := 4000000) -implicitDefEqProofs only [go_sem, k1, k2, k3, Option.some.injEq, forall_eq', and_true, true_and, Bool.not_true, Bool.not_false, decide_true, Nat.reduceAdd, Nat.reduceSub, Nat.reduceLT, Nat.reduceLeDiff, Nat.reduceEqDiff, ↓reduceIte]
    exact wk_int hR.symm
  rw [if_neg (by have := of_decide_eq_false k3; omega)] at hR
  simp (maxSteps := 4000000) -implicitDefEqProofs only [go_sem, k1, k2, k3, Option.some.injEq, forall_eq', and_true, true_and, Bool.not_true, Bool.not_false, decide_true, Nat.reduceAdd, Nat.reduceSub, Nat.reduceLT, Nat.reduceLeDiff, Nat.reduceEqDiff, ↓reduceIte]
  refine eloop (S := Nat) (fun i => mkE 46 [(1, .d (.sl (o.map sD))), (2, .ptr 0 0), (21, .d (.sl (o.map sD))), (22, .d (.int .i64 o.length)), (23, .d (.int .i64 i))]) (fun i => [lH l]) (fun i => i ≤ o.length ∧ ∀ j x, o[j]? = some x → j < i → noB l x = false) (fun i => o.length - i) 0 ⟨by omega, by omega⟩ (Wk.via [0] (by (simp only [go_sem, ↓reduceIte]) <;> trivial) (by first | (simp (maxSteps := 4000000) -implicitDefEqProofs only [go_sem, Nat.reduceAdd, Nat.reduceSub, Nat.reduceLT, Nat.reduceLeDiff, Nat.reduceEqDiff, ↓reduceIte]; done) | ((simp (maxSteps := 4000000) -implicitDefEqProofs only [go_sem, Nat.reduceAdd, Nat.reduceSub, Nat.reduceLT, Nat.reduceLeDiff, Nat.reduceEqDiff, ↓reduceIte]) <;> omega)) (by simp) (by first | (simp; done) | (simp [so]; done)) (by (simp (maxSteps := 4000000) -implicitDefEqProofs only [go_sem, Nat.reduceAdd, Nat.reduceSub, Nat.reduceLT, Nat.reduceLeDiff, Nat.reduceEqDiff, ↓reduceIte]) <;> trivial) (by first | (simp only [go_sem]; done) | ((simp (maxSteps := 4000000) -implicitDefEqProofs only [go_sem, Nat.reduceAdd, Nat.reduceSub, Nat.reduceLT, Nat.reduceLeDiff, Nat.reduceEqDiff, ↓reduceIte]) <;> omega)) (Nat.zero_le _) (fun i h => absurd h (Nat.not_lt_zero i))) ?_
  rintro i ⟨hi, hj⟩
  rcases Nat.lt_or_ge i o.length with h2 | h2
  case inl =>
    have f1 : decide ((i : Int) < o.length) = true := by simp; omega
    obtain ⟨x, hx⟩ : ∃ x, o[i]? = some x := ⟨o[i]'h2, List.getElem?_eq_getElem _⟩
    have n1 : (0 ≤ (i : Int) ∧ (i : Int) < o.length) = True := eq_true (by omega)
    have n2 : (i < o.length) = True := eq_true (by omega)
    have w1 : IntKind.i64.wrap ((i : Int) + 1) = ((i + 1 : Nat) : Int) := by rw [i64_in _ (by omega)]; simp
    have c2 := br_containsFunc l.br (has x) 44 [.ptr 0 0] [.cells [.d (.str x)]] (by unfold Sm; omega) fun y _ => hasF_own y x .gone
    simp (maxSteps := 4000000) -implicitDefEqProofs only [go_sem, f1, n1, n2, hx, Option.some.injEq, forall_eq', and_true, true_and, Bool.not_true, Bool.not_false, decide_true, Nat.reduceAdd, Nat.reduceSub, Nat.reduceLT, Nat.reduceLeDiff, Nat.reduceEqDiff, ↓reduceIte]
    refine .mk [1] [.d (.sl (l.br.map bD)), .fn 44 [.ptr 0 0]] [.cells [.d (.str x)]] _ _ (by simp only [go_sem]) (by simp only [go_sem]; omega) (by simp) (by simp) (by simp only [go_sem]) (by simp only [go_sem]) c2 ?_
    cases q : l.br.any (has x)
    case false =>
      have hb : o.any (noB l) = true := List.any_eq_true.2 ⟨x, List.mem_of_getElem? hx, by simp [noB, q]⟩
      rw [if_pos hb] at hR
      simp (maxSteps := 4000000) -implicitDefEqProofs only [go_sem, b2, Option.some.injEq, forall_eq', and_true, true_and, Bool.not_true, Bool.not_false, decide_true, Nat.reduceAdd, Nat.reduceSub, Nat.reduceLT, Nat.reduceLeDiff, Nat.reduceEqDiff, ↓reduceIte]
      exact wk_int hR.symm
    simp (maxSteps := 4000000) -implicitDefEqProofs only [go_sem, b1, w1, Option.some.injEq, forall_eq', and_true, true_and, Bool.not_true, Bool.not_false, decide_true, Nat.reduceAdd, Nat.reduceSub, Nat.reduceLT, Nat.reduceLeDiff, Nat.reduceEqDiff, ↓reduceIte]
    exact .mk (i + 1) ⟨by omega, upto_succ hx (by simp [noB, q]) hj⟩ (by omega) (Wk.via [0] (by (simp only [go_sem, ↓reduceIte]) <;> trivial) (by first | (simp (maxSteps := 4000000) -implicitDefEqProofs only [go_sem, Nat.reduceAdd, Nat.reduceSub, Nat.reduceLT, Nat.reduceLeDiff, Nat.reduceEqDiff, ↓reduceIte]; done) | ((simp (maxSteps := 4000000) -implicitDefEqProofs only [go_sem, Nat.reduceAdd, Nat.reduceSub, Nat.reduceLT, Nat.reduceLeDiff, Nat.reduceEqDiff, ↓reduceIte]) <;> omega)) (by simp) (by first | (simp; done) | (simp [so]; done)) (by (simp (maxSteps := 4000000) -implicitDefEqProofs only [go_sem, Nat.reduceAdd, Nat.reduceSub, Nat.reduceLT, Nat.reduceLeDiff, Nat.reduceEqDiff, ↓reduceIte]) <;> trivial) (by first | (simp only [go_sem]; done) | ((simp (maxSteps := 4000000) -implicitDefEqProofs only [go_sem, Nat.reduceAdd, Nat.reduceSub, Nat.reduceLT, Nat.reduceLeDiff, Nat.reduceEqDiff, ↓reduceIte]) <;> omega)) (Nat.zero_le _) (fun i h => absurd h (Nat.not_lt_zero i)))
  have f1 : decide ((i : Int) < o.length) = false := by simp; omega
  have hno : o.any (noB l) = false := by
    rw [List.any_eq_false]
    intro x hx
    obtain ⟨j, hjx⟩ := List.mem_iff_getElem?.1 hx
    have := hj j x hjx (by have := some_lt hjx; omega)
    simp [this]
  rw [hno, if_neg (by simp)] at hR
  simp (maxSteps := 4000000) -implicitDefEqProofs only [go_sem, f1, Option.some.injEq, forall_eq', and_true, true_and, Bool.not_true, Bool.not_false, decide_true, Nat.reduceAdd, Nat.reduceSub, Nat.reduceLT, Nat.reduceLeDiff, Nat.reduceEqDiff, ↓reduceIte]
  refine eloop (S := Nat) (fun i => mkE 46 [(1, .d (.sl (o.map sD))), (33, .d (.sl (o.map sD))), (34, .d (.int .i64 o.length)), (35, .d (.int .i64 i))]) (fun i => []) (fun i => i ≤ o.length ∧ ∀ j x, o[j]? = some x → j < i → (o.take j).any (isS x) = false) (fun i => o.length - i) 0 ⟨by omega, by omega⟩ (Wk.forget (by (simp only [go_sem]) <;> trivial) (by simp only [go_sem])) ?_
  clear hi h2 f1 hj
  rintro i ⟨hi, hj⟩
  rcases Nat.lt_or_ge i o.length with h2 | h2
  case inl =>
    have f1 : decide ((i : Int) < o.length) = true := by simp; omega
    obtain ⟨x, hx⟩ : ∃ x, o[i]? = some x := ⟨o[i]'h2, List.getElem?_eq_getElem _⟩
    have n1 : (0 ≤ (i : Int) ∧ (i : Int) < o.length) = True := eq_true (by omega)
    have n2 : (i < o.length) = True := eq_true (by omega)
    have n3 : (0 ≤ (i : Int) ∧ (i : Int) ≤ o.length) = True := eq_true (by omega)
    have w1 : IntKind.i64.wrap ((i : Int) + 1) = ((i + 1 : Nat) : Int) := by rw [i64_in _ (by omega)]; simp
    have c2 := containsS (o.take i) x (by unfold Sm; rw [List.length_take]; omega)
    simp (maxSteps := 4000000) -implicitDefEqProofs only [go_sem, f1, n1, n2, n3, hx, Option.some.injEq, forall_eq', and_true, true_and, Bool.not_true, Bool.not_false, decide_true, Nat.reduceAdd, Nat.reduceSub, Nat.reduceLT, Nat.reduceLeDiff, Nat.reduceEqDiff, ↓reduceIte]
    try refine ⟨by omega, ?_⟩
    refine ecall0 _ c2 (by simp only [go_sem]) (by simp only [go_sem]) ?_
    cases q : (o.take i).any (isS x)
    case true =>
      rw [if_pos (anyI_t (p := fun i nm => (o.take i).any (isS nm)) hx q)] at hR
      simp (maxSteps := 4000000) -implicitDefEqProofs only [go_sem, Nat.reduceAdd, Nat.reduceSub, Nat.reduceLT, Nat.reduceLeDiff, Nat.reduceEqDiff, ↓reduceIte]
      exact wk_int hR.symm
    simp (maxSteps := 4000000) -implicitDefEqProofs only [go_sem, w1, Option.some.injEq, forall_eq', and_true, true_and, Bool.not_true, Bool.not_false, decide_true, Nat.reduceAdd, Nat.reduceSub, Nat.reduceLT, Nat.reduceLeDiff, Nat.reduceEqDiff, ↓reduceIte]
    exact .mk (i + 1) ⟨by omega, upto_succ (p := fun i x => (o.take i).any (isS x) = false) hx q hj⟩ (by omega) (Wk.sub (by (simp only [go_sem]) <;> trivial))
  have f1 : decide ((i : Int) < o.length) = false := by simp; omega
  rw [anyI_f (p := fun i nm => (o.take i).any (isS nm)) fun j x hx => hj j x hx (by have := some_lt hx; omega), if_neg (by simp)] at hR
  simp (maxSteps := 4000000) -implicitDefEqProofs only [go_sem, f1, Option.some.injEq, forall_eq', and_true, true_and, Bool.not_true, Bool.not_false, decide_true, Nat.reduceAdd, Nat.reduceSub, Nat.reduceLT, Nat.reduceLeDiff, Nat.reduceEqDiff, ↓reduceIte]
  exact wk_int hR.symm
theorem fcheck_ref (l : Lg) (o : List ByteArray) (hk : l.kn.length ≤ 1000) (hb : l.br.length ≤ 1000) (he : l.ev.length ≤ 1000) (ho : o.length ≤ 1000) : Spec Try.prog 22 [lA l, .d (.sl (o.map sD))] [] (.d (.int .i64 (fcheck l o))) [] := by
  have c1 := lcheck_ref l hk hb he
  obtain ⟨R, hR⟩ : ∃ R, R = fcheck l o := ⟨_, rfl⟩
  rw [← hR]
  unfold fcheck at hR
  simp only [lA] at c1
  refine spec_of_ev (fn := Try.f22) DX_ok 3000 Try.func22 rfl rfl (Nat.le_of_ble_eq_true rfl) ?_
  simp (maxSteps := 4000000) -implicitDefEqProofs only [Try.f22, go_sem, lA]
  refine ecall0 _ c1 (by simp only [go_sem]) (by simp only [go_sem]) ?_
  cases k1 : (lcheck l != 0)
  case true =>
    rw [if_pos (by simpa using k1)] at hR
    simp (maxSteps := 4000000) -implicitDefEqProofs only [go_sem, k1, Option.some.injEq, forall_eq', and_true, true_and, Bool.not_true, Bool.not_false, decide_true, Nat.reduceAdd, Nat.reduceSub, Nat.reduceLT, Nat.reduceLeDiff, Nat.reduceEqDiff, ↓reduceIte]
    exact wk_int hR.symm
  rw [if_neg (by simpa using k1)] at hR
  cases k2 : ((o.length : Int) == 0)
  case true =>
    rw [if_pos (by have := eq_of_beq k2; omega)] at hR
    simp (maxSteps := 4000000) -implicitDefEqProofs only [go_sem, k1, k2, Option.some.injEq, forall_eq', and_true, true_and, Bool.not_true, Bool.not_false, decide_true, Nat.reduceAdd, Nat.reduceSub, Nat.reduceLT, Nat.reduceLeDiff, Nat.reduceEqDiff, ↓reduceIte]
    exact wk_int hR.symm
  rw [if_neg (by have := ne_of_beq_false k2; omega)] at hR
  cases k3 : decide (8 < (o.length : Int))
  case true =>
    rw [if_pos (by have := of_decide_eq_true k3; omega)] at hR
    simp (maxSteps := 4000000) -implicitDefEqProofs only [go_sem, k1, k2, k3, Option.some.injEq, forall_eq', and_true, true_and, Bool.not_true, Bool.not_false, decide_true, Nat.reduceAdd, Nat.reduceSub, Nat.reduceLT, Nat.reduceLeDiff, Nat.reduceEqDiff, ↓reduceIte]
    exact wk_int hR.symm
  rw [if_neg (by have := of_decide_eq_false k3; omega)] at hR
  simp (maxSteps := 4000000) -implicitDefEqProofs only [go_sem, k1, k2, k3, Option.some.injEq, forall_eq', and_true, true_and, Bool.not_true, Bool.not_false, decide_true, Nat.reduceAdd, Nat.reduceSub, Nat.reduceLT, Nat.reduceLeDiff, Nat.reduceEqDiff, ↓reduceIte]
  refine eloop (S := Nat) (fun i => mkE 47 [(1, .d (.sl (o.map sD))), (2, .ptr 0 0), (6, .d (.int .i64 i))]) (fun i => [lH l]) (fun i => i ≤ o.length ∧ ∀ j x, o[j]? = some x → j < i → noB l x = false) (fun i => o.length - i) 0 ⟨by omega, by omega⟩ (Wk.via [0] (by (simp only [go_sem, ↓reduceIte]) <;> trivial) (by first | (simp (maxSteps := 4000000) -implicitDefEqProofs only [go_sem, Nat.reduceAdd, Nat.reduceSub, Nat.reduceLT, Nat.reduceLeDiff, Nat.reduceEqDiff, ↓reduceIte]; done) | ((simp (maxSteps := 4000000) -implicitDefEqProofs only [go_sem, Nat.reduceAdd, Nat.reduceSub, Nat.reduceLT, Nat.reduceLeDiff, Nat.reduceEqDiff, ↓reduceIte]) <;> omega)) (by simp) (by first | (simp; done) | (simp [so]; done)) (by (simp (maxSteps := 4000000) -implicitDefEqProofs only [go_sem, Nat.reduceAdd, Nat.reduceSub, Nat.reduceLT, Nat.reduceLeDiff, Nat.reduceEqDiff, ↓reduceIte]) <;> trivial) (by first | (simp only [go_sem]; done) | ((simp (maxSteps := 4000000) -implicitDefEqProofs only [go_sem, Nat.reduceAdd, Nat.reduceSub, Nat.reduceLT, Nat.reduceLeDiff, Nat.reduceEqDiff, ↓reduceIte]) <;> omega)) (Nat.zero_le _) (fun i h => absurd h (Nat.not_lt_zero i))) ?_
  rintro i ⟨hi, hj⟩
  rcases Nat.lt_or_ge i o.length with h2 | h2
  case inl =>
    have f1 : decide ((i : Int) < o.length) = true := by simp; omega
    obtain ⟨x, hx⟩ : ∃ x, o[i]? = some x := ⟨o[i]'h2, List.getElem?_eq_getElem _⟩
    have n1 : (0 ≤ (i : Int) ∧ (i : Int) < o.length) = True := eq_true (by omega)
    have n2 : (i < o.length) = True := eq_true (by omega)
    have w1 : IntKind.i64.wrap ((i : Int) + 1) = ((i + 1 : Nat) : Int) := by rw [i64_in _ (by omega)]; simp
    have c2 := Br.index_ref l.br x (by unfold Sm; omega)
    simp (maxSteps := 4000000) -implicitDefEqProofs only [go_sem, f1, Option.some.injEq, forall_eq', and_true, true_and, Bool.not_true, Bool.not_false, decide_true, Nat.reduceAdd, Nat.reduceSub, Nat.reduceLT, Nat.reduceLeDiff, Nat.reduceEqDiff, ↓reduceIte]
    refine DX.plain (.take 0 false (.take 1 false (.take 2 false (.take 3 false (.take 4 false (.take 5 false (.take 6 false (.take 7 false .done)))))))) (by kernel_rfl) (by kernel_rfl) Ty.mixed ?_
    simp (maxSteps := 4000000) -implicitDefEqProofs only [go_sem, n1, n2, hx, Option.some.injEq, forall_eq', and_true, true_and, Bool.not_true, Bool.not_false, decide_true, Nat.reduceAdd, Nat.reduceSub, Nat.reduceLT, Nat.reduceLeDiff, Nat.reduceEqDiff, ↓reduceIte]
    refine ⟨_, _, c2.lift0 _ (by simp only [go_sem]) (by simp only [go_sem]), rfl, ?_⟩
    have hia := idx_any (has x) l.br
    cases q : l.br.any (has x)
    case false =>
      rw [q] at hia
      have d1 : decide (idx (has x) l.br < 0) = true := decide_eq_true (by have := of_decide_eq_false hia; omega)
      have hb : o.any (noB l) = true := List.any_eq_true.2 ⟨x, List.mem_of_getElem? hx, by simp [noB, q]⟩
      rw [if_pos hb] at hR
      simp (maxSteps := 4000000) -implicitDefEqProofs only [go_sem, d1, Option.some.injEq, forall_eq', and_true, true_and, Bool.not_true, Bool.not_false, decide_true, Nat.reduceAdd, Nat.reduceSub, Nat.reduceLT, Nat.reduceLeDiff, Nat.reduceEqDiff, ↓reduceIte]
      exact wk_int hR.symm
    rw [q] at hia
    have d1 : decide (idx (has x) l.br < 0) = false := decide_eq_false (by have := of_decide_eq_true hia; omega)
    simp (maxSteps := 4000000) -implicitDefEqProofs only [go_sem, d1, w1, Option.some.injEq, forall_eq', and_true, true_and, Bool.not_true, Bool.not_false, decide_true, Nat.reduceAdd, Nat.reduceSub, Nat.reduceLT, Nat.reduceLeDiff, Nat.reduceEqDiff, ↓reduceIte]
    exact .mk (i + 1) ⟨by omega, upto_succ hx (by simp [noB, q]) hj⟩ (by omega) (Wk.via [0] (by (simp only [go_sem, ↓reduceIte]) <;> trivial) (by first | (simp (maxSteps := 4000000) -implicitDefEqProofs only [go_sem, Nat.reduceAdd, Nat.reduceSub, Nat.reduceLT, Nat.reduceLeDiff, Nat.reduceEqDiff, ↓reduceIte]; done) | ((simp (maxSteps := 4000000) -implicitDefEqProofs only [go_sem, Nat.reduceAdd, Nat.reduceSub, Nat.reduceLT, Nat.reduceLeDiff, Nat.reduceEqDiff, ↓reduceIte]) <;> omega)) (by simp) (by first | (simp; done) | (simp [so]; done)) (by (simp (maxSteps := 4000000) -implicitDefEqProofs only [go_sem, Nat.reduceAdd, Nat.reduceSub, Nat.reduceLT, Nat.reduceLeDiff, Nat.reduceEqDiff, ↓reduceIte]) <;> trivial) (by first | (simp only [go_sem]; done) | ((simp (maxSteps := 4000000) -implicitDefEqProofs only [go_sem, Nat.reduceAdd, Nat.reduceSub, Nat.reduceLT, Nat.reduceLeDiff, Nat.reduceEqDiff, ↓reduceIte]) <;> omega)) (Nat.zero_le _) (fun i h => absurd h (Nat.not_lt_zero i)))
  have f1 : decide ((i : Int) < o.length) = false := by simp; omega
  have hno : o.any (noB l) = false := by
    rw [List.any_eq_false]
    intro x hx
    obtain ⟨j, hjx⟩ := List.mem_iff_getElem?.1 hx
    have := hj j x hjx (by have := some_lt hjx; omega)
    simp [this]
  rw [hno, if_neg (by simp)] at hR
  simp (maxSteps := 4000000) -implicitDefEqProofs only [go_sem, f1, Option.some.injEq, forall_eq', and_true, true_and, Bool.not_true, Bool.not_false, decide_true, Nat.reduceAdd, Nat.reduceSub, Nat.reduceLT, Nat.reduceLeDiff, Nat.reduceEqDiff, ↓reduceIte]
  refine eloop (S := Nat) (fun i => mkE 47 [(1, .d (.sl (o.map sD))), (7, .d (.int .i64 i))]) (fun i => []) (fun i => i ≤ o.length ∧ ∀ j x, o[j]? = some x → j < i → (o.take j).any (isS x) = false) (fun i => o.length - i) 0 ⟨by omega, by omega⟩ (Wk.forget (by (simp only [go_sem]) <;> trivial) (by simp only [go_sem])) ?_
  clear hi h2 f1 hj
  rintro i ⟨hi, hj⟩
  rcases Nat.lt_or_ge i o.length with h2 | h2
  case inl =>
    have f1 : decide ((i : Int) < o.length) = true := by simp; omega
    obtain ⟨x, hx⟩ : ∃ x, o[i]? = some x := ⟨o[i]'h2, List.getElem?_eq_getElem _⟩
    have n1 : (0 ≤ (i : Int) ∧ (i : Int) < o.length) = True := eq_true (by omega)
    have n2 : (i < o.length) = True := eq_true (by omega)
    have w1 : IntKind.i64.wrap ((i : Int) + 1) = ((i + 1 : Nat) : Int) := by rw [i64_in _ (by omega)]; simp
    have c2 := Index_fref o x (by unfold Sm; omega)
    simp (maxSteps := 4000000) -implicitDefEqProofs only [go_sem, f1, n1, n2, hx, Option.some.injEq, forall_eq', and_true, true_and, Bool.not_true, Bool.not_false, decide_true, Nat.reduceAdd, Nat.reduceSub, Nat.reduceLT, Nat.reduceLeDiff, Nat.reduceEqDiff, ↓reduceIte]
    refine ecall0 _ c2 (by simp only [go_sem]) (by simp only [go_sem]) ?_
    obtain ⟨q1, q2⟩ := idx_le hx (p := isS x) (by simp [isS])
    obtain ⟨k, y, e1, e2, e3⟩ := idx_get q1
    have hyx : y = x := by simpa [isS] using e3
    subst hyx
    rcases Nat.lt_or_ge k i with h3 | h3
    · have d1 : (idx (isS y) o != (i : Int)) = true := by rw [e1]; simp; omega
      have ha : (o.take i).any (isS y) = true := List.any_eq_true.2 ⟨y, List.mem_of_getElem? (i := k) (by rw [List.getElem?_take_of_lt h3]; exact e2), by simp [isS]⟩
      rw [if_pos (anyI_t (p := fun i nm => (o.take i).any (isS nm)) hx ha)] at hR
      simp (maxSteps := 4000000) -implicitDefEqProofs only [go_sem, d1, Option.some.injEq, forall_eq', and_true, true_and, Bool.not_true, Bool.not_false, decide_true, Nat.reduceAdd, Nat.reduceSub, Nat.reduceLT, Nat.reduceLeDiff, Nat.reduceEqDiff, ↓reduceIte]
      exact wk_int hR.symm
    · have hki : k = i := by omega
      subst hki
      have d1 : (idx (isS y) o != (k : Int)) = false := by rw [e1]; simp
      have ha : (o.take k).any (isS y) = false := by
        rw [List.any_eq_false]
        intro z hz hzy
        obtain ⟨m, hm⟩ := List.mem_iff_getElem?.1 hz
        have hmk : m < k := by have := some_lt hm; rw [List.length_take] at this; omega
        rw [List.getElem?_take_of_lt hmk] at hm
        have := (idx_le hm hzy).2
        omega
      simp (maxSteps := 4000000) -implicitDefEqProofs only [go_sem, d1, w1, Option.some.injEq, forall_eq', and_true, true_and, Bool.not_true, Bool.not_false, decide_true, Nat.reduceAdd, Nat.reduceSub, Nat.reduceLT, Nat.reduceLeDiff, Nat.reduceEqDiff, ↓reduceIte]
      exact .mk (k + 1) ⟨by omega, upto_succ (p := fun i x => (o.take i).any (isS x) = false) hx ha hj⟩ (by omega) (Wk.sub (by (simp only [go_sem]) <;> trivial))
  have f1 : decide ((i : Int) < o.length) = false := by simp; omega
  rw [anyI_f (p := fun i nm => (o.take i).any (isS nm)) fun j x hx => hj j x hx (by have := some_lt hx; omega), if_neg (by simp)] at hR
  simp (maxSteps := 4000000) -implicitDefEqProofs only [go_sem, f1, Option.some.injEq, forall_eq', and_true, true_and, Bool.not_true, Bool.not_false, decide_true, Nat.reduceAdd, Nat.reduceSub, Nat.reduceLT, Nat.reduceLeDiff, Nat.reduceEqDiff, ↓reduceIte]
  exact wk_int hR.symm
end Go.AX.Fw
/- Forward: the grid in memory. -/
set_option maxHeartbeats 8000000
set_option linter.unusedVariables false
set_option linter.unusedSimpArgs false
set_option maxRecDepth 20000
namespace Go.AX
/-- blocks behind are given up -/
theorem Wk.dropL {n0 : Nat} {xs : List AV} {σ : List AObj} (l : Nat) : Wk n0 xs σ xs (σ.set l .gone) := Wk.ofNxt fun c vs H r => ⟨c, rfl, Nxt.drop H l, r⟩
theorem range_id : ∀ (n i : Nat), i < n → at0 (List.range n) i = i := fun n i h => by simp [at0, h]
theorem obs_map {σ : List AObj} : ∀ ls : List Nat, obs σ ls = ls.map (ob σ)
  | [] => rfl
  | l :: ls => by rw [obs, obs_map ls]; rfl
theorem renO_id {f : Nat → Nat} {k : Nat} (hf : ∀ i, i < k → f i = i) : ∀ {o : AObj}, bdO k o → renO f o = o := fun {o} hb => by
  have key : ∀ {xs : List AV}, bds k xs → rens f xs = xs := fun {xs} h => by
    rw [rens_congr (g := id) (fun l hl => hf l hl) xs h]
    induction xs with
    | nil => rfl
    | cons x xs ih =>
      have : ∀ x : AV, ren id x = x := by
        intro x
        induction x using AV.rec (motive_2 := fun xs => rens id xs = xs) with
        | _ => simp_all [ren, rens]
      rw [rens, this, ih h.2]
  cases o with
  | cells cs => simp only [renO, key hb]
  | vec sz es =>
    simp only [renO]
    congr 1
    have : ∀ es : List (List AV), bdss k es → renss f es = es := by
      intro es
      induction es with
      | nil => intro _; rfl
      | cons e es ih => intro h; rw [renss, key h.1, ih h.2]
    exact this es hb
  | _ => rfl
theorem mapO_id {f : Nat → Nat} {k : Nat} (hf : ∀ i, i < k → f i = i) : ∀ {os : List AObj}, bdOs k os → mapO f os = os
  | [], _ => rfl
  | o :: os, h => by rw [mapO, renO_id hf h.1, mapO_id hf h.2]
/-- what stands behind the blocks that are kept is given up -/
theorem Wk.cut {n0 : Nat} {xs ys : List AV} {σ τ : List AObj} (h1 : wkE xs ys) (h2 : bds σ.length ys) (h3 : bdOs σ.length σ) (h4 : n0 ≤ σ.length) : Wk n0 xs (σ ++ τ) ys σ := by
  have hl : (List.range σ.length).length = σ.length := List.length_range
  refine Wk.via (List.range σ.length) ?_ (by rw [hl]; exact h2) List.nodup_range (fun l h => ?_) ?_ (by rw [hl]; exact h3) (by rw [hl]; exact h4) (fun i h => range_id _ i (by omega))
  · have : rens (at0 (List.range σ.length)) ys = ys := by
      have := renO_id (k := σ.length) (fun i h => range_id σ.length i h) (o := .cells ys) h2
      simpa [renO] using this
    rw [this]; exact h1
  · have := List.mem_range.1 h
    rw [List.length_append]; omega
  · rw [mapO_id (fun i h => range_id σ.length i h) h3, obs_map]
    have : (List.range σ.length).map (ob (σ ++ τ)) = σ := by
      refine List.ext_getElem? fun j => ?_
      rw [List.getElem?_map]
      rcases Nat.lt_or_ge j σ.length with q | q
      · rw [List.getElem?_range q, Option.map_some, ob_eq, List.getElem?_append_left q, List.getElem?_eq_getElem q]; rfl
      · rw [List.getElem?_eq_none (by simpa using q), List.getElem?_eq_none q]; rfl
    rw [this]
    exact wkOs_refl σ
end Go.AX
namespace Go.AX.Fw
open Go.Proofs Go.RowKit Go.IntWalk Go.AX.Br Go.AX.Lg
abbrev Gr := Nat → Nat → Bool
def rowB (G : Gr) (n c : Nat) : List Bool := (List.range n).map (G c)
def boD (b : Bool) : List D := [.bool b]
theorem boD_len {l : List Bool} : (∀ e ∈ l.map boD, e.length = 1) = True := eq_true (map_len (g := boD) fun _ => rfl)
attribute [go_sem] boD boD_len
def upd (G : Gr) (c b : Nat) : Gr := fun c' b' => if c' = c ∧ b' = b then true else G c' b'
theorem rowB_len (G : Gr) (n c : Nat) : (rowB G n c).length = n := by simp [rowB]
theorem rowB_get {G : Gr} {n c b : Nat} (h : b < n) : (rowB G n c)[b]? = some (G c b) := by simp [rowB, h]
theorem rowB_set {G : Gr} {n c b : Nat} (h : b < n) : (rowB G n c).set b true = rowB (upd G c b) n c := by
  refine List.ext_getElem? fun j => ?_
  rcases Nat.lt_or_ge j n with q | q
  · by_cases e : j = b
    · subst e
      rw [List.getElem?_set_self (by rw [rowB_len]; exact h), rowB_get q]; simp [upd]
    · rw [List.getElem?_set_ne (Ne.symm e), rowB_get q, rowB_get q]; simp [upd, e]
  · rw [List.getElem?_eq_none (by simpa [rowB] using q), List.getElem?_eq_none (by simpa [rowB] using q)]
theorem rowB_other {G : Gr} {n c c' b : Nat} (h : c' ≠ c) : rowB (upd G c b) n c' = rowB G n c' := by
  unfold rowB
  congr 1
  funext b'
  simp [upd, h]
def ownL (k c : Nat) : List AV := (List.range c).map fun j => .own (k + j)
def gC (o : List ByteArray) (k c : Nat) : List AV := .d (.sl (o.map sD)) :: (ownL k c ++ List.replicate (30 - c) .nil)
def rowsL (G : Gr) (n c : Nat) : List AObj := (List.range c).map fun j => .row 1 ((rowB G n j).map boD)
/-- the grid at the label behind pre, c of its rows laid -/
def gH (pre : List AObj) (o : List ByteArray) (G : Gr) (c : Nat) (post : List AObj) : List AObj := pre ++ (.cells (gC o (pre.length + 1) c) :: (rowsL G o.length c ++ post))
theorem gC_len {o : List ByteArray} {k c : Nat} (h : c ≤ 30) : (gC o k c).length = 31 := by
  simp only [gC, ownL, List.length_cons, List.length_append, List.length_map, List.length_range, List.length_replicate]; omega
theorem gC_at {o : List ByteArray} {k c j : Nat} (h : j < c) : (gC o k c)[1 + j]? = some (.own (k + j)) := by
  rw [gC, Nat.add_comm 1 j, List.getElem?_cons_succ, List.getElem?_append_left (by simp [ownL]; exact h)]
  simp [ownL, h]
theorem gC_ld {o : List ByteArray} {k c j : Nat} (h : j < c) : ∃ r, drA (gC o k c) (1 + j) = .own (k + j) :: r := by
  have e := gC_at (o := o) (k := k) h
  rw [drA_eq, List.drop_eq_getElem_cons (some_lt e), (List.getElem?_eq_some_iff.1 e).2]
  exact ⟨_, rfl⟩
theorem gC_ld0 (o : List ByteArray) (k c : Nat) : ∃ r, drA (gC o k c) 0 = .d (.sl (o.map sD)) :: r := ⟨_, rfl⟩
theorem gC_sp {o : List ByteArray} {k c : Nat} (h : c < 30) : spl (gC o k c) (1 + c) [.own (k + c)] = gC o k (c + 1) := by
  have hl : (ownL k c).length = c := by simp [ownL]
  refine List.ext_getElem? fun q => ?_
  rw [spl_get _ _ _ _ (by rw [gC_len (by omega)]; simp; omega)]
  simp only [List.length_singleton]
  by_cases e : q = 1 + c
  · subst e
    rw [if_pos (by omega), Nat.sub_self, gC_at (Nat.lt_succ_self c)]; rfl
  · rw [if_neg (by omega)]
    cases q with
    | zero => rfl
    | succ q =>
      rw [gC, gC, List.getElem?_cons_succ, List.getElem?_cons_succ]
      rcases Nat.lt_or_ge q c with g | g
      · rw [List.getElem?_append_left (by omega), List.getElem?_append_left (by simp [ownL]; omega)]
        simp [ownL, g, show q < c + 1 by omega]
      · rw [List.getElem?_append_right (by omega), List.getElem?_append_right (by simp [ownL]; omega), hl, show (ownL k (c + 1)).length = c + 1 by simp [ownL]]
        rcases Nat.lt_or_ge q 30 with g2 | g2
        · rw [List.getElem?_replicate, List.getElem?_replicate, if_pos (by omega), if_pos (by omega)]
        · rw [List.getElem?_replicate, List.getElem?_replicate, if_neg (by omega), if_neg (by omega)]
section
variable {pre post : List AObj} {o : List ByteArray} {G : Gr} {c : Nat}
theorem gH_len : (gH pre o G c post).length = pre.length + 1 + c + post.length := by
  simp only [gH, rowsL, List.length_append, List.length_cons, List.length_map, List.length_range]; omega
theorem gH_pre {l : Nat} (h : l < pre.length) : ob (gH pre o G c post) l = ob pre l := by
  rw [ob_eq, ob_eq, gH, List.getElem?_append_left h]
theorem gH_g : ob (gH pre o G c post) pre.length = .cells (gC o (pre.length + 1) c) := by
  rw [ob_eq, gH, List.getElem?_append_right (Nat.le_refl _), Nat.sub_self]; rfl
theorem gH_at {j : Nat} (h : j < c) : (gH pre o G c post)[pre.length + 1 + j]? = some (.row 1 ((rowB G o.length j).map boD)) := by
  rw [gH, List.getElem?_append_right (by omega), show pre.length + 1 + j - pre.length = j + 1 by omega, List.getElem?_cons_succ, List.getElem?_append_left (by simp [rowsL]; exact h)]
  simp [rowsL, h]
theorem gH_r {j : Nat} (h : j < c) : ob (gH pre o G c post) (pre.length + 1 + j) = .row 1 ((rowB G o.length j).map boD) := by
  rw [ob_eq, gH_at h]; rfl
theorem gH_post {j : Nat} : ob (gH pre o G c post) (pre.length + 1 + c + j) = ob post j := by
  rw [ob_eq, ob_eq, gH, List.getElem?_append_right (by omega), show pre.length + 1 + c + j - pre.length = (c + j) + 1 by omega, List.getElem?_cons_succ, List.getElem?_append_right (by simp [rowsL])]
  congr 2
  simp [rowsL]
theorem gH_app (x : List AObj) : gH pre o G c post ++ x = gH pre o G c (post ++ x) := by simp [gH]
theorem gH_so {j b : Nat} (h : j < c) (hb : b < o.length) : so (gH pre o G c post) (pre.length + 1 + j) (.row 1 (((rowB G o.length j).map boD).set b [.bool true])) = gH pre o (upd G j b) c post := by
  rw [so_eq, show ((rowB G o.length j).map boD).set b [.bool true] = ((rowB G o.length j).set b true).map boD by rw [List.map_set]; rfl, rowB_set hb]
  refine List.ext_getElem? fun q => ?_
  by_cases e : q = pre.length + 1 + j
  · subst e
    rw [List.getElem?_set_self (by rw [gH_len]; omega), gH_at h]
  · rw [List.getElem?_set_ne (Ne.symm e)]
    unfold gH
    rcases Nat.lt_or_ge q pre.length with g | g
    · rw [List.getElem?_append_left g, List.getElem?_append_left g]
    · rw [List.getElem?_append_right g, List.getElem?_append_right g]
      cases hq : q - pre.length with
      | zero => rfl
      | succ k =>
        rw [List.getElem?_cons_succ, List.getElem?_cons_succ]
        rcases Nat.lt_or_ge k c with g2 | g2
        · rw [List.getElem?_append_left (by simp [rowsL]; exact g2), List.getElem?_append_left (by simp [rowsL]; exact g2)]
          simp only [rowsL, List.getElem?_map, List.getElem?_range g2, Option.map_some]
          rw [rowB_other (by omega)]
        · rw [List.getElem?_append_right (by simp [rowsL]; exact g2), List.getElem?_append_right (by simp [rowsL]; exact g2)]
          simp [rowsL]
theorem gH_grow {G : Gr} : so (gH pre o G c [] ++ [.row 1 ((rowB G o.length c).map boD)]) pre.length (.cells (gC o (pre.length + 1) (c + 1))) = gH pre o G (c + 1) [] := by
  rw [so_eq]
  unfold gH
  rw [List.append_assoc, List.set_append_right (h := Nat.le_refl _), Nat.sub_self]
  simp [rowsL, List.range_succ]
end
def G0 : Gr := fun _ _ => false
theorem row0 (n c : Nat) : List.replicate n [D.bool false] = (rowB G0 n c).map boD := by
  refine List.ext_getElem? fun j => ?_
  rcases Nat.lt_or_ge j n with q | q
  · simp [rowB, q, G0, boD]
  · rw [List.getElem?_eq_none (by simpa using q), List.getElem?_eq_none (by simpa [rowB] using q)]
/-- the grid of a ledger -/
def gridG (l : Lg) (o : List ByteArray) : Gr := fun c b => match o[b]? with
  | some nm => (effR l nm).1.any fun x => x == (c : Int)
  | none => false
theorem eff_el {l : Lg} {nm : ByteArray} {i : Nat} {x : Int} (h : (effR l nm).1[i]? = some x) : ∃ c : Nat, x = c ∧ c < 30 := by
  unfold effR at h
  split at h
  · simp at h
  · simp only [effL, effN, List.getElem?_map] at h
    cases q : ((List.range 30).filter fun (c : Nat) => inR l (seenL l (lview l nm).1) c)[i]? with
    | none => rw [q] at h; simp at h
    | some c =>
      rw [q] at h
      simp only [Option.map_some, Option.some.injEq] at h
      have := List.mem_of_getElem? q
      rw [List.mem_filter, List.mem_range] at this
      exact ⟨c, h.symm, this.1⟩
/-- a part of it: i names, and k classes of the next one -/
def gridP (l : Lg) (o : List ByteArray) (i : Nat) (E : List Int) (k : Nat) : Gr := fun c b => (decide (b < i) && gridG l o c b) || (decide (b = i) && (E.take k).any fun x => x == (c : Int))
theorem gridP_0 (l : Lg) (o : List ByteArray) (E : List Int) : gridP l o 0 E 0 = G0 := by
  funext c b; simp [gridP, G0]
theorem gridP_step {l : Lg} {o : List ByteArray} {i k c : Nat} {E : List Int} (h : E[k]? = some (c : Int)) : upd (gridP l o i E k) c i = gridP l o i E (k + 1) := by
  funext c' b'
  simp only [upd, gridP]
  rw [List.take_add_one, h, Option.toList_some, List.any_append]
  by_cases e1 : b' = i
  · subst e1
    by_cases e2 : c' = c
    · subst e2; simp
    · have : ((c : Int) == c') = false := by simp; omega
      simp [e2, this]
  · simp [e1]
theorem gridP_next {l : Lg} {o : List ByteArray} {i : Nat} {nm : ByteArray} {E F : List Int} (h : o[i]? = some nm) (hE : E = (effR l nm).1) : gridP l o i E E.length = gridP l o (i + 1) F 0 := by
  funext c b
  simp only [gridP, List.take_length, List.take_zero, List.any_nil, Bool.and_false, Bool.or_false]
  by_cases e : b = i
  · subst e
    have : gridG l o c b = E.any fun x => x == (c : Int) := by simp only [gridG, h, hE]
    simp [this]
  · have : decide (b < i + 1) = decide (b < i) := by rw [decide_eq_decide]; omega
    simp [e, this]
theorem gridP_end {l : Lg} {o : List ByteArray} {E : List Int} : gridP l o o.length E 0 = gridG l o := by
  funext c b
  simp only [gridP, List.take_zero, List.any_nil, Bool.and_false, Bool.or_false]
  rcases Nat.lt_or_ge b o.length with q | q
  · simp [q]
  · simp [gridG, List.getElem?_eq_none q, show ¬ b < o.length by omega]
end Go.AX.Fw
/- Forward: a grid is looked at. -/
set_option maxHeartbeats 8000000
set_option linter.unusedVariables false
set_option linter.unusedSimpArgs false
set_option maxRecDepth 20000
namespace Go.AX.Fw
open Go.Proofs Go.RowKit Go.IntWalk Go.AX.Br Go.AX.Lg
theorem look_own (l : Lg) (o : List ByteArray) (hk : l.kn.length ≤ 1000) (hb : l.br.length ≤ 1000) (he : l.ev.length ≤ 1000) (ho : o.length ≤ 1000) : Spec Try.prog 32 [lA l, .d (.sl (o.map sD))] [] (.ptr 1 0) (gH [.gone] o (gridG l o) 30 []) := by
  have c1 := fun nm => Effect_own l nm hk hb he
  simp only [lA] at c1
  obtain ⟨X, hX⟩ : ∃ X, X = lH l := ⟨_, rfl⟩
  have o0 : ∀ G c post, ob (gH [X] o G c post) 0 = .cells [.d (.sl (l.kn.map kD)), .d (.sl (l.br.map bD)), .d (.sl (l.ev.map esD))] := fun G c post => by rw [gH_pre (by simp), hX]; rfl
  refine spec_of_ev (fn := Try.f32) DX_ok 3000 Try.func32 rfl rfl (Nat.le_of_ble_eq_true rfl) ?_
  simp (maxSteps := 4000000) -implicitDefEqProofs only [Try.f32, go_sem, lA]
  refine eloop (S := Nat) (fun c => mkE 58 [(1, .d (.sl (o.map sD))), (2, .ptr 0 0), (5, .ptr 1 0), (16, .d (.int .i64 c))]) (fun c => gH [X] o G0 c []) (fun c => c ≤ 30) (fun c => 30 - c) 0 (by omega) (by rw [show gH [X] o G0 0 [] = [lH l, .cells (.d (.sl (o.map sD)) :: List.replicate 30 .nil)] from by rw [hX]; rfl]; simp only [List.replicate, lH]; exact (Wk.via [0, 1] (by (simp only [go_sem, ↓reduceIte]) <;> trivial) (by first | (simp (maxSteps := 4000000) -implicitDefEqProofs only [go_sem, Nat.reduceAdd, Nat.reduceSub, Nat.reduceLT, Nat.reduceLeDiff, Nat.reduceEqDiff, ↓reduceIte]; done) | ((simp (maxSteps := 4000000) -implicitDefEqProofs only [go_sem, Nat.reduceAdd, Nat.reduceSub, Nat.reduceLT, Nat.reduceLeDiff, Nat.reduceEqDiff, ↓reduceIte]) <;> omega)) (by simp) (by first | (simp; done) | (simp [so]; done)) (by (simp (maxSteps := 4000000) -implicitDefEqProofs only [go_sem, Nat.reduceAdd, Nat.reduceSub, Nat.reduceLT, Nat.reduceLeDiff, Nat.reduceEqDiff, ↓reduceIte]) <;> trivial) (by first | (simp only [go_sem]; done) | ((simp (maxSteps := 4000000) -implicitDefEqProofs only [go_sem, Nat.reduceAdd, Nat.reduceSub, Nat.reduceLT, Nat.reduceLeDiff, Nat.reduceEqDiff, ↓reduceIte]) <;> omega)) (Nat.zero_le _) (fun i h => absurd h (Nat.not_lt_zero i)))) ?_
  intro c hc
  rcases Nat.lt_or_ge c 30 with h2 | h2
  case inl =>
    have f1 : decide ((c : Int) < 30) = true := by simp; omega
    have w1 : IntKind.i64.wrap ((c : Int) + 1) = ((c + 1 : Nat) : Int) := by rw [i64_in _ (by omega)]; simp
    have m1 : (0 ≤ (c : Int) ∧ (c : Int) < ((30 : Nat) : Int)) = True := eq_true (by omega)
    have m1' : (0 ≤ (c : Int) ∧ (c : Int) < 30) = True := eq_true (by omega)
    have ln : (gH [X] o G0 c []).length = 2 + c := by rw [gH_len]; simp; try omega
    have r0 := row0 o.length c
    have og : ob (gH [X] o G0 c [] ++ [.row 1 ((rowB G0 o.length c).map boD)]) 1 = .cells (gC o 2 c) := by rw [gH_app]; exact gH_g (pre := [X])
    have gl : (gC o 2 c).length = 31 := gC_len (by omega)
    have gs := gC_sp (o := o) (k := 2) h2
    have gw : so (gH [X] o G0 c [] ++ [.row 1 ((rowB G0 o.length c).map boD)]) 1 (.cells (gC o 2 (c + 1))) = gH [X] o G0 (c + 1) [] := gH_grow (pre := [X])
    have n1 : (1 + c + 1 ≤ 31) = True := eq_true (by omega)
    simp (maxSteps := 4000000) -implicitDefEqProofs only [go_sem, f1, Option.some.injEq, forall_eq', and_true, true_and, Bool.not_true, Bool.not_false, decide_true, Nat.reduceAdd, Nat.reduceSub, Nat.reduceLT, Nat.reduceLeDiff, Nat.reduceEqDiff, ↓reduceIte]
    refine DX.plain (.take 0 true (.take 1 true (.take 2 false (.take 3 false (.take 5 true (.take 6 true (.run [4] (fun _ => [true, true, true, true]) fun _ => (.take 7 false (.run [8] (fun _ => [false, false, false, false]) fun _ => .done))))))))) (by kernel_rfl) (by kernel_rfl) Ty.mixed ?_
    simp (maxSteps := 4000000) -implicitDefEqProofs only [go_sem, m1, m1', ln, r0, og, gl, gs, gw, n1, w1, Option.some.injEq, forall_eq', and_true, true_and, Bool.not_true, Bool.not_false, decide_true, Nat.reduceAdd, Nat.reduceSub, Nat.reduceLT, Nat.reduceLeDiff, Nat.reduceEqDiff, ↓reduceIte]
    exact ⟨by omega, .mk (c + 1) (by omega) (by omega) (Wk.sub (by (simp only [go_sem]) <;> trivial))⟩
  have hc30 : c = 30 := by omega
  subst hc30
  have f1 : decide ((((30 : Nat) : Int)) < 30) = false := rfl
  have gl : (gC o 2 30).length = 31 := gC_len (by omega)
  have o1 : ∀ G, ob (gH [X] o G 30 []) 1 = .cells (gC o 2 30) := fun G => gH_g (pre := [X])
  have og : ∀ (G : Gr) (c : Nat), c < 30 → ob (gH [X] o G 30 []) (2 + c) = .row 1 ((rowB G o.length c).map boD) := fun G c h => gH_r (pre := [X]) h
  have gs : ∀ (G : Gr) (c i : Nat), c < 30 → i < o.length → so (gH [X] o G 30 []) (2 + c) (.row 1 (((rowB G o.length c).map boD).set i [.bool true])) = gH [X] o (upd G c i) 30 [] := fun G c i h h2 => gH_so (pre := [X]) h h2
  simp (maxSteps := 4000000) -implicitDefEqProofs only [go_sem, f1, Option.some.injEq, forall_eq', and_true, true_and, Bool.not_true, Bool.not_false, decide_true, Nat.reduceAdd, Nat.reduceSub, Nat.reduceLT, Nat.reduceLeDiff, Nat.reduceEqDiff, ↓reduceIte]
  refine eloop (S := Nat) (fun i => mkE 58 [(2, .ptr 0 0), (5, .ptr 1 0), (28, .d (.sl (o.map sD))), (29, .d (.int .i64 o.length)), (30, .d (.int .i64 i))]) (fun i => gH [X] o (gridP l o i [] 0) 30 []) (fun i => i ≤ o.length) (fun i => o.length - i) 0 (by omega) (by rw [gridP_0]; exact (Wk.sub (by (simp only [go_sem]) <;> trivial))) ?_
  clear hc h2 f1
  intro i hi
  rcases Nat.lt_or_ge i o.length with h2 | h2
  case inr =>
    have : i = o.length := by omega
    subst this
    have f1 : decide ((o.length : Int) < o.length) = false := by simp
    simp (maxSteps := 4000000) -implicitDefEqProofs only [go_sem, f1, Option.some.injEq, forall_eq', and_true, true_and, Bool.not_true, Bool.not_false, decide_true, Nat.reduceAdd, Nat.reduceSub, Nat.reduceLT, Nat.reduceLeDiff, Nat.reduceEqDiff, ↓reduceIte]
    rw [gridP_end]
    exact Wk.trans (Wk.dropL 0) (Wk.sub (by (simp only [go_sem]) <;> trivial))
  have f1 : decide ((i : Int) < o.length) = true := by simp; omega
  obtain ⟨x, hx⟩ : ∃ x, o[i]? = some x := ⟨o[i]'h2, List.getElem?_eq_getElem _⟩
  have n1 : (0 ≤ (i : Int) ∧ (i : Int) < o.length) = True := eq_true (by omega)
  have n2 : (i < o.length) = True := eq_true (by omega)
  have w1 : IntKind.i64.wrap ((i : Int) + 1) = ((i + 1 : Nat) : Int) := by rw [i64_in _ (by omega)]; simp
  have c2 := c1 x
  obtain ⟨E, hE⟩ : ∃ E, E = (effR l x).1 := ⟨_, rfl⟩
  have hEl : E.length ≤ 30 := by
    rw [hE]; unfold effR
    split
    · simp
    · exact effN_len _ _ _
  rw [← hE] at c2
  have hnx := gridP_next (F := []) hx hE
  simp (maxSteps := 4000000) -implicitDefEqProofs only [go_sem, f1, n1, n2, hx, o0, Option.some.injEq, forall_eq', and_true, true_and, Bool.not_true, Bool.not_false, decide_true, Nat.reduceAdd, Nat.reduceSub, Nat.reduceLT, Nat.reduceLeDiff, Nat.reduceEqDiff, ↓reduceIte]
  refine ecall0 _ c2 (by simp only [go_sem]) (by simp only [go_sem]) ?_
  simp (maxSteps := 4000000) -implicitDefEqProofs only [go_sem, Nat.reduceAdd, Nat.reduceSub, Nat.reduceLT, Nat.reduceLeDiff, Nat.reduceEqDiff, ↓reduceIte]
  refine eloop (S := Nat) (fun k => mkE 58 [(2, .ptr 0 0), (5, .ptr 1 0), (7, .d (.int .i64 i)), (28, .d (.sl (o.map sD))), (29, .d (.int .i64 o.length)), (30, .d (.int .i64 i)), (41, .d (.sl (E.map iD))), (42, .d (.int .i64 E.length)), (43, .d (.int .i64 k))]) (fun k => gH [X] o (gridP l o i E k) 30 []) (fun k => k ≤ E.length) (fun k => E.length - k) 0 (by omega) (by rw [show gridP l o i E 0 = gridP l o i [] 0 from by funext c b; simp [gridP]]; exact (Wk.sub (by (simp only [go_sem]) <;> trivial))) ?_
  intro k hk2
  rcases Nat.lt_or_ge k E.length with h3 | h3
  case inr =>
    have : k = E.length := by omega
    subst this
    have f2 : decide ((E.length : Int) < E.length) = false := by simp
    simp (maxSteps := 4000000) -implicitDefEqProofs only [go_sem, f2, w1, Option.some.injEq, forall_eq', and_true, true_and, Bool.not_true, Bool.not_false, decide_true, Nat.reduceAdd, Nat.reduceSub, Nat.reduceLT, Nat.reduceLeDiff, Nat.reduceEqDiff, ↓reduceIte]
    exact .mk (i + 1) (by omega) (by omega) (by rw [← hnx]; exact (Wk.sub (by (simp only [go_sem]) <;> trivial)))
  have f2 : decide ((k : Int) < E.length) = true := by simp; omega
  obtain ⟨y, hy⟩ : ∃ y, E[k]? = some y := ⟨E[k]'h3, List.getElem?_eq_getElem _⟩
  obtain ⟨c, rfl, hc30⟩ := eff_el (l := l) (nm := x) (i := k) (by rw [← hE]; exact hy)
  have p1 : (0 ≤ (k : Int) ∧ (k : Int) < E.length) = True := eq_true (by omega)
  have p2 : (k < E.length) = True := eq_true (by omega)
  have m1 : (0 ≤ (c : Int) ∧ (c : Int) < ((30 : Nat) : Int)) = True := eq_true (by omega)
  have m1' : (0 ≤ (c : Int) ∧ (c : Int) < 30) = True := eq_true (by omega)
  have w2 : IntKind.i64.wrap ((k : Int) + 1) = ((k + 1 : Nat) : Int) := by rw [i64_in _ (by omega)]; simp
  have hst := gridP_step (l := l) (o := o) (i := i) hy
  obtain ⟨G, hG⟩ : ∃ G, G = gridP l o i E k := ⟨_, rfl⟩
  rw [← hG] at hst ⊢
  have q1 := o1 G
  have q2 := og G c hc30
  have q3 := gs G c i hc30 h2
  rw [hst] at q3
  obtain ⟨r, q4⟩ := gC_ld (o := o) (k := 2) hc30
  have q5 := rowB_len G o.length c
  have q6 := rowB_get (G := G) (c := c) h2
  simp (maxSteps := 4000000) -implicitDefEqProofs only [go_sem, f2, p1, p2, hy, m1, m1', q1, q4, q2, q5, n1, n2, q6, q3, w2, Option.some.injEq, forall_eq', and_true, true_and, Bool.not_true, Bool.not_false, decide_true, Nat.reduceAdd, Nat.reduceSub, Nat.reduceLT, Nat.reduceLeDiff, Nat.reduceEqDiff, ↓reduceIte]
  exact .mk (k + 1) (by omega) (by omega) (Wk.sub (by (simp only [go_sem]) <;> trivial))
end Go.AX.Fw
/- Forward: rows of bools; what is allowed. -/
set_option maxHeartbeats 8000000
set_option linter.unusedVariables false
set_option linter.unusedSimpArgs false
set_option maxRecDepth 20000
namespace Go.AX
/-- a call that reads a row -/
theorem ecallR1 {Γ : Ctx} {E : List AV → List AObj → Prop} {dst : Option Tmp} {f : FuncId} {args env : List AV} {σ : List AObj} (l : Nat) {args0 : List AV} (r : AV) {sz : Nat} {es : List (List D)} (h7 : Spec Γ.P f args0 [.row sz es] r [.row sz es]) (h1 : args = rens (at0 [l]) args0) (hb0 : bds 1 args0) (hb2 : bd 0 r)
    (hl : l < σ.length) (hO : ob σ l = .row sz es) (h8 : E (putO env dst r) σ) : ECall Γ E dst f env args σ := by
  refine .mk [l] args0 [.row sz es] r [.row sz es] h1 hb0 (by simp) (by simpa using hl) (by simp [obs, mapO, renO, hO]) ⟨trivial, trivial⟩ h7 ?_
  rw [ren_id hb2]
  have : back σ [l] [AObj.row sz es] = σ := by
    simp only [back, List.length_cons, List.length_nil, List.take_succ_cons, List.take_zero, mapO, renO, setAll, List.drop_succ_cons, List.drop_zero, List.append_nil, so_eq]
    rw [ob_eq, List.getElem?_eq_getElem hl] at hO
    simp only [Option.getD_some] at hO
    rw [← hO]; exact List.set_getElem_self hl
  rw [this]; exact h8
end Go.AX
namespace Go.AX.Fw
open Go.Proofs Go.RowKit Go.IntWalk Go.AX.Br Go.AX.Lg
def isBo (m : Bool) (x : Bool) : Bool := m == x
theorem indexB (v : List Bool) (m : Bool) (hl : Sm v.length) : Spec Try.prog 58 [.d (.sl (v.map boD)), .d (.bool m)] [] (.d (.int .i64 (idx (isBo m) v))) [] := by
  unfold Sm at hl
  refine spec_of_ev (fn := Try.f58) DX_ok 3000 Try.func58 rfl rfl (Nat.le_of_ble_eq_true rfl) ?_
  simp (maxSteps := 4000000) -implicitDefEqProofs only [Try.f58, go_sem]
  refine eloop (S := Nat) (fun i => mkE 19 [(0, .d (.sl (v.map boD))), (1, .d (.bool m)), (7, .d (.int .i64 v.length)), (8, .d (.int .i64 i))]) (fun i => []) (fun i => i ≤ v.length ∧ ∀ j x, v[j]? = some x → j < i → isBo m x = false) (fun i => v.length - i) 0 ⟨by omega, by omega⟩ (Wk.sub (by (simp only [go_sem]) <;> trivial)) ?_
  rintro i ⟨hi, hj⟩
  rcases Nat.lt_or_ge i v.length with h2 | h2
  · have d2 : decide ((i : Int) < v.length) = true := by simp; omega
    obtain ⟨x, hx⟩ : ∃ x, v[i]? = some x := ⟨v[i]'(by omega), List.getElem?_eq_getElem _⟩
    have n1 : (0 ≤ (i : Int) ∧ (i : Int) < v.length) = True := eq_true (by omega)
    have n3 : (i < v.length) = True := eq_true (by omega)
    have w1 : IntKind.i64.wrap ((i : Int) + 1) = i + 1 := i64_in _ (by omega)
    cases h3 : isBo m x
    · have hxy : (m == x) = false := h3
      simp (maxSteps := 4000000) -implicitDefEqProofs only [go_sem, d2, n1, n3, hx, hxy, w1, Option.some.injEq, forall_eq', and_true, true_and, Bool.not_true, Bool.not_false, decide_true, Nat.reduceAdd, Nat.reduceSub, Nat.reduceLT, Nat.reduceLeDiff, Nat.reduceEqDiff, ↓reduceIte]
      exact .mk (i + 1) ⟨by omega, upto_succ hx h3 hj⟩ (by omega) (Wk.sub (by (simp only [go_sem]) <;> trivial))
    · have hxy : (m == x) = true := h3
      simp (maxSteps := 4000000) -implicitDefEqProofs only [go_sem, d2, n1, n3, hx, hxy, w1, Option.some.injEq, forall_eq', and_true, true_and, Bool.not_true, Bool.not_false, decide_true, Nat.reduceAdd, Nat.reduceSub, Nat.reduceLT, Nat.reduceLeDiff, Nat.reduceEqDiff, ↓reduceIte]
      exact wk_int (idx_found (p := isBo m) hx h3 hj).symm
  · have d2 : decide ((i : Int) < v.length) = false := by simp; omega
    simp (maxSteps := 4000000) -implicitDefEqProofs only [go_sem, d2, Option.some.injEq, forall_eq', and_true, true_and, Bool.not_true, Bool.not_false, decide_true, Nat.reduceAdd, Nat.reduceSub, Nat.reduceLT, Nat.reduceLeDiff, Nat.reduceEqDiff, ↓reduceIte]
    exact wk_int (idx_none (p := isBo m) fun j x hx => hj j x hx (by have := some_lt hx; omega)).symm
theorem indexBo (v : List Bool) (m : Bool) (lo : Nat) (hl : Sm v.length) (hlo : lo ≤ v.length) : Spec Try.prog 58 [.osl 0 1 lo (v.length - lo), .d (.bool m)] [.row 1 (v.map boD)] (.d (.int .i64 (idx (isBo m) (v.drop lo)))) [.row 1 (v.map boD)] := by
  unfold Sm at hl
  obtain ⟨n, hn⟩ : ∃ n, n = v.length - lo := ⟨_, rfl⟩
  rw [← hn]
  refine spec_of_ev (fn := Try.f58) DX_ok 3000 Try.func58 rfl rfl (Nat.le_of_ble_eq_true rfl) ?_
  simp (maxSteps := 4000000) -implicitDefEqProofs only [Try.f58, go_sem]
  refine eloop (S := Nat) (fun i => mkE 19 [(0, .osl 0 1 lo n), (1, .d (.bool m)), (7, .d (.int .i64 n)), (8, .d (.int .i64 i))]) (fun i => [.row 1 (v.map boD)]) (fun i => i ≤ n ∧ ∀ j x, (v.drop lo)[j]? = some x → j < i → isBo m x = false) (fun i => n - i) 0 ⟨by omega, by omega⟩ (Wk.sub (by (simp only [go_sem]) <;> trivial)) ?_
  rintro i ⟨hi, hj⟩
  rcases Nat.lt_or_ge i n with h2 | h2
  · have d2 : decide ((i : Int) < n) = true := by simp; omega
    obtain ⟨x, hx⟩ : ∃ x, v[lo + i]? = some x := ⟨v[lo + i]'(by omega), List.getElem?_eq_getElem _⟩
    have hx' : (v.drop lo)[i]? = some x := by rw [List.getElem?_drop]; exact hx
    have n1 : (0 ≤ (i : Int) ∧ (i : Int) < n) = True := eq_true (by omega)
    have n3 : (lo + i < v.length) = True := eq_true (by omega)
    have w1 : IntKind.i64.wrap ((i : Int) + 1) = i + 1 := i64_in _ (by omega)
    cases h3 : isBo m x
    · have hxy : (m == x) = false := h3
      simp (maxSteps := 4000000) -implicitDefEqProofs only [go_sem, d2, n1, n3, hx, hxy, w1, Option.some.injEq, forall_eq', and_true, true_and, Bool.not_true, Bool.not_false, decide_true, Nat.reduceAdd, Nat.reduceSub, Nat.reduceLT, Nat.reduceLeDiff, Nat.reduceEqDiff, ↓reduceIte]
      exact .mk (i + 1) ⟨by omega, upto_succ hx' h3 hj⟩ (by omega) (Wk.sub (by (simp only [go_sem]) <;> trivial))
    · have hxy : (m == x) = true := h3
      simp (maxSteps := 4000000) -implicitDefEqProofs only [go_sem, d2, n1, n3, hx, hxy, w1, Option.some.injEq, forall_eq', and_true, true_and, Bool.not_true, Bool.not_false, decide_true, Nat.reduceAdd, Nat.reduceSub, Nat.reduceLT, Nat.reduceLeDiff, Nat.reduceEqDiff, ↓reduceIte]
      rw [idx_found (p := isBo m) hx' h3 hj]
      exact (Wk.sub (by (simp only [go_sem]) <;> trivial))
  · have d2 : decide ((i : Int) < n) = false := by simp; omega
    simp (maxSteps := 4000000) -implicitDefEqProofs only [go_sem, d2, Option.some.injEq, forall_eq', and_true, true_and, Bool.not_true, Bool.not_false, decide_true, Nat.reduceAdd, Nat.reduceSub, Nat.reduceLT, Nat.reduceLeDiff, Nat.reduceEqDiff, ↓reduceIte]
    rw [idx_none (p := isBo m) fun j x hx => hj j x hx (by have := some_lt hx; rw [List.length_drop] at this; omega)]
    exact (Wk.sub (by (simp only [go_sem]) <;> trivial))
theorem containsBo (v : List Bool) (m : Bool) (lo : Nat) (hl : Sm v.length) (hlo : lo ≤ v.length) : Spec Try.prog 60 [.osl 0 1 lo (v.length - lo), .d (.bool m)] [.row 1 (v.map boD)] (.d (.bool ((v.drop lo).any (isBo m)))) [.row 1 (v.map boD)] := by
  have c1 := indexBo v m lo hl hlo
  obtain ⟨n, hn⟩ : ∃ n, n = v.length - lo := ⟨_, rfl⟩
  rw [← hn] at c1 ⊢
  refine spec_of_ev (fn := Try.f60) DX_ok 3000 Try.func60 rfl rfl (Nat.le_of_ble_eq_true rfl) ?_
  simp (maxSteps := 4000000) -implicitDefEqProofs only [Try.f60, go_sem]
  refine .all _ _ c1 ?_
  simp (maxSteps := 4000000) -implicitDefEqProofs only [go_sem, Nat.reduceAdd, Nat.reduceSub, Nat.reduceLT, Nat.reduceLeDiff, Nat.reduceEqDiff, ↓reduceIte]
  rw [idx_any]
  exact (Wk.sub (by (simp only [go_sem]) <;> trivial))
/-- what is allowed -/
def alw (G : Gr) (n c b : Nat) : Bool := (List.range n).all fun i => decide (i ≤ b) || G c i
theorem alw_row (G : Gr) (n c b : Nat) : (!((rowB G n c).drop (b + 1)).any (isBo false)) = alw G n c b := by
  rw [Bool.eq_iff_iff]
  simp only [Bool.not_eq_true', List.any_eq_false, alw, List.all_eq_true, Bool.or_eq_true, decide_eq_true_eq, List.mem_range]
  constructor
  · intro h i hi
    rcases Nat.lt_or_ge b i with q | q
    · have := h (G c i) (List.mem_of_getElem? (i := i - (b + 1)) (by rw [List.getElem?_drop, show b + 1 + (i - (b + 1)) = i by omega]; exact rowB_get hi))
      cases z : G c i with
      | true => exact .inr rfl
      | false => rw [z] at this; exact absurd rfl this
    · exact .inl q
  · intro h x hx
    obtain ⟨j, hj⟩ := List.mem_iff_getElem?.1 hx
    rw [List.getElem?_drop] at hj
    have hl := some_lt hj
    rw [rowB_len] at hl
    rw [rowB_get hl] at hj
    rcases h (b + 1 + j) hl with q | q
    · omega
    · cases hj; rw [q]; simp [isBo]
theorem allowed_own (pre post : List AObj) (o : List ByteArray) (G : Gr) (c b : Nat) (hc : c < 30) (hb : b < o.length) (ho : o.length ≤ 1000) : Spec Try.prog 39 [.ptr pre.length 0, .d (.int .i64 c), .d (.int .i64 b)] (gH pre o G 30 post) (.d (.bool (alw G o.length c b))) (gH pre o G 30 post) := by
  have og : ob (gH pre o G 30 post) pre.length = .cells (gC o (pre.length + 1) 30) := gH_g
  obtain ⟨r, q4⟩ := gC_ld (o := o) (k := pre.length + 1) hc
  have gr : ob (gH pre o G 30 post) (pre.length + 1 + c) = .row 1 ((rowB G o.length c).map boD) := gH_r hc
  have m1 : (0 ≤ (c : Int) ∧ (c : Int) < ((30 : Nat) : Int)) = True := eq_true (by omega)
  have m1' : (0 ≤ (c : Int) ∧ (c : Int) < 30) = True := eq_true (by omega)
  have w1 : IntKind.i64.wrap ((b : Int) + 1) = ((b + 1 : Nat) : Int) := by rw [i64_in _ (by omega)]; simp
  have rl := rowB_len G o.length c
  have hn : (0 ≤ ((b + 1 : Nat) : Int) ∧ ((b + 1 : Nat) : Int) ≤ o.length) = True := eq_true (by omega)
  have c1 := containsBo (rowB G o.length c) false (b + 1) (by unfold Sm; omega) (by omega)
  rw [rl] at c1
  have hlt : pre.length + 1 + c < (gH pre o G 30 post).length := by rw [gH_len]; omega
  obtain ⟨k, hk⟩ : ∃ k, k = b + 1 := ⟨_, rfl⟩
  have ar := alw_row G o.length c b
  rw [← hk] at w1 hn c1 ar
  obtain ⟨H, hH⟩ : ∃ H, H = gH pre o G 30 post := ⟨_, rfl⟩
  rw [← hH] at og gr hlt ⊢
  obtain ⟨p, hp⟩ : ∃ p, p = pre.length := ⟨_, rfl⟩
  rw [← hp] at og gr hlt q4 ⊢
  refine spec_of_ev (fn := Try.f39) DX_ok 3000 Try.func39 rfl rfl (Nat.le_of_ble_eq_true rfl) ?_
  simp (maxSteps := 4000000) -implicitDefEqProofs only [Try.f39, go_sem]
  simp (maxSteps := 4000000) -implicitDefEqProofs only [go_sem, og, q4, gr, m1, m1', w1, rl, hn, Option.some.injEq, forall_eq', and_true, true_and, Bool.not_true, Bool.not_false, decide_true, Nat.reduceAdd, Nat.reduceSub, Nat.reduceLT, Nat.reduceLeDiff, Nat.reduceEqDiff, ↓reduceIte]
  refine ecallR1 (p + 1 + c) _ c1 (by simp only [go_sem]) (by simp only [go_sem]; omega) (by simp only [go_sem]) hlt gr ?_
  simp (maxSteps := 4000000) -implicitDefEqProofs only [go_sem, Nat.reduceAdd, Nat.reduceSub, Nat.reduceLT, Nat.reduceLeDiff, Nat.reduceEqDiff, ↓reduceIte]
  rw [ar]
  exact (Wk.sub (by (simp only [go_sem]) <;> trivial))
end Go.AX.Fw
/- Forward: gaps, and the iterator over them. -/
set_option maxHeartbeats 8000000
set_option linter.unusedVariables false
set_option linter.unusedSimpArgs false
set_option maxRecDepth 20000
namespace Go.AX.Fw
open Go.Proofs Go.RowKit Go.IntWalk Go.AX.Br Go.AX.Lg
def gapP (G : Gr) (c b : Nat) : Bool := (List.range b).any (G c) && !G c b
def tagC (c : Nat) (l : List Nat) : List (Nat × Nat) := l.map fun b => (c, b)
def clsG (G : Gr) (n c : Nat) : List (Nat × Nat) := tagC c ((List.range n).reverse.filter (gapP G c))
def gapsL (G : Gr) (n : Nat) : List (Nat × Nat) := (List.range 30).flatMap (clsG G n)
def pf (G : Gr) (n c k : Nat) : List (Nat × Nat) := (List.range c).flatMap (clsG G n) ++ tagC c (((List.range n).reverse.take k).filter (gapP G c))
section
variable {G : Gr} {n c k b : Nat}
theorem rr_get (h : k < n) : (List.range n).reverse[k]? = some (n - 1 - k) := by
  rw [List.getElem?_reverse (by simpa using h), List.getElem?_range (by simp; omega)]; simp
theorem rr_mem (h : b ∈ (List.range n).reverse.take k) : n < b + 1 + k ∧ b < n := by
  obtain ⟨j, hj⟩ := List.mem_iff_getElem?.1 h
  have h1 := some_lt hj
  rw [List.length_take, List.length_reverse, List.length_range] at h1
  rw [List.getElem?_take_of_lt (by omega), rr_get (by omega)] at hj
  cases hj
  omega
theorem rr_mem2 (h : b ∈ (List.range n).reverse.drop k) : b + 1 + k ≤ n := by
  obtain ⟨j, hj⟩ := List.mem_iff_getElem?.1 h
  have h1 := some_lt hj
  rw [List.length_drop, List.length_reverse, List.length_range] at h1
  rw [List.getElem?_drop, rr_get (by omega)] at hj
  cases hj
  omega
theorem pf_step (hk : k < n) : pf G n c (k + 1) = pf G n c k ++ if gapP G c (n - 1 - k) then [(c, n - 1 - k)] else [] := by
  unfold pf
  rw [List.take_add_one, rr_get hk, Option.toList_some, List.filter_append, List.append_assoc]
  congr 1
  cases h : gapP G c (n - 1 - k) <;> simp [tagC, h]
theorem pf_all : pf G n c n = (List.range (c + 1)).flatMap (clsG G n) := by
  unfold pf
  rw [List.take_of_length_le (by simp), List.range_succ, List.flatMap_append]
  simp [clsG]
theorem pf_next : pf G n (c + 1) 0 = pf G n c n := by
  rw [pf_all]; simp [pf, tagC]
theorem pf_end : pf G n 30 0 = gapsL G n := by simp [pf, tagC, gapsL]
theorem pf_pre (hc : c < 30) : ∃ r, gapsL G n = pf G n c k ++ r := by
  refine ⟨tagC c (((List.range n).reverse.drop k).filter (gapP G c)) ++ ((List.range (29 - c)).map (c + 1 + ·)).flatMap (clsG G n), ?_⟩
  unfold gapsL
  rw [show 30 = c + 1 + (29 - c) by omega, List.range_add, List.flatMap_append, List.range_succ, List.flatMap_append, pf, List.append_assoc, List.append_assoc]
  congr 1
  rw [← List.append_assoc]
  congr 1
  rw [show tagC c (((List.range n).reverse.take k).filter (gapP G c)) ++ tagC c (((List.range n).reverse.drop k).filter (gapP G c)) = tagC c (((List.range n).reverse.take k ++ (List.range n).reverse.drop k).filter (gapP G c)) by rw [List.filter_append]; simp only [tagC, List.map_append], List.take_append_drop]
  simp [clsG]
theorem pf_le (hc : c < 30) : (pf G n c k).length ≤ (gapsL G n).length := by
  obtain ⟨r, h⟩ := pf_pre (G := G) (n := n) (k := k) hc
  rw [h, List.length_append]; omega
theorem pf_get (hc : c < 30) (hk : k < n) (hg : gapP G c (n - 1 - k) = true) : (gapsL G n)[(pf G n c k).length]? = some (c, n - 1 - k) := by
  obtain ⟨r, h⟩ := pf_pre (G := G) (n := n) (k := k + 1) hc
  rw [h, pf_step hk, if_pos hg, List.append_assoc, List.getElem?_append_right (Nat.le_refl _), Nat.sub_self]; rfl
theorem pf_inc (hk : k < n) (hg : gapP G c (n - 1 - k) = true) : (pf G n c (k + 1)).length = (pf G n c k).length + 1 := by
  rw [pf_step hk, if_pos hg]; simp
theorem pf_same (hk : k < n) (hg : gapP G c (n - 1 - k) = false) : pf G n c (k + 1) = pf G n c k := by
  rw [pf_step hk, hg]; simp
theorem pf_rest (hn : ∀ b, b + 1 + k ≤ n → gapP G c b = false) : pf G n c k = pf G n c n := by
  unfold pf
  congr 2
  have : (List.range n).reverse.take n = (List.range n).reverse.take k ++ (List.range n).reverse.drop k := by rw [List.take_append_drop, List.take_of_length_le (by simp)]
  rw [this, List.filter_append, show ((List.range n).reverse.drop k).filter (gapP G c) = [] from List.filter_eq_nil_iff.2 fun b hb => by rw [hn b (rr_mem2 hb)]; simp, List.append_nil]
theorem pf_mem {x : Nat × Nat} (h : x ∈ pf G n c k) : x.1 < c ∨ (x.1 = c ∧ n < x.2 + 1 + k) := by
  unfold pf at h
  rcases List.mem_append.1 h with h | h
  · obtain ⟨c', h1, h2⟩ := List.mem_flatMap.1 h
    rw [List.mem_range] at h1
    obtain ⟨b, _, rfl⟩ := List.mem_map.1 h2
    exact .inl h1
  · obtain ⟨b, h1, rfl⟩ := List.mem_map.1 h
    exact .inr ⟨rfl, (rr_mem (List.mem_filter.1 h1).1).1⟩
/-- what has been handed out does not bear on what comes -/
theorem pf_new (hc : c < 30) {j : Nat} (hj : j < (pf G n c k).length) (h : (gapsL G n)[j]? = some (c, b)) : n < b + 1 + k := by
  obtain ⟨r, e⟩ := pf_pre (G := G) (n := n) (k := k) hc
  rw [e, List.getElem?_append_left hj] at h
  rcases pf_mem (List.mem_of_getElem? h) with q | ⟨_, q⟩
  · exact absurd q (Nat.lt_irrefl _)
  · exact q
theorem first_none (h : idx (isBo true) (rowB G n c) < 0) (hb : b < n) : G c b = false := by
  cases z : G c b with
  | false => rfl
  | true =>
    have := idx_le (p := isBo true) (rowB_get (G := G) (c := c) hb) (by rw [z]; rfl)
    omega
theorem first_some {f : Nat} (h : idx (isBo true) (rowB G n c) = f) : f < n ∧ G c f = true ∧ ∀ b, b < f → G c b = false := by
  obtain ⟨i, x, e1, e2, e3⟩ := idx_get (p := isBo true) (l := rowB G n c) (by omega)
  have hif : i = f := by omega
  subst hif
  have hl := some_lt e2
  rw [rowB_len] at hl
  rw [rowB_get hl] at e2
  cases e2
  refine ⟨hl, by simpa [isBo] using e3, fun b hb => ?_⟩
  cases z : G c b with
  | false => rfl
  | true =>
    have := idx_le (p := isBo true) (rowB_get (G := G) (c := c) (show b < n by omega)) (by rw [z]; rfl)
    omega
theorem gap_none (h : ∀ b, b < n → G c b = false) : ∀ b, b + 1 + 0 ≤ n → gapP G c b = false := fun b hb => by
  have : (List.range b).any (G c) = false := List.any_eq_false.2 fun i hi => by rw [h i (by have := List.mem_range.1 hi; omega)]; simp
  simp [gapP, this]
theorem gap_le {f : Nat} (h1 : G c f = true) (h2 : ∀ b, b < f → G c b = false) (hb : b ≤ f) : gapP G c b = false := by
  rcases Nat.lt_or_ge b f with q | q
  · have : (List.range b).any (G c) = false := List.any_eq_false.2 fun i hi => by rw [h2 i (by have := List.mem_range.1 hi; omega)]; simp
    simp [gapP, this]
  · have : b = f := by omega
    subst this
    simp [gapP, h1]
theorem gap_gt {f : Nat} (h1 : G c f = true) (hb : f < b) : gapP G c b = !G c b := by
  have : (List.range b).any (G c) = true := List.any_eq_true.2 ⟨f, List.mem_range.2 hb, h1⟩
  simp [gapP, this]
end
theorem ob_lt {σ : List AObj} {l : Nat} {o : AObj} (h : ob σ l = o) (hn : o ≠ .gone) : l < σ.length := some_lt (ob_some h hn)
theorem gaps_own (τ : List AObj) (p : Nat) : Spec Try.prog 36 [.ptr p 0] τ (.fn 57 [.ptr τ.length 0]) (τ ++ [.cells [.ptr p 0]]) := by
  refine spec_of_ev (fn := Try.f36) DX_ok 3000 Try.func36 rfl rfl (Nat.le_of_ble_eq_true rfl) ?_
  simp (maxSteps := 4000000) -implicitDefEqProofs only [Try.f36, go_sem]
  exact (Wk.sub (by (simp only [go_sem]) <;> trivial))
/-- the iterator: gap by gap, while the grid may be filled behind it -/
theorem gaps_it (o : List ByteArray) (G : Gr) (Gs : Nat → Gr) (L B p : Nat) (ok : Nat → Prop) (args : Nat → List AV) (H : Nat → List AObj) (Sp : Code → List AObj → Prop) (ho : o.length ≤ 1000) (hn : 0 < o.length) (h0 : ok 0)
    (hG : ∀ i c b, Gs i c b = G c b ∨ ∃ j, j < i ∧ (gapsL G o.length)[j]? = some (c, b))
    (hB : ∀ i, i ≤ (gapsL G o.length).length → ob (H i) B = .cells [.ptr p 0]) (hp : ∀ i, i ≤ (gapsL G o.length).length → ob (H i) p = .cells (gC o (p + 1) 30))
    (hr : ∀ i, i ≤ (gapsL G o.length).length → ∀ c, c < 30 → ob (H i) (p + 1 + c) = .row 1 ((rowB (Gs i) o.length c).map boD))
    (ha : ∀ (i c b : Nat), (gapsL G o.length)[i]? = some (c, b) → args i = [.d (.int .i64 (c : Int)), .d (.int .i64 (b : Int))])
    (hl : ∀ i, i ≤ (gapsL G o.length).length → (H 0).length ≤ (H i).length) :
    SpecI Try.prog 57 [.raw (.func (.yield L) #[] #[]), .ptr B 0] (H 0) (YH L (gapsL G o.length).length ok args H Sp) (fun s => (s = H (gapsL G o.length).length ∧ ok (gapsL G o.length).length) ∨ ∃ c, Sp c s) := by
  refine speci_of_ev (fn := Try.f57) DX_ok 3000 Try.func57 rfl (Nat.le_of_ble_eq_true rfl) ?_
  obtain ⟨n, hnn⟩ : ∃ n, n = o.length := ⟨_, rfl⟩
  rw [← hnn] at hG hB hp hr ha ho hn hl ⊢
  simp (maxSteps := 4000000) -implicitDefEqProofs only [go_sem, Try.f57, Option.some.injEq, forall_eq', and_true, true_and, Bool.not_true, Bool.not_false, decide_true, Nat.reduceAdd, Nat.reduceSub, Nat.reduceLT, Nat.reduceLeDiff, Nat.reduceEqDiff, ↓reduceIte]
  refine eloop (S := Nat) (fun c => mkE 47 [(0, .raw (.func (.yield L) #[] #[])), (1, .ptr B 0), (6, .d (.int .i64 c))]) (fun c => H (pf G n c 0).length) (fun c => c ≤ 30 ∧ ok (pf G n c 0).length) (fun c => 30 - c) 0 ⟨by omega, h0⟩ (by rw [show (pf G n 0 0).length = 0 from rfl]; exact (Wk.sub (by (simp only [go_sem]) <;> trivial))) ?_
  rintro c ⟨hc, hok⟩
  rcases Nat.lt_or_ge c 30 with h2 | h2
  case inr =>
    have f1 : decide ((c : Int) < 30) = false := by simp; omega
    have : c = 30 := by omega
    subst this
    rw [pf_end] at hok ⊢
    simp (maxSteps := 4000000) -implicitDefEqProofs only [go_sem, f1, Option.some.injEq, forall_eq', and_true, true_and, Bool.not_true, Bool.not_false, decide_true, Nat.reduceAdd, Nat.reduceSub, Nat.reduceLT, Nat.reduceLeDiff, Nat.reduceEqDiff, ↓reduceIte]
    exact ⟨_, Wk.refl _ _ _, .inl ⟨rfl, hok⟩⟩
  have f1 : decide ((c : Int) < 30) = true := by simp; omega
  have wc : IntKind.i64.wrap ((c : Int) + 1) = ((c + 1 : Nat) : Int) := by rw [i64_in _ (by omega)]; simp
  have m1 : (0 ≤ (c : Int) ∧ (c : Int) < ((30 : Nat) : Int)) = True := eq_true (by omega)
  have m1' : (0 ≤ (c : Int) ∧ (c : Int) < 30) = True := eq_true (by omega)
  obtain ⟨r, q4⟩ := gC_ld (o := o) (k := p + 1) h2
  obtain ⟨r0, q0⟩ := gC_ld0 o (p + 1) 30
  have hrow : rowB (Gs (pf G n c 0).length) n c = rowB G n c := by
    refine List.ext_getElem? fun b => ?_
    rcases Nat.lt_or_ge b n with q | q
    · rw [rowB_get q, rowB_get q]
      rcases hG (pf G n c 0).length c b with e | ⟨j, hj, e⟩
      · rw [e]
      · have := pf_new h2 hj e; omega
    · rw [List.getElem?_eq_none (by rw [rowB_len]; exact q), List.getElem?_eq_none (by rw [rowB_len]; exact q)]
  have hb0 := hB _ (pf_le (G := G) (n := n) (k := 0) h2)
  have hp0 := hp _ (pf_le (G := G) (n := n) (k := 0) h2)
  have hr0 := hr _ (pf_le (G := G) (n := n) (k := 0) h2) c h2
  rw [hrow] at hr0
  have c1 := indexB (rowB G n c) true (by unfold Sm; rw [rowB_len]; omega)
  have hlt := ob_lt hr0 (by simp)
  have ol : (o.map sD).length = n := by simp [hnn]
  simp (maxSteps := 4000000) -implicitDefEqProofs only [go_sem, f1, hb0, hp0, q4, m1, m1', Option.some.injEq, forall_eq', and_true, true_and, Bool.not_true, Bool.not_false, decide_true, Nat.reduceAdd, Nat.reduceSub, Nat.reduceLT, Nat.reduceLeDiff, Nat.reduceEqDiff, ↓reduceIte]
  refine ecallK (p + 1 + c) _ (args0 := [.own 0, .d (.bool true)]) c1 (by simp only [go_sem]) (by simp only [go_sem, ↓reduceIte]) (by simp only [go_sem]; omega) (by simp only [go_sem]) (by simp only [go_sem]) rfl hlt hr0 ?_
  rcases Int.lt_or_le (idx (isBo true) (rowB G n c)) 0 with h3 | h3
  case inl =>
    have d1 : decide (idx (isBo true) (rowB G n c) < 0) = true := decide_eq_true h3
    have e1 := pf_rest (gap_none fun b hb => first_none h3 hb)
    have e2 : pf G n (c + 1) 0 = pf G n c 0 := by rw [pf_next, e1]
    simp (maxSteps := 4000000) -implicitDefEqProofs only [go_sem, d1, wc, Option.some.injEq, forall_eq', and_true, true_and, Bool.not_true, Bool.not_false, decide_true, Nat.reduceAdd, Nat.reduceSub, Nat.reduceLT, Nat.reduceLeDiff, Nat.reduceEqDiff, ↓reduceIte]
    exact .mk (c + 1) ⟨by omega, by rw [e2]; exact hok⟩ (by omega) (by rw [e2]; exact (Wk.sub (by (simp only [go_sem]) <;> trivial)))
  have d1 : decide (idx (isBo true) (rowB G n c) < 0) = false := decide_eq_false (by omega)
  obtain ⟨f, hf⟩ : ∃ f : Nat, idx (isBo true) (rowB G n c) = f := ⟨_, (Int.toNat_of_nonneg h3).symm⟩
  rw [hf] at d1 ⊢
  obtain ⟨f1', f2', f3'⟩ := first_some hf
  have wn : IntKind.i64.wrap ((n : Int) - 1) = (n : Int) - 1 := i64_in _ (by omega)
  have ol2 : ((o.length : Nat) : Int) = n := by omega
  simp (maxSteps := 4000000) -implicitDefEqProofs only [go_sem, d1, hb0, hp0, q0, ol2, wn, Option.some.injEq, forall_eq', and_true, true_and, Bool.not_true, Bool.not_false, decide_true, Nat.reduceAdd, Nat.reduceSub, Nat.reduceLT, Nat.reduceLeDiff, Nat.reduceEqDiff, ↓reduceIte]
  refine eloop (S := Nat) (fun k => mkE 47 [(0, .raw (.func (.yield L) #[] #[])), (1, .ptr B 0), (3, .d (.int .i64 c)), (4, .d (.int .i64 f)), (5, .d (.int .i64 ((n : Int) - 1 - k))), (6, .d (.int .i64 c))]) (fun k => H (pf G n c k).length) (fun k => k + f + 1 ≤ n ∧ ok (pf G n c k).length) (fun k => n - k) 0 ⟨by omega, hok⟩ (by simp only [Int.natCast_zero, Int.sub_zero]; exact (Wk.sub (by (simp only [go_sem]) <;> trivial))) ?_
  rintro k ⟨hk, hok2⟩
  rcases Nat.lt_or_ge (k + f + 1) n with h4 | h4
  case inr =>
    have d2 : decide ((f : Int) < (n : Int) - 1 - k) = false := by simp; omega
    have e1 : pf G n (c + 1) 0 = pf G n c k := by
      rw [pf_next]
      exact (pf_rest fun b hb => gap_le f2' f3' (by omega)).symm
    simp (maxSteps := 4000000) -implicitDefEqProofs only [go_sem, d2, wc, Option.some.injEq, forall_eq', and_true, true_and, Bool.not_true, Bool.not_false, decide_true, Nat.reduceAdd, Nat.reduceSub, Nat.reduceLT, Nat.reduceLeDiff, Nat.reduceEqDiff, ↓reduceIte]
    exact .mk (c + 1) ⟨by omega, by rw [e1]; exact hok2⟩ (by omega) (by rw [e1]; exact (Wk.sub (by (simp only [go_sem]) <;> trivial)))
  have d2 : decide ((f : Int) < (n : Int) - 1 - k) = true := by simp; omega
  have hkn : k < n := by omega
  have hbk := hB _ (pf_le (G := G) (n := n) (k := k) h2)
  have hpk := hp _ (pf_le (G := G) (n := n) (k := k) h2)
  have hrk := hr _ (pf_le (G := G) (n := n) (k := k) h2) c h2
  have hGv : Gs (pf G n c k).length c (n - 1 - k) = G c (n - 1 - k) := by
    rcases hG (pf G n c k).length c (n - 1 - k) with e | ⟨j, hj, e⟩
    · exact e
    · have := pf_new h2 hj e; omega
  have hgp := gap_gt (G := G) (c := c) (b := n - 1 - k) f2' (by omega)
  have hget := fun h => pf_get (G := G) (n := n) (k := k) h2 hkn h
  have hinc := fun h => pf_inc (G := G) (n := n) (c := c) (k := k) hkn h
  have hsam := fun h => pf_same (G := G) (n := n) (c := c) (k := k) hkn h
  have hbi : (n : Int) - 1 - k = ((n - 1 - k : Nat) : Int) := by omega
  have wk1 : IntKind.i64.wrap (((n - 1 - k : Nat) : Int) - 1) = (n : Int) - 1 - ((k + 1 : Nat) : Int) := by rw [i64_in _ (by omega)]; omega
  have n1 : (0 ≤ ((n - 1 - k : Nat) : Int) ∧ ((n - 1 - k : Nat) : Int) < n) = True := eq_true (by omega)
  have n2 : (n - 1 - k < n) = True := eq_true (by omega)
  have rg := rowB_get (G := Gs (pf G n c k).length) (c := c) (show n - 1 - k < n by omega)
  rw [hGv] at rg
  have rl := rowB_len (Gs (pf G n c k).length) n c
  rw [hbi] at d2 ⊢
  obtain ⟨b, hb⟩ : ∃ b, b = n - 1 - k := ⟨_, rfl⟩
  rw [← hb] at d2 hgp hget hinc hsam wk1 n1 n2 rg ⊢
  have b1 : (!true) = false := rfl
  have b2 : (!false) = true := rfl
  cases z : G c b
  case true =>
    rw [z] at rg hgp
    simp (maxSteps := 4000000) -implicitDefEqProofs only [go_sem, d2, hbk, hpk, q4, m1, m1', hrk, rl, n1, n2, rg, b1, wk1, Option.some.injEq, forall_eq', and_true, true_and, Bool.not_true, Bool.not_false, decide_true, Nat.reduceAdd, Nat.reduceSub, Nat.reduceLT, Nat.reduceLeDiff, Nat.reduceEqDiff, ↓reduceIte]
    exact .mk (k + 1) ⟨by omega, by rw [hsam hgp]; exact hok2⟩ (by omega) (by rw [hsam hgp]; exact (Wk.sub (by (simp only [go_sem]) <;> trivial)))
  rw [z] at rg hgp
  have hai := ha _ _ _ (hget hgp)
  have hil := some_lt (hget hgp)
  have hi1 := hinc hgp
  simp (maxSteps := 4000000) -implicitDefEqProofs only [go_sem, d2, hbk, hpk, q4, m1, m1', hrk, rl, n1, n2, rg, b2, Option.some.injEq, forall_eq', and_true, true_and, Bool.not_true, Bool.not_false, decide_true, Nat.reduceAdd, Nat.reduceSub, Nat.reduceLT, Nat.reduceLeDiff, Nat.reduceEqDiff, ↓reduceIte]
  refine ⟨_, hil, hok2, rfl, hai.symm, rfl, fun hn => ?_, fun c τ hs => ?_⟩
  · simp (maxSteps := 4000000) -implicitDefEqProofs only [go_sem, b1, wk1, Option.some.injEq, forall_eq', and_true, true_and, Bool.not_true, Bool.not_false, decide_true, Nat.reduceAdd, Nat.reduceSub, Nat.reduceLT, Nat.reduceLeDiff, Nat.reduceEqDiff, ↓reduceIte]
    exact .mk (k + 1) ⟨by omega, by rw [hi1]; exact hn⟩ (by omega) (by rw [hi1]; exact (Wk.sub (by (simp only [go_sem]) <;> trivial)))
  · simp (maxSteps := 4000000) -implicitDefEqProofs only [go_sem, b2, Option.some.injEq, forall_eq', and_true, true_and, Bool.not_true, Bool.not_false, decide_true, Nat.reduceAdd, Nat.reduceSub, Nat.reduceLT, Nat.reduceLeDiff, Nat.reduceEqDiff, ↓reduceIte]
    exact ⟨_, Wk.refl _ _ _, .inr ⟨c, hs⟩⟩
end Go.AX.Fw

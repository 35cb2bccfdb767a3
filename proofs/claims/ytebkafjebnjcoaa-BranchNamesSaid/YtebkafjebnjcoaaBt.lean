/- Branches: Line, both sides. -/
import Derived.Test.YtebkafjebnjcoaaBs
set_option maxHeartbeats 8000000
set_option linter.unusedVariables false
set_option linter.unusedSimpArgs false
set_option maxRecDepth 20000
namespace Go.AX.Br
open Go.Proofs Go.RowKit Go.IntWalk
/-- the names behind a branch's own, down to the first one -/
def upF (l : List Br) : Nat → Nat → List ByteArray
  | 0, _ => []
  | n + 1, i => if i = 0 then [] else match l[i]? with
    | some x => match l[(idx (has x.frm) l).toNat]? with
      | some y => y.name :: upF l n (idx (has x.frm) l).toNat
      | none => []
    | none => []
def up (l : List Br) (i : Nat) : List ByteArray := upF l i i
def lineR (l : List Br) (nm : ByteArray) : List ByteArray × Int := if check l ≠ 0 then ([], check l) else if idx (has nm) l < 0 then ([], 6) else (nm :: up l (idx (has nm) l).toNat, 0)
theorem upF_eq {l : List Br} (ho : Ok l) : ∀ (n m i : Nat), i ≤ n → i ≤ m → upF l n i = upF l m i
  | 0, 0, i, _, _ => rfl
  | 0, m + 1, i, h, _ => by
    have : i = 0 := by omega
    subst this; simp [upF]
  | n + 1, 0, i, _, h => by
    have : i = 0 := by omega
    subst this; simp [upF]
  | n + 1, m + 1, i, h1, h2 => by
    simp only [upF]
    split
    · rfl
    · next h0 =>
      split
      · next x hx =>
        obtain ⟨j, j1, j2⟩ := ho.from' i x hx (by omega)
        rw [j2, Int.toNat_natCast]
        split
        · rw [upF_eq ho n m j (by omega) (by omega)]
        · rfl
      · rfl
theorem up_zero (l : List Br) : up l 0 = [] := rfl
theorem up_step {l : List Br} (ho : Ok l) {i j : Nat} {x y : Br} (h0 : 0 < i) (hx : l[i]? = some x) (hj : idx (has x.frm) l = j) (hlt : j < i) (hy : l[j]? = some y) : up l i = y.name :: up l j := by
  cases i with
  | zero => omega
  | succ i =>
    simp only [up, upF, hx, hj, Int.toNat_natCast, hy]
    rw [if_neg (by omega), upF_eq ho i j j (by omega) (Nat.le_refl _)]
theorem up_len {l : List Br} (ho : Ok l) : ∀ (i : Nat), i < l.length → (up l i).length ≤ i := fun i => by
  induction i using Nat.strongRecOn with
  | _ i ih =>
    intro hi
    rcases Nat.eq_zero_or_pos i with h0 | h0
    · subst h0; simp [up_zero]
    · obtain ⟨x, hx⟩ : ∃ x, l[i]? = some x := ⟨l[i]'hi, List.getElem?_eq_getElem _⟩
      obtain ⟨j, j1, j2⟩ := ho.from' i x hx h0
      have hy : l[j]? = some (l[j]'(by omega)) := List.getElem?_eq_getElem _
      have := ih j j1 (by omega)
      rw [up_step ho h0 hx j2 j1 hy, List.length_cons]; omega
theorem sD_len {l : List ByteArray} : (∀ e ∈ l.map sD, e.length = 1) = True := eq_true (map_len (g := sD) fun _ => rfl)
attribute [go_sem] sD_len
theorem line_own (l : List Br) (nm : ByteArray) (hl : Sm l.length) : Spec Try.prog 21 [.d (.sl (l.map bD)), .d (.str nm)] [] (.tup [.d (.sl ((lineR l nm).1.map sD)), .d (.int .i64 (lineR l nm).2)]) [] := by
  refine spec_of_ev (fn := Try.f21) DX_ok 3000 Try.func21 rfl rfl (Nat.le_of_ble_eq_true rfl) ?_
  simp (maxSteps := 4000000) only [Try.f21, go_sem]
  refine ecall0 _ (check_own l hl) (by simp only [go_sem]) (by simp only [go_sem]) ?_
  simp (maxSteps := 4000000) only [go_sem, Nat.reduceAdd, Nat.reduceSub, Nat.reduceLT, Nat.reduceLeDiff, Nat.reduceEqDiff, ↓reduceIte]
  refine cbs (fun h1 => ?_) (fun h1 => ?_)
  · simp (maxSteps := 4000000) only [go_sem, Nat.reduceAdd, Nat.reduceSub, Nat.reduceLT, Nat.reduceLeDiff, Nat.reduceEqDiff, ↓reduceIte]
    simp only [bne_iff_ne, ne_eq] at h1
    have e : lineR l nm = ([], check l) := by simp only [lineR]; rw [if_pos h1]
    rw [e]
    exact wk_dat (r' := .tup [.d (.sl []), .d (.int .i64 (check l))]) (by simp only [go_sem]; rfl) rfl (by simp only [go_sem])
  simp (maxSteps := 4000000) only [go_sem, Nat.reduceAdd, Nat.reduceSub, Nat.reduceLT, Nat.reduceLeDiff, Nat.reduceEqDiff, ↓reduceIte]
  simp only [bne_eq_false_iff_eq] at h1
  have ho := ok_of h1
  have hl8 := ho.len
  refine ecall0 _ (index_own l nm hl) (by simp only [go_sem]) (by simp only [go_sem]) ?_
  simp (maxSteps := 4000000) only [go_sem, Nat.reduceAdd, Nat.reduceSub, Nat.reduceLT, Nat.reduceLeDiff, Nat.reduceEqDiff, ↓reduceIte]
  rcases Int.lt_or_le (idx (has nm) l) 0 with h2 | h2
  · have d1 := decide_eq_true h2
    simp (maxSteps := 4000000) only [go_sem, d1, Option.some.injEq, forall_eq', and_true, true_and, Bool.not_true, Bool.not_false, decide_true, Nat.reduceAdd, Nat.reduceSub, Nat.reduceLT, Nat.reduceLeDiff, Nat.reduceEqDiff, ↓reduceIte]
    have e : lineR l nm = ([], 6) := by simp only [lineR]; rw [if_neg (by omega), if_pos h2]
    rw [e]
    exact wk_dat (r' := .tup [.d (.sl []), .d (.int .i64 6)]) (by simp only [go_sem]; rfl) rfl (by simp only [go_sem])
  have d1 := decide_eq_false (Int.not_lt.2 h2)
  obtain ⟨i0, x0, k1, k2, k3⟩ := idx_get h2
  have e : lineR l nm = (nm :: up l i0, 0) := by simp only [lineR]; rw [if_neg (by omega), if_neg (by omega), k1, Int.toNat_natCast]
  rw [e]
  obtain ⟨full, hfull⟩ : ∃ f, f = nm :: up l i0 := ⟨_, rfl⟩
  rw [← hfull]
  simp (maxSteps := 4000000) only [go_sem, d1, Option.some.injEq, forall_eq', and_true, true_and, Bool.not_true, Bool.not_false, decide_true, Nat.reduceAdd, Nat.reduceSub, Nat.reduceLT, Nat.reduceLeDiff, Nat.reduceEqDiff, ↓reduceIte]
  rw [k1]
  have hi0 := some_lt k2
  have hul := up_len ho i0 hi0
  refine eloop (S := Nat × List ByteArray) (fun s => mkE 39 [(0, .d (.sl (l.map bD))), (1, .d (.str nm)), (7, .d (.int .i64 s.1)), (8, .own 0)]) (fun s => [.row 1 (s.2.map sD)]) (fun s => s.1 < l.length ∧ s.2 ++ up l s.1 = full) (fun s => s.1) (i0, [nm]) ⟨hi0, hfull.symm⟩ ?_ ?_
  · exact (Wk.sub (by (simp only [go_sem]) <;> trivial))
  intro s hs
  have hi : s.1 < l.length := hs.1
  have hs2 := hs.2
  clear hs
  have hsl := congrArg List.length hs2
  rw [List.length_append, hfull, List.length_cons] at hsl
  rcases Nat.eq_zero_or_pos s.1 with h0 | h0
  · have g0 : decide (0 < (s.1 : Int)) = false := by simp [h0]
    simp (maxSteps := 4000000) only [go_sem, g0, Option.some.injEq, forall_eq', and_true, true_and, Bool.not_true, Bool.not_false, decide_true, Nat.reduceAdd, Nat.reduceSub, Nat.reduceLT, Nat.reduceLeDiff, Nat.reduceEqDiff, ↓reduceIte]
    rw [h0, up_zero, List.append_nil] at hs2
    rw [← hs2]
    exact wk_dat (r' := .tup [.d (.sl (s.2.map sD)), .d (.int .i64 0)]) (by simp only [go_sem]; rfl) rfl (by simp only [go_sem])
  · have g0 : decide (0 < (s.1 : Int)) = true := by simp; omega
    obtain ⟨x, hx⟩ : ∃ x, l[s.1]? = some x := ⟨l[s.1]'(by omega), List.getElem?_eq_getElem _⟩
    obtain ⟨j, j1, j2⟩ := ho.from' _ x hx h0
    obtain ⟨y, hy⟩ : ∃ x, l[j]? = some x := ⟨l[j]'(by omega), List.getElem?_eq_getElem _⟩
    have n1 : (0 ≤ (s.1 : Int) ∧ (s.1 : Int) < l.length) = True := eq_true (by omega)
    have n2 : (0 ≤ (j : Int) ∧ (j : Int) < l.length) = True := eq_true (by omega)
    have hu := up_step ho h0 hx j2 j1 hy
    simp (maxSteps := 4000000) only [go_sem, g0, n1, hx, Option.some.injEq, forall_eq', and_true, true_and, Bool.not_true, Bool.not_false, decide_true, Nat.reduceAdd, Nat.reduceSub, Nat.reduceLT, Nat.reduceLeDiff, Nat.reduceEqDiff, ↓reduceIte]
    refine ecall0 _ (index_own l x.frm hl) (by simp only [go_sem]) (by simp only [go_sem]) ?_
    simp (maxSteps := 4000000) only [go_sem, Nat.reduceAdd, Nat.reduceSub, Nat.reduceLT, Nat.reduceLeDiff, Nat.reduceEqDiff, ↓reduceIte]
    simp (maxSteps := 4000000) only [go_sem, j2, n2, hy, Option.some.injEq, forall_eq', and_true, true_and, Bool.not_true, Bool.not_false, decide_true, Nat.reduceAdd, Nat.reduceSub, Nat.reduceLT, Nat.reduceLeDiff, Nat.reduceEqDiff, ↓reduceIte]
    refine ⟨⟨by simp, by omega, by omega⟩, ?_⟩
    have e : s.2.map sD ++ [[D.str y.name]] = (s.2 ++ [y.name]).map sD := by simp [sD]
    rw [e]
    exact .mk (j, s.2 ++ [y.name]) ⟨by simp only; omega, by rw [← hs2, hu]; simp⟩ j1 (Wk.via [2] (by (simp only [go_sem, ↓reduceIte]) <;> trivial) (by simp (maxSteps := 4000000) only [go_sem, Nat.reduceAdd, Nat.reduceSub, Nat.reduceLT, Nat.reduceLeDiff, Nat.reduceEqDiff, ↓reduceIte]) (by simp) (by simp) (by (simp (maxSteps := 4000000) only [go_sem, Nat.reduceAdd, Nat.reduceSub, Nat.reduceLT, Nat.reduceLeDiff, Nat.reduceEqDiff, ↓reduceIte]) <;> trivial) (by simp only [go_sem]) (Nat.zero_le _) (fun i h => absurd h (Nat.not_lt_zero i)))
theorem line_ref (l : List Br) (nm : ByteArray) (hl : Sm l.length) : Spec Try.prog 26 [.d (.sl (l.map bD)), .d (.str nm)] [] (.tup [.d (.sl ((lineR l nm).1.map sD)), .d (.int .i64 (lineR l nm).2)]) [] := by
  refine spec_of_ev (fn := Try.f26) DX_ok 3000 Try.func26 rfl rfl (Nat.le_of_ble_eq_true rfl) ?_
  simp (maxSteps := 4000000) only [Try.f26, go_sem]
  refine ecall0 _ (check_ref l hl) (by simp only [go_sem]) (by simp only [go_sem]) ?_
  simp (maxSteps := 4000000) only [go_sem, Nat.reduceAdd, Nat.reduceSub, Nat.reduceLT, Nat.reduceLeDiff, Nat.reduceEqDiff, ↓reduceIte]
  refine cbs (fun h1 => ?_) (fun h1 => ?_)
  · simp (maxSteps := 4000000) only [go_sem, Nat.reduceAdd, Nat.reduceSub, Nat.reduceLT, Nat.reduceLeDiff, Nat.reduceEqDiff, ↓reduceIte]
    refine ecall0 _ (check_ref l hl) (by simp only [go_sem]) (by simp only [go_sem]) ?_
    simp (maxSteps := 4000000) only [go_sem, Nat.reduceAdd, Nat.reduceSub, Nat.reduceLT, Nat.reduceLeDiff, Nat.reduceEqDiff, ↓reduceIte]
    simp only [bne_iff_ne, ne_eq] at h1
    have e : lineR l nm = ([], check l) := by simp only [lineR]; rw [if_pos h1]
    rw [e]
    exact wk_dat (r' := .tup [.d (.sl []), .d (.int .i64 (check l))]) (by simp only [go_sem]; rfl) rfl (by simp only [go_sem])
  simp (maxSteps := 4000000) only [go_sem, Nat.reduceAdd, Nat.reduceSub, Nat.reduceLT, Nat.reduceLeDiff, Nat.reduceEqDiff, ↓reduceIte]
  simp only [bne_eq_false_iff_eq] at h1
  have ho := ok_of h1
  have hl8 := ho.len
  refine ecall0 _ (index_ref l nm hl) (by simp only [go_sem]) (by simp only [go_sem]) ?_
  simp (maxSteps := 4000000) only [go_sem, Nat.reduceAdd, Nat.reduceSub, Nat.reduceLT, Nat.reduceLeDiff, Nat.reduceEqDiff, ↓reduceIte]
  rcases Int.lt_or_le (idx (has nm) l) 0 with h2 | h2
  · have d1 := decide_eq_true h2
    simp (maxSteps := 4000000) only [go_sem, d1, Option.some.injEq, forall_eq', and_true, true_and, Bool.not_true, Bool.not_false, decide_true, Nat.reduceAdd, Nat.reduceSub, Nat.reduceLT, Nat.reduceLeDiff, Nat.reduceEqDiff, ↓reduceIte]
    have e : lineR l nm = ([], 6) := by simp only [lineR]; rw [if_neg (by omega), if_pos h2]
    rw [e]
    exact wk_dat (r' := .tup [.d (.sl []), .d (.int .i64 6)]) (by simp only [go_sem]; rfl) rfl (by simp only [go_sem])
  have d1 := decide_eq_false (Int.not_lt.2 h2)
  obtain ⟨i0, x0, k1, k2, k3⟩ := idx_get h2
  have e : lineR l nm = (nm :: up l i0, 0) := by simp only [lineR]; rw [if_neg (by omega), if_neg (by omega), k1, Int.toNat_natCast]
  rw [e]
  obtain ⟨full, hfull⟩ : ∃ f, f = nm :: up l i0 := ⟨_, rfl⟩
  rw [← hfull]
  have hx0 : x0.name = nm := by simpa [has] using k3
  have hi0 := some_lt k2
  have hul := up_len ho i0 hi0
  simp (maxSteps := 4000000) only [go_sem, d1, Option.some.injEq, forall_eq', and_true, true_and, Bool.not_true, Bool.not_false, decide_true, Nat.reduceAdd, Nat.reduceSub, Nat.reduceLT, Nat.reduceLeDiff, Nat.reduceEqDiff, ↓reduceIte]
  refine eloop (S := Option Nat × List ByteArray) (fun s => mkE 30 [(0, .d (.sl (l.map bD))), (1, .d (.str (match s.1 with | some i => (l[i]?.map Br.name).getD ⟨#[]⟩ | none => ⟨#[]⟩))), (6, .own 0)]) (fun s => [.row 1 (s.2.map sD)])
    (fun s => match s.1 with | some i => i < l.length ∧ s.2 ++ (l[i]?.map Br.name).getD ⟨#[]⟩ :: up l i = full | none => s.2 = full) (fun s => match s.1 with | some i => i + 1 | none => 0) (some i0, []) ⟨hi0, by simp [k2, hx0, hfull]⟩ ?_ ?_
  · refine Wk.trans (Wk.nil 6 1 (by simp only [go_sem])) ?_
    simp only [k2, Option.map_some, Option.getD_some, hx0]
    simp (maxSteps := 4000000) only [go_sem, Nat.reduceAdd, Nat.reduceSub, Nat.reduceLT, Nat.reduceLeDiff, Nat.reduceEqDiff, ↓reduceIte]
    exact (Wk.sub (by (simp only [go_sem]) <;> trivial))
  rintro ⟨s1, out⟩ hs
  cases s1 with
  | none =>
    simp only at hs ⊢
    have f1 : decide ((⟨#[]⟩ : ByteArray) = ⟨#[]⟩) = true := by simp
    simp (maxSteps := 4000000) only [go_sem, f1, Option.some.injEq, forall_eq', and_true, true_and, Bool.not_true, Bool.not_false, decide_true, Nat.reduceAdd, Nat.reduceSub, Nat.reduceLT, Nat.reduceLeDiff, Nat.reduceEqDiff, ↓reduceIte]
    rw [hs]
    exact wk_dat (r' := .tup [.d (.sl (full.map sD)), .d (.int .i64 0)]) (by simp only [go_sem]; rfl) rfl (by simp only [go_sem])
  | some i =>
    obtain ⟨hi, hs2⟩ := hs
    simp only at hi hs2
    have hsl := congrArg List.length hs2
    rw [List.length_append, List.length_cons, hfull, List.length_cons] at hsl
    obtain ⟨x, hx⟩ : ∃ x, l[i]? = some x := ⟨l[i]'(by omega), List.getElem?_eq_getElem _⟩
    simp only [hx, Option.map_some, Option.getD_some] at hs2 ⊢
    have hne : ¬ x.name = ⟨#[]⟩ := fun e => by
      have := (ho.good i x hx).1
      rw [e] at this
      exact absurd this (by decide)
    have f1 := decide_eq_false hne
    have n1 : (0 ≤ (i : Int) ∧ (i : Int) < l.length) = True := eq_true (by omega)
    have e : out.map sD ++ [[D.str x.name]] = (out ++ [x.name]).map sD := by simp [sD]
    simp (maxSteps := 4000000) only [go_sem, f1, Option.some.injEq, forall_eq', and_true, true_and, Bool.not_true, Bool.not_false, decide_true, Nat.reduceAdd, Nat.reduceSub, Nat.reduceLT, Nat.reduceLeDiff, Nat.reduceEqDiff, ↓reduceIte]
    refine ⟨⟨by simp, by omega, by omega⟩, ?_⟩
    refine ecall0 _ (index_ref l x.name hl) (by simp only [go_sem]) (by simp only [go_sem]) ?_
    simp (maxSteps := 4000000) only [go_sem, Nat.reduceAdd, Nat.reduceSub, Nat.reduceLT, Nat.reduceLeDiff, Nat.reduceEqDiff, ↓reduceIte]
    simp (maxSteps := 4000000) only [go_sem, ho.name i x hx, n1, hx, Option.some.injEq, forall_eq', and_true, true_and, Bool.not_true, Bool.not_false, decide_true, Nat.reduceAdd, Nat.reduceSub, Nat.reduceLT, Nat.reduceLeDiff, Nat.reduceEqDiff, ↓reduceIte]
    rw [e]
    rcases Nat.eq_zero_or_pos i with h0 | h0
    · subst h0
      refine .mk (none, out ++ [x.name]) ?_ (by simp only; omega) ?_
      · simp only; rw [← hs2, up_zero]
      · rw [(ho.root x hx).1]
        exact (Wk.via [2] (by (simp only [go_sem, ↓reduceIte]) <;> trivial) (by simp (maxSteps := 4000000) only [go_sem, Nat.reduceAdd, Nat.reduceSub, Nat.reduceLT, Nat.reduceLeDiff, Nat.reduceEqDiff, ↓reduceIte]) (by simp) (by simp) (by (simp (maxSteps := 4000000) only [go_sem, Nat.reduceAdd, Nat.reduceSub, Nat.reduceLT, Nat.reduceLeDiff, Nat.reduceEqDiff, ↓reduceIte]) <;> trivial) (by simp only [go_sem]) (Nat.zero_le _) (fun i h => absurd h (Nat.not_lt_zero i)))
    · obtain ⟨j, j1, j2⟩ := ho.from' _ x hx h0
      obtain ⟨y, hy⟩ : ∃ x, l[j]? = some x := ⟨l[j]'(by omega), List.getElem?_eq_getElem _⟩
      obtain ⟨j', b, q1, q2, q3⟩ := idx_get (p := has x.frm) (l := l) (by omega)
      have : j' = j := by omega
      subst this
      rw [hy] at q2; cases q2
      have hbn : y.name = x.frm := by simpa [has] using q3
      have hu := up_step ho h0 hx j2 j1 hy
      refine .mk (some j', out ++ [x.name]) ⟨Nat.lt_trans j1 hi, ?_⟩ (by simp only; omega) ?_
      · simp only [hy, Option.map_some, Option.getD_some]
        rw [← hs2, hu]; simp
      · simp only [hy, Option.map_some, Option.getD_some, hbn]
        exact (Wk.via [2] (by (simp only [go_sem, ↓reduceIte]) <;> trivial) (by simp (maxSteps := 4000000) only [go_sem, Nat.reduceAdd, Nat.reduceSub, Nat.reduceLT, Nat.reduceLeDiff, Nat.reduceEqDiff, ↓reduceIte]) (by simp) (by simp) (by (simp (maxSteps := 4000000) only [go_sem, Nat.reduceAdd, Nat.reduceSub, Nat.reduceLT, Nat.reduceLeDiff, Nat.reduceEqDiff, ↓reduceIte]) <;> trivial) (by simp only [go_sem]) (Nat.zero_le _) (fun i h => absurd h (Nat.not_lt_zero i)))
end Go.AX.Br

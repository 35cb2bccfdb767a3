/- BranchLines: whatever the input, the law returns true, and its arguments read as they did. No condition. -/
import Derived.Test.YtebkafjebnjcoaaBw
import Derived.Test.YtebkafjebnjcoaaBq
set_option maxHeartbeats 8000000
set_option linter.unusedVariables false
set_option linter.unusedSimpArgs false
set_option maxRecDepth 20000
namespace Go.AX.Br
open Go.Proofs Go.RowKit Go.IntWalk
theorem viewR_at' {l : List Br} {cs : List Int} (h : fits l cs = 0) {i : Nat} {x : Br} {v : List Mk} (hx : l[i]? = some x) (hv : (vw l cs)[i]? = some v) : viewR l cs x.name = (v, 0) := by
  have g := good_of h
  simp only [viewR]; rw [if_neg (by omega), if_neg (by rw [g.ok.name i x hx]; omega), g.ok.name i x hx]; simp [List.getD_eq_getElem?_getD, hv]
theorem lineR_at {l : List Br} (h : check l = 0) {i : Nat} {x : Br} (hx : l[i]? = some x) : lineR l x.name = (x.name :: up l i, 0) := by
  have ho := ok_of h
  simp only [lineR]; rw [if_neg (by omega), if_neg (by rw [ho.name i x hx]; omega), ho.name i x hx, Int.toNat_natCast]
theorem name_from {l : List Br} {nm : ByteArray} {j : Nat} {y : Br} (hj : idx (has nm) l = j) (hy : l[j]? = some y) : y.name = nm := by
  obtain ⟨j', b, q1, q2, q3⟩ := idx_get (p := has nm) (l := l) (by omega)
  have : j' = j := by omega
  subst this
  rw [hy] at q2; cases q2
  simpa [has] using q3
theorem line_get {l : List Br} (ho : Ok l) : ∀ (i : Nat) (x : Br), l[i]? = some x → ∀ (k : Nat) (t : ByteArray), (x.name :: up l i)[k]? = some t →
    ∃ (a : Nat) (y : Br), l[a]? = some y ∧ y.name = t ∧ (k + 1 < (x.name :: up l i).length → (x.name :: up l i)[k + 1]? = some y.frm) := by
  intro i
  induction i using Nat.strongRecOn with
  | _ i ih =>
  intro x hx k t ht
  rcases Nat.eq_zero_or_pos i with h0 | h0
  · subst h0
    simp only [up_zero] at ht ⊢
    cases k with
    | zero => simp at ht; exact ⟨0, x, hx, ht, by simp⟩
    | succ k => simp at ht
  · obtain ⟨j, j1, j2⟩ := ho.from' i x hx h0
    have hil := some_lt hx
    obtain ⟨y, hy⟩ : ∃ y, l[j]? = some y := ⟨l[j]'(by omega), List.getElem?_eq_getElem _⟩
    have hu := up_step ho h0 hx j2 j1 hy
    rw [hu] at ht ⊢
    cases k with
    | zero =>
      simp at ht
      exact ⟨i, x, hx, ht, fun _ => by simp [name_from j2 hy]⟩
    | succ k =>
      obtain ⟨a, z, z1, z2, z3⟩ := ih j j1 y hy k t (by simpa using ht)
      exact ⟨a, z, z1, z2, fun h => by have := z3 (by simpa using h); simpa using this⟩
theorem line_last {l : List Br} (ho : Ok l) : ∀ (i : Nat) (x x0 : Br), l[i]? = some x → l[0]? = some x0 → (x.name :: up l i)[(up l i).length]? = some x0.name := by
  intro i
  induction i using Nat.strongRecOn with
  | _ i ih =>
  intro x x0 hx hx0
  rcases Nat.eq_zero_or_pos i with h0 | h0
  · subst h0
    rw [hx] at hx0; cases hx0
    simp [up_zero]
  · obtain ⟨j, j1, j2⟩ := ho.from' i x hx h0
    have hil := some_lt hx
    obtain ⟨y, hy⟩ : ∃ y, l[j]? = some y := ⟨l[j]'(by omega), List.getElem?_eq_getElem _⟩
    have := ih j j1 y x0 hy hx0
    rw [up_step ho h0 hx j2 j1 hy]
    simpa using this
theorem mark_line {l : List Br} {cs : List Int} (g : Good l cs) : ∀ (i : Nat) (x : Br) (v : List Mk) (m : Mk), l[i]? = some x → (vw l cs)[i]? = some v → m ∈ v →
    ∃ (b : Nat) (y : Br), m.b = b ∧ l[b]? = some y ∧ y.name ∈ x.name :: up l i := by
  intro i
  induction i using Nat.strongRecOn with
  | _ i ih =>
  intro x v m hx hv hm
  have hil := some_lt hx
  obtain ⟨c, hc⟩ : ∃ c, cs[i]? = some c := ⟨cs[i]'(by have := g.len; omega), List.getElem?_eq_getElem _⟩
  have ownm : m ∈ own i c → m.b = i := fun h => by
    simp only [own, List.mem_map] at h
    obtain ⟨k, _, rfl⟩ := h
    rfl
  rcases Nat.eq_zero_or_pos i with h0 | h0
  · subst h0
    rw [g.fit.zero c v hc hv] at hm
    exact ⟨0, x, ownm hm, hx, by simp⟩
  · obtain ⟨j, f, j1, j2, j3, j4, j5⟩ := g.fit.step i x c v h0 hx hc hv
    rw [j5, List.mem_append] at hm
    rcases hm with hm | hm
    · obtain ⟨y, hy⟩ : ∃ y, l[j]? = some y := ⟨l[j]'(by omega), List.getElem?_eq_getElem _⟩
      obtain ⟨b, z, b1, b2, b3⟩ := ih j j1 y f m hy j3 (List.mem_of_mem_take hm)
      exact ⟨b, z, b1, b2, by rw [up_step g.ok h0 hx j2 j1 hy]; exact List.mem_cons_of_mem _ b3⟩
    · exact ⟨i, x, ownm hm, hx, by simp⟩
def memS (nm : ByteArray) (l : List ByteArray) : Bool := l.any fun t => decide (t = nm)
theorem memS_iff (nm : ByteArray) (l : List ByteArray) : memS nm l = true ↔ nm ∈ l := by
  simp [memS]
theorem memS_succ {nm t : ByteArray} {l : List ByteArray} {n : Nat} (h : l[n]? = some t) : memS nm (l.take (n + 1)) = (memS nm (l.take n) || decide (t = nm)) := by
  rw [List.take_add_one, h]; simp [memS]
theorem lines_law (l : List Br) (cs : List Int) (i : Int) (hl : Sm l.length) (hc : Sm cs.length) : Spec Try.prog 5 [.d (.sl (l.map bD)), .d (.sl (cs.map iD)), .d (.int .i64 i)] [] (.d (.bool true)) [] := by
  refine spec_of_ev (fn := Try.f5) DX_ok 3000 Try.func5 rfl rfl (Nat.le_of_ble_eq_true rfl) ?_
  simp (maxSteps := 4000000) only [Try.f5, go_sem]
  refine ecall0 _ (alive_spec) (by simp only [go_sem]) (by simp only [go_sem]) ?_
  simp (maxSteps := 4000000) only [go_sem, Nat.reduceAdd, Nat.reduceSub, Nat.reduceLT, Nat.reduceLeDiff, Nat.reduceEqDiff, ↓reduceIte]
  refine ecall0 _ (fits_ref l cs hl hc) (by simp only [go_sem]) (by simp only [go_sem]) ?_
  simp (maxSteps := 4000000) only [go_sem, Nat.reduceAdd, Nat.reduceSub, Nat.reduceLT, Nat.reduceLeDiff, Nat.reduceEqDiff, ↓reduceIte]
  by_cases h1 : fits l cs = 0
  case neg =>
    have d1 : (fits l cs != 0) = true := by simp [h1]
    simp (maxSteps := 4000000) only [go_sem, d1, Option.some.injEq, forall_eq', and_true, true_and, Bool.not_true, Bool.not_false, decide_true, Nat.reduceAdd, Nat.reduceSub, Nat.reduceLT, Nat.reduceLeDiff, Nat.reduceEqDiff, ↓reduceIte]
    exact wk_bool rfl
  have d1 : (fits l cs != 0) = false := by simp [h1]
  rcases Int.lt_or_le i 0 with h2 | h2
  · have d2 := decide_eq_true h2
    simp (maxSteps := 4000000) only [go_sem, d1, d2, Option.some.injEq, forall_eq', and_true, true_and, Bool.not_true, Bool.not_false, decide_true, Nat.reduceAdd, Nat.reduceSub, Nat.reduceLT, Nat.reduceLeDiff, Nat.reduceEqDiff, ↓reduceIte]
    exact wk_bool rfl
  have d2 := decide_eq_false (Int.not_lt.2 h2)
  rcases Int.lt_or_le i l.length with h4 | h4
  case inr =>
    have d4 : decide ((l.length : Int) ≤ i) = true := by simpa using h4
    simp (maxSteps := 4000000) only [go_sem, d1, d2, d4, Option.some.injEq, forall_eq', and_true, true_and, Bool.not_true, Bool.not_false, decide_true, Nat.reduceAdd, Nat.reduceSub, Nat.reduceLT, Nat.reduceLeDiff, Nat.reduceEqDiff, ↓reduceIte]
    exact wk_bool rfl
  have d4 : decide ((l.length : Int) ≤ i) = false := by simpa using h4
  obtain ⟨i, rfl⟩ : ∃ n : Nat, i = n := ⟨i.toNat, by omega⟩
  have g := good_of h1
  have ho := g.ok
  have hl8 := g.ok.len
  obtain ⟨x, hx⟩ : ∃ x, l[i]? = some x := ⟨l[i]'(by omega), List.getElem?_eq_getElem _⟩
  obtain ⟨x0, hx0⟩ : ∃ x, l[0]? = some x := ⟨l[0]'(by omega), List.getElem?_eq_getElem _⟩
  obtain ⟨ci, hci⟩ : ∃ x, cs[i]? = some x := ⟨cs[i]'(by have := g.len; omega), List.getElem?_eq_getElem _⟩
  obtain ⟨v, hv⟩ := good_view g (some_lt hx)
  have hvl := fit_len g.ok g.fit hx hci hv
  have hgx := g.ok.good _ _ hx
  have hgc := g.cnt ci (List.mem_of_getElem? hci)
  have vx := View_own l cs x.name hl hc
  have lx := line_own l x.name hl
  rw [viewR_at' h1 hx hv] at vx
  rw [lineR_at g.chk hx] at lx
  have hget := line_get ho i x hx
  have hlast := line_last ho i x x0 hx hx0
  have hmark := fun m hm => mark_line g i x v m hx hv hm
  have hul := up_len ho i (some_lt hx)
  have hs0 : (x.name :: up l i)[0]? = some x.name := rfl
  have hsl : (x.name :: up l i).length = (up l i).length + 1 := rfl
  generalize x.name :: up l i = s at *
  rw [show (up l i).length = s.length - 1 by omega] at hlast
  have n1 : (0 ≤ (i : Int) ∧ (i : Int) < l.length) = True := eq_true (by omega)
  have n3 : (i < l.length) = True := eq_true (by omega)
  simp (maxSteps := 4000000) only [go_sem, d1, d2, d4, n1, hx, Option.some.injEq, forall_eq', and_true, true_and, Bool.not_true, Bool.not_false, decide_true, Nat.reduceAdd, Nat.reduceSub, Nat.reduceLT, Nat.reduceLeDiff, Nat.reduceEqDiff, ↓reduceIte]
  refine ecall0 _ lx (by simp only [go_sem]) (by simp only [go_sem]) ?_
  simp (maxSteps := 4000000) only [go_sem, n1, hx, Option.some.injEq, forall_eq', and_true, true_and, Bool.not_true, Bool.not_false, decide_true, Nat.reduceAdd, Nat.reduceSub, Nat.reduceLT, Nat.reduceLeDiff, Nat.reduceEqDiff, ↓reduceIte]
  refine ecallN _ _ vx (by simp only [go_sem]) ?_
  simp (maxSteps := 4000000) only [go_sem, n1, hx, Option.some.injEq, forall_eq', and_true, true_and, Bool.not_true, Bool.not_false, decide_true, Nat.reduceAdd, Nat.reduceSub, Nat.reduceLT, Nat.reduceLeDiff, Nat.reduceEqDiff, ↓reduceIte]
  have z1 : ((0 : Int) != 0) = false := rfl
  have z2 : ((s.length : Int) == 0) = false := beq_eq_false_iff_ne.2 (by omega)
  have z3 : decide ((l.length : Int) < s.length) = false := by simp; omega
  have z4 : (0 ≤ (0 : Int) ∧ (0 : Int) < s.length) = True := eq_true (by omega)
  have z5 : (0 < s.length) = True := eq_true (by omega)
  have z6 : decide (x.name = x.name) = true := by simp
  have w0 : IntKind.i64.wrap ((s.length : Int) - 1) = ((s.length - 1 : Nat) : Int) := by rw [i64_in _ (by omega)]; omega
  have z7 : (0 ≤ ((s.length - 1 : Nat) : Int) ∧ ((s.length - 1 : Nat) : Int) < s.length) = True := eq_true (by omega)
  have z8 : (s.length - 1 < s.length) = True := eq_true (by omega)
  have z9 : (0 ≤ (0 : Int) ∧ (0 : Int) < l.length) = True := eq_true (by omega)
  have z10 : (0 < l.length) = True := eq_true (by omega)
  have z11 : decide (x0.name = x0.name) = true := by simp
  refine DX.plain (.take 0 false (.take 1 false (.take 2 false (.take 3 false (.take 4 false (.take 5 false (.take 6 false (.take 7 false (.take 8 false (.take 9 false (.take 10 false (.take 11 false (.take 12 false (.take 13 false (.take 14 false (.take 15 false (.take 16 false (.take 17 false (.take 18 false (.take 19 false (.take 20 false (.take 21 false (.take 22 false (.take 23 false (.take 24 false (.take 25 false (.take 26 false (.take 27 false (.take 28 false (.take 29 false (.take 30 false (.take 31 false (.take 32 false (.take 33 false (.take 34 false (.take 35 false (.take 36 false (.take 37 false (.take 38 false (.take 39 false (.take 40 false (.take 41 false .done)))))))))))))))))))))))))))))))))))))))))) (by kernel_rfl) (by kernel_rfl) Ty.mixed ?_
  simp (maxSteps := 4000000) only [go_sem, z1, z2, z3, z4, z5, z6, w0, z7, z8, z9, z10, z11, n1, n3, hx, hx0, hs0, hlast, Option.some.injEq, forall_eq', and_true, true_and, Bool.not_true, Bool.not_false, decide_true, Nat.reduceAdd, Nat.reduceSub, Nat.reduceLT, Nat.reduceLeDiff, Nat.reduceEqDiff, ↓reduceIte]
  refine eloop (S := Nat) (fun k => mkE 175 [(0, .d (.sl (l.map bD))), (7, .d (.bool true)), (8, .d (.sl (s.map sD))), (10, .d (.sl (v.map mkD))), (12, .d (.int .i64 k))]) (fun k => []) (fun k => 1 ≤ k ∧ k ≤ s.length) (fun k => s.length - k) 1 ⟨Nat.le_refl _, by omega⟩ ?_ ?_
  · refine Wk.trans (Wk.frz 0 rfl) ?_
    simp (maxSteps := 4000000) only [go_sem, Nat.reduceAdd, Nat.reduceSub, Nat.reduceLT, Nat.reduceLeDiff, Nat.reduceEqDiff, ↓reduceIte]
    exact (Wk.forget (by (simp only [go_sem]) <;> trivial) (by simp only [go_sem]))
  intro k hk
  rcases Nat.lt_or_ge k s.length with q1 | q1
  · have f1 : decide ((k : Int) < s.length) = true := by simp; omega
    obtain ⟨t, ht⟩ : ∃ x, s[k - 1]? = some x := ⟨s[k - 1]'(by omega), List.getElem?_eq_getElem _⟩
    obtain ⟨a, y, ha, hyn, hnx⟩ := hget (k - 1) t ht
    have hnx := hnx (by omega)
    rw [show k - 1 + 1 = k by omega] at hnx
    have hal := some_lt ha
    have w1 : IntKind.i64.wrap ((k : Int) - 1) = ((k - 1 : Nat) : Int) := by rw [i64_in _ (by omega)]; omega
    have w2 : IntKind.i64.wrap ((k : Int) + 1) = k + 1 := i64_in _ (by omega)
    have m1 : (0 ≤ ((k - 1 : Nat) : Int) ∧ ((k - 1 : Nat) : Int) < s.length) = True := eq_true (by omega)
    have m2 : (0 ≤ (a : Int) ∧ (a : Int) < l.length) = True := eq_true (by omega)
    have m3 : (a < l.length) = True := eq_true (by omega)
    have m4 : (0 ≤ (k : Int) ∧ (k : Int) < s.length) = True := eq_true (by omega)
    have m5 : (k < s.length) = True := eq_true (by omega)
    have f2 : decide ((a : Int) < 0) = false := by simp
    have f3 : decide (y.frm = y.frm) = true := by simp
    simp (maxSteps := 4000000) only [go_sem, f1, w1, m1, ht, Option.some.injEq, forall_eq', and_true, true_and, Bool.not_true, Bool.not_false, decide_true, Nat.reduceAdd, Nat.reduceSub, Nat.reduceLT, Nat.reduceLeDiff, Nat.reduceEqDiff, ↓reduceIte]
    refine ecall0 _ (index_ref l t hl) (by simp only [go_sem]) (by simp only [go_sem]) ?_
    simp (maxSteps := 4000000) only [go_sem, Nat.reduceAdd, Nat.reduceSub, Nat.reduceLT, Nat.reduceLeDiff, Nat.reduceEqDiff, ↓reduceIte]
    rw [← hyn, ho.name a y ha]
    refine DX.plain (.take 0 false (.take 1 false (.take 2 false (.take 3 false (.take 4 false (.take 5 false (.take 6 false (.take 7 false (.take 8 false (.take 9 false (.take 10 false (.take 11 false (.take 12 false (.take 13 false .done)))))))))))))) (by kernel_rfl) (by kernel_rfl) Ty.mixed ?_
    simp (maxSteps := 4000000) only [go_sem, f2, m2, m3, m4, m5, ha, hnx, f3, w2, Option.some.injEq, forall_eq', and_true, true_and, Bool.not_true, Bool.not_false, decide_true, Nat.reduceAdd, Nat.reduceSub, Nat.reduceLT, Nat.reduceLeDiff, Nat.reduceEqDiff, ↓reduceIte]
    exact .mk (k + 1) ⟨by omega, q1⟩ (by omega) (Wk.sub (by (simp only [go_sem]) <;> trivial))
  have f1 : decide ((k : Int) < s.length) = false := by simp; omega
  simp (maxSteps := 4000000) only [go_sem, f1, Option.some.injEq, forall_eq', and_true, true_and, Bool.not_true, Bool.not_false, decide_true, Nat.reduceAdd, Nat.reduceSub, Nat.reduceLT, Nat.reduceLeDiff, Nat.reduceEqDiff, ↓reduceIte]
  refine eloop (S := Nat) (fun k => mkE 175 [(0, .d (.sl (l.map bD))), (7, .d (.bool true)), (8, .d (.sl (s.map sD))), (10, .d (.sl (v.map mkD))), (14, .d (.int .i64 k))]) (fun k => []) (fun k => k ≤ v.length) (fun k => v.length - k) 0 (Nat.zero_le _) (Wk.sub (by (simp only [go_sem]) <;> trivial)) ?_
  intro k hk
  rcases Nat.lt_or_ge k v.length with q2 | q2
  · have f1 : decide ((k : Int) < v.length) = true := by simp; omega
    obtain ⟨m, hm⟩ : ∃ x, v[k]? = some x := ⟨v[k]'(by omega), List.getElem?_eq_getElem _⟩
    obtain ⟨b, y, hmb, hy, hys⟩ := hmark m (List.mem_of_getElem? hm)
    have hbl := some_lt hy
    have m1 : (0 ≤ (k : Int) ∧ (k : Int) < v.length) = True := eq_true (by omega)
    have m1' : (k < v.length) = True := eq_true (by omega)
    have f2 : decide (m.b < 0) = false := by simp; omega
    have f3 : decide ((l.length : Int) ≤ m.b) = false := by simp; omega
    simp (maxSteps := 4000000) only [go_sem, f1, m1, hm, f2, f3, Option.some.injEq, forall_eq', and_true, true_and, Bool.not_true, Bool.not_false, decide_true, Nat.reduceAdd, Nat.reduceSub, Nat.reduceLT, Nat.reduceLeDiff, Nat.reduceEqDiff, ↓reduceIte]
    refine eloop (S := Nat) (fun n => mkE 175 [(0, .d (.sl (l.map bD))), (7, .d (.bool true)), (8, .d (.sl (s.map sD))), (10, .d (.sl (v.map mkD))), (14, .d (.int .i64 k)), (15, .d (.bool (memS y.name (s.take n)))), (16, .d (.int .i64 n))]) (fun k => []) (fun n => n ≤ s.length) (fun n => s.length - n) 0 (Nat.zero_le _) (Wk.sub (by (simp only [go_sem]) <;> trivial)) ?_
    intro n hn
    rcases Nat.lt_or_ge n s.length with q3 | q3
    · have f4 : decide ((n : Int) < s.length) = true := by simp; omega
      obtain ⟨t, ht⟩ : ∃ x, s[n]? = some x := ⟨s[n]'(by omega), List.getElem?_eq_getElem _⟩
      have m2 : (0 ≤ (n : Int) ∧ (n : Int) < s.length) = True := eq_true (by omega)
      have m3 : (n < s.length) = True := eq_true (by omega)
      have m4 : (0 ≤ m.b ∧ m.b < (l.length : Int)) = True := eq_true (by omega)
      have m5 : (b < l.length) = True := eq_true (by omega)
      have m6 : m.b.toNat = b := by omega
      have w2 : IntKind.i64.wrap ((n : Int) + 1) = n + 1 := i64_in _ (by omega)
      have nx := memS_succ (nm := y.name) ht
      cases h5 : memS y.name (s.take n)
      · cases h6 : decide (t = y.name)
        · have e2 : memS y.name (s.take (n + 1)) = false := by rw [nx, h5, h6]; rfl
          simp (maxSteps := 4000000) only [go_sem, f4, Option.some.injEq, forall_eq', and_true, true_and, Bool.not_true, Bool.not_false, decide_true, Nat.reduceAdd, Nat.reduceSub, Nat.reduceLT, Nat.reduceLeDiff, Nat.reduceEqDiff, ↓reduceIte]
          refine DX.plain (.take 0 false (.take 1 false (.take 2 false (.take 3 false (.take 4 false (.take 5 false (.take 6 false (.take 7 false (.take 8 false (.take 9 false (.take 10 false (.take 11 false (.take 12 false (.take 13 false (.take 14 false (.take 15 false (.take 16 false (.take 17 false .done)))))))))))))))))) (by kernel_rfl) (by kernel_rfl) Ty.mixed ?_
          simp (maxSteps := 4000000) only [go_sem, m1, m1', m2, m3, m4, m5, m6, hm, hy, ht, h6, w2, Option.some.injEq, forall_eq', and_true, true_and, Bool.not_true, Bool.not_false, decide_true, Nat.reduceAdd, Nat.reduceSub, Nat.reduceLT, Nat.reduceLeDiff, Nat.reduceEqDiff, ↓reduceIte]
          exact .mk (n + 1) q3 (by omega) (by rw [e2]; exact (Wk.sub (by (simp only [go_sem]) <;> trivial)))
        · have e2 : memS y.name (s.take (n + 1)) = true := by rw [nx, h5, h6]; rfl
          simp (maxSteps := 4000000) only [go_sem, f4, Option.some.injEq, forall_eq', and_true, true_and, Bool.not_true, Bool.not_false, decide_true, Nat.reduceAdd, Nat.reduceSub, Nat.reduceLT, Nat.reduceLeDiff, Nat.reduceEqDiff, ↓reduceIte]
          refine DX.plain (.take 0 false (.take 1 false (.take 2 false (.take 3 false (.take 4 false (.take 5 false (.take 6 false (.take 7 false (.take 8 false (.take 9 false (.take 10 false (.take 11 false (.take 12 false (.take 13 false (.take 14 false (.take 15 false (.take 16 false (.take 17 false .done)))))))))))))))))) (by kernel_rfl) (by kernel_rfl) Ty.mixed ?_
          simp (maxSteps := 4000000) only [go_sem, m1, m1', m2, m3, m4, m5, m6, hm, hy, ht, h6, w2, Option.some.injEq, forall_eq', and_true, true_and, Bool.not_true, Bool.not_false, decide_true, Nat.reduceAdd, Nat.reduceSub, Nat.reduceLT, Nat.reduceLeDiff, Nat.reduceEqDiff, ↓reduceIte]
          exact .mk (n + 1) q3 (by omega) (by rw [e2]; exact (Wk.sub (by (simp only [go_sem]) <;> trivial)))
      · have e2 : memS y.name (s.take (n + 1)) = true := by rw [nx, h5]; rfl
        simp (maxSteps := 4000000) only [go_sem, f4, Option.some.injEq, forall_eq', and_true, true_and, Bool.not_true, Bool.not_false, decide_true, Nat.reduceAdd, Nat.reduceSub, Nat.reduceLT, Nat.reduceLeDiff, Nat.reduceEqDiff, ↓reduceIte]
        refine DX.plain (.take 0 false (.take 1 false (.take 2 false (.take 3 false (.take 4 false (.take 5 false (.take 6 false (.take 7 false (.take 8 false (.take 9 false (.take 10 false (.take 11 false (.take 12 false (.take 13 false (.take 14 false (.take 15 false (.take 16 false (.take 17 false .done)))))))))))))))))) (by kernel_rfl) (by kernel_rfl) Ty.mixed ?_
        simp (maxSteps := 4000000) only [go_sem, m1, w2, Option.some.injEq, forall_eq', and_true, true_and, Bool.not_true, Bool.not_false, decide_true, Nat.reduceAdd, Nat.reduceSub, Nat.reduceLT, Nat.reduceLeDiff, Nat.reduceEqDiff, ↓reduceIte]
        exact .mk (n + 1) q3 (by omega) (by rw [e2]; exact (Wk.sub (by (simp only [go_sem]) <;> trivial)))
    · have f4 : decide ((n : Int) < s.length) = false := by simp; omega
      have w2 : IntKind.i64.wrap ((k : Int) + 1) = k + 1 := i64_in _ (by omega)
      rw [List.take_of_length_le q3, (memS_iff _ _).2 hys]
      simp (maxSteps := 4000000) only [go_sem, f4, w2, Option.some.injEq, forall_eq', and_true, true_and, Bool.not_true, Bool.not_false, decide_true, Nat.reduceAdd, Nat.reduceSub, Nat.reduceLT, Nat.reduceLeDiff, Nat.reduceEqDiff, ↓reduceIte]
      exact .mk (k + 1) q2 (by omega) (Wk.sub (by (simp only [go_sem]) <;> trivial))
  · have f1 : decide ((k : Int) < v.length) = false := by simp; omega
    simp (maxSteps := 4000000) only [go_sem, f1, Option.some.injEq, forall_eq', and_true, true_and, Bool.not_true, Bool.not_false, decide_true, Nat.reduceAdd, Nat.reduceSub, Nat.reduceLT, Nat.reduceLeDiff, Nat.reduceEqDiff, ↓reduceIte]
    exact wk_bool rfl
end Go.AX.Br
namespace Go.Proofs.Ytebkafjebnjcoaa
open Go.AX Go.AX.Br Go.RowKit
set_option maxRecDepth 100000 in
theorem branchLines_lifted (os : Os) (started : os.Started) (H : Type) (enc : TypeId × Value → H) :
    ReturnsInHanded {} Try.checked os 5 .any (Rows.branchLinesSpec.pre6 enc Try.prog Try.f5 Rows.branchLinesRow.domain false) (Rows.branchLinesSpec.post enc Try.prog Try.f5 false true false false) := by
  refine Go.AX.lifted (C := Try.checked) (f := 5) (fn := Try.f5) (s := Rows.branchLinesSpec) (rt := 4) (n := 8) (by kernel_rfl) (by kernel_rfl) Try.func5 rfl ?_ rfl (by kernel_rfl) (by kernel_rfl) (by kernel_rfl) (by kernel_rfl) os started H enc
    (ChangeSpec.witness6 (enc := enc) (C := Try.checked) false ⟨#[], #[.slice none 0 0, .slice none 0 0, .int .i64 0], []⟩ 8 (by kernel_rfl) (by kernel_rfl) (by kernel_rfl) (by kernel_rfl)) ?_
  · intro H ds h
    match ds, h with
    | [a0, a1, a2], _ => rfl
  · intro xs hx
    have hp : Try.f5.params.toList = [22, 23, 3] := rfl
    rw [hp] at hx ⊢
    have i0 : isA Try.prog 22 = false := by kernel_rfl
    have i1 : isA Try.prog 23 = false := by kernel_rfl
    have i2 : isA Try.prog 3 = false := by kernel_rfl
    rcases xs with _ | ⟨d0, _ | ⟨d1, _ | ⟨d2, _ | ⟨d3, xs⟩⟩⟩⟩ <;> simp only [Tyds, and_false] at hx
    obtain ⟨k0, k1, k2, _⟩ := hx
    obtain ⟨l, rfl, hl, wl⟩ := branches_of k0
    obtain ⟨cs, rfl, hcs, wcs⟩ := ints_of k1
    obtain ⟨i, rfl, hi⟩ := int_of k2
    simp only [avs, i0, i1, i2, dv, Bool.false_eq_true, if_false, if_true, List.headD_cons, List.map_cons, List.map_nil]
    exact lines_law l cs i hl hcs
theorem branchLines_over : Rows.branchLinesRow.holds Try.pinned (OpenSpec.ofChange Rows.branchLinesSpec) :=
  OpenClaim.holds_of_wide 5 Try.f5 rfl rfl rfl rfl rfl rfl rfl ⟨rfl, rfl, rfl, rfl, rfl⟩ rfl rfl rfl rfl rfl (by kernel_rfl) Try.func5 (by kernel_rfl)
    (of_decide_eq_true (by kernel_rfl)) (by unfold Func.isWrapper; first | (rw [if_pos (by decide +kernel)]; kernel_rfl) | (rw [if_neg (by decide +kernel)]; exact ⟨rfl, rfl⟩))
    (fun os started H enc _ => branchLines_lifted os started H enc)
/-- The row, under a short name, for the claim. -/
theorem branchLines_holds : Rows.BranchLinesSaid := branchLines_over
#print axioms branchLines_holds
end Go.Proofs.Ytebkafjebnjcoaa

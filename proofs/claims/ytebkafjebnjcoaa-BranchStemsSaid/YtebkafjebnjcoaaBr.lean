/- BranchStems: whatever the input, the law returns true, and its arguments read as they did. No condition. -/
import Derived.Test.YtebkafjebnjcoaaBq
import Derived.Test.YtebkafjebnjcoaaBo
import Derived.Test.YtebkafjebnjcoaaRows
set_option maxHeartbeats 8000000
set_option linter.unusedVariables false
set_option linter.unusedSimpArgs false
set_option maxRecDepth 20000
namespace Go.AX.Br
open Go.Proofs Go.RowKit Go.IntWalk
theorem viewR_at {l : List Br} {cs : List Int} (h : fits l cs = 0) {i : Nat} {x : Br} {v : List Mk} (hx : l[i]? = some x) (hv : (vw l cs)[i]? = some v) : viewR l cs x.name = (v, 0) := by
  have g := good_of h
  simp only [viewR]; rw [if_neg (by omega), if_neg (by rw [g.ok.name i x hx]; omega), g.ok.name i x hx]; simp [List.getD_eq_getElem?_getD, hv]
theorem stemR_at {l : List Br} {cs : List Int} (h : fits l cs = 0) {i k : Nat} {a b : ByteArray} {v w : List Mk} (ha : idx (has a) l = i) (hb : idx (has b) l = k) (hv : (vw l cs)[i]? = some v) (hw : (vw l cs)[k]? = some w) : stemR l cs a b = ((lcp v w : Int), 0) := by
  simp only [stemR]; rw [if_neg (by omega), if_neg (by omega), ha, hb]; simp [List.getD_eq_getElem?_getD, hv, hw]
/-- the stem of a branch and the one that it was cut from -/
theorem lcp_from {l : List Br} {cs : List Int} (g : Good l cs) {i j : Nat} {x : Br} {c : Int} {f v : List Mk} (hj : j < i) (hat : 0 ≤ x.at') (hle : x.at' ≤ f.length) (hf : (vw l cs)[j]? = some f) (hv : v = f.take x.at'.toNat ++ own i c) : (lcp v f : Int) = x.at' := by
  have hl := lcp_le v f
  have htl : (f.take x.at'.toNat).length = x.at'.toNat := by rw [List.length_take]; omega
  rcases Nat.lt_trichotomy (lcp v f) x.at'.toNat with q | q | q
  · exfalso
    have h1 : f[lcp v f]? = some (f[lcp v f]'(by omega)) := List.getElem?_eq_getElem _
    have h2 : ∀ n, n < x.at'.toNat → v[n]? = f[n]? := fun n hn => by rw [hv, List.getElem?_append_left (by omega), List.getElem?_take_of_lt hn]
    exact lcp_stop ((h2 _ q).trans h1) h1
  · omega
  · exfalso
    obtain ⟨m, h1, h2⟩ := lcp_get q
    obtain ⟨b, e, _, _, _, k1, k2, _⟩ := mark_pos g j f _ m hf h2
    rw [hv, List.getElem?_append_right (by omega), htl, Nat.sub_self] at h1
    have hlt := some_lt h1
    rw [own_len] at hlt
    simp only [own, List.getElem?_map, List.getElem?_range hlt, Option.map_some, Option.some.injEq] at h1
    rw [k1] at h1
    simp only [Mk.mk.injEq] at h1
    omega
theorem stems_law (l : List Br) (cs : List Int) (i k : Int) (hl : Sm l.length) (hc : Sm cs.length) : Spec Try.prog 4 [.d (.sl (l.map bD)), .d (.sl (cs.map iD)), .d (.int .i64 i), .d (.int .i64 k)] [] (.d (.bool true)) [] := by
  refine spec_of_ev (fn := Try.f4) DX_ok 3000 Try.func4 rfl rfl (Nat.le_of_ble_eq_true rfl) ?_
  simp (maxSteps := 4000000) only [Try.f4, go_sem]
  refine ecall0 _ (alive_spec) (by simp only [go_sem]) (by simp only [go_sem]) ?_
  simp (maxSteps := 4000000) only [go_sem, Nat.reduceAdd, Nat.reduceSub, Nat.reduceLT, Nat.reduceLeDiff, Nat.reduceEqDiff, ↓reduceIte]
  refine ecall0 _ (fits_ref l cs hl hc) (by simp only [go_sem]) (by simp only [go_sem]) ?_
  simp (maxSteps := 4000000) only [go_sem, Nat.reduceAdd, Nat.reduceSub, Nat.reduceLT, Nat.reduceLeDiff, Nat.reduceEqDiff, ↓reduceIte]
  by_cases h1 : fits l cs = 0
  case neg =>
    have d1 : (fits l cs != 0) = true := by simp [h1]
    simp (maxSteps := 4000000) only [go_sem, d1, Option.some.injEq, forall_eq', and_true, true_and, Bool.not_true, Bool.not_false, decide_true, Nat.reduceAdd, Nat.reduceSub, Nat.reduceLT, Nat.reduceLeDiff, Nat.reduceEqDiff, ↓reduceIte]
    exact wk_bool rfl
  have d1 : (fits l cs != 0) = false := by simp [h1]
  rcases Int.lt_or_le i 0 with h2 | h2
  · have d2 := decide_eq_true h2
    simp (maxSteps := 4000000) only [go_sem, d1, d2, Option.some.injEq, forall_eq', and_true, true_and, Bool.not_true, Bool.not_false, decide_true, Nat.reduceAdd, Nat.reduceSub, Nat.reduceLT, Nat.reduceLeDiff, Nat.reduceEqDiff, ↓reduceIte]
    exact wk_bool rfl
  have d2 := decide_eq_false (Int.not_lt.2 h2)
  rcases Int.lt_or_le k 0 with h3 | h3
  · have d3 := decide_eq_true h3
    simp (maxSteps := 4000000) only [go_sem, d1, d2, d3, Option.some.injEq, forall_eq', and_true, true_and, Bool.not_true, Bool.not_false, decide_true, Nat.reduceAdd, Nat.reduceSub, Nat.reduceLT, Nat.reduceLeDiff, Nat.reduceEqDiff, ↓reduceIte]
    exact wk_bool rfl
  have d3 := decide_eq_false (Int.not_lt.2 h3)
  rcases Int.lt_or_le i l.length with h4 | h4
  case inr =>
    have d4 : decide ((l.length : Int) ≤ i) = true := by simpa using h4
    simp (maxSteps := 4000000) only [go_sem, d1, d2, d3, d4, Option.some.injEq, forall_eq', and_true, true_and, Bool.not_true, Bool.not_false, decide_true, Nat.reduceAdd, Nat.reduceSub, Nat.reduceLT, Nat.reduceLeDiff, Nat.reduceEqDiff, ↓reduceIte]
    exact wk_bool rfl
  have d4 : decide ((l.length : Int) ≤ i) = false := by simpa using h4
  rcases Int.lt_or_le k l.length with h5 | h5
  case inr =>
    have d5 : decide ((l.length : Int) ≤ k) = true := by simpa using h5
    simp (maxSteps := 4000000) only [go_sem, d1, d2, d3, d4, d5, Option.some.injEq, forall_eq', and_true, true_and, Bool.not_true, Bool.not_false, decide_true, Nat.reduceAdd, Nat.reduceSub, Nat.reduceLT, Nat.reduceLeDiff, Nat.reduceEqDiff, ↓reduceIte]
    exact wk_bool rfl
  have d5 : decide ((l.length : Int) ≤ k) = false := by simpa using h5
  obtain ⟨i, rfl⟩ : ∃ n : Nat, i = n := ⟨i.toNat, by omega⟩
  obtain ⟨k, rfl⟩ : ∃ n : Nat, k = n := ⟨k.toNat, by omega⟩
  have g := good_of h1
  have hl8 := g.ok.len
  obtain ⟨x, hx⟩ : ∃ x, l[i]? = some x := ⟨l[i]'(by omega), List.getElem?_eq_getElem _⟩
  obtain ⟨y, hy⟩ : ∃ x, l[k]? = some x := ⟨l[k]'(by omega), List.getElem?_eq_getElem _⟩
  obtain ⟨ci, hci⟩ : ∃ x, cs[i]? = some x := ⟨cs[i]'(by have := g.len; omega), List.getElem?_eq_getElem _⟩
  obtain ⟨v, hv⟩ := good_view g (some_lt hx)
  obtain ⟨w, hw⟩ := good_view g (some_lt hy)
  have vx := View_own l cs x.name hl hc
  have vy := View_own l cs y.name hl hc
  have sxy := Stem_own l cs x.name y.name hl hc
  have syx := Stem_own l cs y.name x.name hl hc
  rw [viewR_at h1 hx hv] at vx
  rw [viewR_at h1 hy hw] at vy
  rw [stemR_at h1 (g.ok.name i x hx) (g.ok.name k y hy) hv hw] at sxy
  rw [stemR_at h1 (g.ok.name k y hy) (g.ok.name i x hx) hw hv, lcp_comm w v] at syx
  have n1 : (0 ≤ (i : Int) ∧ (i : Int) < l.length) = True := eq_true (by omega)
  have n2 : (0 ≤ (k : Int) ∧ (k : Int) < l.length) = True := eq_true (by omega)
  have n3 : (i < l.length) = True := eq_true (by omega)
  have n4 : (k < l.length) = True := eq_true (by omega)
  simp (maxSteps := 4000000) only [go_sem, d1, d2, d3, d4, d5, n1, n2, hx, hy, Option.some.injEq, forall_eq', and_true, true_and, Bool.not_true, Bool.not_false, decide_true, Nat.reduceAdd, Nat.reduceSub, Nat.reduceLT, Nat.reduceLeDiff, Nat.reduceEqDiff, ↓reduceIte]
  refine ecallN _ _ vx (by simp only [go_sem]) ?_
  simp (maxSteps := 4000000) only [go_sem, n1, n2, hx, hy, Option.some.injEq, forall_eq', and_true, true_and, Bool.not_true, Bool.not_false, decide_true, Nat.reduceAdd, Nat.reduceSub, Nat.reduceLT, Nat.reduceLeDiff, Nat.reduceEqDiff, ↓reduceIte]
  refine ecallN _ _ vy (by simp only [go_sem]) ?_
  simp (maxSteps := 4000000) only [go_sem, n1, n2, hx, hy, Option.some.injEq, forall_eq', and_true, true_and, Bool.not_true, Bool.not_false, decide_true, Nat.reduceAdd, Nat.reduceSub, Nat.reduceLT, Nat.reduceLeDiff, Nat.reduceEqDiff, ↓reduceIte]
  refine DX.plain (.take 0 false (.take 1 false (.take 2 false (.take 3 false (.take 4 false (.take 5 false (.take 6 false (.take 7 false (.take 8 false (.take 9 false (.take 10 false (.take 11 false (.take 12 false (.take 13 false (.take 14 false (.take 15 false (.take 16 false (.take 17 false .done)))))))))))))))))) (by kernel_rfl) (by kernel_rfl) Ty.mixed ?_
  simp (maxSteps := 4000000) only [go_sem, n1, n2, n3, n4, hx, hy, Option.some.injEq, forall_eq', and_true, true_and, Bool.not_true, Bool.not_false, decide_true, Nat.reduceAdd, Nat.reduceSub, Nat.reduceLT, Nat.reduceLeDiff, Nat.reduceEqDiff, ↓reduceIte]
  refine ⟨_, _, sxy.lift0 _ (by simp only [go_sem]) (by simp only [go_sem]), rfl, ?_⟩
  simp (maxSteps := 4000000) only [go_sem, Nat.reduceAdd, Nat.reduceSub, Nat.reduceLT, Nat.reduceLeDiff, Nat.reduceEqDiff, ↓reduceIte]
  refine DX.plain (.take 0 false (.take 1 false (.take 2 false (.take 3 false (.take 4 false (.take 5 false (.take 6 false (.take 7 false (.take 8 false (.take 9 false (.take 10 false (.take 11 false (.take 12 false (.take 13 false (.take 14 false (.take 15 false (.take 16 false (.take 17 false .done)))))))))))))))))) (by kernel_rfl) (by kernel_rfl) Ty.mixed ?_
  simp (maxSteps := 4000000) only [go_sem, n1, n2, n3, n4, hx, hy, Option.some.injEq, forall_eq', and_true, true_and, Bool.not_true, Bool.not_false, decide_true, Nat.reduceAdd, Nat.reduceSub, Nat.reduceLT, Nat.reduceLeDiff, Nat.reduceEqDiff, ↓reduceIte]
  refine ⟨_, _, syx.lift0 _ (by simp only [go_sem]) (by simp only [go_sem]), rfl, ?_⟩
  have hle := lcp_le v w
  have e1 : ((lcp v w : Int) != lcp v w) = false := by simp
  have e2 : decide ((lcp v w : Int) < 0) = false := by simp
  have e3 : decide ((v.length : Int) < lcp v w) = false := by simp; omega
  have e4 : decide ((w.length : Int) < lcp v w) = false := by simp; omega
  have e0 : ((0 : Int) != 0) = false := rfl
  simp (maxSteps := 4000000) only [go_sem, e0, e1, e2, e3, e4, Option.some.injEq, forall_eq', and_true, true_and, Bool.not_true, Bool.not_false, decide_true, Nat.reduceAdd, Nat.reduceSub, Nat.reduceLT, Nat.reduceLeDiff, Nat.reduceEqDiff, ↓reduceIte]
  have key : ∀ (a b : Nat) (z u : Mk), v[a]? = some z → w[b]? = some u → (z = u ↔ a = b ∧ a < lcp v w) := fun a b z u hz hu => by
    constructor
    · rintro rfl; exact shared g hv hw hz hu
    · rintro ⟨rfl, hlt⟩
      obtain ⟨m, m1, m2⟩ := lcp_get hlt
      rw [hz] at m1; rw [hu] at m2; cases m1; cases m2; rfl
  have hvl := fit_len g.ok g.fit hx hci hv
  have hgx := g.ok.good _ _ hx
  have hgc := g.cnt ci (List.mem_of_getElem? hci)
  obtain ⟨ck, hck⟩ : ∃ x, cs[k]? = some x := ⟨cs[k]'(by have := g.len; omega), List.getElem?_eq_getElem _⟩
  have hwl := fit_len g.ok g.fit hy hck hw
  have hgy := g.ok.good _ _ hy
  have hgd := g.cnt ck (List.mem_of_getElem? hck)
  refine eloop (S := Nat) (fun a => mkE 224 [(0, .d (.sl (l.map bD))), (1, .d (.sl (cs.map iD))), (2, .d (.int .i64 i)), (3, .d (.int .i64 k)), (9, .d (.bool true)), (10, .d (.sl (v.map mkD))), (12, .d (.sl (w.map mkD))), (14, .d (.int .i64 (lcp v w))), (18, .d (.int .i64 a))]) (fun a => []) (fun a => a ≤ v.length) (fun a => v.length - a) 0 (Nat.zero_le _) ?_ ?_
  · refine Wk.trans (Wk.frz 0 rfl) ?_
    simp (maxSteps := 4000000) only [go_sem, Nat.reduceAdd, Nat.reduceSub, Nat.reduceLT, Nat.reduceLeDiff, Nat.reduceEqDiff, ↓reduceIte]
    refine Wk.trans (Wk.frz 1 rfl) ?_
    simp (maxSteps := 4000000) only [go_sem, Nat.reduceAdd, Nat.reduceSub, Nat.reduceLT, Nat.reduceLeDiff, Nat.reduceEqDiff, ↓reduceIte]
    exact (Wk.forget (by (simp only [go_sem]) <;> trivial) (by simp only [go_sem]))
  intro a ha
  rcases Nat.lt_or_ge a v.length with q1 | q1
  · have f1 : decide ((a : Int) < v.length) = true := by simp; omega
    obtain ⟨z, hz⟩ : ∃ x, v[a]? = some x := ⟨v[a]'(by omega), List.getElem?_eq_getElem _⟩
    have m1 : (0 ≤ (a : Int) ∧ (a : Int) < v.length) = True := eq_true (by omega)
    have m2 : (a < v.length) = True := eq_true (by omega)
    simp (maxSteps := 4000000) only [go_sem, f1, Option.some.injEq, forall_eq', and_true, true_and, Bool.not_true, Bool.not_false, decide_true, Nat.reduceAdd, Nat.reduceSub, Nat.reduceLT, Nat.reduceLeDiff, Nat.reduceEqDiff, ↓reduceIte]
    refine eloop (S := Nat) (fun b => mkE 224 [(0, .d (.sl (l.map bD))), (1, .d (.sl (cs.map iD))), (2, .d (.int .i64 i)), (3, .d (.int .i64 k)), (9, .d (.bool true)), (10, .d (.sl (v.map mkD))), (12, .d (.sl (w.map mkD))), (14, .d (.int .i64 (lcp v w))), (18, .d (.int .i64 a)), (19, .d (.int .i64 b))]) (fun a => []) (fun b => b ≤ w.length) (fun b => w.length - b) 0 (Nat.zero_le _) (Wk.sub (by (simp only [go_sem]) <;> trivial)) ?_
    intro b hb
    rcases Nat.lt_or_ge b w.length with q2 | q2
    · have f2 : decide ((b : Int) < w.length) = true := by simp; omega
      obtain ⟨u, hu⟩ : ∃ x, w[b]? = some x := ⟨w[b]'(by omega), List.getElem?_eq_getElem _⟩
      have m3 : (0 ≤ (b : Int) ∧ (b : Int) < w.length) = True := eq_true (by omega)
      have m4 : (b < w.length) = True := eq_true (by omega)
      have hzu := mkD_eq z u
      simp only [mkD, deqs, deq, Bool.and_true] at hzu
      have w1 : IntKind.i64.wrap ((b : Int) + 1) = b + 1 := i64_in _ (by omega)
      have hk := key a b z u hz hu
      by_cases hab : a = b
      · have f3 : ((a : Int) == b) = true := by simp [hab]
        by_cases hlt : a < lcp v w
        · have f4 : decide ((a : Int) < lcp v w) = true := by simp; omega
          rw [decide_eq_true (hk.2 ⟨hab, hlt⟩)] at hzu
          simp (maxSteps := 4000000) only [go_sem, f2, Option.some.injEq, forall_eq', and_true, true_and, Bool.not_true, Bool.not_false, decide_true, Nat.reduceAdd, Nat.reduceSub, Nat.reduceLT, Nat.reduceLeDiff, Nat.reduceEqDiff, ↓reduceIte]
          refine DX.plain (.take 0 false (.take 1 false (.take 2 false (.take 3 false (.take 4 false (.take 5 false (.take 6 false (.take 7 false (.take 8 false (.take 9 false (.take 10 false (.take 11 false (.take 12 false (.take 13 false (.take 14 false (.take 15 false (.take 16 false (.take 17 false .done)))))))))))))))))) (by kernel_rfl) (by kernel_rfl) Ty.mixed ?_
          simp (maxSteps := 4000000) only [go_sem, m1, m2, m3, m4, hz, hu, hzu, f3, f4, w1, Option.some.injEq, forall_eq', and_true, true_and, Bool.not_true, Bool.not_false, decide_true, Nat.reduceAdd, Nat.reduceSub, Nat.reduceLT, Nat.reduceLeDiff, Nat.reduceEqDiff, ↓reduceIte]
          exact .mk (b + 1) q2 (by omega) (Wk.sub (by (simp only [go_sem]) <;> trivial))
        · have f4 : decide ((a : Int) < lcp v w) = false := by simp; omega
          rw [decide_eq_false (fun e => hlt (hk.1 e).2)] at hzu
          simp (maxSteps := 4000000) only [go_sem, f2, Option.some.injEq, forall_eq', and_true, true_and, Bool.not_true, Bool.not_false, decide_true, Nat.reduceAdd, Nat.reduceSub, Nat.reduceLT, Nat.reduceLeDiff, Nat.reduceEqDiff, ↓reduceIte]
          refine DX.plain (.take 0 false (.take 1 false (.take 2 false (.take 3 false (.take 4 false (.take 5 false (.take 6 false (.take 7 false (.take 8 false (.take 9 false (.take 10 false (.take 11 false (.take 12 false (.take 13 false (.take 14 false (.take 15 false (.take 16 false (.take 17 false .done)))))))))))))))))) (by kernel_rfl) (by kernel_rfl) Ty.mixed ?_
          simp (maxSteps := 4000000) only [go_sem, m1, m2, m3, m4, hz, hu, hzu, f3, f4, w1, Option.some.injEq, forall_eq', and_true, true_and, Bool.not_true, Bool.not_false, decide_true, Nat.reduceAdd, Nat.reduceSub, Nat.reduceLT, Nat.reduceLeDiff, Nat.reduceEqDiff, ↓reduceIte]
          exact .mk (b + 1) q2 (by omega) (Wk.sub (by (simp only [go_sem]) <;> trivial))
      · have f3 : ((a : Int) == b) = false := by simp; omega
        rw [decide_eq_false (fun e => hab (hk.1 e).1)] at hzu
        simp (maxSteps := 4000000) only [go_sem, f2, Option.some.injEq, forall_eq', and_true, true_and, Bool.not_true, Bool.not_false, decide_true, Nat.reduceAdd, Nat.reduceSub, Nat.reduceLT, Nat.reduceLeDiff, Nat.reduceEqDiff, ↓reduceIte]
        refine DX.plain (.take 0 false (.take 1 false (.take 2 false (.take 3 false (.take 4 false (.take 5 false (.take 6 false (.take 7 false (.take 8 false (.take 9 false (.take 10 false (.take 11 false (.take 12 false (.take 13 false (.take 14 false (.take 15 false (.take 16 false (.take 17 false .done)))))))))))))))))) (by kernel_rfl) (by kernel_rfl) Ty.mixed ?_
        simp (maxSteps := 4000000) only [go_sem, m1, m2, m3, m4, hz, hu, hzu, f3, w1, Option.some.injEq, forall_eq', and_true, true_and, Bool.not_true, Bool.not_false, decide_true, Nat.reduceAdd, Nat.reduceSub, Nat.reduceLT, Nat.reduceLeDiff, Nat.reduceEqDiff, ↓reduceIte]
        exact .mk (b + 1) q2 (by omega) (Wk.sub (by (simp only [go_sem]) <;> trivial))
    · have f2 : decide ((b : Int) < w.length) = false := by simp; omega
      have w1 : IntKind.i64.wrap ((a : Int) + 1) = a + 1 := i64_in _ (by omega)
      simp (maxSteps := 4000000) only [go_sem, f2, w1, Option.some.injEq, forall_eq', and_true, true_and, Bool.not_true, Bool.not_false, decide_true, Nat.reduceAdd, Nat.reduceSub, Nat.reduceLT, Nat.reduceLeDiff, Nat.reduceEqDiff, ↓reduceIte]
      exact .mk (a + 1) q1 (by omega) (Wk.sub (by (simp only [go_sem]) <;> trivial))
  · have f1 : decide ((a : Int) < v.length) = false := by simp; omega
    by_cases hik : i = k
    · have f2 : ((i : Int) == k) = true := by simp [hik]
      have f3 : ((i : Int) != k) = false := by simp [hik]
      have f4 : ((lcp v w : Int) == v.length) = true := by
        subst hik
        rw [hv] at hw; cases hw
        rw [lcp_self]; simp
      simp (maxSteps := 4000000) only [go_sem, f1, f2, f3, f4, Option.some.injEq, forall_eq', and_true, true_and, Bool.not_true, Bool.not_false, decide_true, Nat.reduceAdd, Nat.reduceSub, Nat.reduceLT, Nat.reduceLeDiff, Nat.reduceEqDiff, ↓reduceIte]
      exact wk_bool rfl
    · have f2 : ((i : Int) == k) = false := by simp; omega
      have f3 : ((i : Int) != k) = true := by simp; omega
      cases hf : decide (x.frm = ⟨#[]⟩)
      · rcases Nat.eq_zero_or_pos i with h0 | h0
        · subst h0
          simp [(g.ok.root x hx).1] at hf
        obtain ⟨j, f, j1, j2, j3, j4, j5⟩ := g.fit.step i x ci v h0 hx hci hv
        have sxf := Stem_own l cs x.name x.frm hl hc
        rw [stemR_at h1 (g.ok.name i x hx) j2 hv j3, lcp_from g j1 hgx.2.1 j4 j3 j5] at sxf
        have f5 : (x.at' == x.at') = true := by simp
        have f6 : ((0 : Int) == 0) = true := rfl
        simp (maxSteps := 4000000) only [go_sem, f1, f2, n1, hx, hf, Option.some.injEq, forall_eq', and_true, true_and, Bool.not_true, Bool.not_false, decide_true, Nat.reduceAdd, Nat.reduceSub, Nat.reduceLT, Nat.reduceLeDiff, Nat.reduceEqDiff, ↓reduceIte]
        refine DX.plain (.take 0 false (.take 1 false (.take 2 false (.take 3 false (.take 4 false (.take 5 false (.take 6 false (.take 7 false (.take 8 false (.take 9 false (.take 10 false (.take 11 false (.take 12 false (.take 13 false (.take 14 false (.take 15 false (.take 16 false (.take 17 false .done)))))))))))))))))) (by kernel_rfl) (by kernel_rfl) Ty.mixed ?_
        simp (maxSteps := 4000000) only [go_sem, n1, n3, hx, Option.some.injEq, forall_eq', and_true, true_and, Bool.not_true, Bool.not_false, decide_true, Nat.reduceAdd, Nat.reduceSub, Nat.reduceLT, Nat.reduceLeDiff, Nat.reduceEqDiff, ↓reduceIte]
        refine ⟨_, _, sxf, rfl, ?_⟩
        simp (maxSteps := 4000000) only [go_sem, n1, n3, hx, f5, f6, Option.some.injEq, forall_eq', and_true, true_and, Bool.not_true, Bool.not_false, decide_true, Nat.reduceAdd, Nat.reduceSub, Nat.reduceLT, Nat.reduceLeDiff, Nat.reduceEqDiff, ↓reduceIte]
        exact wk_bool rfl
      · simp (maxSteps := 4000000) only [go_sem, f1, f2, f3, n1, hx, hf, Option.some.injEq, forall_eq', and_true, true_and, Bool.not_true, Bool.not_false, decide_true, Nat.reduceAdd, Nat.reduceSub, Nat.reduceLT, Nat.reduceLeDiff, Nat.reduceEqDiff, ↓reduceIte]
        exact wk_bool rfl
end Go.AX.Br
namespace Go.Proofs.Ytebkafjebnjcoaa
open Go.AX Go.AX.Br Go.RowKit
set_option maxRecDepth 100000 in
theorem branchStems_lifted (os : Os) (started : os.Started) (H : Type) (enc : TypeId × Value → H) :
    ReturnsInHanded {} Try.checked os 4 .any (Rows.branchStemsSpec.pre6 enc Try.prog Try.f4 Rows.branchStemsRow.domain false) (Rows.branchStemsSpec.post enc Try.prog Try.f4 false true false false) := by
  refine Go.AX.lifted (C := Try.checked) (f := 4) (fn := Try.f4) (s := Rows.branchStemsSpec) (rt := 4) (n := 8) (by kernel_rfl) (by kernel_rfl) Try.func4 rfl ?_ rfl (by kernel_rfl) (by kernel_rfl) (by kernel_rfl) (by kernel_rfl) os started H enc
    (ChangeSpec.witness6 (enc := enc) (C := Try.checked) false ⟨#[], #[.slice none 0 0, .slice none 0 0, .int .i64 0, .int .i64 0], []⟩ 8 (by kernel_rfl) (by kernel_rfl) (by kernel_rfl) (by kernel_rfl)) ?_
  · intro H ds h
    match ds, h with
    | [a0, a1, a2, a3], _ => rfl
  · intro xs hx
    have hp : Try.f4.params.toList = [22, 23, 3, 3] := rfl
    rw [hp] at hx ⊢
    have i0 : isA Try.prog 22 = false := by kernel_rfl
    have i1 : isA Try.prog 23 = false := by kernel_rfl
    have i2 : isA Try.prog 3 = false := by kernel_rfl
    have i3 : isA Try.prog 3 = false := by kernel_rfl
    rcases xs with _ | ⟨d0, _ | ⟨d1, _ | ⟨d2, _ | ⟨d3, _ | ⟨d4, xs⟩⟩⟩⟩⟩ <;> simp only [Tyds, and_false] at hx
    obtain ⟨k0, k1, k2, k3, _⟩ := hx
    obtain ⟨l, rfl, hl, wl⟩ := branches_of k0
    obtain ⟨cs, rfl, hcs, wcs⟩ := ints_of k1
    obtain ⟨i, rfl, hi⟩ := int_of k2
    obtain ⟨k, rfl, hk⟩ := int_of k3
    simp only [avs, i0, i1, i2, i3, dv, Bool.false_eq_true, if_false, if_true, List.headD_cons, List.map_cons, List.map_nil]
    exact stems_law l cs i k hl hcs
theorem branchStems_over : Rows.branchStemsRow.holds Try.pinned (OpenSpec.ofChange Rows.branchStemsSpec) :=
  OpenClaim.holds_of_wide 4 Try.f4 rfl rfl rfl rfl rfl rfl rfl ⟨rfl, rfl, rfl, rfl, rfl⟩ rfl rfl rfl rfl rfl (by kernel_rfl) Try.func4 (by kernel_rfl)
    (of_decide_eq_true (by kernel_rfl)) (by unfold Func.isWrapper; first | (rw [if_pos (by decide +kernel)]; kernel_rfl) | (rw [if_neg (by decide +kernel)]; exact ⟨rfl, rfl⟩))
    (fun os started H enc _ => branchStems_lifted os started H enc)
/-- The row, under a short name, for the claim. -/
theorem branchStems_holds : Rows.BranchStemsSaid := branchStems_over
#print axioms branchStems_holds
end Go.Proofs.Ytebkafjebnjcoaa

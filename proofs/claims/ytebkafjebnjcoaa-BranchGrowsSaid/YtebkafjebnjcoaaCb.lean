/- BranchGrows: whatever the input, the law returns true, and its arguments read as they did. No condition. -/
import Derived.Test.YtebkafjebnjcoaaCa
set_option maxHeartbeats 8000000
set_option linter.unusedVariables false
set_option linter.unusedSimpArgs false
set_option maxRecDepth 20000
namespace Go.AX.Br
open Go.Proofs Go.RowKit Go.IntWalk
def sNew : ByteArray := ⟨#[122, 122, 45, 110, 101, 119]⟩
theorem sNew_name : isNm sNew = true := by decide
theorem view_bound {l : List Br} {cs : List Int} (g : Good l cs) : ∀ (i : Nat) (v : List Mk), (vw l cs)[i]? = some v → v.length ≤ 40 * (i + 1) := by
  intro i
  induction i using Nat.strongRecOn with
  | _ i ih =>
  intro v hv
  have hil : i < l.length := by have := some_lt hv; have := g.vlen; omega
  obtain ⟨x, hx⟩ : ∃ x, l[i]? = some x := ⟨l[i]'hil, List.getElem?_eq_getElem _⟩
  obtain ⟨c, hc⟩ : ∃ c, cs[i]? = some c := ⟨cs[i]'(by have := g.len; omega), List.getElem?_eq_getElem _⟩
  have hcc := g.cnt c (List.mem_of_getElem? hc)
  have hlen := fit_len g.ok g.fit hx hc hv
  rcases Nat.eq_zero_or_pos i with h0 | h0
  · subst h0
    rw [(g.ok.root x hx).2] at hlen
    simp at hlen; omega
  · obtain ⟨j, f, j1, j2, j3, j4, j5⟩ := g.fit.step i x c v h0 hx hc hv
    have := ih j j1 f j3
    omega

theorem grows_law (l : List Br) (cs : List Int) (i at' : Int) (hl : Sm l.length) (hc : Sm cs.length) : Spec Try.prog 6 [.d (.sl (l.map bD)), .d (.sl (cs.map iD)), .d (.int .i64 i), .d (.int .i64 at')] [] (.d (.bool true)) [] := by
  refine spec_of_ev (fn := Try.f6) DX_ok 3000 Try.func6 rfl rfl (Nat.le_of_ble_eq_true rfl) ?_
  simp (maxSteps := 4000000) -implicitDefEqProofs only [Try.f6, go_sem]
  refine ecall0 _ (alive_spec) (by simp -implicitDefEqProofs only [go_sem]) (by simp -implicitDefEqProofs only [go_sem]) ?_
  simp (maxSteps := 4000000) -implicitDefEqProofs only [go_sem, Nat.reduceAdd, Nat.reduceSub, Nat.reduceLT, Nat.reduceLeDiff, Nat.reduceEqDiff, ↓reduceIte]
  refine ecall0 _ (fits_ref l cs hl hc) (by simp -implicitDefEqProofs only [go_sem]) (by simp -implicitDefEqProofs only [go_sem]) ?_
  simp (maxSteps := 4000000) -implicitDefEqProofs only [go_sem, Nat.reduceAdd, Nat.reduceSub, Nat.reduceLT, Nat.reduceLeDiff, Nat.reduceEqDiff, ↓reduceIte]
  by_cases h1 : fits l cs = 0
  case neg =>
    have d1 : (fits l cs != 0) = true := by simp [h1]
    simp (maxSteps := 4000000) -implicitDefEqProofs only [go_sem, d1, Option.some.injEq, forall_eq', and_true, true_and, Bool.not_true, Bool.not_false, decide_true, Nat.reduceAdd, Nat.reduceSub, Nat.reduceLT, Nat.reduceLeDiff, Nat.reduceEqDiff, ↓reduceIte]
    exact wk_bool rfl
  have d1 : (fits l cs != 0) = false := by simp [h1]
  rcases Int.lt_or_le i 0 with h2 | h2
  · have d2 := decide_eq_true h2
    simp (maxSteps := 4000000) -implicitDefEqProofs only [go_sem, d1, d2, Option.some.injEq, forall_eq', and_true, true_and, Bool.not_true, Bool.not_false, decide_true, Nat.reduceAdd, Nat.reduceSub, Nat.reduceLT, Nat.reduceLeDiff, Nat.reduceEqDiff, ↓reduceIte]
    exact wk_bool rfl
  have d2 := decide_eq_false (Int.not_lt.2 h2)
  rcases Int.lt_or_le i l.length with h4 | h4
  case inr =>
    have d4 : decide ((l.length : Int) ≤ i) = true := by simpa using h4
    simp (maxSteps := 4000000) -implicitDefEqProofs only [go_sem, d1, d2, d4, Option.some.injEq, forall_eq', and_true, true_and, Bool.not_true, Bool.not_false, decide_true, Nat.reduceAdd, Nat.reduceSub, Nat.reduceLT, Nat.reduceLeDiff, Nat.reduceEqDiff, ↓reduceIte]
    exact wk_bool rfl
  have d4 : decide ((l.length : Int) ≤ i) = false := by simpa using h4
  obtain ⟨i, rfl⟩ : ∃ n : Nat, i = n := ⟨i.toNat, by omega⟩
  have g := good_of h1
  have hl8 := g.ok.len
  have hcl := g.len
  obtain ⟨x, hx⟩ : ∃ x, l[i]? = some x := ⟨l[i]'(by omega), List.getElem?_eq_getElem _⟩
  obtain ⟨c, hci⟩ : ∃ x, cs[i]? = some x := ⟨cs[i]'(by omega), List.getElem?_eq_getElem _⟩
  have hgc := g.cnt c (List.mem_of_getElem? hci)
  have n1 : (0 ≤ (i : Int) ∧ (i : Int) < l.length) = True := eq_true (by omega)
  have n2 : (0 ≤ (i : Int) ∧ (i : Int) < cs.length) = True := eq_true (by omega)
  have n3 : (i < cs.length) = True := eq_true (by omega)
  have w1 : IntKind.i64.wrap (c + 1) = c + 1 := i64_in _ (by omega)
  simp (maxSteps := 4000000) -implicitDefEqProofs only [go_sem, d1, d2, d4, Option.some.injEq, forall_eq', and_true, true_and, Bool.not_true, Bool.not_false, decide_true, Nat.reduceAdd, Nat.reduceSub, Nat.reduceLT, Nat.reduceLeDiff, Nat.reduceEqDiff, ↓reduceIte]
  refine ⟨by omega, ⟨by omega, by omega⟩, ?_⟩
  simp (maxSteps := 4000000) -implicitDefEqProofs only [go_sem, n2, n3, hci, w1, Option.some.injEq, forall_eq', and_true, true_and, Bool.not_true, Bool.not_false, decide_true, Nat.reduceAdd, Nat.reduceSub, Nat.reduceLT, Nat.reduceLeDiff, Nat.reduceEqDiff, ↓reduceIte]
  have em : (cs.map iD).set i [D.int .i64 (c + 1)] = (cs.set i (c + 1)).map iD := by rw [List.map_set]; rfl
  rw [em]
  obtain ⟨more, hmore⟩ : ∃ m, m = cs.set i (c + 1) := ⟨_, rfl⟩
  rw [← hmore]
  have hml : more.length = cs.length := by rw [hmore, List.length_set]
  have hmi : more[i]? = some (c + 1) := by rw [hmore, List.getElem?_set_self (by omega)]
  have n4 : (0 ≤ (i : Int) ∧ (i : Int) < more.length) = True := eq_true (by omega)
  have n5 : (i < more.length) = True := eq_true (by omega)
  obtain ⟨v, hv⟩ := good_view g (some_lt hx)
  have hvl := fit_len g.ok g.fit hx hci hv
  have hgx := g.ok.good _ _ hx
  have z0 : ((0 : Int) != 0) = false := rfl
  have z1 : ((0 : Int) == 0) = true := rfl
  have vx := View_own l cs x.name hl hc
  rw [viewR_at' h1 hx hv] at vx
  obtain ⟨y, hy⟩ : ∃ y : Br, y = ⟨sNew, x.name, at'⟩ := ⟨_, rfl⟩
  have hyn : y.name = sNew := by rw [hy]
  have hyf : y.frm = x.name := by rw [hy]
  have hya : y.at' = at' := by rw [hy]
  have hR : cutR l cs x.name sNew at' = if at' < 0 ∨ (v.length : Int) < at' then ([], 2) else if check (l ++ [y]) ≠ 0 then ([], check (l ++ [y])) else (l ++ [y], 0) := by
    rw [hy]
    unfold cutR
    rw [viewR_at' h1 hx hv]
    rfl
  have hcut := cut_own l cs x.name sNew at' hl hc
  refine eloop (S := Nat) (fun k => mkE 196 [(0, .d (.sl (l.map bD))), (1, .d (.sl (cs.map iD))), (2, .d (.int .i64 i)), (3, .d (.int .i64 at')), (9, .d (.bool true)), (10, .d (.sl (more.map iD))), (11, .d (.int .i64 k))]) (fun k => []) (fun k => k ≤ l.length) (fun k => l.length - k) 0 (Nat.zero_le _) ?_ ?_
  · refine Wk.trans (Wk.frz 1 rfl) ?_
    simp (maxSteps := 4000000) -implicitDefEqProofs only [go_sem, Nat.reduceAdd, Nat.reduceSub, Nat.reduceLT, Nat.reduceLeDiff, Nat.reduceEqDiff, ↓reduceIte]
    exact (Wk.forget (by (simp -implicitDefEqProofs only [go_sem]) <;> trivial) (by simp -implicitDefEqProofs only [go_sem]))
  intro k hk
  rcases Nat.lt_or_ge k l.length with q | q
  · have f1 : decide ((k : Int) < l.length) = true := by simp; omega
    rcases Int.lt_or_le 40 (c + 1) with q2 | q2
    · have f2 : decide (c + 1 ≤ 40) = false := by simp; omega
      simp (maxSteps := 4000000) -implicitDefEqProofs only [go_sem, f1, n4, n5, hmi, f2, n1, hx, Option.some.injEq, forall_eq', and_true, true_and, Bool.not_true, Bool.not_false, decide_true, Nat.reduceAdd, Nat.reduceSub, Nat.reduceLT, Nat.reduceLeDiff, Nat.reduceEqDiff, ↓reduceIte]
      refine ecallN _ _ vx (by simp -implicitDefEqProofs only [go_sem]) ?_
      simp (maxSteps := 4000000) -implicitDefEqProofs only [go_sem, n1, hx, Option.some.injEq, forall_eq', and_true, true_and, Bool.not_true, Bool.not_false, decide_true, Nat.reduceAdd, Nat.reduceSub, Nat.reduceLT, Nat.reduceLeDiff, Nat.reduceEqDiff, ↓reduceIte]
      refine ECall.frz 0 rfl ?_
      simp (maxSteps := 4000000) -implicitDefEqProofs only [go_sem, Nat.reduceAdd, Nat.reduceSub, Nat.reduceLT, Nat.reduceLeDiff, Nat.reduceEqDiff, ↓reduceIte]
      refine ecall0 _ hcut (by simp -implicitDefEqProofs only [go_sem]) (by simp -implicitDefEqProofs only [go_sem]) ?_
      rw [hR]
      clear hcut hR vx
      by_cases hl88 : l.length = 8
      · have e1 : ((l.length : Int) == 8) = true := by simp [hl88]
        by_cases hok : at' < 0 ∨ (v.length : Int) < at'
        · rw [if_pos hok]
          have e2 : ((2 : Int) != 0) = true := rfl
          simp (maxSteps := 4000000) -implicitDefEqProofs only [go_sem, e2, e1, Option.some.injEq, forall_eq', and_true, true_and, Bool.not_true, Bool.not_false, decide_true, Nat.reduceAdd, Nat.reduceSub, Nat.reduceLT, Nat.reduceLeDiff, Nat.reduceEqDiff, ↓reduceIte]
          exact wk_bool rfl
        · rw [if_neg hok]
          have hck : check (l ++ [y]) = 4 := by
            simp -implicitDefEqProofs only [check]; rw [if_pos (by simp; omega)]
          rw [if_pos (by omega), hck]
          have e2 : ((4 : Int) != 0) = true := rfl
          simp (maxSteps := 4000000) -implicitDefEqProofs only [go_sem, e2, e1, Option.some.injEq, forall_eq', and_true, true_and, Bool.not_true, Bool.not_false, decide_true, Nat.reduceAdd, Nat.reduceSub, Nat.reduceLT, Nat.reduceLeDiff, Nat.reduceEqDiff, ↓reduceIte]
          exact wk_bool rfl
      have e1 : ((l.length : Int) == 8) = false := by simp; omega
      rcases Int.lt_or_le at' 0 with r1 | r1
      · rw [if_pos (.inl r1)]
        have e2 : ((2 : Int) != 0) = true := rfl
        have e3 := decide_eq_true r1
        simp (maxSteps := 4000000) -implicitDefEqProofs only [go_sem, e2, e1, e3, Option.some.injEq, forall_eq', and_true, true_and, Bool.not_true, Bool.not_false, decide_true, Nat.reduceAdd, Nat.reduceSub, Nat.reduceLT, Nat.reduceLeDiff, Nat.reduceEqDiff, ↓reduceIte]
        exact wk_bool rfl
      have e3 := decide_eq_false (Int.not_lt.2 r1)
      rcases Int.lt_or_le (v.length : Int) at' with r2 | r2
      · rw [if_pos (.inr r2)]
        have e2 : ((2 : Int) != 0) = true := rfl
        have e4 := decide_eq_true r2
        simp (maxSteps := 4000000) -implicitDefEqProofs only [go_sem, e2, e1, e3, e4, Option.some.injEq, forall_eq', and_true, true_and, Bool.not_true, Bool.not_false, decide_true, Nat.reduceAdd, Nat.reduceSub, Nat.reduceLT, Nat.reduceLeDiff, Nat.reduceEqDiff, ↓reduceIte]
        exact wk_bool rfl
      have e4 := decide_eq_false (Int.not_lt.2 r2)
      rw [if_neg (by omega)]
      by_cases hck : check (l ++ [y]) = 0
      · rw [if_neg (by omega)]
        have e5 : (((l ++ [y]).length : Int) != (l.length : Int) + 1) = false := by simp
        have w9 : IntKind.i64.wrap ((l.length : Int) + 1) = l.length + 1 := i64_in _ (by omega)
        have sees := cut_fits g hck (by rw [hyf]; exact g.ok.name i x hx) hv ⟨by omega, by omega⟩
        have htl : (l ++ [y]).length ≤ 9 := by rw [List.length_append]; simp; omega
        have vt := View_own (l ++ [y]) (cs ++ [0]) sNew (by unfold Sm; omega) (by unfold Sm; rw [List.length_append]; simp; omega)
        rw [← hyn, sees, hya] at vt
        rw [hyn] at vt
        have e6 : decide (0 ≤ at') = true := by simpa using r1
        have e7 : decide (at' ≤ (v.length : Int)) = true := by simpa using r2
        have ea : cs.map iD ++ [[D.int .i64 0]] = (cs ++ [0]).map iD := by simp [iD]
        have sm := sameMarks_ref (v.take at'.toNat) (v.take at'.toNat) (by unfold Sm; rw [List.length_take]; omega)
        generalize l ++ [y] = t at *
        simp (maxSteps := 4000000) -implicitDefEqProofs only [go_sem, z0, w9, e5, Option.some.injEq, forall_eq', and_true, true_and, Bool.not_true, Bool.not_false, decide_true, Nat.reduceAdd, Nat.reduceSub, Nat.reduceLT, Nat.reduceLeDiff, Nat.reduceEqDiff, ↓reduceIte]
        refine ⟨⟨by omega, by omega⟩, ⟨by simp, by omega, by omega⟩, ?_⟩
        rw [ea]
        refine ECall.frz 4 rfl ?_
        simp (maxSteps := 4000000) -implicitDefEqProofs only [go_sem, Nat.reduceAdd, Nat.reduceSub, Nat.reduceLT, Nat.reduceLeDiff, Nat.reduceEqDiff, ↓reduceIte]
        refine ecallN _ _ vt (by simp -implicitDefEqProofs only [go_sem]) ?_
        simp (maxSteps := 4000000) -implicitDefEqProofs only [go_sem, z0, z1, e6, e7, Option.some.injEq, forall_eq', and_true, true_and, Bool.not_true, Bool.not_false, decide_true, Nat.reduceAdd, Nat.reduceSub, Nat.reduceLT, Nat.reduceLeDiff, Nat.reduceEqDiff, ↓reduceIte]
        refine ⟨⟨by omega, by omega, by omega⟩, ?_⟩
        refine ECall.frz 5 rfl ?_
        simp (maxSteps := 4000000) -implicitDefEqProofs only [go_sem, Nat.reduceAdd, Nat.reduceSub, Nat.reduceLT, Nat.reduceLeDiff, Nat.reduceEqDiff, ↓reduceIte]
        refine ecall0 _ sm (by simp -implicitDefEqProofs only [go_sem]) (by simp -implicitDefEqProofs only [go_sem]) ?_
        simp (maxSteps := 4000000) -implicitDefEqProofs only [go_sem, Nat.reduceAdd, Nat.reduceSub, Nat.reduceLT, Nat.reduceLeDiff, Nat.reduceEqDiff, ↓reduceIte]
        exact wk_bool rfl
      · rw [if_pos hck]
        have e2 : (check (l ++ [y]) != 0) = true := by simp [hck]
        have e8 : decide (0 ≤ idx (has sNew) l) = true := by
          by_cases h : 0 ≤ idx (has sNew) l
          · exact decide_eq_true h
          · exfalso
            refine hck (check_more g.chk hl88 (by rw [hyn]; exact sNew_name) (by rw [hya]; have := view_bound g i v hv; omega) (by rw [hyn]; omega) (by rw [hyf, g.ok.name i x hx]; omega))
        simp (maxSteps := 4000000) -implicitDefEqProofs only [go_sem, e2, e1, e3, e4, Option.some.injEq, forall_eq', and_true, true_and, Bool.not_true, Bool.not_false, decide_true, Nat.reduceAdd, Nat.reduceSub, Nat.reduceLT, Nat.reduceLeDiff, Nat.reduceEqDiff, ↓reduceIte]
        refine ecall0 _ (index_ref l sNew hl) (by simp -implicitDefEqProofs only [go_sem]) (by simp -implicitDefEqProofs only [go_sem]) ?_
        simp (maxSteps := 4000000) -implicitDefEqProofs only [go_sem, e8, Option.some.injEq, forall_eq', and_true, true_and, Bool.not_true, Bool.not_false, decide_true, Nat.reduceAdd, Nat.reduceSub, Nat.reduceLT, Nat.reduceLeDiff, Nat.reduceEqDiff, ↓reduceIte]
        exact wk_bool rfl
    · have f2 : decide (c + 1 ≤ 40) = true := by simp; omega
      obtain ⟨mf, mv⟩ := more_fits g hci q2
      rw [← hmore] at mf mv
      obtain ⟨z, hz⟩ : ∃ x, l[k]? = some x := ⟨l[k]'(by omega), List.getElem?_eq_getElem _⟩
      obtain ⟨ck, hck⟩ : ∃ x, cs[k]? = some x := ⟨cs[k]'(by omega), List.getElem?_eq_getElem _⟩
      obtain ⟨u, hu⟩ := good_view g q
      have hul := fit_len g.ok g.fit hz hck hu
      have hgz := g.ok.good _ _ hz
      have hgk := g.cnt ck (List.mem_of_getElem? hck)
      have hW := mv k u hu
      have va := View_own l cs z.name hl hc
      rw [viewR_at' h1 hz hu] at va
      have vb := View_own l more z.name hl (by unfold Sm at hc ⊢; omega)
      rw [viewR_at' mf hz hW] at vb
      have m1 : (0 ≤ (k : Int) ∧ (k : Int) < l.length) = True := eq_true (by omega)
      have w2 : IntKind.i64.wrap ((k : Int) + 1) = k + 1 := i64_in _ (by omega)
      have e9 : decide (True) = true := rfl
      by_cases hki : k = i
      · have f3 : ((k : Int) == i) = true := by simp [hki]
        rw [if_pos hki] at vb
        have eu : u.map mkD ++ [[D.int .i64 i, D.int .i64 c]] = (u ++ [(⟨i, c⟩ : Mk)]).map mkD := by simp [mkD]
        have sm := sameMarks_ref (u ++ [(⟨i, c⟩ : Mk)]) (u ++ [(⟨i, c⟩ : Mk)]) (by unfold Sm; rw [List.length_append]; simp; omega)
        simp (maxSteps := 4000000) -implicitDefEqProofs only [go_sem, f1, n4, n5, hmi, f2, m1, hz, Option.some.injEq, forall_eq', and_true, true_and, Bool.not_true, Bool.not_false, decide_true, Nat.reduceAdd, Nat.reduceSub, Nat.reduceLT, Nat.reduceLeDiff, Nat.reduceEqDiff, ↓reduceIte]
        refine ecallN _ _ va (by simp -implicitDefEqProofs only [go_sem]) ?_
        simp (maxSteps := 4000000) -implicitDefEqProofs only [go_sem, m1, hz, Option.some.injEq, forall_eq', and_true, true_and, Bool.not_true, Bool.not_false, decide_true, Nat.reduceAdd, Nat.reduceSub, Nat.reduceLT, Nat.reduceLeDiff, Nat.reduceEqDiff, ↓reduceIte]
        refine ecallN _ _ vb (by simp -implicitDefEqProofs only [go_sem]) ?_
        simp (maxSteps := 4000000) -implicitDefEqProofs only [go_sem, z0, f3, n2, n3, hci, Option.some.injEq, forall_eq', and_true, true_and, Bool.not_true, Bool.not_false, decide_true, Nat.reduceAdd, Nat.reduceSub, Nat.reduceLT, Nat.reduceLeDiff, Nat.reduceEqDiff, ↓reduceIte]
        refine ⟨by omega, ⟨by simp, by omega, by omega⟩, ?_⟩
        rw [eu]
        refine ECall.frz 3 rfl ?_
        simp (maxSteps := 4000000) -implicitDefEqProofs only [go_sem, Nat.reduceAdd, Nat.reduceSub, Nat.reduceLT, Nat.reduceLeDiff, Nat.reduceEqDiff, ↓reduceIte]
        refine ECall.frz 1 rfl ?_
        simp -implicitDefEqProofs only [go_sem] at sm
        simp (maxSteps := 4000000) -implicitDefEqProofs only [go_sem, Nat.reduceAdd, Nat.reduceSub, Nat.reduceLT, Nat.reduceLeDiff, Nat.reduceEqDiff, ↓reduceIte]
        refine ecall0 _ sm (by simp -implicitDefEqProofs only [go_sem]) (by simp -implicitDefEqProofs only [go_sem]) ?_
        simp (maxSteps := 4000000) -implicitDefEqProofs only [go_sem, w2, Option.some.injEq, forall_eq', and_true, true_and, Bool.not_true, Bool.not_false, decide_true, Nat.reduceAdd, Nat.reduceSub, Nat.reduceLT, Nat.reduceLeDiff, Nat.reduceEqDiff, ↓reduceIte]
        exact .mk (k + 1) q (by omega) (Wk.forget (by (simp -implicitDefEqProofs only [go_sem]) <;> trivial) (by simp -implicitDefEqProofs only [go_sem]))
      · have f3 : ((k : Int) == i) = false := by simp; omega
        rw [if_neg hki] at vb
        have sm := sameMarks_ref u u (by unfold Sm; omega)
        simp (maxSteps := 4000000) -implicitDefEqProofs only [go_sem, f1, n4, n5, hmi, f2, m1, hz, Option.some.injEq, forall_eq', and_true, true_and, Bool.not_true, Bool.not_false, decide_true, Nat.reduceAdd, Nat.reduceSub, Nat.reduceLT, Nat.reduceLeDiff, Nat.reduceEqDiff, ↓reduceIte]
        refine ecallN _ _ va (by simp -implicitDefEqProofs only [go_sem]) ?_
        simp (maxSteps := 4000000) -implicitDefEqProofs only [go_sem, m1, hz, Option.some.injEq, forall_eq', and_true, true_and, Bool.not_true, Bool.not_false, decide_true, Nat.reduceAdd, Nat.reduceSub, Nat.reduceLT, Nat.reduceLeDiff, Nat.reduceEqDiff, ↓reduceIte]
        refine ecallN _ _ vb (by simp -implicitDefEqProofs only [go_sem]) ?_
        simp (maxSteps := 4000000) -implicitDefEqProofs only [go_sem, z0, f3, Option.some.injEq, forall_eq', and_true, true_and, Bool.not_true, Bool.not_false, decide_true, Nat.reduceAdd, Nat.reduceSub, Nat.reduceLT, Nat.reduceLeDiff, Nat.reduceEqDiff, ↓reduceIte]
        refine ECall.frz 0 rfl ?_
        simp (maxSteps := 4000000) -implicitDefEqProofs only [go_sem, Nat.reduceAdd, Nat.reduceSub, Nat.reduceLT, Nat.reduceLeDiff, Nat.reduceEqDiff, ↓reduceIte]
        refine ECall.frz 1 rfl ?_
        simp (maxSteps := 4000000) -implicitDefEqProofs only [go_sem, Nat.reduceAdd, Nat.reduceSub, Nat.reduceLT, Nat.reduceLeDiff, Nat.reduceEqDiff, ↓reduceIte]
        refine ecall0 _ sm (by simp -implicitDefEqProofs only [go_sem]) (by simp -implicitDefEqProofs only [go_sem]) ?_
        simp (maxSteps := 4000000) -implicitDefEqProofs only [go_sem, w2, Option.some.injEq, forall_eq', and_true, true_and, Bool.not_true, Bool.not_false, decide_true, Nat.reduceAdd, Nat.reduceSub, Nat.reduceLT, Nat.reduceLeDiff, Nat.reduceEqDiff, ↓reduceIte]
        exact .mk (k + 1) q (by omega) (Wk.forget (by (simp -implicitDefEqProofs only [go_sem]) <;> trivial) (by simp -implicitDefEqProofs only [go_sem]))
  · have f1 : decide ((k : Int) < l.length) = false := by simp; omega
    simp (maxSteps := 4000000) -implicitDefEqProofs only [go_sem, f1, n1, hx, Option.some.injEq, forall_eq', and_true, true_and, Bool.not_true, Bool.not_false, decide_true, Nat.reduceAdd, Nat.reduceSub, Nat.reduceLT, Nat.reduceLeDiff, Nat.reduceEqDiff, ↓reduceIte]
    refine ecallN _ _ vx (by simp -implicitDefEqProofs only [go_sem]) ?_
    simp (maxSteps := 4000000) -implicitDefEqProofs only [go_sem, n1, hx, Option.some.injEq, forall_eq', and_true, true_and, Bool.not_true, Bool.not_false, decide_true, Nat.reduceAdd, Nat.reduceSub, Nat.reduceLT, Nat.reduceLeDiff, Nat.reduceEqDiff, ↓reduceIte]
    refine ECall.frz 0 rfl ?_
    simp (maxSteps := 4000000) -implicitDefEqProofs only [go_sem, Nat.reduceAdd, Nat.reduceSub, Nat.reduceLT, Nat.reduceLeDiff, Nat.reduceEqDiff, ↓reduceIte]
    refine ecall0 _ hcut (by simp -implicitDefEqProofs only [go_sem]) (by simp -implicitDefEqProofs only [go_sem]) ?_
    rw [hR]
    clear hcut hR vx
    by_cases hl88 : l.length = 8
    · have e1 : ((l.length : Int) == 8) = true := by simp [hl88]
      by_cases hok : at' < 0 ∨ (v.length : Int) < at'
      · rw [if_pos hok]
        have e2 : ((2 : Int) != 0) = true := rfl
        simp (maxSteps := 4000000) -implicitDefEqProofs only [go_sem, e2, e1, Option.some.injEq, forall_eq', and_true, true_and, Bool.not_true, Bool.not_false, decide_true, Nat.reduceAdd, Nat.reduceSub, Nat.reduceLT, Nat.reduceLeDiff, Nat.reduceEqDiff, ↓reduceIte]
        exact wk_bool rfl
      · rw [if_neg hok]
        have hck : check (l ++ [y]) = 4 := by
          simp -implicitDefEqProofs only [check]; rw [if_pos (by simp; omega)]
        rw [if_pos (by omega), hck]
        have e2 : ((4 : Int) != 0) = true := rfl
        simp (maxSteps := 4000000) -implicitDefEqProofs only [go_sem, e2, e1, Option.some.injEq, forall_eq', and_true, true_and, Bool.not_true, Bool.not_false, decide_true, Nat.reduceAdd, Nat.reduceSub, Nat.reduceLT, Nat.reduceLeDiff, Nat.reduceEqDiff, ↓reduceIte]
        exact wk_bool rfl
    have e1 : ((l.length : Int) == 8) = false := by simp; omega
    rcases Int.lt_or_le at' 0 with r1 | r1
    · rw [if_pos (.inl r1)]
      have e2 : ((2 : Int) != 0) = true := rfl
      have e3 := decide_eq_true r1
      simp (maxSteps := 4000000) -implicitDefEqProofs only [go_sem, e2, e1, e3, Option.some.injEq, forall_eq', and_true, true_and, Bool.not_true, Bool.not_false, decide_true, Nat.reduceAdd, Nat.reduceSub, Nat.reduceLT, Nat.reduceLeDiff, Nat.reduceEqDiff, ↓reduceIte]
      exact wk_bool rfl
    have e3 := decide_eq_false (Int.not_lt.2 r1)
    rcases Int.lt_or_le (v.length : Int) at' with r2 | r2
    · rw [if_pos (.inr r2)]
      have e2 : ((2 : Int) != 0) = true := rfl
      have e4 := decide_eq_true r2
      simp (maxSteps := 4000000) -implicitDefEqProofs only [go_sem, e2, e1, e3, e4, Option.some.injEq, forall_eq', and_true, true_and, Bool.not_true, Bool.not_false, decide_true, Nat.reduceAdd, Nat.reduceSub, Nat.reduceLT, Nat.reduceLeDiff, Nat.reduceEqDiff, ↓reduceIte]
      exact wk_bool rfl
    have e4 := decide_eq_false (Int.not_lt.2 r2)
    rw [if_neg (by omega)]
    by_cases hck : check (l ++ [y]) = 0
    · rw [if_neg (by omega)]
      have e5 : (((l ++ [y]).length : Int) != (l.length : Int) + 1) = false := by simp
      have w9 : IntKind.i64.wrap ((l.length : Int) + 1) = l.length + 1 := i64_in _ (by omega)
      have sees := cut_fits g hck (by rw [hyf]; exact g.ok.name i x hx) hv ⟨by omega, by omega⟩
      have htl : (l ++ [y]).length ≤ 9 := by rw [List.length_append]; simp; omega
      have vt := View_own (l ++ [y]) (cs ++ [0]) sNew (by unfold Sm; omega) (by unfold Sm; rw [List.length_append]; simp; omega)
      rw [← hyn, sees, hya] at vt
      rw [hyn] at vt
      have e6 : decide (0 ≤ at') = true := by simpa using r1
      have e7 : decide (at' ≤ (v.length : Int)) = true := by simpa using r2
      have ea : cs.map iD ++ [[D.int .i64 0]] = (cs ++ [0]).map iD := by simp [iD]
      have sm := sameMarks_ref (v.take at'.toNat) (v.take at'.toNat) (by unfold Sm; rw [List.length_take]; omega)
      generalize l ++ [y] = t at *
      simp (maxSteps := 4000000) -implicitDefEqProofs only [go_sem, z0, w9, e5, Option.some.injEq, forall_eq', and_true, true_and, Bool.not_true, Bool.not_false, decide_true, Nat.reduceAdd, Nat.reduceSub, Nat.reduceLT, Nat.reduceLeDiff, Nat.reduceEqDiff, ↓reduceIte]
      refine ⟨⟨by omega, by omega⟩, ⟨by simp, by omega, by omega⟩, ?_⟩
      rw [ea]
      refine ECall.frz 4 rfl ?_
      simp (maxSteps := 4000000) -implicitDefEqProofs only [go_sem, Nat.reduceAdd, Nat.reduceSub, Nat.reduceLT, Nat.reduceLeDiff, Nat.reduceEqDiff, ↓reduceIte]
      refine ecallN _ _ vt (by simp -implicitDefEqProofs only [go_sem]) ?_
      simp (maxSteps := 4000000) -implicitDefEqProofs only [go_sem, z0, z1, e6, e7, Option.some.injEq, forall_eq', and_true, true_and, Bool.not_true, Bool.not_false, decide_true, Nat.reduceAdd, Nat.reduceSub, Nat.reduceLT, Nat.reduceLeDiff, Nat.reduceEqDiff, ↓reduceIte]
      refine ⟨⟨by omega, by omega, by omega⟩, ?_⟩
      refine ECall.frz 5 rfl ?_
      simp (maxSteps := 4000000) -implicitDefEqProofs only [go_sem, Nat.reduceAdd, Nat.reduceSub, Nat.reduceLT, Nat.reduceLeDiff, Nat.reduceEqDiff, ↓reduceIte]
      refine ecall0 _ sm (by simp -implicitDefEqProofs only [go_sem]) (by simp -implicitDefEqProofs only [go_sem]) ?_
      simp (maxSteps := 4000000) -implicitDefEqProofs only [go_sem, Nat.reduceAdd, Nat.reduceSub, Nat.reduceLT, Nat.reduceLeDiff, Nat.reduceEqDiff, ↓reduceIte]
      exact wk_bool rfl
    · rw [if_pos hck]
      have e2 : (check (l ++ [y]) != 0) = true := by simp [hck]
      have e8 : decide (0 ≤ idx (has sNew) l) = true := by
        by_cases h : 0 ≤ idx (has sNew) l
        · exact decide_eq_true h
        · exfalso
          refine hck (check_more g.chk hl88 (by rw [hyn]; exact sNew_name) (by rw [hya]; have := view_bound g i v hv; omega) (by rw [hyn]; omega) (by rw [hyf, g.ok.name i x hx]; omega))
      simp (maxSteps := 4000000) -implicitDefEqProofs only [go_sem, e2, e1, e3, e4, Option.some.injEq, forall_eq', and_true, true_and, Bool.not_true, Bool.not_false, decide_true, Nat.reduceAdd, Nat.reduceSub, Nat.reduceLT, Nat.reduceLeDiff, Nat.reduceEqDiff, ↓reduceIte]
      refine ecall0 _ (index_ref l sNew hl) (by simp -implicitDefEqProofs only [go_sem]) (by simp -implicitDefEqProofs only [go_sem]) ?_
      simp (maxSteps := 4000000) -implicitDefEqProofs only [go_sem, e8, Option.some.injEq, forall_eq', and_true, true_and, Bool.not_true, Bool.not_false, decide_true, Nat.reduceAdd, Nat.reduceSub, Nat.reduceLT, Nat.reduceLeDiff, Nat.reduceEqDiff, ↓reduceIte]
      exact wk_bool rfl

end Go.AX.Br
namespace Go.Proofs.Ytebkafjebnjcoaa
open Go.AX Go.AX.Br Go.RowKit
set_option maxRecDepth 100000 in
theorem branchGrows_lifted (os : Os) (started : os.Started) (H : Type) (enc : TypeId × Value → H) :
    ReturnsInHanded {} Try.checked os 6 .any (Rows.branchGrowsSpec.pre6 enc Try.prog Try.f6 Rows.branchGrowsRow.domain false) (Rows.branchGrowsSpec.post enc Try.prog Try.f6 false true false false) := by
  refine Go.AX.lifted (C := Try.checked) (f := 6) (fn := Try.f6) (s := Rows.branchGrowsSpec) (rt := 4) (n := 8) (by kernel_rfl) (by kernel_rfl) Try.func6 rfl ?_ rfl (by kernel_rfl) (by kernel_rfl) (by kernel_rfl) (by kernel_rfl) os started H enc
    (ChangeSpec.witness6 (enc := enc) (C := Try.checked) false ⟨#[], #[.slice none 0 0, .slice none 0 0, .int .i64 0, .int .i64 0], []⟩ 8 (by kernel_rfl) (by kernel_rfl) (by kernel_rfl) (by kernel_rfl)) ?_
  · intro H ds h
    match ds, h with
    | [a0, a1, a2, a3], _ => rfl
  · intro xs hx
    have hp : Try.f6.params.toList = [22, 23, 3, 3] := rfl
    rw [hp] at hx ⊢
    have i0 : isA Try.prog 22 = false := by kernel_rfl
    have i1 : isA Try.prog 23 = false := by kernel_rfl
    have i2 : isA Try.prog 3 = false := by kernel_rfl
    have i3 : isA Try.prog 3 = false := by kernel_rfl
    rcases xs with _ | ⟨d0, _ | ⟨d1, _ | ⟨d2, _ | ⟨d3, _ | ⟨d4, xs⟩⟩⟩⟩⟩ <;> simp only [Tyds, and_false] at hx
    obtain ⟨k0, k1, k2, k3, _⟩ := hx
    obtain ⟨l, rfl, hl, wl⟩ := branches_of k0
    obtain ⟨cs, rfl, hcs, wcs⟩ := ints_of k1
    obtain ⟨i, rfl, hi⟩ := int_of k2
    obtain ⟨a, rfl, ha⟩ := int_of k3
    simp only [avs, i0, i1, i2, i3, dv, Bool.false_eq_true, if_false, if_true, List.headD_cons, List.map_cons, List.map_nil]
    exact grows_law l cs i a hl hcs
theorem branchGrows_over : Rows.branchGrowsRow.holds Try.pinned (OpenSpec.ofChange Rows.branchGrowsSpec) :=
  OpenClaim.holds_of_wide 6 Try.f6 rfl rfl rfl rfl rfl rfl rfl ⟨rfl, rfl, rfl, rfl, rfl⟩ rfl rfl rfl rfl rfl (by kernel_rfl) Try.func6 (by kernel_rfl)
    (of_decide_eq_true (by kernel_rfl)) (by unfold Func.isWrapper; first | (rw [if_pos (by decide +kernel)]; kernel_rfl) | (rw [if_neg (by decide +kernel)]; exact ⟨rfl, rfl⟩))
    (fun os started H enc _ => branchGrows_lifted os started H enc)
/-- The row, under a short name, for the claim. -/
theorem branchGrows_holds : Rows.BranchGrowsSaid := branchGrows_over
#print axioms branchGrows_holds
end Go.Proofs.Ytebkafjebnjcoaa

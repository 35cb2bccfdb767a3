/- The statement CodecBehind: Next reads a value whatever stands behind it, the bytes of a list are its head and those of its elements, and no first part of the bytes is read. No condition. -/
import Derived.Test.YtheliodgamcdjaaK9
import Derived.Test.YtheliodgamcdjaaRows
set_option maxHeartbeats 8000000
set_option linter.unusedVariables false
set_option linter.unusedSimpArgs false
set_option maxRecDepth 20000
namespace Go.AX.Co
open Go.Proofs Go.RowKit Go.IntWalk
/-- no first part is read -/
theorem next_cut {v : Vl} (hv : FitW v) (hB : Bytes (encP v).1) (h : (encP v).2 = 0) {n : Nat} (hn : n < (encP v).1.length) : (nextP ((encP v).1.take n)).2.2 = 12 := by
  have hr := enc_right h
  have hl : (encP v).1.length ≤ 3000 := enc_len' v
  have he : (encP v).1 = encV v := by
    rw [encP_eq, hr, if_neg (by simp)] at h ⊢
    by_cases hl : 3000 < (encV v).length
    · rw [if_pos hl] at h; cases h
    · rw [if_neg hl]
  rw [he] at hn hB hl ⊢
  unfold nextP
  by_cases hh : (valP 6 ((encV v).take n)).2.2 = true ∨ 3000 < ((encV v).take n).length - (valP 6 ((encV v).take n)).2.1.length
  · rw [if_pos hh]
  · exfalso
    have hf : (valP 6 ((encV v).take n)).2.2 = false := by simpa using fun q => hh (.inl q)
    obtain ⟨e1, e2⟩ := val_inv 6 ((encV v).take n) (fun e he => hB e (List.mem_of_mem_take he)) (by rw [List.length_take]; omega) hf
    have hfit := valP_fit 6 ((encV v).take n) (by rw [List.length_take]; omega) (fun e he => hB e (List.mem_of_mem_take he))
    generalize valP 6 ((encV v).take n) = w at e1 e2 hfit
    have e3 := List.take_append_drop n (encV v)
    rw [e1, List.append_assoc] at e3
    have v1 := val_back 6 w.1 hfit e2 (w.2.1 ++ (encV v).drop n)
    have v2 := val_back 6 v hv hr []
    rw [List.append_nil] at v2
    rw [e3, v2] at v1
    have e4 := (Prod.mk.inj (Prod.mk.inj v1).2).1
    have := congrArg List.length e4
    simp only [List.length_nil, List.length_append, List.length_drop] at this
    omega
theorem right_up : ∀ {d : Nat} {v : Vl}, rightP d v = true → rightP (d + 1) v = true
  | 0, .mk _ _ _ _, h => by cases h
  | d + 1, .mk k n b l, h => by
    rw [rightP] at h ⊢
    split at h
    · next q => rw [if_pos q]; exact h
    next q =>
    rw [if_neg q]
    split at h
    · next q => rw [if_pos q]; exact h
    next q =>
    rw [if_neg q]
    split at h
    · next q =>
      rw [if_pos q]
      simp only [Bool.and_eq_true, Bool.not_eq_true', List.any_eq_false] at h ⊢
      refine ⟨h.1, fun x hx => ?_⟩
      have := h.2 x hx
      have h2 : rightP d x = true := by simpa using this
      simp [right_up h2]
    · cases h
/-- the elements of a list -/
theorem enc_list {v : Vl} {k n : Int} {b : List Int} {l : List Vl} (hv : v = .mk k n b l) (h : (encP v).2 = 0) (hk : k = 3) (hl : l.length < 128) : (encP v).1 = 3 :: (l.length : Int) :: encL l ∧ ∀ x ∈ l, rightP 6 x = true ∧ (encV x).length ≤ 3000 := by
  have hr := enc_right h
  have hle : (encP v).1.length ≤ 3000 := enc_len' v
  have he : (encP v).1 = encV v := by
    rw [encP_eq, hr, if_neg (by simp)] at h ⊢
    by_cases hl : 3000 < (encV v).length
    · rw [if_pos hl] at h; cases h
    · rw [if_neg hl]
  rw [he] at hle ⊢
  subst hv
  have ec : codeF 10 l.length = [(l.length : Int)] := by rw [codeF, if_neg (by omega)]; congr 1; omega
  have ee : encV (.mk k n b l) = 3 :: (l.length : Int) :: encL l := by
    rw [encV, if_neg (by omega), if_neg (by omega), ec, hk]; rfl
  refine ⟨ee, fun x hx => ⟨?_, ?_⟩⟩
  · rcases right_kind hr with q | q | q
    · omega
    · omega
    · exact right_up (q.2.2.2 x hx)
  · rw [ee] at hle
    have : ∀ l : List Vl, x ∈ l → (encV x).length ≤ (encL l).length := fun l => by
      induction l with
      | nil => intro h; simp at h
      | cons y l ih =>
        intro h
        rw [encL, List.length_append]
        rcases List.mem_cons.1 h with rfl | h
        · omega
        · have := ih h; omega
    have := this l hx
    simp only [List.length_cons] at hle
    omega
theorem next_elem {x : Vl} (hx : FitW x) (h : rightP 6 x = true) (hl : (encV x).length ≤ 3000) (r : List Int) : nextP (encV x ++ r) = (x, (encV x).length, 0) := by
  have e : encP x = (encV x, 0) := by rw [encP_eq, h, if_neg (by simp), if_neg (by omega)]
  have := (dec_enc hx (by rw [e])).2 r
  rw [e] at this; exact this
theorem codecBehind (v : Vl) (o : List Int) (cut : Int) (hv : SmV v) (hb : Sm o.length) (hB : Bytes o) (hc : -9223372036854775808 ≤ cut ∧ cut ≤ 9223372036854775807) : Spec Try.prog 6 [vA v, .d (.sl (o.map bY)), .d (.int .i64 cut)] [] (.d (.bool true)) [] := by
  unfold Sm at hb
  have g1 := fit_spec v hv
  have c0 := alive_spec
  have f1 := fitP_of hv
  generalize fitP v = fv at g1 f1
  have c1 := fun (h : FitB v) => encode_own v h.fitW
  have c2 := fun (h : FitB v) => size_own v h.fitW
  have l1 := enc_len' v
  have c4 := fun (h : FitB v) => same_refl h.fitW.fitV
  have q1 := fun (h : FitB v) h' => (dec_enc h.fitW h').2 o
  have qb := fun (h : FitB v) => enc_bytes h
  have qc := fun (h : FitB v) (h' : (encP v).2 = 0) (n : Nat) => next_cut h.fitW (enc_bytes h) h' (n := n)
  have b1 : (!true) = false := rfl
  have b2 : (!false) = true := rfl
  have z0 : ((0 : Int) != 0) = false := rfl
  have z00 : ((0 : Int) == 0) = true := rfl
  have z12 : ((12 : Int) == 12) = true := rfl
  have d1 : decide (200 < (o.length : Int)) = decide (200 < o.length) := by rw [Bool.eq_iff_iff]; simp; omega
  generalize hE : encP v = E at c1 c2 l1 q1 qb qc f1
  have hEl : FitB v → E.2 = 0 → ∀ k n b l, v = .mk k n b l → k = 3 → l.length < 128 → E.1 = 3 :: (l.length : Int) :: encL l ∧ ∀ x ∈ l, FitB x ∧ rightP 6 x = true ∧ (encV x).length ≤ 3000 := fun hF h0 k n b l hvv hk hl => by
    have := enc_list hvv (by rw [hE]; exact h0) hk hl
    rw [hE] at this
    refine ⟨this.1, fun x hx => ⟨?_, this.2 x hx⟩⟩
    subst hvv
    obtain ⟨_, _, _, _, _, _, _, _, _, hx'⟩ := hF
    exact hx' x hx
  obtain ⟨vk, vn, vb, vl⟩ := v
  simp only [vA] at g1 c1 c2 c4
  refine spec_of_ev (fn := Try.f6) DX_ok 3000 Try.func6 rfl rfl (Nat.le_of_ble_eq_true rfl) ?_
  simp (maxSteps := 4000000) -implicitDefEqProofs only [Try.f6, go_sem, vA]
  refine .all _ _ (g1.lift0 _ (by simp only [go_sem]) (by simp only [go_sem])) ?_
  cases fv with
  | false =>
    simp (maxSteps := 4000000) -implicitDefEqProofs only [go_sem, b2, Option.some.injEq, forall_eq', and_true, true_and, Bool.not_true, Bool.not_false, decide_true, Nat.reduceAdd, Nat.reduceSub, Nat.reduceLT, Nat.reduceLeDiff, Nat.reduceEqDiff, ↓reduceIte]
    refine .all _ _ (c0.lift0 _ (by simp only [go_sem]) (by simp only [go_sem])) ?_
    simp (maxSteps := 4000000) -implicitDefEqProofs only [go_sem, Nat.reduceAdd, Nat.reduceSub, Nat.reduceLT, Nat.reduceLeDiff, Nat.reduceEqDiff, ↓reduceIte]
    exact wk_bool rfl
  | true =>
  have f1 := f1 rfl
  by_cases hl : 200 < o.length
  · rw [decide_eq_true hl] at d1
    simp (maxSteps := 4000000) -implicitDefEqProofs only [go_sem, b1, d1, Option.some.injEq, forall_eq', and_true, true_and, Bool.not_true, Bool.not_false, decide_true, Nat.reduceAdd, Nat.reduceSub, Nat.reduceLT, Nat.reduceLeDiff, Nat.reduceEqDiff, ↓reduceIte]
    refine .all _ _ (c0.lift0 _ (by simp only [go_sem]) (by simp only [go_sem])) ?_
    simp (maxSteps := 4000000) -implicitDefEqProofs only [go_sem, Nat.reduceAdd, Nat.reduceSub, Nat.reduceLT, Nat.reduceLeDiff, Nat.reduceEqDiff, ↓reduceIte]
    exact wk_bool rfl
  rw [decide_eq_false hl] at d1
  have c1 := c1 f1.1
  have c2 := c2 f1.1
  have c4 := c4 f1.1
  have qb := qb f1.1
  have q1 := q1 f1.1 f1.2
  have qc := qc f1.1 f1.2
  have hEl := hEl f1.1 f1.2 vk vn vb vl rfl
  have hfl := f1.1
  rw [f1.2] at c1 c2
  obtain ⟨EE, e0⟩ := E
  simp only at c1 c2 l1 q1 qb qc hEl
  have c3 := next_own (EE ++ o) (by rw [List.length_append]; omega) (fun e he => by rcases List.mem_append.1 he with he | he; exact qb e he; exact hB e he)
  rw [q1] at c3
  simp only [vA] at c3
  have hll : vl.length ≤ 900000 := by obtain ⟨_, _, _, _, _, _, _, _, hl, _⟩ := hfl; exact hl
  have nn : ∀ n : Int, (n != n) = false := fun n => by simp
  simp (maxSteps := 4000000) -implicitDefEqProofs only [go_sem, b1, d1, Option.some.injEq, forall_eq', and_true, true_and, Bool.not_true, Bool.not_false, decide_true, Nat.reduceAdd, Nat.reduceSub, Nat.reduceLT, Nat.reduceLeDiff, Nat.reduceEqDiff, ↓reduceIte]
  refine .all _ _ (c1.lift0 _ (by simp only [go_sem]) (by simp only [go_sem])) ?_
  simp (maxSteps := 4000000) -implicitDefEqProofs only [go_sem, Nat.reduceAdd, Nat.reduceSub, Nat.reduceLT, Nat.reduceLeDiff, Nat.reduceEqDiff, ↓reduceIte]
  refine .all _ _ (c2.lift0 _ (by simp only [go_sem]) (by simp only [go_sem])) ?_
  simp (maxSteps := 4000000) -implicitDefEqProofs only [go_sem, Nat.reduceAdd, Nat.reduceSub, Nat.reduceLT, Nat.reduceLeDiff, Nat.reduceEqDiff, ↓reduceIte]
  refine ⟨⟨by omega, by omega⟩, ⟨by omega, by omega⟩, ?_⟩
  refine ECall.dat (by simp only [go_sem]; rfl) (by rfl) ?_
  refine .all _ _ (c3.lift0 _ (by simp only [go_sem]) (by simp only [go_sem])) ?_
  simp (maxSteps := 4000000) -implicitDefEqProofs only [go_sem, z0, nn, Option.some.injEq, forall_eq', and_true, true_and, Bool.not_true, Bool.not_false, decide_true, Nat.reduceAdd, Nat.reduceSub, Nat.reduceLT, Nat.reduceLeDiff, Nat.reduceEqDiff, ↓reduceIte]
  refine .all _ _ (c4.lift0 _ (by simp only [go_sem]) (by simp only [go_sem])) ?_
  have hk3 : (vk == 3) = decide (vk = 3) := by rw [Bool.eq_iff_iff]; simp
  have d128 : decide ((vl.length : Int) < 128) = decide (vl.length < 128) := by rw [Bool.eq_iff_iff]; simp; omega
  have hcase : (vk = 3 ∧ vl.length < 128) ∨ (¬ vk = 3) ∨ (vk = 3 ∧ ¬ vl.length < 128) := by omega
  have dc0 : decide (cut < 0) = true ∨ (decide (cut < 0) = false ∧ decide ((EE.length : Int) ≤ cut) = true) ∨ (decide (cut < 0) = false ∧ decide ((EE.length : Int) ≤ cut) = false) := by
    cases h : decide (cut < 0)
    · cases h2 : decide ((EE.length : Int) ≤ cut)
      · exact .inr (.inr ⟨rfl, rfl⟩)
      · exact .inr (.inl ⟨rfl, rfl⟩)
    · exact .inl rfl
  apply Or.elim hcase
  case' left =>
    intro h
    have hEl := hEl h.1 h.2
    rw [decide_eq_true h.1] at hk3
    rw [decide_eq_true h.2] at d128
    simp (maxSteps := 4000000) -implicitDefEqProofs only [go_sem, b1, hk3, d128, Option.some.injEq, forall_eq', and_true, true_and, Bool.not_true, Bool.not_false, decide_true, Nat.reduceAdd, Nat.reduceSub, Nat.reduceLT, Nat.reduceLeDiff, Nat.reduceEqDiff, ↓reduceIte]
    have hEl1 : EE.length = 2 + (Co.encL vl).length := by rw [hEl.1]; simp; omega
    have hEd : EE.drop 2 = encL vl := by rw [hEl.1]; rfl
    refine eloop (S := Nat × List Int) (fun s => mkE 150 [(2, .d (.int .i64 cut)), (3, .ptr 0 0), (7, .d (.sl (EE.map bY))), (14, .d (.int .i64 ((EE.length - s.2.length : Nat) : Int))), (15, .d (.int .i64 s.1))]) (fun s => [.cells [.d (.int .u8 vk), .d (.int .i64 vn), .d (.sl (vb.map bY)), .d (.sl (vl.map vD))]])
      (fun s => s.1 ≤ vl.length ∧ s.2 = encL (vl.drop s.1) ∧ Left EE s.2) (fun s => vl.length - s.1) ((0, encL vl) : Nat × List Int) ⟨Nat.zero_le _, rfl, ⟨EE.take 2, by rw [← hEd, List.take_append_drop]⟩⟩ (by show Wk _ _ _ (mkE 150 [(2, .d (.int .i64 cut)), (3, .ptr 0 0), (7, .d (.sl (EE.map bY))), (14, .d (.int .i64 ((EE.length - (encL vl).length : Nat) : Int))), (15, .d (.int .i64 (0 : Nat)))]) _; rw [show EE.length - (encL vl).length = 2 by omega]; exact (Wk.via [0] (by (simp only [go_sem, ↓reduceIte]) <;> trivial) (by first | (simp (maxSteps := 4000000) -implicitDefEqProofs only [go_sem, Nat.reduceAdd, Nat.reduceSub, Nat.reduceLT, Nat.reduceLeDiff, Nat.reduceEqDiff, ↓reduceIte]; done) | ((simp (maxSteps := 4000000) -implicitDefEqProofs only [go_sem, Nat.reduceAdd, Nat.reduceSub, Nat.reduceLT, Nat.reduceLeDiff, Nat.reduceEqDiff, ↓reduceIte]) <;> omega)) (by simp) (by first | (simp; done) | (simp [so]; done)) (by (simp (maxSteps := 4000000) -implicitDefEqProofs only [go_sem, Nat.reduceAdd, Nat.reduceSub, Nat.reduceLT, Nat.reduceLeDiff, Nat.reduceEqDiff, ↓reduceIte]) <;> trivial) (by first | (simp only [go_sem]; done) | ((simp (maxSteps := 4000000) -implicitDefEqProofs only [go_sem, Nat.reduceAdd, Nat.reduceSub, Nat.reduceLT, Nat.reduceLeDiff, Nat.reduceEqDiff, ↓reduceIte]) <;> omega)) (Nat.zero_le _) (fun i h => absurd h (Nat.not_lt_zero i)))) ?_
    intro s hs
    obtain ⟨i, p⟩ := s
    simp only at hs ⊢
    have h1 := hs.1
    have h2 := hs.2.1
    have h3 := hs.2.2
    have h3l := h3.len
    rcases Nat.lt_or_ge i vl.length with hi | hi
    · have f1 : decide ((i : Int) < vl.length) = true := by simp; omega
      apply Exists.elim (show ∃ x, vl[i]? = some x from ⟨vl[i]'hi, List.getElem?_eq_getElem _⟩)
      intro x hxi
      have hdr : vl.drop i = x :: vl.drop (i + 1) := by rw [List.drop_eq_getElem_cons hi, (List.getElem?_eq_some_iff.1 hxi).2]
      have hx := hEl.2 x (List.mem_of_getElem? hxi)
      rw [hdr, encL] at h2
      have hpB : Bytes p := h3.bytes qb
      have hpl : p.length ≤ 3000 := by omega
      have c5 := next_own p (by omega) hpB
      have c6 := same_refl hx.1.fitW.fitV
      have hpos := encV_pos x
      have hpx : p.length = (encV x).length + (encL (vl.drop (i + 1))).length := by rw [h2, List.length_append]
      rw [h2, next_elem hx.1.fitW hx.2.1 hx.2.2, ← h2] at c5
      have n1 : (0 ≤ (i : Int) ∧ (i : Int) < vl.length) = True := eq_true (by omega)
      have n2 : (i < vl.length) = True := eq_true hi
      have w1 : IntKind.i64.wrap ((i : Int) + 1) = ((i + 1 : Nat) : Int) := by rw [i64_in _ (by omega)]; simp
      have mnv : ((EE.length : Int) < ((EE.length - p.length : Nat) : Int)) = False := eq_false (by omega)
      have hsl : (0 ≤ ((EE.length - p.length : Nat) : Int) ∧ ((EE.length - p.length : Nat) : Int) ≤ (EE.length : Int) ∧ (EE.length : Int) ≤ (EE.length : Int)) = True := eq_true (by omega)
      have hcut := left_cut h3
      have dk : decide (((encV x).length : Int) < 1) = false := by simp; omega
      have wat : IntKind.i64.wrap (((EE.length - p.length : Nat) : Int) + ((encV x).length : Int)) = ((EE.length - (encL (vl.drop (i + 1))).length : Nat) : Int) := by rw [i64_in _ (by omega)]; omega
      obtain ⟨xk, xn, xb, xl⟩ := x
      simp only [vA] at c5 c6
      simp (maxSteps := 4000000) -implicitDefEqProofs only [go_sem, f1, mnv, hsl, List.take_length, Int.toNat_natCast, hcut, Option.some.injEq, forall_eq', and_true, true_and, Bool.not_true, Bool.not_false, decide_true, Nat.reduceAdd, Nat.reduceSub, Nat.reduceLT, Nat.reduceLeDiff, Nat.reduceEqDiff, ↓reduceIte]
      refine .all _ _ (c5.lift0 _ (by simp only [go_sem]) (by simp only [go_sem])) ?_
      simp (maxSteps := 4000000) -implicitDefEqProofs only [go_sem, Nat.reduceAdd, Nat.reduceSub, Nat.reduceLT, Nat.reduceLeDiff, Nat.reduceEqDiff, ↓reduceIte]
      refine DX.plain (.take 0 false (.take 1 false (.take 2 false (.take 3 false (.take 4 false (.take 5 false (.take 6 false (.take 7 false (.take 8 false (.take 9 false (.take 10 false (.take 11 false (.take 12 false (.take 13 false (.take 14 false (.take 15 false .done)))))))))))))))) (by kernel_rfl) (by kernel_rfl) Ty.mixed ?_
      simp (maxSteps := 4000000) -implicitDefEqProofs only [go_sem, z0, dk, n1, n2, hxi, vD, vDs_eq, Option.some.injEq, forall_eq', and_true, true_and, Bool.not_true, Bool.not_false, decide_true, Nat.reduceAdd, Nat.reduceSub, Nat.reduceLT, Nat.reduceLeDiff, Nat.reduceEqDiff, ↓reduceIte]
      refine ⟨_, _, c6.lift0 _ (by simp only [go_sem]) (by simp only [go_sem]), rfl, ?_⟩
      simp (maxSteps := 4000000) -implicitDefEqProofs only [go_sem, b1, wat, w1, Option.some.injEq, forall_eq', and_true, true_and, Bool.not_true, Bool.not_false, decide_true, Nat.reduceAdd, Nat.reduceSub, Nat.reduceLT, Nat.reduceLeDiff, Nat.reduceEqDiff, ↓reduceIte]
      exact .mk ((i + 1, encL (vl.drop (i + 1))) : Nat × List Int) ⟨by show i + 1 ≤ vl.length; omega, rfl, h3.trans ⟨_, h2⟩⟩ (by show vl.length - (i + 1) < vl.length - i; omega) (Wk.via [0] (by (simp only [go_sem, ↓reduceIte]) <;> trivial) (by first | (simp (maxSteps := 4000000) -implicitDefEqProofs only [go_sem, Nat.reduceAdd, Nat.reduceSub, Nat.reduceLT, Nat.reduceLeDiff, Nat.reduceEqDiff, ↓reduceIte]; done) | ((simp (maxSteps := 4000000) -implicitDefEqProofs only [go_sem, Nat.reduceAdd, Nat.reduceSub, Nat.reduceLT, Nat.reduceLeDiff, Nat.reduceEqDiff, ↓reduceIte]) <;> omega)) (by simp) (by first | (simp; done) | (simp [so]; done)) (by (simp (maxSteps := 4000000) -implicitDefEqProofs only [go_sem, Nat.reduceAdd, Nat.reduceSub, Nat.reduceLT, Nat.reduceLeDiff, Nat.reduceEqDiff, ↓reduceIte]) <;> trivial) (by first | (simp only [go_sem]; done) | ((simp (maxSteps := 4000000) -implicitDefEqProofs only [go_sem, Nat.reduceAdd, Nat.reduceSub, Nat.reduceLT, Nat.reduceLeDiff, Nat.reduceEqDiff, ↓reduceIte]) <;> omega)) (Nat.zero_le _) (fun i h => absurd h (Nat.not_lt_zero i)))
    have hp0 : p = [] := by rw [h2, List.drop_eq_nil_of_le hi]; rfl
    have f1 : decide ((i : Int) < vl.length) = false := by simp; omega
    have hq : (((EE.length - p.length : Nat) : Int) != (EE.length : Int)) = false := by rw [hp0]; simp
    simp (maxSteps := 4000000) -implicitDefEqProofs only [go_sem, f1, hq, Option.some.injEq, forall_eq', and_true, true_and, Bool.not_true, Bool.not_false, decide_true, Nat.reduceAdd, Nat.reduceSub, Nat.reduceLT, Nat.reduceLeDiff, Nat.reduceEqDiff, ↓reduceIte]
  case' right =>
    intro hr
    apply Or.elim hr
    case' left =>
      intro h
      rw [decide_eq_false h] at hk3
      simp (maxSteps := 4000000) -implicitDefEqProofs only [go_sem, b1, hk3, Option.some.injEq, forall_eq', and_true, true_and, Bool.not_true, Bool.not_false, decide_true, Nat.reduceAdd, Nat.reduceSub, Nat.reduceLT, Nat.reduceLeDiff, Nat.reduceEqDiff, ↓reduceIte]
    case' right =>
      intro h
      rw [decide_eq_true h.1] at hk3
      rw [decide_eq_false h.2] at d128
      simp (maxSteps := 4000000) -implicitDefEqProofs only [go_sem, b1, hk3, d128, Option.some.injEq, forall_eq', and_true, true_and, Bool.not_true, Bool.not_false, decide_true, Nat.reduceAdd, Nat.reduceSub, Nat.reduceLT, Nat.reduceLeDiff, Nat.reduceEqDiff, ↓reduceIte]
  all_goals
    apply Or.elim dc0
    case' left =>
      intro h
      simp (maxSteps := 4000000) -implicitDefEqProofs only [go_sem, h, Option.some.injEq, forall_eq', and_true, true_and, Bool.not_true, Bool.not_false, decide_true, Nat.reduceAdd, Nat.reduceSub, Nat.reduceLT, Nat.reduceLeDiff, Nat.reduceEqDiff, ↓reduceIte]
      refine .all _ _ (c0.lift0 _ (by simp only [go_sem]) (by simp only [go_sem])) ?_
      simp (maxSteps := 4000000) -implicitDefEqProofs only [go_sem, Nat.reduceAdd, Nat.reduceSub, Nat.reduceLT, Nat.reduceLeDiff, Nat.reduceEqDiff, ↓reduceIte]
      exact wk_bool rfl
    intro h
    apply Or.elim h
    case' left =>
      intro h
      have h1 := h.1
      have h2 := h.2
      simp (maxSteps := 4000000) -implicitDefEqProofs only [go_sem, h1, h2, Option.some.injEq, forall_eq', and_true, true_and, Bool.not_true, Bool.not_false, decide_true, Nat.reduceAdd, Nat.reduceSub, Nat.reduceLT, Nat.reduceLeDiff, Nat.reduceEqDiff, ↓reduceIte]
      refine .all _ _ (c0.lift0 _ (by simp only [go_sem]) (by simp only [go_sem])) ?_
      simp (maxSteps := 4000000) -implicitDefEqProofs only [go_sem, Nat.reduceAdd, Nat.reduceSub, Nat.reduceLT, Nat.reduceLeDiff, Nat.reduceEqDiff, ↓reduceIte]
      exact wk_bool rfl
    intro h
    have h1 := h.1
    have h2 := h.2
    have g1 := of_decide_eq_false h1
    have g2 := of_decide_eq_false h2
    have hsl : (0 ≤ cut ∧ cut ≤ (EE.length : Int)) = True := eq_true (by omega)
    have hcut12 := qc cut.toNat (by omega)
    have c7 := next_own (EE.take cut.toNat) (by rw [List.length_take]; omega) (fun e he => qb e (List.mem_of_mem_take he))
    generalize nextP (EE.take cut.toNat) = w at c7 hcut12
    obtain ⟨⟨wk, wn, wb, wl⟩, wm, we⟩ := w
    simp only [vA] at c7
    simp (maxSteps := 4000000) -implicitDefEqProofs only [go_sem, h1, h2, Option.some.injEq, forall_eq', and_true, true_and, Bool.not_true, Bool.not_false, decide_true, Nat.reduceAdd, Nat.reduceSub, Nat.reduceLT, Nat.reduceLeDiff, Nat.reduceEqDiff, ↓reduceIte]
    refine ⟨by omega, ?_⟩
    refine .all _ _ (c7.lift0 _ (by simp only [go_sem]) (by simp only [go_sem])) ?_
    have hwe : we = 12 := hcut12
    rw [hwe]
    simp (maxSteps := 4000000) -implicitDefEqProofs only [go_sem, z12, Option.some.injEq, forall_eq', and_true, true_and, Bool.not_true, Bool.not_false, decide_true, Nat.reduceAdd, Nat.reduceSub, Nat.reduceLT, Nat.reduceLeDiff, Nat.reduceEqDiff, ↓reduceIte]
    refine .all _ _ (c0.lift0 _ (by simp only [go_sem]) (by simp only [go_sem])) ?_
    simp (maxSteps := 4000000) -implicitDefEqProofs only [go_sem, Nat.reduceAdd, Nat.reduceSub, Nat.reduceLT, Nat.reduceLeDiff, Nat.reduceEqDiff, ↓reduceIte]
    exact wk_bool rfl
end Go.AX.Co
namespace Go.Proofs.Ytheliodgamcdjaa
open Go.AX Go.AX.Co Go.RowKit
set_option maxRecDepth 100000 in
theorem codecBehind_lifted (os : Os) (started : os.Started) (H : Type) (enc : TypeId × Value → H) :
    ReturnsInHanded {} Try.checked os 6 .any (Rows.codecBehindSpec.pre6 enc Try.prog Try.f6 Rows.codecBehindRow.domain false) (Rows.codecBehindSpec.post enc Try.prog Try.f6 false true false false) := by
  refine Go.AX.liftedR (C := Try.checked) (f := 6) (fn := Try.f6) (s := Rows.codecBehindSpec) (rt := 4) [5, 2, 22, 25, 23, 3] (by kernel_rfl) (by kernel_rfl) Try.func6 rfl ?_ rfl (by kernel_rfl) (by kernel_rfl) (by kernel_rfl) (by kernel_rfl) (by kernel_rfl) os started H enc
    (ChangeSpec.witness6 (enc := enc) (C := Try.checked) false ⟨#[], #[.agg #[.int .u8 0, .int .i64 0, .slice none 0 0, .slice none 0 0], .slice none 0 0, .int .i64 0], []⟩ 8 (by kernel_rfl) (by kernel_rfl) (by kernel_rfl) (by kernel_rfl)) ?_
  · intro H ds h
    match ds, h with
    | [a0, a1, a2], _ => rfl
  · intro xs hx
    have hp : Try.f6.params.toList = [25, 22, 3] := rfl
    rw [hp] at hx ⊢
    have i0 : isA Try.prog 25 = true := by kernel_rfl
    have i1 : isA Try.prog 22 = false := by kernel_rfl
    have i2 : isA Try.prog 3 = false := by kernel_rfl
    rcases xs with _ | ⟨d0, _ | ⟨d1, _ | ⟨d2, _ | ⟨d3, xs⟩⟩⟩⟩ <;> simp only [TydsX, and_false] at hx
    obtain ⟨⟨n0, k0⟩, ⟨n1, k1⟩, ⟨n2, k2⟩, _⟩ := hx
    obtain ⟨v, rfl, hv⟩ := value_of _ k0
    obtain ⟨o, rfl, ho, wo⟩ := bytes_of k1
    obtain ⟨cut, rfl, hcut⟩ := int_of k2
    simp only [avs, i0, i1, i2, dv, Bool.false_eq_true, if_false, if_true, List.headD_cons, List.map_cons, List.map_nil, agg_vD]
    exact codecBehind v o cut hv ho wo hcut
theorem codecBehind_over : Rows.codecBehindRow.holds Try.pinned (OpenSpec.ofChange Rows.codecBehindSpec) :=
  OpenClaim.holds_of_wide 6 Try.f6 rfl rfl rfl rfl rfl rfl rfl ⟨rfl, rfl, rfl, rfl, rfl⟩ rfl rfl rfl rfl rfl (by kernel_rfl) Try.func6 (by kernel_rfl)
    (of_decide_eq_true (by kernel_rfl)) (by unfold Func.isWrapper; first | (rw [if_pos (by decide +kernel)]; kernel_rfl) | (rw [if_neg (by decide +kernel)]; exact ⟨rfl, rfl⟩))
    (fun os started H enc _ => codecBehind_lifted os started H enc)
/-- The row, under a short name, for the claim. -/
theorem codecBehind_holds : Rows.CodecBehindSaid := codecBehind_over
#print axioms codecBehind_holds
end Go.Proofs.Ytheliodgamcdjaa

/- The statement DeltaForms: Encode and Decode return the reference's results and errors for any delta and bytes, and are inverse. No condition. -/
import Derived.Test.YtmffhidhmbncbaaK11
import Derived.Test.YtmffhidhmbncbaaRows
import Derived.KernelRfl
set_option maxHeartbeats 8000000
set_option linter.unusedVariables false
set_option linter.unusedSimpArgs false
set_option maxRecDepth 20000
namespace Go.AX.De
open Go.Proofs Go.RowKit Go.IntWalk
open Go.AX.Co (Vl vD vDs vDs_eq vA bY encP decP)
/-- the same delta on both sides -/
theorem same_parts (l : List Part) (hl : l.length ≤ 300) (hx : ∀ p ∈ l, p.data.length ≤ 900000) : Spec Try.prog 20 [.d (.sl (l.map pD)), .d (.sl (l.map pD))] [] (.d (.bool true)) [] := by
  have zn : ∀ n : Int, (n != n) = false := fun n => by simp
  have his : ∀ es, evConv.isStr (.d (.sl es)) = false := fun _ => rfl
  have hby : ∀ l : List Int, (∀ e ∈ l.map bI, isByte e) = True := fun l => eq_true fun e he => by obtain ⟨x, _, rfl⟩ := List.mem_map.1 he; trivial
  refine spec_of_ev (fn := Try.f20) DX_ok 3000 Try.func20 rfl rfl (Nat.le_of_ble_eq_true rfl) ?_
  simp (maxSteps := 4000000) -implicitDefEqProofs only [Try.f20, go_sem, zn]
  refine eloop (S := Nat) (fun i => mkE 56 [(0, .d (.sl (l.map pD))), (1, .d (.sl (l.map pD))), (5, .d (.int .i64 i))]) (fun i => []) (fun i => i ≤ l.length) (fun i => l.length - i) 0 (by omega) (Wk.forget (by (simp only [go_sem]) <;> trivial) (by simp only [go_sem])) ?_
  intro i h1
  rcases Nat.lt_or_ge i l.length with hi | hi
  case inr =>
    have f1 : decide ((i : Int) < l.length) = false := by simp; omega
    simp (maxSteps := 4000000) -implicitDefEqProofs only [go_sem, f1, Option.some.injEq, forall_eq', and_true, true_and, Bool.not_true, Bool.not_false, decide_true, Nat.reduceAdd, Nat.reduceSub, Nat.reduceLT, Nat.reduceLeDiff, Nat.reduceEqDiff, ↓reduceIte]
    exact wk_bool rfl
  have f1 : decide ((i : Int) < l.length) = true := by simp; omega
  obtain ⟨p, hpi⟩ : ∃ x, l[i]? = some x := ⟨l[i]'hi, List.getElem?_eq_getElem _⟩
  have n1 : (0 ≤ (i : Int) ∧ (i : Int) < l.length) = True := eq_true (by omega)
  have n2 : (i < l.length) = True := eq_true hi
  have w1 : IntKind.i64.wrap ((i : Int) + 1) = ((i + 1 : Nat) : Int) := by rw [i64_in _ (by omega)]; simp
  simp (maxSteps := 4000000) -implicitDefEqProofs only [go_sem, f1, Option.some.injEq, forall_eq', and_true, true_and, Bool.not_true, Bool.not_false, decide_true, Nat.reduceAdd, Nat.reduceSub, Nat.reduceLT, Nat.reduceLeDiff, Nat.reduceEqDiff, ↓reduceIte]
  refine DX.plain (.take 0 false (.take 1 false (.take 2 false (.take 3 false (.take 4 false (.take 5 false (.take 6 false (.take 7 false (.take 8 false (.take 9 false (.take 10 false (.take 11 false (.take 12 false (.take 13 false (.take 14 false (.take 15 false (.take 16 false (.take 17 false (.take 18 false (.take 19 false (.take 20 false (.take 21 false (.take 22 false (.take 23 false (.take 24 false (.take 25 false (.take 26 false (.take 27 false (.take 28 false (.take 29 false (.take 30 false (.take 31 false (.take 32 false (.take 33 false (.take 34 false (.take 35 false (.take 36 false (.take 37 false (.take 38 false .done))))))))))))))))))))))))))))))))))))))) (by kernel_rfl) (by kernel_rfl) Ty.mixed ?_
  simp (maxSteps := 4000000) -implicitDefEqProofs only [go_sem, n1, n2, hpi, zn, w1, his, hby, Option.some.injEq, forall_eq', and_true, true_and, Bool.not_true, Bool.not_false, decide_true, Nat.reduceAdd, Nat.reduceSub, Nat.reduceLT, Nat.reduceLeDiff, Nat.reduceEqDiff, ↓reduceIte]
  exact .mk (i + 1) (by omega) (by omega) (Wk.forget (by (simp only [go_sem]) <;> trivial) (by simp only [go_sem]))
theorem encD_len (l : List Part) : (encD l).1.length ≤ 3000 := by
  unfold encD
  split
  · simp
  · exact Co.enc_len' _
theorem encD_bytes {l : List Part} (h : ∀ p ∈ l, Co.Bytes p.data) : Co.Bytes (encD l).1 := by
  unfold encD
  split
  · exact fun e he => by simp at he
  next hv =>
  have hv : valid l = 0 := Decidable.byContradiction hv
  refine Co.enc_bytes ?_
  refine .mk _ _ _ _ (by omega) (by omega) (fun e he => by simp at he) (by simp) (by rw [List.length_map]; have := valid_len hv; omega) fun x hx => ?_
  obtain ⟨p, hp, rfl⟩ := List.mem_map.1 hx
  have hpv := valid_parts hv p hp
  have hr := part_range hpv
  unfold pV
  by_cases q : 0 < p.n
  · rw [if_pos q]
    refine .mk _ _ _ _ (by omega) (by omega) (fun e he => by simp at he) (by simp) (by simp) fun x hx => ?_
    simp only [List.mem_cons, List.not_mem_nil, or_false] at hx
    rcases hx with rfl | rfl
    · exact .mk _ _ _ _ (by omega) (by omega) (fun e he => by simp at he) (by simp) (by simp) (by simp)
    · exact .mk _ _ _ _ (by omega) (by omega) (fun e he => by simp at he) (by simp) (by simp) (by simp)
  · rw [if_neg q]
    have : p.data.length ≤ 2000 := by
      rcases hpv with h | h
      · unfold copies at h; rw [decide_eq_true_eq] at h; omega
      · unfold inserts at h; rw [decide_eq_true_eq] at h; omega
    exact .mk _ _ _ _ (by omega) (by omega) (h p hp) (by omega) (by simp) (by simp)
theorem parts_small {l : List Part} (h : valid l = 0) : ∀ p ∈ l, p.data.length ≤ 900000 := fun p hp => by
  rcases valid_parts h p hp with h | h
  · unfold copies at h; rw [decide_eq_true_eq] at h; omega
  · unfold inserts at h; rw [decide_eq_true_eq] at h; omega
theorem decD_small {b : List Int} (hB : Co.Bytes b) (hl : b.length ≤ 900000) : (decD b).1.length ≤ 300 ∧ (∀ p ∈ (decD b).1, p.data.length ≤ 900000) ∧ ((decD b).2 = 0 ∨ decD b = ([], 12)) := by
  by_cases h : (decD b).2 = 0
  · have he := enc_decD hB hl h
    have hv : valid (decD b).1 = 0 := by
      unfold encD at he
      split at he
      · next q => exact (Prod.mk.inj he).2
      · next q => exact Decidable.byContradiction q
    exact ⟨by have := valid_len hv; omega, parts_small hv, .inl h⟩
  · have : decD b = ([], 12) := by
      unfold decD at h ⊢
      split
      · rfl
      next q =>
        rw [if_neg q] at h
        unfold decL at h ⊢
        split
        · rfl
        next q2 =>
          rw [if_neg q2] at h
          split
          · next m hm => rw [hm] at h; exact absurd rfl h
          · rfl
    rw [this]
    exact ⟨by simp, by simp, .inr rfl⟩
theorem deltaForms (l : List Part) (b : List Int) (hl : Sm l.length) (hb : Sm b.length) (hB : Co.Bytes b) (hpB : ∀ p ∈ l, Co.Bytes p.data) : Spec Try.prog 5 [.d (.sl (l.map pD)), .d (.sl (b.map bY))] [] (.d (.bool true)) [] := by
  have hb2 := hb
  unfold Sm at hb
  have g1 := great_spec l hl
  have d1 : decide (3500 < (b.length : Int)) = decide (3500 < b.length) := by rw [Bool.eq_iff_iff]; simp; omega
  have c1 := deltaEncode_own l hl
  have c2 := deltaEncode_ref l hl
  have c3 := fun h : b.length ≤ 3500 => deltaDecode_own b (by omega) hB
  have c4 := fun h : b.length ≤ 3500 => deltaDecode_ref b (by omega) hB
  have hEl := encD_len l
  have c5 := sameBytes_spec (encD l).1 (encD l).1 (by unfold Sm; omega)
  have hD := fun h : b.length ≤ 3500 => decD_small hB (b := b) (by omega)
  have c6 := fun h : b.length ≤ 3500 => same_parts (decD b).1 (hD h).1 (hD h).2.1
  have c7 := deltaDecode_own (encD l).1 (by omega) (encD_bytes hpB)
  have q7 := dec_encD (l := l)
  have hv : (encD l).2 = 0 → valid l = 0 := fun h => by
    unfold encD at h
    split at h
    · next q => exact h
    · next q => exact Decidable.byContradiction q
  have c8 := fun h : valid l = 0 => same_parts l (by have := valid_len h; omega) (parts_small h)
  have c9 := fun h : (decD b).1.length ≤ 300 => deltaEncode_own (decD b).1 (by unfold Sm; omega)
  have q9 := fun (h : b.length ≤ 3500) => enc_decD (b := b) hB (by omega)
  have c10 := sameBytes_spec b b hb2
  rw [decide_eq_true rfl] at c5 c10
  simp only [bI_bY] at c5 c10
  generalize great l = G at g1
  generalize encD l = E at c1 c2 c5 c7 q7 hv hEl
  generalize decD E.1 = F at c7 q7
  generalize decD b = W at c3 c4 c6 c9 q9 hD
  have b1 : (!true) = false := rfl
  have b2 : (!false) = true := rfl
  have nn : ∀ n : Int, (n != n) = false := fun n => by simp
  have zE : (E.2 == 0) = decide (E.2 = 0) := by rw [Bool.eq_iff_iff]; simp
  have z0 : ((0 : Int) == 0) = true := rfl
  have z0' : ((0 : Int) != 0) = false := rfl
  have z12 : ((12 : Int) == 0) = false := rfl
  refine spec_of_ev (fn := Try.f5) DX_ok 3000 Try.func5 rfl rfl (Nat.le_of_ble_eq_true rfl) ?_
  simp (maxSteps := 4000000) -implicitDefEqProofs only [Try.f5, go_sem]
  refine .all _ _ (g1.lift0 _ (by simp only [go_sem]) (by simp only [go_sem])) ?_
  cases G with
  | true =>
    simp (maxSteps := 4000000) -implicitDefEqProofs only [go_sem, Nat.reduceAdd, Nat.reduceSub, Nat.reduceLT, Nat.reduceLeDiff, Nat.reduceEqDiff, ↓reduceIte]
    exact wk_bool rfl
  | false =>
  by_cases hbl : 3500 < b.length
  · rw [decide_eq_true hbl] at d1
    simp (maxSteps := 4000000) -implicitDefEqProofs only [go_sem, d1, Option.some.injEq, forall_eq', and_true, true_and, Bool.not_true, Bool.not_false, decide_true, Nat.reduceAdd, Nat.reduceSub, Nat.reduceLT, Nat.reduceLeDiff, Nat.reduceEqDiff, ↓reduceIte]
    exact wk_bool rfl
  rw [decide_eq_false hbl] at d1
  have hbl' : b.length ≤ 3500 := by omega
  have hD := hD hbl'
  have c3 := c3 hbl'
  have c4 := c4 hbl'
  have c6 := c6 hbl'
  have c9 := c9 hD.1
  have q9 := q9 hbl'
  simp (maxSteps := 4000000) -implicitDefEqProofs only [go_sem, d1, Option.some.injEq, forall_eq', and_true, true_and, Bool.not_true, Bool.not_false, decide_true, Nat.reduceAdd, Nat.reduceSub, Nat.reduceLT, Nat.reduceLeDiff, Nat.reduceEqDiff, ↓reduceIte]
  refine .all _ _ (c1.lift0 _ (by simp only [go_sem]) (by simp only [go_sem])) ?_
  simp (maxSteps := 4000000) -implicitDefEqProofs only [go_sem, Nat.reduceAdd, Nat.reduceSub, Nat.reduceLT, Nat.reduceLeDiff, Nat.reduceEqDiff, ↓reduceIte]
  refine .all _ _ (c2.lift0 _ (by simp only [go_sem]) (by simp only [go_sem])) ?_
  simp (maxSteps := 4000000) -implicitDefEqProofs only [go_sem, Nat.reduceAdd, Nat.reduceSub, Nat.reduceLT, Nat.reduceLeDiff, Nat.reduceEqDiff, ↓reduceIte]
  refine .all _ _ (c3.lift0 _ (by simp only [go_sem]) (by simp only [go_sem])) ?_
  simp (maxSteps := 4000000) -implicitDefEqProofs only [go_sem, Nat.reduceAdd, Nat.reduceSub, Nat.reduceLT, Nat.reduceLeDiff, Nat.reduceEqDiff, ↓reduceIte]
  refine .all _ _ (c4.lift0 _ (by simp only [go_sem]) (by simp only [go_sem])) ?_
  simp (maxSteps := 4000000) -implicitDefEqProofs only [go_sem, Nat.reduceAdd, Nat.reduceSub, Nat.reduceLT, Nat.reduceLeDiff, Nat.reduceEqDiff, ↓reduceIte]
  refine .all _ _ (c5.lift0 _ (by simp only [go_sem]) (by simp only [go_sem])) ?_
  simp (maxSteps := 4000000) -implicitDefEqProofs only [go_sem, b1, nn, Option.some.injEq, forall_eq', and_true, true_and, Bool.not_true, Bool.not_false, decide_true, Nat.reduceAdd, Nat.reduceSub, Nat.reduceLT, Nat.reduceLeDiff, Nat.reduceEqDiff, ↓reduceIte]
  refine .all _ _ (c6.lift0 _ (by simp only [go_sem]) (by simp only [go_sem])) ?_
  apply Or.elim (Decidable.em (E.2 = 0))
  case' left =>
    intro hE
    rw [decide_eq_true hE] at zE
    rw [q7 hE] at c7
    have c8 := c8 (hv hE)
    simp (maxSteps := 4000000) -implicitDefEqProofs only [go_sem, b1, nn, zE, Option.some.injEq, forall_eq', and_true, true_and, Bool.not_true, Bool.not_false, decide_true, Nat.reduceAdd, Nat.reduceSub, Nat.reduceLT, Nat.reduceLeDiff, Nat.reduceEqDiff, ↓reduceIte]
    refine .all _ _ (c7.lift0 _ (by simp only [go_sem]) (by simp only [go_sem])) ?_
    simp (maxSteps := 4000000) -implicitDefEqProofs only [go_sem, z0', Option.some.injEq, forall_eq', and_true, true_and, Bool.not_true, Bool.not_false, decide_true, Nat.reduceAdd, Nat.reduceSub, Nat.reduceLT, Nat.reduceLeDiff, Nat.reduceEqDiff, ↓reduceIte]
    refine .all _ _ (c8.lift0 _ (by simp only [go_sem]) (by simp only [go_sem])) ?_
  case' right =>
    intro hE
    rw [decide_eq_false hE] at zE
  all_goals
    apply Or.elim hD.2.2
    case' left =>
      intro hW
      rw [q9 hW] at c9
      rw [hW]
      simp (maxSteps := 4000000) -implicitDefEqProofs only [go_sem, b1, nn, zE, z0, z0', Option.some.injEq, forall_eq', and_true, true_and, Bool.not_true, Bool.not_false, decide_true, Nat.reduceAdd, Nat.reduceSub, Nat.reduceLT, Nat.reduceLeDiff, Nat.reduceEqDiff, ↓reduceIte]
      refine .all _ _ (c9.lift0 _ (by simp only [go_sem]) (by simp only [go_sem])) ?_
      simp (maxSteps := 4000000) -implicitDefEqProofs only [go_sem, z0, Option.some.injEq, forall_eq', and_true, true_and, Bool.not_true, Bool.not_false, decide_true, Nat.reduceAdd, Nat.reduceSub, Nat.reduceLT, Nat.reduceLeDiff, Nat.reduceEqDiff, ↓reduceIte]
      refine .all _ _ (c10.lift0 _ (by simp only [go_sem]) (by simp only [go_sem])) ?_
      simp (maxSteps := 4000000) -implicitDefEqProofs only [go_sem, Nat.reduceAdd, Nat.reduceSub, Nat.reduceLT, Nat.reduceLeDiff, Nat.reduceEqDiff, ↓reduceIte]
      exact wk_bool rfl
    intro hW
    rw [hW]
    simp (maxSteps := 4000000) -implicitDefEqProofs only [go_sem, b1, nn, zE, z12, Option.some.injEq, forall_eq', and_true, true_and, Bool.not_true, Bool.not_false, decide_true, Nat.reduceAdd, Nat.reduceSub, Nat.reduceLT, Nat.reduceLeDiff, Nat.reduceEqDiff, ↓reduceIte]
    exact wk_bool rfl
theorem u8_of {n : Nat} {d : List D} (h : Tyd Try.prog (n + 1) 5 d) : ∃ i : Int, d = bY i ∧ 0 ≤ i ∧ i ≤ 255 := Co.u8_of h
theorem bytes_of {n : Nat} {d : List D} (h : Tyd Try.prog (n + 2) 22 d) : ∃ l : List Int, d = [.sl (l.map bY)] ∧ Sm l.length ∧ Co.Bytes l := Co.bytes_of h
theorem under_part : ∃ f0 f1 f2 : Field, Try.prog.underlying 52 = some (.struct #[f0, f1, f2]) ∧ f0.type = 3 ∧ f1.type = 3 ∧ f2.type = 22 := ⟨_, _, _, by rfl, rfl, rfl, rfl⟩
theorem part_of {n : Nat} {x : List D} (h : Tyd Try.prog (n + 3) 52 x) : ∃ p : Part, x = pD p ∧ Co.Bytes p.data := by
  obtain ⟨f0, f1, f2, hu, e0, e1, e2⟩ := under_part
  have this := h.struct hu
  simp only [List.map_cons, List.map_nil, Sq] at this
  obtain ⟨a0, b0, rfl, k0, a1, b1, rfl, k1, a2, b2, rfl, k2, rfl⟩ := this
  rw [e0] at k0; rw [e1] at k1; rw [e2] at k2
  obtain ⟨i, rfl, _⟩ := k0.int Ty.under_3
  obtain ⟨j, rfl, _⟩ := k1.int Ty.under_3
  obtain ⟨bs, rfl, _, hB⟩ := bytes_of k2
  exact ⟨⟨i, j, bs⟩, rfl, hB⟩
theorem parts_of {n : Nat} {d : List D} (h : Tyd Try.prog (n + 4) 23 d) : ∃ l : List Part, d = [.sl (l.map pD)] ∧ Sm l.length ∧ ∀ p ∈ l, Co.Bytes p.data := by
  obtain ⟨es, rfl, h1, h2⟩ := h.slice Ty.under_23
  obtain ⟨l, rfl, hl⟩ := Co.rows_ofP (g := pD) (Q := fun p => Co.Bytes p.data) fun x hx => part_of (h2 x hx)
  refine ⟨l, rfl, ?_, hl⟩
  have hb : Try.prog.bytesOf 52 = 40 := by kernel_rfl
  rw [hb, List.length_map] at h1
  unfold Sm; omega
end Go.AX.De
namespace Go.Proofs.Ytmffhidhmbncbaa
open Go.AX Go.AX.De Go.RowKit
set_option maxRecDepth 100000 in
theorem deltaForms_lifted (os : Os) (started : os.Started) (H : Type) (enc : TypeId × Value → H) :
    ReturnsInHanded {} Try.checked os 5 .any (Rows.deltaFormsSpec.pre6 enc Try.prog Try.f5 Rows.deltaFormsRow.domain false) (Rows.deltaFormsSpec.post enc Try.prog Try.f5 false true false false) := by
  refine Go.AX.lifted (C := Try.checked) (f := 5) (fn := Try.f5) (s := Rows.deltaFormsSpec) (rt := 4) (n := 8) (by kernel_rfl) (by kernel_rfl) Try.func5 rfl ?_ rfl (by kernel_rfl) (by kernel_rfl) (by kernel_rfl) (by kernel_rfl) os started H enc
    (ChangeSpec.witness6 (enc := enc) (C := Try.checked) false ⟨#[], #[.slice none 0 0, .slice none 0 0], []⟩ 8 (by kernel_rfl) (by kernel_rfl) (by kernel_rfl) (by kernel_rfl)) ?_
  · intro H ds h
    match ds, h with
    | [a0, a1], _ => rfl
  · intro xs hx
    have hp : Try.f5.params.toList = [23, 22] := rfl
    rw [hp] at hx ⊢
    have i0 : isA Try.prog 23 = false := by kernel_rfl
    have i1 : isA Try.prog 22 = false := by kernel_rfl
    rcases xs with _ | ⟨d0, _ | ⟨d1, _ | ⟨d2, xs⟩⟩⟩ <;> simp only [Tyds, and_false] at hx
    obtain ⟨k0, k1, _⟩ := hx
    obtain ⟨l, rfl, hl, wl⟩ := parts_of k0
    obtain ⟨b, rfl, hb, wb⟩ := bytes_of k1
    simp only [avs, i0, i1, dv, Bool.false_eq_true, if_false, if_true, List.headD_cons, List.map_cons, List.map_nil]
    exact deltaForms l b hl hb wb wl
theorem deltaForms_over : Rows.deltaFormsRow.holds Try.pinned (OpenSpec.ofChange Rows.deltaFormsSpec) :=
  OpenClaim.holds_of_wide 5 Try.f5 rfl rfl rfl rfl rfl rfl rfl ⟨rfl, rfl, rfl, rfl, rfl⟩ rfl rfl rfl rfl rfl (by kernel_rfl) Try.func5 (by kernel_rfl)
    (of_decide_eq_true (by kernel_rfl)) (by unfold Func.isWrapper; first | (rw [if_pos (by decide +kernel)]; kernel_rfl) | (rw [if_neg (by decide +kernel)]; exact ⟨rfl, rfl⟩))
    (fun os started H enc _ => deltaForms_lifted os started H enc)
/-- The row, under a short name, for the claim. -/
theorem deltaForms_holds : Rows.DeltaFormsSaid := deltaForms_over
#print axioms deltaForms_holds
end Go.Proofs.Ytmffhidhmbncbaa

/- Ledgers: a law's arguments. LedgerGrows: whatever the input, the law returns true, and its arguments read as they did. No condition. -/
import Derived.Test.YtcpkcjjhokbmkaaK6
import Derived.Test.YtcpkcjjhokbmkaaRows
set_option maxHeartbeats 8000000
set_option linter.unusedVariables false
set_option linter.unusedSimpArgs false
set_option maxRecDepth 20000
namespace Go.AX.Lg
open Go.Proofs Go.RowKit Go.IntWalk Go.AX.Br
theorem int_of {n : Nat} {d : List D} (h : Tyd Try.prog (n + 1) 3 d) : ∃ i : Int, d = [.int .i64 i] ∧ (-9223372036854775808 ≤ i ∧ i ≤ 9223372036854775807) := by
  obtain ⟨i, rfl, hw⟩ := h.int Ty.under_3
  exact ⟨i, rfl, wf_i64 hw⟩
theorem u8_of {n : Nat} {d : List D} (h : Tyd Try.prog (n + 1) 5 d) : ∃ i : Int, d = [.int .u8 i] ∧ (0 ≤ i ∧ i ≤ 255) := by
  obtain ⟨i, rfl, hw⟩ := h.int Ty.under_5
  exact ⟨i, rfl, wf_u8 hw⟩
theorem str_of {n : Nat} {d : List D} (h : Tyd Try.prog (n + 1) 9 d) : ∃ s : ByteArray, d = [.str s] ∧ Sm s.size := by
  obtain ⟨i, rfl, hw⟩ := h.str Ty.under_9
  exact ⟨i, rfl, hw⟩
theorem branch_of {n : Nat} {x : List D} (h : Tyd Try.prog (n + 2) 33 x) : ∃ p : Br, x = bD p ∧ (-9223372036854775808 ≤ p.at' ∧ p.at' ≤ 9223372036854775807) := by
  obtain ⟨f0, f1, f2, hu, e0, e1, e2⟩ : ∃ f0 f1 f2 : Field, Try.prog.underlying 33 = some (.struct #[f0, f1, f2]) ∧ f0.type = 9 ∧ f1.type = 9 ∧ f2.type = 3 := ⟨_, _, _, by rfl, rfl, rfl, rfl⟩
  have this := h.struct hu
  simp only [List.map_cons, List.map_nil, Sq] at this
  obtain ⟨a0, b0, rfl, k0, a1, b1, rfl, k1, a2, b2, rfl, k2, rfl⟩ := this
  rw [e0] at k0; rw [e1] at k1; rw [e2] at k2
  obtain ⟨i, rfl, hi⟩ := str_of k0
  obtain ⟨j, rfl, hj⟩ := str_of k1
  obtain ⟨k, rfl, hk⟩ := int_of k2
  exact ⟨⟨i, j, k⟩, rfl, hk⟩
theorem known_of {n : Nat} {x : List D} (h : Tyd Try.prog (n + 2) 80 x) : ∃ p : Kn, x = kD p ∧ (-9223372036854775808 ≤ p.cl ∧ p.cl ≤ 9223372036854775807) := by
  obtain ⟨f0, f1, hu, e0, e1⟩ : ∃ f0 f1 : Field, Try.prog.underlying 80 = some (.struct #[f0, f1]) ∧ f0.type = 9 ∧ f1.type = 3 := ⟨_, _, by rfl, rfl, rfl⟩
  have this := h.struct hu
  simp only [List.map_cons, List.map_nil, Sq] at this
  obtain ⟨a0, b0, rfl, k0, a1, b1, rfl, k1, rfl⟩ := this
  rw [e0] at k0; rw [e1] at k1
  obtain ⟨i, rfl, hi⟩ := str_of k0
  obtain ⟨k, rfl, hk⟩ := int_of k1
  exact ⟨⟨i, k⟩, rfl, hk⟩
theorem event_of {n : Nat} {x : List D} (h : Tyd Try.prog (n + 2) 28 x) : ∃ p : Ev, x = eD p ∧ (0 ≤ p.kd ∧ p.kd ≤ 255) := by
  obtain ⟨f0, f1, hu, e0, e1⟩ : ∃ f0 f1 : Field, Try.prog.underlying 28 = some (.struct #[f0, f1]) ∧ f0.type = 5 ∧ f1.type = 9 := ⟨_, _, by rfl, rfl, rfl⟩
  have this := h.struct hu
  simp only [List.map_cons, List.map_nil, Sq] at this
  obtain ⟨a0, b0, rfl, k0, a1, b1, rfl, k1, rfl⟩ := this
  rw [e0] at k0; rw [e1] at k1
  obtain ⟨i, rfl, hi⟩ := u8_of k0
  obtain ⟨k, rfl, hk⟩ := str_of k1
  exact ⟨⟨i, k⟩, rfl, hi⟩
theorem branches_of {n : Nat} {d : List D} (h : Tyd Try.prog (n + 3) 23 d) : ∃ l : List Br, d = [.sl (l.map bD)] ∧ Sm l.length ∧ ∀ b ∈ l, (-9223372036854775808 ≤ b.at' ∧ b.at' ≤ 9223372036854775807) := by
  obtain ⟨es, rfl, h1, h2⟩ := h.slice Ty.under_23
  obtain ⟨l, rfl, hl⟩ := rows_ofP (g := bD) fun x hx => branch_of (h2 x hx)
  refine ⟨l, rfl, ?_, hl⟩
  have hb : Try.prog.bytesOf 33 = 40 := by kernel_rfl
  rw [hb, List.length_map] at h1
  unfold Sm; omega
theorem knowns_of {n : Nat} {d : List D} (h : Tyd Try.prog (n + 3) 22 d) : ∃ l : List Kn, d = [.sl (l.map kD)] ∧ Sm l.length ∧ ∀ b ∈ l, (-9223372036854775808 ≤ b.cl ∧ b.cl ≤ 9223372036854775807) := by
  obtain ⟨es, rfl, h1, h2⟩ := h.slice Ty.under_22
  obtain ⟨l, rfl, hl⟩ := rows_ofP (g := kD) fun x hx => known_of (h2 x hx)
  refine ⟨l, rfl, ?_, hl⟩
  have hb : Try.prog.bytesOf 80 = 24 := by kernel_rfl
  rw [hb, List.length_map] at h1
  unfold Sm; omega
theorem events_of {n : Nat} {d : List D} (h : Tyd Try.prog (n + 3) 73 d) : ∃ l : List Ev, d = esD l ∧ Sm l.length ∧ ∀ b ∈ l, (0 ≤ b.kd ∧ b.kd ≤ 255) := by
  obtain ⟨es, rfl, h1, h2⟩ := h.slice Ty.under_73
  obtain ⟨l, rfl, hl⟩ := rows_ofP (g := eD) fun x hx => event_of (h2 x hx)
  refine ⟨l, rfl, ?_, hl⟩
  have hb : Try.prog.bytesOf 28 = 24 := by kernel_rfl
  rw [hb, List.length_map] at h1
  unfold Sm; omega
theorem eventss_of {n : Nat} {d : List D} (h : Tyd Try.prog (n + 4) 24 d) : ∃ l : List (List Ev), d = [.sl (l.map esD)] ∧ Sm l.length ∧ ∀ b ∈ l, Sm b.length ∧ ∀ x ∈ b, (0 ≤ x.kd ∧ x.kd ≤ 255) := by
  obtain ⟨es, rfl, h1, h2⟩ := h.slice Ty.under_24
  obtain ⟨l, rfl, hl⟩ := rows_ofP (g := esD) fun x hx => events_of (h2 x hx)
  refine ⟨l, rfl, ?_, hl⟩
  have hb : Try.prog.bytesOf 73 = 24 := by kernel_rfl
  rw [hb, List.length_map] at h1
  unfold Sm; omega
/-- the sizes and numbers of a ledger are those of Go -/
structure LSm (l : Lg) : Prop where
  k : Sm l.kn.length
  b : Sm l.br.length
  e : Sm l.ev.length
  s : ∀ s ∈ l.ev, Sm s.length
  kv : ∀ x ∈ l.kn, (-9223372036854775808 ≤ x.cl ∧ x.cl ≤ 9223372036854775807)
  bv : ∀ x ∈ l.br, (-9223372036854775808 ≤ x.at' ∧ x.at' ≤ 9223372036854775807)
  ev : ∀ s ∈ l.ev, ∀ x ∈ s, (0 ≤ x.kd ∧ x.kd ≤ 255)
theorem ledger_of {n : Nat} {x : List D} (h : Tyd Try.prog (n + 5) 26 x) : ∃ l : Lg, x = [.sl (l.kn.map kD), .sl (l.br.map bD), .sl (l.ev.map esD)] ∧ LSm l := by
  obtain ⟨f0, f1, f2, hu, e0, e1, e2⟩ : ∃ f0 f1 f2 : Field, Try.prog.underlying 26 = some (.struct #[f0, f1, f2]) ∧ f0.type = 22 ∧ f1.type = 23 ∧ f2.type = 24 := ⟨_, _, _, by rfl, rfl, rfl, rfl⟩
  have this := h.struct hu
  simp only [List.map_cons, List.map_nil, Sq] at this
  obtain ⟨a0, b0, rfl, k0, a1, b1, rfl, k1, a2, b2, rfl, k2, rfl⟩ := this
  rw [e0] at k0; rw [e1] at k1; rw [e2] at k2
  obtain ⟨i, rfl, h1, h1'⟩ := knowns_of k0
  obtain ⟨j, rfl, h2, h2'⟩ := branches_of k1
  obtain ⟨k, rfl, h3, h3'⟩ := eventss_of k2
  exact ⟨⟨i, j, k⟩, rfl, h1, h2, h3, fun s hs => (h3' s hs).1, h1', h2', fun s hs => (h3' s hs).2⟩
/-- a ledger that is not great -/
structure Fit (l : Lg) : Prop where
  k : l.kn.length ≤ 40
  b : l.br.length ≤ 20
  e : l.ev.length ≤ 20
  s : ∀ s ∈ l.ev, s.length ≤ 50 ∧ (s.length ≤ 8 ∨ 40 < s.length)
  kn : ∀ k ∈ l.kn, k.ch.size ≤ 100
  en : ∀ s ∈ l.ev, ∀ x ∈ s, x.ch.size ≤ 100
  bn : ∀ b ∈ l.br, b.name.size ≤ 100 ∧ b.frm.size ≤ 100
theorem fit_of {l : Lg} (h : greatL l = false) : Fit l := by
  simp only [greatL, great, Bool.or_eq_false_iff, decide_eq_false_iff_not, List.any_eq_false] at h
  obtain ⟨⟨h1, h2⟩, ⟨h3, h4, h5, h5'⟩, h6⟩ := h
  refine ⟨by omega, by omega, by omega, fun s hs => ?_, fun k hk => ?_, fun s hs x hx => ?_, fun b hb => ?_⟩
  · have := h2 s hs
    simp only [bigS, bigN, Bool.or_eq_true, Bool.and_eq_true, decide_eq_true_eq, not_or, not_and] at this
    omega
  · have := h1 k hk
    simp only [bigK, decide_eq_true_eq] at this
    omega
  · have := h2 s hs
    simp only [bigS, Bool.or_eq_true, not_or, List.any_eq_true, not_exists, not_and] at this
    have := this.2 x hx
    simp only [bigE, decide_eq_true_eq] at this
    omega
  · have := h4 b hb
    simp only [Bool.or_eq_true, decide_eq_true_eq, not_or] at this
    omega
theorem Fit.sm {l : Lg} (f : Fit l) : Sm l.kn.length ∧ Sm l.br.length ∧ Sm l.ev.length ∧ ∀ s ∈ l.ev, Sm s.length := by
  unfold Sm
  refine ⟨by have := f.k; omega, by have := f.b; omega, by have := f.e; omega, fun s hs => by have := f.s s hs; omega⟩
theorem grows_law (l : Lg) (nm : ByteArray) (x : Ev) (n2 : ByteArray) (at' : Int) (hl : LSm l) : Spec Try.prog 4 [lA l, .d (.str nm), .agg [.d (.int .u8 x.kd), .d (.str x.ch)], .d (.str n2), .d (.int .i64 at')] [] (.d (.bool true)) [] := by
  have c1 := great_lref l hl.k hl.b hl.e hl.s
  simp only [lA] at c1
  refine spec_of_ev (fn := Try.f4) DX_ok 3000 Try.func4 rfl rfl (Nat.le_of_ble_eq_true rfl) ?_
  simp (maxSteps := 4000000) -implicitDefEqProofs only [Try.f4, go_sem, lA]
  refine ecall0 _ c1 (by simp only [go_sem]) (by simp only [go_sem]) ?_
  cases g1 : greatL l
  case true =>
    simp (maxSteps := 4000000) -implicitDefEqProofs only [go_sem, g1, Option.some.injEq, forall_eq', and_true, true_and, Bool.not_true, Bool.not_false, decide_true, Nat.reduceAdd, Nat.reduceSub, Nat.reduceLT, Nat.reduceLeDiff, Nat.reduceEqDiff, ↓reduceIte]
    exact wk_bool rfl
  have f := fit_of g1
  have fk := f.k
  have fb := f.b
  have fe := f.e
  cases g2 : decide ((100 : Int) < nm.size)
  case true =>
    simp (maxSteps := 4000000) -implicitDefEqProofs only [go_sem, g1, g2, Option.some.injEq, forall_eq', and_true, true_and, Bool.not_true, Bool.not_false, decide_true, Nat.reduceAdd, Nat.reduceSub, Nat.reduceLT, Nat.reduceLeDiff, Nat.reduceEqDiff, ↓reduceIte]
    exact wk_bool rfl
  cases g3 : decide ((100 : Int) < n2.size)
  case true =>
    simp (maxSteps := 4000000) -implicitDefEqProofs only [go_sem, g1, g2, g3, Option.some.injEq, forall_eq', and_true, true_and, Bool.not_true, Bool.not_false, decide_true, Nat.reduceAdd, Nat.reduceSub, Nat.reduceLT, Nat.reduceLeDiff, Nat.reduceEqDiff, ↓reduceIte]
    exact wk_bool rfl
  cases g4 : decide ((100 : Int) < x.ch.size)
  case true =>
    simp (maxSteps := 4000000) -implicitDefEqProofs only [go_sem, g1, g2, g3, g4, Option.some.injEq, forall_eq', and_true, true_and, Bool.not_true, Bool.not_false, decide_true, Nat.reduceAdd, Nat.reduceSub, Nat.reduceLT, Nat.reduceLeDiff, Nat.reduceEqDiff, ↓reduceIte]
    exact wk_bool rfl
  have c2 := twin_dat l (by omega) (by omega) (by omega) fun s hs => by have := f.s s hs; omega
  have c3 := append_lown l nm x (by omega) (by omega) (by omega)
  have c4 := append_lref l nm x (by omega) (by omega) (by omega)
  have c5 := cut_lown l nm n2 at' (by omega) (by omega) (by omega)
  have c6 := cut_lref l nm n2 at' (by omega) (by omega) (by omega)
  have q1 : ∃ A, A = appR l nm x ∧ Sm A.1.kn.length ∧ Sm A.1.br.length ∧ Sm A.1.ev.length ∧ ∀ s ∈ A.1.ev, Sm s.length := by
    refine ⟨_, rfl, ?_⟩
    have z : Sm lg0.kn.length ∧ Sm lg0.br.length ∧ Sm lg0.ev.length ∧ ∀ s ∈ lg0.ev, Sm s.length := ⟨by unfold Sm; decide, by unfold Sm; decide, by unfold Sm; decide, fun s hs => by simp [lg0] at hs⟩
    have hf := f.s
    unfold appR
    split
    · exact z
    split
    · exact z
    split
    · exact z
    split
    · exact z
    · obtain ⟨s1, s2, s3, s4⟩ := f.sm
      refine ⟨s1, s2, by simpa [addE] using s3, fun s hs => ?_⟩
      rcases List.mem_or_eq_of_mem_set hs with q | q
      · exact s4 s q
      · subst q
        rw [List.length_append, List.getD_eq_getElem?_getD]
        cases e : l.ev[(idx (has nm) l.br).toNat]? with
        | none => unfold Sm; simp
        | some t => have := hf t (List.mem_of_getElem? e); unfold Sm; simp; omega
  have q2 : ∃ A, A = lcutR l nm n2 at' ∧ Sm A.1.kn.length ∧ Sm A.1.br.length ∧ Sm A.1.ev.length ∧ ∀ s ∈ A.1.ev, Sm s.length := by
    refine ⟨_, rfl, ?_⟩
    have z : Sm lg0.kn.length ∧ Sm lg0.br.length ∧ Sm lg0.ev.length ∧ ∀ s ∈ lg0.ev, Sm s.length := ⟨by unfold Sm; decide, by unfold Sm; decide, by unfold Sm; decide, fun s hs => by simp [lg0] at hs⟩
    obtain ⟨s1, s2, s3, s4⟩ := f.sm
    unfold lcutR
    split
    · exact z
    split
    · exact z
    · refine ⟨s1, ?_, by simp only [List.length_append, List.length_cons, List.length_nil]; unfold Sm; omega, fun s hs => ?_⟩
      · unfold cutR
        split
        · unfold Sm; simp
        split
        · unfold Sm; simp
        split
        · simp only [List.length_append, List.length_cons, List.length_nil]; unfold Sm; omega
        · simp only [List.length_append, List.length_cons, List.length_nil]; unfold Sm; omega
      · rcases List.mem_append.1 hs with q | q
        · exact s4 s q
        · simp at q; subst q; unfold Sm; decide
  obtain ⟨A, hA, a1, a2, a3, a4⟩ := q1
  obtain ⟨B, hB, b1, b2, b3, b4⟩ := q2
  rw [← hA] at c3 c4
  rw [← hB] at c5 c6
  have c7 := same_lref A.1 a1 a2 a3 a4
  have c8 := same_lref B.1 b1 b2 b3 b4
  obtain ⟨s1, s2, s3, s4⟩ := f.sm
  have c9 := same_lref l s1 s2 s3 s4
  have z1 : ∀ n : Int, (n == n) = true := fun n => by simp
  simp only [lA] at c2 c3 c4 c5 c6 c7 c8 c9
  simp (maxSteps := 4000000) -implicitDefEqProofs only [go_sem, g1, g2, g3, g4, Option.some.injEq, forall_eq', and_true, true_and, Bool.not_true, Bool.not_false, decide_true, Nat.reduceAdd, Nat.reduceSub, Nat.reduceLT, Nat.reduceLeDiff, Nat.reduceEqDiff, ↓reduceIte]
  refine ecall0 _ c2 (by simp only [go_sem]) (by simp only [go_sem]) ?_
  simp (maxSteps := 4000000) -implicitDefEqProofs only [go_sem, Nat.reduceAdd, Nat.reduceSub, Nat.reduceLT, Nat.reduceLeDiff, Nat.reduceEqDiff, ↓reduceIte]
  refine ecall0 _ c3 (by simp only [go_sem]) (by simp only [go_sem]) ?_
  simp (maxSteps := 4000000) -implicitDefEqProofs only [go_sem, Nat.reduceAdd, Nat.reduceSub, Nat.reduceLT, Nat.reduceLeDiff, Nat.reduceEqDiff, ↓reduceIte]
  refine ecall0 _ c4 (by simp only [go_sem]) (by simp only [go_sem]) ?_
  simp (maxSteps := 4000000) -implicitDefEqProofs only [go_sem, Nat.reduceAdd, Nat.reduceSub, Nat.reduceLT, Nat.reduceLeDiff, Nat.reduceEqDiff, ↓reduceIte]
  refine ecall0 _ c5 (by simp only [go_sem]) (by simp only [go_sem]) ?_
  simp (maxSteps := 4000000) -implicitDefEqProofs only [go_sem, Nat.reduceAdd, Nat.reduceSub, Nat.reduceLT, Nat.reduceLeDiff, Nat.reduceEqDiff, ↓reduceIte]
  refine ecall0 _ c6 (by simp only [go_sem]) (by simp only [go_sem]) ?_
  simp (maxSteps := 4000000) -implicitDefEqProofs only [go_sem, Nat.reduceAdd, Nat.reduceSub, Nat.reduceLT, Nat.reduceLeDiff, Nat.reduceEqDiff, ↓reduceIte]
  refine ecall0 _ c7 (by simp only [go_sem]) (by simp only [go_sem]) ?_
  simp (maxSteps := 4000000) -implicitDefEqProofs only [go_sem, z1, Option.some.injEq, forall_eq', and_true, true_and, Bool.not_true, Bool.not_false, decide_true, Nat.reduceAdd, Nat.reduceSub, Nat.reduceLT, Nat.reduceLeDiff, Nat.reduceEqDiff, ↓reduceIte]
  refine ecall0 _ c8 (by simp only [go_sem]) (by simp only [go_sem]) ?_
  simp (maxSteps := 4000000) -implicitDefEqProofs only [go_sem, z1, Option.some.injEq, forall_eq', and_true, true_and, Bool.not_true, Bool.not_false, decide_true, Nat.reduceAdd, Nat.reduceSub, Nat.reduceLT, Nat.reduceLeDiff, Nat.reduceEqDiff, ↓reduceIte]
  refine ecall0 _ c9 (by simp only [go_sem]) (by simp only [go_sem]) ?_
  simp (maxSteps := 4000000) -implicitDefEqProofs only [go_sem, z1, Option.some.injEq, forall_eq', and_true, true_and, Bool.not_true, Bool.not_false, decide_true, Nat.reduceAdd, Nat.reduceSub, Nat.reduceLT, Nat.reduceLeDiff, Nat.reduceEqDiff, ↓reduceIte]
  exact wk_bool rfl
end Go.AX.Lg
namespace Go.Proofs.Ytcpkcjjhokbmkaa
open Go.AX Go.AX.Lg Go.RowKit
set_option maxRecDepth 100000 in
theorem ledgerGrows_lifted (os : Os) (started : os.Started) (H : Type) (enc : TypeId × Value → H) :
    ReturnsInHanded {} Try.checked os 4 .any (Rows.ledgerGrowsSpec.pre6 enc Try.prog Try.f4 Rows.ledgerGrowsRow.domain false) (Rows.ledgerGrowsSpec.post enc Try.prog Try.f4 false true false false) := by
  refine Go.AX.lifted (C := Try.checked) (f := 4) (fn := Try.f4) (s := Rows.ledgerGrowsSpec) (rt := 4) (n := 8) (by kernel_rfl) (by kernel_rfl) Try.func4 rfl ?_ rfl (by kernel_rfl) (by kernel_rfl) (by kernel_rfl) (by kernel_rfl) os started H enc
    (ChangeSpec.witness6 (enc := enc) (C := Try.checked) false ⟨#[], #[.agg #[.slice none 0 0, .slice none 0 0, .slice none 0 0], .string ByteArray.empty, .agg #[.int .u8 0, .string ByteArray.empty], .string ByteArray.empty, .int .i64 0], []⟩ 8 (by kernel_rfl) (by kernel_rfl) (by kernel_rfl) (by kernel_rfl)) ?_
  · intro H ds h
    match ds, h with
    | [a0, a1, a2, a3, a4], _ => rfl
  · intro xs hx
    have hp : Try.f4.params.toList = [26, 9, 28, 9, 3] := rfl
    rw [hp] at hx ⊢
    have i0 : isA Try.prog 26 = true := by kernel_rfl
    have i1 : isA Try.prog 9 = false := by kernel_rfl
    have i2 : isA Try.prog 28 = true := by kernel_rfl
    have i3 : isA Try.prog 9 = false := by kernel_rfl
    have i4 : isA Try.prog 3 = false := by kernel_rfl
    rcases xs with _ | ⟨d0, _ | ⟨d1, _ | ⟨d2, _ | ⟨d3, _ | ⟨d4, _ | ⟨d5, xs⟩⟩⟩⟩⟩⟩ <;> simp only [Tyds, and_false] at hx
    obtain ⟨k0, k1, k2, k3, k4, _⟩ := hx
    obtain ⟨l, rfl, hl⟩ := ledger_of k0
    obtain ⟨nm, rfl, hnm⟩ := str_of k1
    obtain ⟨x, rfl, hx⟩ := event_of k2
    obtain ⟨n2, rfl, hn2⟩ := str_of k3
    obtain ⟨at', rfl, hat'⟩ := int_of k4
    simp only [avs, i0, i1, i2, i3, i4, dv, Bool.false_eq_true, if_false, if_true, List.headD_cons, List.map_cons, List.map_nil]
    exact grows_law l nm x n2 at' hl
theorem ledgerGrows_over : Rows.ledgerGrowsRow.holds Try.pinned (OpenSpec.ofChange Rows.ledgerGrowsSpec) :=
  OpenClaim.holds_of_wide 4 Try.f4 rfl rfl rfl rfl rfl rfl rfl ⟨rfl, rfl, rfl, rfl, rfl⟩ rfl rfl rfl rfl rfl (by kernel_rfl) Try.func4 (by kernel_rfl)
    (of_decide_eq_true (by kernel_rfl)) (by unfold Func.isWrapper; first | (rw [if_pos (by decide +kernel)]; kernel_rfl) | (rw [if_neg (by decide +kernel)]; exact ⟨rfl, rfl⟩))
    (fun os started H enc _ => ledgerGrows_lifted os started H enc)
/-- The row, under a short name, for the claim. -/
theorem ledgerGrows_holds : Rows.LedgerGrowsSaid := ledgerGrows_over
#print axioms ledgerGrows_holds
end Go.Proofs.Ytcpkcjjhokbmkaa

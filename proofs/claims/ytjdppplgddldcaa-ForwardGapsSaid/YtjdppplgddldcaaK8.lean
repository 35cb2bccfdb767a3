/- Ledgers: a law's arguments. LedgerGrows: whatever the input, the law returns true, and its arguments read as they did. No condition. -/
import Derived.Test.YtjdppplgddldcaaK7
import Derived.Test.YtjdppplgddldcaaRows
set_option maxHeartbeats 8000000
set_option linter.unusedVariables false
set_option linter.unusedSimpArgs false
set_option maxRecDepth 20000
namespace Go.AX.Lg
open Go.Proofs Go.RowKit Go.IntWalk Go.AX.Br
theorem int_of {n : Nat} {d : List D} (h : Tyd Try.prog (n + 1) 3 d) : ∃ i : Int, d = [.int .i64 i] ∧ (-9223372036854775808 ≤ i ∧ i ≤ 9223372036854775807) := by
  obtain ⟨i, rfl, hw⟩ := h.int Ty.under_3
  exact ⟨i, rfl, wf_i64 hw⟩
theorem u8_of {n : Nat} {d : List D} (h : Tyd Try.prog (n + 1) 5 d) : ∃ i : Int, d = [.int .u8 i] ∧ (0 ≤ i ∧ i ≤ 255) := by
  obtain ⟨i, rfl, hw⟩ := h.int Ty.under_5
  exact ⟨i, rfl, wf_u8 hw⟩
theorem str_of {n : Nat} {d : List D} (h : Tyd Try.prog (n + 1) 9 d) : ∃ s : ByteArray, d = [.str s] ∧ Sm s.size := by
  obtain ⟨i, rfl, hw⟩ := h.str Ty.under_9
  exact ⟨i, rfl, hw⟩
theorem branch_of {n : Nat} {x : List D} (h : Tyd Try.prog (n + 2) 89 x) : ∃ p : Br, x = bD p ∧ (-9223372036854775808 ≤ p.at' ∧ p.at' ≤ 9223372036854775807) := by
  obtain ⟨f0, f1, f2, hu, e0, e1, e2⟩ : ∃ f0 f1 f2 : Field, Try.prog.underlying 89 = some (.struct #[f0, f1, f2]) ∧ f0.type = 9 ∧ f1.type = 9 ∧ f2.type = 3 := ⟨_, _, _, by rfl, rfl, rfl, rfl⟩
  have this := h.struct hu
  simp only [List.map_cons, List.map_nil, Sq] at this
  obtain ⟨a0, b0, rfl, k0, a1, b1, rfl, k1, a2, b2, rfl, k2, rfl⟩ := this
  rw [e0] at k0; rw [e1] at k1; rw [e2] at k2
  obtain ⟨i, rfl, hi⟩ := str_of k0
  obtain ⟨j, rfl, hj⟩ := str_of k1
  obtain ⟨k, rfl, hk⟩ := int_of k2
  exact ⟨⟨i, j, k⟩, rfl, hk⟩
theorem known_of {n : Nat} {x : List D} (h : Tyd Try.prog (n + 2) 58 x) : ∃ p : Kn, x = kD p ∧ (-9223372036854775808 ≤ p.cl ∧ p.cl ≤ 9223372036854775807) := by
  obtain ⟨f0, f1, hu, e0, e1⟩ : ∃ f0 f1 : Field, Try.prog.underlying 58 = some (.struct #[f0, f1]) ∧ f0.type = 9 ∧ f1.type = 3 := ⟨_, _, by rfl, rfl, rfl⟩
  have this := h.struct hu
  simp only [List.map_cons, List.map_nil, Sq] at this
  obtain ⟨a0, b0, rfl, k0, a1, b1, rfl, k1, rfl⟩ := this
  rw [e0] at k0; rw [e1] at k1
  obtain ⟨i, rfl, hi⟩ := str_of k0
  obtain ⟨k, rfl, hk⟩ := int_of k1
  exact ⟨⟨i, k⟩, rfl, hk⟩
theorem event_of {n : Nat} {x : List D} (h : Tyd Try.prog (n + 2) 63 x) : ∃ p : Ev, x = eD p ∧ (0 ≤ p.kd ∧ p.kd ≤ 255) := by
  obtain ⟨f0, f1, hu, e0, e1⟩ : ∃ f0 f1 : Field, Try.prog.underlying 63 = some (.struct #[f0, f1]) ∧ f0.type = 5 ∧ f1.type = 9 := ⟨_, _, by rfl, rfl, rfl⟩
  have this := h.struct hu
  simp only [List.map_cons, List.map_nil, Sq] at this
  obtain ⟨a0, b0, rfl, k0, a1, b1, rfl, k1, rfl⟩ := this
  rw [e0] at k0; rw [e1] at k1
  obtain ⟨i, rfl, hi⟩ := u8_of k0
  obtain ⟨k, rfl, hk⟩ := str_of k1
  exact ⟨⟨i, k⟩, rfl, hi⟩
theorem branches_of {n : Nat} {d : List D} (h : Tyd Try.prog (n + 3) 23 d) : ∃ l : List Br, d = [.sl (l.map bD)] ∧ Sm l.length ∧ ∀ b ∈ l, (-9223372036854775808 ≤ b.at' ∧ b.at' ≤ 9223372036854775807) := by
  obtain ⟨es, rfl, h1, h2⟩ := h.slice Ty.under_23
  obtain ⟨l, rfl, hl⟩ := rows_ofP (g := bD) fun x hx => branch_of (h2 x hx)
  refine ⟨l, rfl, ?_, hl⟩
  have hb : Try.prog.bytesOf 89 = 40 := by kernel_rfl
  rw [hb, List.length_map] at h1
  unfold Sm; omega
theorem knowns_of {n : Nat} {d : List D} (h : Tyd Try.prog (n + 3) 22 d) : ∃ l : List Kn, d = [.sl (l.map kD)] ∧ Sm l.length ∧ ∀ b ∈ l, (-9223372036854775808 ≤ b.cl ∧ b.cl ≤ 9223372036854775807) := by
  obtain ⟨es, rfl, h1, h2⟩ := h.slice Ty.under_22
  obtain ⟨l, rfl, hl⟩ := rows_ofP (g := kD) fun x hx => known_of (h2 x hx)
  refine ⟨l, rfl, ?_, hl⟩
  have hb : Try.prog.bytesOf 58 = 24 := by kernel_rfl
  rw [hb, List.length_map] at h1
  unfold Sm; omega
theorem events_of {n : Nat} {d : List D} (h : Tyd Try.prog (n + 3) 99 d) : ∃ l : List Ev, d = esD l ∧ Sm l.length ∧ ∀ b ∈ l, (0 ≤ b.kd ∧ b.kd ≤ 255) := by
  obtain ⟨es, rfl, h1, h2⟩ := h.slice Ty.under_99
  obtain ⟨l, rfl, hl⟩ := rows_ofP (g := eD) fun x hx => event_of (h2 x hx)
  refine ⟨l, rfl, ?_, hl⟩
  have hb : Try.prog.bytesOf 63 = 24 := by kernel_rfl
  rw [hb, List.length_map] at h1
  unfold Sm; omega
theorem eventss_of {n : Nat} {d : List D} (h : Tyd Try.prog (n + 4) 24 d) : ∃ l : List (List Ev), d = [.sl (l.map esD)] ∧ Sm l.length ∧ ∀ b ∈ l, Sm b.length ∧ ∀ x ∈ b, (0 ≤ x.kd ∧ x.kd ≤ 255) := by
  obtain ⟨es, rfl, h1, h2⟩ := h.slice Ty.under_24
  obtain ⟨l, rfl, hl⟩ := rows_ofP (g := esD) fun x hx => events_of (h2 x hx)
  refine ⟨l, rfl, ?_, hl⟩
  have hb : Try.prog.bytesOf 99 = 24 := by kernel_rfl
  rw [hb, List.length_map] at h1
  unfold Sm; omega
/-- the sizes and numbers of a ledger are those of Go -/
structure LSm (l : Lg) : Prop where
  k : Sm l.kn.length
  b : Sm l.br.length
  e : Sm l.ev.length
  s : ∀ s ∈ l.ev, Sm s.length
  kv : ∀ x ∈ l.kn, (-9223372036854775808 ≤ x.cl ∧ x.cl ≤ 9223372036854775807)
  bv : ∀ x ∈ l.br, (-9223372036854775808 ≤ x.at' ∧ x.at' ≤ 9223372036854775807)
  ev : ∀ s ∈ l.ev, ∀ x ∈ s, (0 ≤ x.kd ∧ x.kd ≤ 255)
theorem ledger_of {n : Nat} {x : List D} (h : Tyd Try.prog (n + 5) 26 x) : ∃ l : Lg, x = [.sl (l.kn.map kD), .sl (l.br.map bD), .sl (l.ev.map esD)] ∧ LSm l := by
  obtain ⟨f0, f1, f2, hu, e0, e1, e2⟩ : ∃ f0 f1 f2 : Field, Try.prog.underlying 26 = some (.struct #[f0, f1, f2]) ∧ f0.type = 22 ∧ f1.type = 23 ∧ f2.type = 24 := ⟨_, _, _, by rfl, rfl, rfl, rfl⟩
  have this := h.struct hu
  simp only [List.map_cons, List.map_nil, Sq] at this
  obtain ⟨a0, b0, rfl, k0, a1, b1, rfl, k1, a2, b2, rfl, k2, rfl⟩ := this
  rw [e0] at k0; rw [e1] at k1; rw [e2] at k2
  obtain ⟨i, rfl, h1, h1'⟩ := knowns_of k0
  obtain ⟨j, rfl, h2, h2'⟩ := branches_of k1
  obtain ⟨k, rfl, h3, h3'⟩ := eventss_of k2
  exact ⟨⟨i, j, k⟩, rfl, h1, h2, h3, fun s hs => (h3' s hs).1, h1', h2', fun s hs => (h3' s hs).2⟩
/-- a ledger that is not great -/
structure Fit (l : Lg) : Prop where
  k : l.kn.length ≤ 40
  b : l.br.length ≤ 20
  e : l.ev.length ≤ 20
  s : ∀ s ∈ l.ev, s.length ≤ 50 ∧ (s.length ≤ 8 ∨ 40 < s.length)
  kn : ∀ k ∈ l.kn, k.ch.size ≤ 100
  en : ∀ s ∈ l.ev, ∀ x ∈ s, x.ch.size ≤ 100
  bn : ∀ b ∈ l.br, b.name.size ≤ 100 ∧ b.frm.size ≤ 100
theorem fit_of {l : Lg} (h : greatL l = false) : Fit l := by
  simp only [greatL, great, Bool.or_eq_false_iff, decide_eq_false_iff_not, List.any_eq_false] at h
  obtain ⟨⟨h1, h2⟩, ⟨h3, h4, h5, h5'⟩, h6⟩ := h
  refine ⟨by omega, by omega, by omega, fun s hs => ?_, fun k hk => ?_, fun s hs x hx => ?_, fun b hb => ?_⟩
  · have := h2 s hs
    simp only [bigS, bigN, Bool.or_eq_true, Bool.and_eq_true, decide_eq_true_eq, not_or, not_and] at this
    omega
  · have := h1 k hk
    simp only [bigK, decide_eq_true_eq] at this
    omega
  · have := h2 s hs
    simp only [bigS, Bool.or_eq_true, not_or, List.any_eq_true, not_exists, not_and] at this
    have := this.2 x hx
    simp only [bigE, decide_eq_true_eq] at this
    omega
  · have := h4 b hb
    simp only [Bool.or_eq_true, decide_eq_true_eq, not_or] at this
    omega
end Go.AX.Lg

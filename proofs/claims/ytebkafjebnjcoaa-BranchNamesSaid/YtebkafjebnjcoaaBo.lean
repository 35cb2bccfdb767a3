/- Branches: a law's arguments. -/
import Derived.Test.YtebkafjebnjcoaaAxTy
import Derived.Test.YtebkafjebnjcoaaBa
set_option maxHeartbeats 1000000
set_option linter.unusedVariables false
set_option linter.unusedSimpArgs false
set_option maxRecDepth 20000
namespace Go.AX.Br
open Go.Proofs Go.RowKit Go.IntWalk
theorem int_of {n : Nat} {d : List D} (h : Tyd Try.prog (n + 1) 3 d) : ∃ i : Int, d = [.int .i64 i] ∧ (-9223372036854775808 ≤ i ∧ i ≤ 9223372036854775807) := by
  obtain ⟨i, rfl, hw⟩ := h.int Ty.under_3
  exact ⟨i, rfl, wf_i64 hw⟩
theorem str_of {n : Nat} {d : List D} (h : Tyd Try.prog (n + 1) 9 d) : ∃ s : ByteArray, d = [.str s] ∧ Sm s.size := by
  obtain ⟨i, rfl, hw⟩ := h.str Ty.under_9
  exact ⟨i, rfl, hw⟩
theorem ints_of {n : Nat} {d : List D} (h : Tyd Try.prog (n + 2) 23 d) : ∃ l : List Int, d = [.sl (l.map iD)] ∧ Sm l.length ∧ ∀ i ∈ l, -9223372036854775808 ≤ i ∧ i ≤ 9223372036854775807 := by
  obtain ⟨es, rfl, h1, h2⟩ := h.slice Ty.under_23
  obtain ⟨l, rfl, hl⟩ := rows_ofP (g := iD) fun x hx => int_of (h2 x hx)
  refine ⟨l, rfl, ?_, hl⟩
  have hb : Try.prog.bytesOf 3 = 8 := by kernel_rfl
  rw [hb, List.length_map] at h1
  unfold Sm; omega
theorem under_branch : ∃ f0 f1 f2 : Field, Try.prog.underlying 43 = some (.struct #[f0, f1, f2]) ∧ f0.type = 9 ∧ f1.type = 9 ∧ f2.type = 3 := ⟨_, _, _, by rfl, rfl, rfl, rfl⟩
theorem branch_of {n : Nat} {x : List D} (h : Tyd Try.prog (n + 2) 43 x) : ∃ p : Br, x = bD p ∧ (-9223372036854775808 ≤ p.at' ∧ p.at' ≤ 9223372036854775807) ∧ Sm p.name.size ∧ Sm p.frm.size := by
  obtain ⟨f0, f1, f2, hu, e0, e1, e2⟩ := under_branch
  have this := h.struct hu
  simp only [List.map_cons, List.map_nil, Sq] at this
  obtain ⟨a0, b0, rfl, k0, a1, b1, rfl, k1, a2, b2, rfl, k2, rfl⟩ := this
  rw [e0] at k0; rw [e1] at k1; rw [e2] at k2
  obtain ⟨i, rfl, hi⟩ := str_of k0
  obtain ⟨j, rfl, hj⟩ := str_of k1
  obtain ⟨k, rfl, hk⟩ := int_of k2
  exact ⟨⟨i, j, k⟩, rfl, hk, hi, hj⟩
theorem branches_of {n : Nat} {d : List D} (h : Tyd Try.prog (n + 3) 22 d) : ∃ l : List Br, d = [.sl (l.map bD)] ∧ Sm l.length ∧ ∀ b ∈ l, (-9223372036854775808 ≤ b.at' ∧ b.at' ≤ 9223372036854775807) ∧ Sm b.name.size ∧ Sm b.frm.size := by
  obtain ⟨es, rfl, h1, h2⟩ := h.slice Ty.under_22
  obtain ⟨l, rfl, hl⟩ := rows_ofP (g := bD) fun x hx => branch_of (h2 x hx)
  refine ⟨l, rfl, ?_, hl⟩
  have hb : Try.prog.bytesOf 43 = 40 := by kernel_rfl
  rw [hb, List.length_map] at h1
  unfold Sm; omega
end Go.AX.Br

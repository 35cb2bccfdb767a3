/- DeltaApplies: whatever the input, the law returns true, and its arguments read as they did. No condition. -/
import Derived.Test.YtmffhidhmbncbaaDg
import Derived.Test.YtmffhidhmbncbaaRows
set_option maxHeartbeats 1000000
set_option linter.unusedVariables false
set_option linter.unusedSimpArgs false
set_option maxRecDepth 20000
namespace Go.AX.De
open Go.Proofs Go.RowKit Go.IntWalk
theorem bytes_of {n : Nat} {d : List D} (h : Tyd Try.prog (n + 2) 22 d) : ∃ l : List Int, d = [.sl (l.map bI)] ∧ Sm l.length := by
  obtain ⟨es, rfl, h1, h2⟩ := h.slice Ty.under_22
  obtain ⟨l, rfl⟩ := rows_of (g := bI) fun x hx => by
    obtain ⟨i, rfl, _⟩ := (h2 x hx).int Ty.under_5
    exact ⟨i, rfl⟩
  refine ⟨l, rfl, ?_⟩
  have hb : Try.prog.bytesOf 5 = 1 := by kernel_rfl
  rw [hb, List.length_map] at h1
  unfold Sm; omega
theorem int_of {n : Nat} {d : List D} (h : Tyd Try.prog (n + 1) 3 d) : ∃ i : Int, d = [.int .i64 i] := by
  obtain ⟨i, rfl, _⟩ := h.int Ty.under_3
  exact ⟨i, rfl⟩
theorem under_part : ∃ f0 f1 f2 : Field, Try.prog.underlying 52 = some (.struct #[f0, f1, f2]) ∧ f0.type = 3 ∧ f1.type = 3 ∧ f2.type = 22 := ⟨_, _, _, by rfl, rfl, rfl, rfl⟩
theorem part_of {n : Nat} {x : List D} (h : Tyd Try.prog (n + 3) 52 x) : ∃ p : Part, x = pD p := by
  obtain ⟨f0, f1, f2, hu, e0, e1, e2⟩ := under_part
  have this := h.struct hu
  simp only [List.map_cons, List.map_nil, Sq] at this
  obtain ⟨a0, b0, rfl, k0, a1, b1, rfl, k1, a2, b2, rfl, k2, rfl⟩ := this
  rw [e0] at k0; rw [e1] at k1; rw [e2] at k2
  obtain ⟨i, rfl⟩ := int_of k0
  obtain ⟨j, rfl⟩ := int_of k1
  obtain ⟨bs, rfl, _⟩ := bytes_of k2
  exact ⟨⟨i, j, bs⟩, rfl⟩
theorem parts_of {n : Nat} {d : List D} (h : Tyd Try.prog (n + 4) 23 d) : ∃ l : List Part, d = [.sl (l.map pD)] ∧ Sm l.length := by
  obtain ⟨es, rfl, h1, h2⟩ := h.slice Ty.under_23
  obtain ⟨l, rfl⟩ := rows_of (g := pD) fun x hx => part_of (h2 x hx)
  refine ⟨l, rfl, ?_⟩
  have hb : Try.prog.bytesOf 52 = 40 := by kernel_rfl
  rw [hb, List.length_map] at h1
  unfold Sm; omega
end Go.AX.De
namespace Go.Proofs.Ytmffhidhmbncbaa
open Go.AX Go.AX.De Go.RowKit
set_option maxRecDepth 100000 in
theorem deltaApplies_lifted (os : Os) (started : os.Started) (H : Type) (enc : TypeId × Value → H) :
    ReturnsInHanded {} Try.checked os 3 .any (Rows.deltaAppliesSpec.pre6 enc Try.prog Try.f3 Rows.deltaAppliesRow.domain false) (Rows.deltaAppliesSpec.post enc Try.prog Try.f3 false true false false) := by
  refine Go.AX.lifted (C := Try.checked) (f := 3) (fn := Try.f3) (s := Rows.deltaAppliesSpec) (rt := 4) (n := 5) (by kernel_rfl) (by kernel_rfl) Try.func3 rfl ?_ rfl (by kernel_rfl) (by kernel_rfl) (by kernel_rfl) (by kernel_rfl) os started H enc
    (ChangeSpec.witness6 (enc := enc) (C := Try.checked) false ⟨#[], #[.slice none 0 0, .slice none 0 0, .int .i64 0], []⟩ 8 (by kernel_rfl) (by kernel_rfl) (by kernel_rfl) (by kernel_rfl)) ?_
  · intro H ds h
    match ds, h with
    | [a, b, c], _ => rfl
  · intro xs hx
    have hp : Try.f3.params.toList = [22, 23, 3] := rfl
    rw [hp] at hx ⊢
    have i0 : isA Try.prog 22 = false := by kernel_rfl
    have i1 : isA Try.prog 23 = false := by kernel_rfl
    have i2 : isA Try.prog 3 = false := by kernel_rfl
    rcases xs with _ | ⟨d0, _ | ⟨d1, _ | ⟨d2, _ | ⟨d3, xs⟩⟩⟩⟩ <;> simp only [Tyds, and_false] at hx
    obtain ⟨h0, h1, h2, _⟩ := hx
    obtain ⟨base, rfl, hb⟩ := bytes_of h0
    obtain ⟨l, rfl, hl⟩ := parts_of h1
    obtain ⟨n, rfl⟩ := int_of h2
    simp only [avs, i0, i1, i2, dv, Bool.false_eq_true, if_false, List.headD_cons]
    exact applies_law base l n hb hl
theorem deltaApplies_over : Rows.deltaAppliesRow.holds Try.pinned (OpenSpec.ofChange Rows.deltaAppliesSpec) :=
  OpenClaim.holds_of_wide 3 Try.f3 rfl rfl rfl rfl rfl rfl rfl ⟨rfl, rfl, rfl, rfl, rfl⟩ rfl rfl rfl rfl rfl (by kernel_rfl) Try.func3 (by kernel_rfl)
    (of_decide_eq_true (by kernel_rfl)) (by unfold Func.isWrapper; first | (rw [if_pos (by decide +kernel)]; kernel_rfl) | (rw [if_neg (by decide +kernel)]; exact ⟨rfl, rfl⟩))
    (fun os started H enc _ => deltaApplies_lifted os started H enc)
/-- The row, under a short name, for the claim. -/
theorem deltaApplies_holds : Rows.DeltaAppliesSaid := deltaApplies_over
#print axioms deltaApplies_holds
end Go.Proofs.Ytmffhidhmbncbaa

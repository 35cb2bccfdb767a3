/- BranchViews: whatever the input, the law returns true, and its arguments read as they did. No condition. -/
import Derived.Test.YtebkafjebnjcoaaBn
import Derived.Test.YtebkafjebnjcoaaBo
import Derived.Test.YtebkafjebnjcoaaRows
set_option maxHeartbeats 1000000
set_option linter.unusedVariables false
set_option linter.unusedSimpArgs false
set_option maxRecDepth 20000
namespace Go.AX.Br
end Go.AX.Br
namespace Go.Proofs.Ytebkafjebnjcoaa
open Go.AX Go.AX.Br Go.RowKit
set_option maxRecDepth 100000 in
theorem branchViews_lifted (os : Os) (started : os.Started) (H : Type) (enc : TypeId × Value → H) :
    ReturnsInHanded {} Try.checked os 3 .any (Rows.branchViewsSpec.pre6 enc Try.prog Try.f3 Rows.branchViewsRow.domain false) (Rows.branchViewsSpec.post enc Try.prog Try.f3 false true false false) := by
  refine Go.AX.lifted (C := Try.checked) (f := 3) (fn := Try.f3) (s := Rows.branchViewsSpec) (rt := 4) (n := 8) (by kernel_rfl) (by kernel_rfl) Try.func3 rfl ?_ rfl (by kernel_rfl) (by kernel_rfl) (by kernel_rfl) (by kernel_rfl) os started H enc
    (ChangeSpec.witness6 (enc := enc) (C := Try.checked) false ⟨#[], #[.slice none 0 0, .slice none 0 0, .string ByteArray.empty, .string ByteArray.empty], []⟩ 8 (by kernel_rfl) (by kernel_rfl) (by kernel_rfl) (by kernel_rfl)) ?_
  · intro H ds h
    match ds, h with
    | [a0, a1, a2, a3], _ => rfl
  · intro xs hx
    have hp : Try.f3.params.toList = [22, 23, 9, 9] := rfl
    rw [hp] at hx ⊢
    have i0 : isA Try.prog 22 = false := by kernel_rfl
    have i1 : isA Try.prog 23 = false := by kernel_rfl
    have i2 : isA Try.prog 9 = false := by kernel_rfl
    have i3 : isA Try.prog 9 = false := by kernel_rfl
    rcases xs with _ | ⟨d0, _ | ⟨d1, _ | ⟨d2, _ | ⟨d3, _ | ⟨d4, xs⟩⟩⟩⟩⟩ <;> simp only [Tyds, and_false] at hx
    obtain ⟨k0, k1, k2, k3, _⟩ := hx
    obtain ⟨l, rfl, hl, wl⟩ := branches_of k0
    obtain ⟨cs, rfl, hcs, wcs⟩ := ints_of k1
    obtain ⟨a, rfl, ha⟩ := str_of k2
    obtain ⟨b, rfl, hb⟩ := str_of k3
    simp only [avs, i0, i1, i2, i3, dv, Bool.false_eq_true, if_false, if_true, List.headD_cons, List.map_cons, List.map_nil]
    exact views_law l cs a b hl hcs
theorem branchViews_over : Rows.branchViewsRow.holds Try.pinned (OpenSpec.ofChange Rows.branchViewsSpec) :=
  OpenClaim.holds_of_wide 3 Try.f3 rfl rfl rfl rfl rfl rfl rfl ⟨rfl, rfl, rfl, rfl, rfl⟩ rfl rfl rfl rfl rfl (by kernel_rfl) Try.func3 (by kernel_rfl)
    (of_decide_eq_true (by kernel_rfl)) (by unfold Func.isWrapper; first | (rw [if_pos (by decide +kernel)]; kernel_rfl) | (rw [if_neg (by decide +kernel)]; exact ⟨rfl, rfl⟩))
    (fun os started H enc _ => branchViews_lifted os started H enc)
/-- The row, under a short name, for the claim. -/
theorem branchViews_holds : Rows.BranchViewsSaid := branchViews_over
#print axioms branchViews_holds
end Go.Proofs.Ytebkafjebnjcoaa

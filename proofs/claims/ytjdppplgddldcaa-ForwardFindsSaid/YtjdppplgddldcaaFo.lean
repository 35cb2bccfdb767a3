/- ForwardFinds: whatever the input, the law returns true, and its arguments read as they did. No condition. -/
import Derived.Test.YtjdppplgddldcaaK11
set_option maxHeartbeats 8000000
set_option linter.unusedVariables false
set_option linter.unusedSimpArgs false
set_option maxRecDepth 20000
namespace Go.AX.Fw
open Go.Proofs Go.RowKit Go.IntWalk Go.AX.Br Go.AX.Lg
theorem forwardFinds_spec (l : Lg) (o : List ByteArray) (c : Int) (nm : ByteArray) (hl : LSm l) (hso : Sm o.length) : Spec Try.prog 4 [lA l, .d (.sl (o.map sD)), .d (.int .i64 c), .d (.str nm)] [] (.d (.bool true)) [] := finds30_law l o c nm hl hso
end Go.AX.Fw
namespace Go.Proofs.Ytjdppplgddldcaa
open Go.AX Go.AX.Fw Go.RowKit
set_option maxRecDepth 100000 in
theorem forwardFinds_lifted (os : Os) (started : os.Started) (H : Type) (enc : TypeId × Value → H) :
    ReturnsInHanded {} Try.checked os 4 .any (Rows.forwardFindsSpec.pre6 enc Try.prog Try.f4 Rows.forwardFindsRow.domain false) (Rows.forwardFindsSpec.post enc Try.prog Try.f4 false true false false) := by
  refine Go.AX.lifted (C := Try.checked) (f := 4) (fn := Try.f4) (s := Rows.forwardFindsSpec) (rt := 4) (n := 8) (by kernel_rfl) (by kernel_rfl) Try.func4 rfl ?_ rfl (by kernel_rfl) (by kernel_rfl) (by kernel_rfl) (by kernel_rfl) os started H enc
    (ChangeSpec.witness6 (enc := enc) (C := Try.checked) false ⟨#[], #[.agg #[.slice none 0 0, .slice none 0 0, .slice none 0 0], .slice none 0 0, .int .i64 0, .string ByteArray.empty], []⟩ 8 (by kernel_rfl) (by kernel_rfl) (by kernel_rfl) (by kernel_rfl)) ?_
  · intro H ds h
    match ds, h with
    | [a0, a1, a2, a3], _ => rfl
  · intro xs hx
    have hp : Try.f4.params.toList = [26, 27, 3, 9] := rfl
    rw [hp] at hx ⊢
    have i0 : isA Try.prog 26 = true := by kernel_rfl
    have i1 : isA Try.prog 27 = false := by kernel_rfl
    have i2 : isA Try.prog 3 = false := by kernel_rfl
    have i3 : isA Try.prog 9 = false := by kernel_rfl
    rcases xs with _ | ⟨d0, _ | ⟨d1, _ | ⟨d2, _ | ⟨d3, _ | ⟨d4, xs⟩⟩⟩⟩⟩ <;> simp only [Tyds, and_false] at hx
    obtain ⟨k0, k1, k2, k3, _⟩ := hx
    obtain ⟨l, rfl, hl⟩ := ledger_of k0
    obtain ⟨o, rfl, ho⟩ := texts_of k1
    obtain ⟨c, rfl, hc⟩ := int_of k2
    obtain ⟨nm, rfl, hnm⟩ := str_of k3
    simp only [avs, i0, i1, i2, i3, dv, Bool.false_eq_true, if_false, if_true, List.headD_cons, List.map_cons, List.map_nil]
    exact forwardFinds_spec l o c nm hl ho
theorem forwardFinds_over : Rows.forwardFindsRow.holds Try.pinned (OpenSpec.ofChange Rows.forwardFindsSpec) :=
  OpenClaim.holds_of_wide 4 Try.f4 rfl rfl rfl rfl rfl rfl rfl ⟨rfl, rfl, rfl, rfl, rfl⟩ rfl rfl rfl rfl rfl (by kernel_rfl) Try.func4 (by kernel_rfl)
    (of_decide_eq_true (by kernel_rfl)) (by unfold Func.isWrapper; first | (rw [if_pos (by decide +kernel)]; kernel_rfl) | (rw [if_neg (by decide +kernel)]; exact ⟨rfl, rfl⟩))
    (fun os started H enc _ => forwardFinds_lifted os started H enc)
/-- The row, under a short name, for the claim. -/
theorem forwardFinds_holds : Rows.ForwardFindsSaid := forwardFinds_over
#print axioms forwardFinds_holds
end Go.Proofs.Ytjdppplgddldcaa

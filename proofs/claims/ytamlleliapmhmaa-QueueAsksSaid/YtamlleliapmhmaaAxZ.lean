/- AX, part Z: a row given up within a call. -/
import Derived.Test.YtamlleliapmhmaaAxY
set_option linter.unusedVariables false
set_option linter.unusedSimpArgs false
namespace Go.AX
/-- before a call, what is known may be said with less -/
theorem Spec.pre {P : Program} {f : FuncId} {args args' : List AV} {σ σ' τ : List AObj} {r : AV} (k : Wk σ.length args σ args' σ') (h : Spec P f args' σ' r τ) : Spec P f args σ r τ := by
  obtain ⟨hf, hc⟩ := h
  refine ⟨hf, fun c vs H ha => ?_⟩
  rw [← H.n] at k
  obtain ⟨c1, w1, N1, hx⟩ := k.nxt (.refl H) ha
  have := hc c1 vs N1.hold hx
  rw [w1] at this
  refine this.mono ?_
  rintro e w' ⟨c2, v, rfl, rfl, hv, N2⟩
  exact ⟨c2, v, rfl, rfl, hv, N1.trans N2⟩
theorem Spec.frz {P : Program} {f : FuncId} {args : List AV} {σ τ : List AObj} {r : AV} (l : Nat) {sz : Nat} {es : List (List D)} (hl : σ[l]? = some (.row sz es)) (h : Spec P f (sbs l (.sl es) args) (σ.set l .gone) r τ) : Spec P f args σ r τ :=
  Spec.pre (Wk.frz l hl) h
theorem Spec.liftN {P : Program} {f : FuncId} {args : List AV} {r : AV} {τ : List AObj} (h : Spec P f args [] r τ) (σ : List AObj) (hb : bds 0 args) : Spec P f args σ (ren (rn [] σ.length) r) (σ ++ mapO (rn [] σ.length) τ) := by
  have := Spec.frame (σ := σ) [] h hb (by simp) (by simp) rfl trivial
  rw [rens_id hb] at this
  simpa [back, setAll] using this
theorem idx_get {α : Type} {p : α → Bool} {l : List α} (h : 0 ≤ idx p l) : ∃ (i : Nat) (x : α), idx p l = i ∧ l[i]? = some x ∧ p x = true := by
  unfold idx at *
  cases q : l.findIdx? p with
  | none => rw [q] at h; simp at h
  | some k =>
    obtain ⟨hk, hp, _⟩ := List.findIdx?_eq_some_iff_getElem.1 q
    exact ⟨k, _, rfl, List.getElem?_eq_getElem hk, hp⟩
theorem wf_u8 {i : Int} (h : (Lit.int .u8 i).wf = true) : 0 ≤ i ∧ i ≤ 255 := by
  simp only [Lit.wf, Bool.and_eq_true, decide_eq_true_eq] at h
  exact h
end Go.AX

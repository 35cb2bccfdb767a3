/- Forward: the plan closes all gaps: the plain law. -/
import Derived.Test.YtjdppplgddldcaaK15
set_option maxHeartbeats 8000000
set_option linter.unusedVariables false
set_option linter.unusedSimpArgs false
set_option maxRecDepth 20000
namespace Go.AX.Fw
open Go.Proofs Go.RowKit Go.IntWalk Go.AX.Br Go.AX.Lg
section
variable {G : Gr} {n : Nat}
/-- every place in the list is where its gap comes up -/
theorem pf_find0 (c : Nat) (hc : c < 30) (h0 : ∀ j, j < (pf G n c 0).length → ∃ c' k, c' < 30 ∧ k < n ∧ j = (pf G n c' k).length ∧ gapP G c' (n - 1 - k) = true) :
    ∀ k, k ≤ n → ∀ j, j < (pf G n c k).length → ∃ c' k, c' < 30 ∧ k < n ∧ j = (pf G n c' k).length ∧ gapP G c' (n - 1 - k) = true
  | 0, _ => h0
  | k + 1, hk => fun j hj => by
    have ih := pf_find0 c hc h0 k (by omega)
    rw [pf_step (by omega)] at hj
    cases z : gapP G c (n - 1 - k) with
    | false =>
      rw [z] at hj
      exact ih j (by simpa using hj)
    | true =>
      rw [z] at hj
      simp at hj
      rcases Nat.lt_or_ge j (pf G n c k).length with q | q
      · exact ih j q
      · exact ⟨c, k, hc, by omega, by omega, z⟩
theorem pf_find1 : ∀ c, c ≤ 30 → ∀ j, j < (pf G n c 0).length → ∃ c' k, c' < 30 ∧ k < n ∧ j = (pf G n c' k).length ∧ gapP G c' (n - 1 - k) = true
  | 0, _ => fun j hj => by rw [pf_0] at hj; simp at hj
  | c + 1, hc => fun j hj => by
    rw [pf_next] at hj
    exact pf_find0 c (by omega) (pf_find1 c (by omega)) n (Nat.le_refl _) j hj
theorem gap_pos {j c b : Nat} (h : (gapsL G n)[j]? = some (c, b)) : b < n ∧ j = (pf G n c (n - 1 - b)).length := by
  have hj := some_lt h
  rw [← pf_end] at hj
  obtain ⟨c', k, h1, h2, h3, h4⟩ := pf_find1 30 (Nat.le_refl _) j hj
  have := pf_get h1 h2 h4
  rw [← h3, h] at this
  simp only [Option.some.injEq, Prod.mk.injEq] at this
  obtain ⟨rfl, rfl⟩ := this
  exact ⟨by omega, by rw [show n - 1 - (n - 1 - k) = k by omega]; exact h3⟩
theorem gap_mem {c b : Nat} (hc : c < 30) (hb : b < n) (h : gapP G c b = true) : (c, b) ∈ gapsL G n := by
  have := pf_get (G := G) (n := n) (k := n - 1 - b) hc (by omega) (by rw [show n - 1 - (n - 1 - b) = b by omega]; exact h)
  rw [show n - 1 - (n - 1 - b) = b by omega] at this
  exact List.mem_of_getElem? this
end
end Go.AX.Fw
namespace Go.Proofs.Ytjdppplgddldcaa
open Go.AX Go.AX.Fw Go.RowKit
end Go.Proofs.Ytjdppplgddldcaa

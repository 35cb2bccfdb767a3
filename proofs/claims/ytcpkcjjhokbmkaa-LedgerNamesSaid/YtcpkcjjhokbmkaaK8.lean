/- Ledgers: a law's arguments. LedgerGrows: whatever the input, the law returns true, and its arguments read as they did. No condition. -/
import Derived.Test.YtcpkcjjhokbmkaaK7
import Derived.Test.YtcpkcjjhokbmkaaRows
set_option maxHeartbeats 8000000
set_option linter.unusedVariables false
set_option linter.unusedSimpArgs false
set_option maxRecDepth 20000
namespace Go.AX.Lg
open Go.Proofs Go.RowKit Go.IntWalk Go.AX.Br
/-- the sizes and numbers of a ledger are those of Go -/
structure LSm (l : Lg) : Prop where
  k : Sm l.kn.length
  b : Sm l.br.length
  e : Sm l.ev.length
  s : ∀ s ∈ l.ev, Sm s.length
  kv : ∀ x ∈ l.kn, (-9223372036854775808 ≤ x.cl ∧ x.cl ≤ 9223372036854775807)
  bv : ∀ x ∈ l.br, (-9223372036854775808 ≤ x.at' ∧ x.at' ≤ 9223372036854775807)
  ev : ∀ s ∈ l.ev, ∀ x ∈ s, (0 ≤ x.kd ∧ x.kd ≤ 255)
/-- a ledger that is not great -/
structure Fit (l : Lg) : Prop where
  k : l.kn.length ≤ 40
  b : l.br.length ≤ 20
  e : l.ev.length ≤ 20
  s : ∀ s ∈ l.ev, s.length ≤ 50 ∧ (s.length ≤ 8 ∨ 40 < s.length)
  kn : ∀ k ∈ l.kn, k.ch.size ≤ 100
  en : ∀ s ∈ l.ev, ∀ x ∈ s, x.ch.size ≤ 100
  bn : ∀ b ∈ l.br, b.name.size ≤ 100 ∧ b.frm.size ≤ 100
theorem fit_of {l : Lg} (h : greatL l = false) : Fit l := by
  simp only [greatL, great, Bool.or_eq_false_iff, decide_eq_false_iff_not, List.any_eq_false] at h
  obtain ⟨⟨h1, h2⟩, ⟨h3, h4, h5, h5'⟩, h6⟩ := h
  refine ⟨by omega, by omega, by omega, fun s hs => ?_, fun k hk => ?_, fun s hs x hx => ?_, fun b hb => ?_⟩
  · have := h2 s hs
    simp only [bigS, bigN, Bool.or_eq_true, Bool.and_eq_true, decide_eq_true_eq, not_or, not_and] at this
    omega
  · have := h1 k hk
    simp only [bigK, decide_eq_true_eq] at this
    omega
  · have := h2 s hs
    simp only [bigS, Bool.or_eq_true, not_or, List.any_eq_true, not_exists, not_and] at this
    have := this.2 x hx
    simp only [bigE, decide_eq_true_eq] at this
    omega
  · have := h4 b hb
    simp only [Bool.or_eq_true, decide_eq_true_eq, not_or] at this
    omega
end Go.AX.Lg
namespace Go.Proofs.Ytcpkcjjhokbmkaa
open Go.AX Go.AX.Lg Go.RowKit
end Go.Proofs.Ytcpkcjjhokbmkaa

/- Forward: the plan closes all gaps: the plain law. -/
import Derived.Test.YtjdppplgddldcaaK15
set_option maxHeartbeats 8000000
set_option linter.unusedVariables false
set_option linter.unusedSimpArgs false
set_option maxRecDepth 20000
namespace Go.AX.Fw
open Go.Proofs Go.RowKit Go.IntWalk Go.AX.Br Go.AX.Lg
section
variable {G : Gr} {n : Nat}
theorem fillN_mem {c b : Nat} : ∀ (l : List (Nat × Nat)) (G : Gr), (c, b) ∈ l → fillN G l c b = true
  | (c', b') :: l, G, h => by
    rcases List.mem_cons.1 h with e | e
    · cases e
      exact fillN_mono l (upd G c b) (by simp [upd])
    · exact fillN_mem l (upd G c' b') e
/-- every place in the list is where its gap comes up -/
theorem pf_find0 (c : Nat) (hc : c < 30) (h0 : ∀ j, j < (pf G n c 0).length → ∃ c' k, c' < 30 ∧ k < n ∧ j = (pf G n c' k).length ∧ gapP G c' (n - 1 - k) = true) :
    ∀ k, k ≤ n → ∀ j, j < (pf G n c k).length → ∃ c' k, c' < 30 ∧ k < n ∧ j = (pf G n c' k).length ∧ gapP G c' (n - 1 - k) = true
  | 0, _ => h0
  | k + 1, hk => fun j hj => by
    have ih := pf_find0 c hc h0 k (by omega)
    rw [pf_step (by omega)] at hj
    cases z : gapP G c (n - 1 - k) with
    | false =>
      rw [z] at hj
      exact ih j (by simpa using hj)
    | true =>
      rw [z] at hj
      simp at hj
      rcases Nat.lt_or_ge j (pf G n c k).length with q | q
      · exact ih j q
      · exact ⟨c, k, hc, by omega, by omega, z⟩
theorem pf_find1 : ∀ c, c ≤ 30 → ∀ j, j < (pf G n c 0).length → ∃ c' k, c' < 30 ∧ k < n ∧ j = (pf G n c' k).length ∧ gapP G c' (n - 1 - k) = true
  | 0, _ => fun j hj => by rw [pf_0] at hj; simp at hj
  | c + 1, hc => fun j hj => by
    rw [pf_next] at hj
    exact pf_find0 c (by omega) (pf_find1 c (by omega)) n (Nat.le_refl _) j hj
theorem gap_pos {j c b : Nat} (h : (gapsL G n)[j]? = some (c, b)) : b < n ∧ j = (pf G n c (n - 1 - b)).length := by
  have hj := some_lt h
  rw [← pf_end] at hj
  obtain ⟨c', k, h1, h2, h3, h4⟩ := pf_find1 30 (Nat.le_refl _) j hj
  have := pf_get h1 h2 h4
  rw [← h3, h] at this
  simp only [Option.some.injEq, Prod.mk.injEq] at this
  obtain ⟨rfl, rfl⟩ := this
  exact ⟨by omega, by rw [show n - 1 - (n - 1 - k) = k by omega]; exact h3⟩
theorem gap_mem {c b : Nat} (hc : c < 30) (hb : b < n) (h : gapP G c b = true) : (c, b) ∈ gapsL G n := by
  have := pf_get (G := G) (n := n) (k := n - 1 - b) hc (by omega) (by rw [show n - 1 - (n - 1 - b) = b by omega]; exact h)
  rw [show n - 1 - (n - 1 - b) = b by omega] at this
  exact List.mem_of_getElem? this
theorem fill_pf {j c b : Nat} (h : (gapsL G n)[j]? = some (c, b)) : fill G n j = fillN G (pf G n c (n - 1 - b)) := by
  obtain ⟨hc, _, _⟩ := gap_in h
  obtain ⟨r, e⟩ := pf_pre (G := G) (n := n) (k := n - 1 - b) hc
  unfold fill
  rw [(gap_pos h).2, e, List.take_left]
theorem pf_has {c k i : Nat} (hi : i < n) (hk : n < i + 1 + k) (h : gapP G c i = true) : (c, i) ∈ pf G n c k := by
  unfold pf tagC
  refine List.mem_append_right _ (List.mem_map.2 ⟨i, List.mem_filter.2 ⟨?_, h⟩, rfl⟩)
  refine List.mem_of_getElem? (i := n - 1 - i) ?_
  rw [List.getElem?_take_of_lt (by omega), rr_get (by omega)]
  congr 1; omega
/-- the steps of the plan work, one by one -/
theorem plan_ok {o : List ByteArray} {l : Lg} (ok : FOk l o) {G : Gr} {j c b : Nat} (h : (gapsL G o.length)[j]? = some (c, b)) :
    stepOk (fill G o.length j) o (stP o G j) = true ∧ (stP o G j).cl.toNat = c ∧ toI o (stP o G j) = b := by
  obtain ⟨hc, hbn, hgp⟩ := gap_in h
  obtain ⟨w, hwb, hw⟩ := gap_older hgp
  have hwf := fill_mono (n := o.length) (i := j) hw
  have hlast : ∀ i, w < i → lastT (fill G o.length j c) i < i ∧ fill G o.length j c (lastT (fill G o.length j c) i) = true := by
    intro i
    induction i with
    | zero => intro q; omega
    | succ i ih =>
      intro q
      rw [lastT]
      by_cases z : fill G o.length j c i = true
      · rw [if_pos z]; exact ⟨by omega, z⟩
      · rw [if_neg z]
        rcases Nat.lt_or_ge w i with e | e
        · have := ih e; exact ⟨by omega, this.2⟩
        · have : w = i := by omega
          rw [this] at hwf; exact absurd hwf z
  obtain ⟨f1, f2⟩ := hlast o.length (by omega)
  obtain ⟨y, hy⟩ : ∃ y, o[lastT (fill G o.length j c) o.length]? = some y := ⟨o[lastT (fill G o.length j c) o.length]'f1, List.getElem?_eq_getElem _⟩
  obtain ⟨x, hx⟩ : ∃ x, o[b]? = some x := ⟨o[b]'hbn, List.getElem?_eq_getElem _⟩
  have e0 : stP o G j = ⟨c, y, x⟩ := by simp only [stP, h, nameAt_of hx, nameAt_of hy]
  have i1 := idx_at ok hy
  have i2 := idx_at ok hx
  have ht : toI o ⟨c, y, x⟩ = b := by simp only [toI, i2, Int.toNat_natCast]
  refine ⟨?_, by rw [e0]; simp, by rw [e0]; exact ht⟩
  have nb : fill G o.length j c b = false := by
    cases z : fill G o.length j c b with
    | false => rfl
    | true =>
      rw [fill_pf h] at z
      rcases fillN_or (c := c) (b := b) (pf G o.length c (o.length - 1 - b)) G with q | q
      · rw [q] at z
        simp only [gapP, z, Bool.not_true, Bool.and_false] at hgp
        cases hgp
      · rcases pf_mem q with q | ⟨_, q⟩
        · exact absurd q (Nat.lt_irrefl _)
        · simp only at q; omega
  have al : alw (fill G o.length j) o.length c b = true := alw_t fun i h1 h2 => by
    cases z : G c i with
    | true => exact fill_mono z
    | false =>
      rw [fill_pf h]
      refine fillN_mem _ _ (pf_has h2 (by omega) ?_)
      rw [gap_gt (f := w) hw (by omega), z]; rfl
  rw [e0]
  unfold stepOk
  rw [ht]
  simp only [i1, i2, Int.toNat_natCast, f2, nb, al, Bool.not_false, Bool.and_true]
  simp only [Bool.and_eq_true, decide_eq_true_eq]
  omega
theorem no_gap {G : Gr} {n : Nat} : gapsL (fill G n (gapsL G n).length) n = [] := by
  rcases hl : gapsL (fill G n (gapsL G n).length) n with _ | ⟨⟨c, b⟩, r⟩
  · rfl
  · exfalso
    have hx : (gapsL (fill G n (gapsL G n).length) n)[0]? = some (c, b) := by rw [hl]; rfl
    obtain ⟨hc, hbn, hgp⟩ := gap_in hx
    obtain ⟨w, hwb, hw⟩ := gap_older hgp
    have hF : fill G n (gapsL G n).length = fillN G (gapsL G n) := by unfold fill; rw [List.take_length]
    rw [hF] at hw hgp
    have nb : fillN G (gapsL G n) c b = false := by
      cases z : fillN G (gapsL G n) c b with
      | false => rfl
      | true => simp only [gapP, z, Bool.not_true, Bool.and_false] at hgp; cases hgp
    have ng : G c b = false := by
      cases z : G c b with
      | false => rfl
      | true => rw [fillN_mono _ _ z] at nb; cases nb
    have old : ∃ v, v < b ∧ G c v = true := by
      rcases fillN_or (c := c) (b := w) (gapsL G n) G with q | q
      · exact ⟨w, hwb, by rw [← q]; exact hw⟩
      · obtain ⟨i, hi⟩ := List.mem_iff_getElem?.1 q
        obtain ⟨v, h1, h2⟩ := gap_older (gap_in hi).2.2
        exact ⟨v, by omega, h2⟩
    obtain ⟨v, hv, hgv⟩ := old
    have := fillN_mem (gapsL G n) G (gap_mem hc hbn (by rw [gap_gt hgv hv, ng]; rfl))
    rw [this] at nb; cases nb
end
end Go.AX.Fw
namespace Go.Proofs.Ytjdppplgddldcaa
open Go.AX Go.AX.Fw Go.RowKit
end Go.Proofs.Ytjdppplgddldcaa

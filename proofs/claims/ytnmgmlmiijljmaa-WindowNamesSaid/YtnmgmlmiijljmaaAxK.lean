/- AX, part K: cuts, make, slice literals, conversions, what a string is ranged over by. -/
import Derived.Test.YtnmgmlmiijljmaaAxJ
set_option linter.unusedVariables false
set_option linter.unusedSimpArgs false
namespace Go.AX
section
variable {P : Program} {o : Oper} {a : Act} {c : Cf} {σ : List AObj} {env : List AV}

theorem evSlice2_ok (H : Holds c σ) (he : ARs c env a.tmps.toList) {t : TypeId} {x : Operand} {lo hi mx : Option Operand} (ho : o.op = .slice t x lo hi mx) {y : AV} (hy : AR c y (a.eval x)) :
    (evSlice2 P σ t (evBd env lo) (evBd env hi) (evBd env mx) y).Ok P o a c σ := by
  unfold evSlice2
  cases hb : (isBad (evBd env lo) || isBad (evBd env hi) || isBad (evBd env mx)) with
  | true => trivial
  | false =>
    simp only [Bool.or_eq_false_iff] at hb
    obtain ⟨⟨hl, hh⟩, hm⟩ := hb
    have nil : ∀ {e : TypeId} {by' sz : Nat} {A : Option Addr} {n cap : Nat}, ei P t = some (sz, by') → a.eval x = .slice A n cap → n ≤ cap →
        (∀ m, evBd env mx = .at m → m = 0) → (evBd env mx = .no → n = 0 ∧ cap = 0) → bdHi 0 (evBd env hi) = 0 → bdLo (evBd env lo) = 0 → (evBd env mx = .no ∨ ∃ m, evBd env mx = .at m) →
        (evBd env hi = .no → evBd env mx = .no) → (R1.to .nil σ).Ok P o a c σ := fun {e by' sz A n cap} hei hv hle h1 h2 h3 h4 h5 h6 => by
      obtain ⟨e, i, z, hu, hi', hz, g1, g2, g3, g4⟩ := ei_spec hei
      have hss : (sizeOf e).run P c.w = .ok sz c.w := by simp [sizeOf, typeInfo, hi', g2]
      have hbd : (Instr.sliceBounds true n cap (lo.map a.eval) (hi.map a.eval) (mx.map a.eval)).run P c.w = .ok (0, 0, 0) c.w := by
        rcases h5 with h5 | ⟨m, h5⟩
        · obtain ⟨rfl, rfl⟩ := h2 h5
          have := evBd_no h5
          subst this
          have hh3 : bdHi 0 (evBd env hi) = 0 := h3
          have := sliceBounds_ok (P := P) he (n := 0) (cap := 0) (b := true) (w := c.w) hl hh (by omega) (by rw [h4, hh3]; omega) (by rw [hh3]; omega)
          rw [h4, hh3] at this
          simpa using this
        · obtain ⟨y, k, rfl, hmv⟩ := evBd_at he h5
          have := h1 m h5
          subst this
          cases e1 : evBd env hi with
          | bad => rw [e1] at hh; simp [isBad] at hh
          | no => have := h6 e1; rw [h5] at this; simp at this
          | «at» j =>
            obtain ⟨y', k', rfl, hv'⟩ := evBd_at he e1
            rw [e1] at h3
            simp only [bdHi] at h3
            subst h3
            cases e2 : evBd env lo with
            | bad => rw [e2] at hl; simp [isBad] at hl
            | no => have := evBd_no e2; subst this; simp [Instr.sliceBounds, hmv, hv', Instr.sliceBound, asIntOf]
            | «at» i' =>
              obtain ⟨y2, k2, rfl, hv2⟩ := evBd_at he e2
              rw [e2] at h4
              simp only [bdLo] at h4
              subst h4
              simp [Instr.sliceBounds, hmv, hv', hv2, Instr.sliceBound, asIntOf]
      refine R1.Ok_to H (x := .slice A 0 0) ?_ (by simp only [AR]; exact ⟨A, rfl⟩)
      simp [execOp, ho, Instr.sliceAt, run_underlying' hu, Instr.slice, hv, hbd, hss]
    cases y <;> try trivial
    case d y =>
     cases y <;> try trivial
     case str s =>
      simp only [AR, DR] at hy
      simp only [evSlice1]
      split
      · next hu hmx =>
        have := evBd_no hmx
        subst this
        rintro ⟨h0, h1, h2⟩
        have hbd := sliceBounds_ok (P := P) he (b := false) (w := c.w) hl hh h0 h1 h2
        refine R1.Ok_to H (x := .string (s.extract (bdLo (evBd env lo)).toNat (bdHi s.size (evBd env hi)).toNat)) ?_ (by simp [AR, DR])
        simp [execOp, ho, Instr.sliceAt, run_underlying' hu, Instr.slice, hy, hbd]
      · trivial
     case sl es =>
      simp only [AR, DR] at hy
      simp only [evSlice1]
      obtain ⟨A, cap, sz', hv, hcap, hsp, hne, hrows⟩ := hy
      split
      · next sz by' hei hmx =>
        have := evBd_no hmx
        subst this
        rintro hsz ⟨h0, h1, h2⟩
        obtain ⟨e, i, z, hu, hi', hz, g1, g2, g3, g4⟩ := ei_spec hei
        have hss : (sizeOf e).run P c.w = .ok sz c.w := by simp [sizeOf, typeInfo, hi', g2]
        have hbd := sliceBounds_ok (P := P) he (b := true) (n := es.length) (cap := cap) (w := c.w) hl hh h0 h1 (by omega)
        have hszz : es ≠ [] → sz' = sz := fun hne => by
          cases es with
          | nil => exact absurd rfl hne
          | cons e es => simp only [DRows] at hrows; rw [← hrows.1]; exact hsz e (by simp)
        refine R1.Ok_to H (x := .slice (if cap = (bdLo (evBd env lo)).toNat then A else A.map (·.add ((bdLo (evBd env lo)).toNat * sz))) ((bdHi es.length (evBd env hi)).toNat - (bdLo (evBd env lo)).toNat) (cap - (bdLo (evBd env lo)).toNat)) ?_ ?_
        · simp [execOp, ho, Instr.sliceAt, run_underlying' hu, Instr.slice, hv, hbd, hss]
        · simp only [AR, DR]
          generalize hL : (bdLo (evBd env lo)).toNat = L at *
          generalize hHh : (bdHi es.length (evBd env hi)).toNat = Hh at *
          have hLH : L ≤ Hh := by omega
          have hHn : Hh ≤ es.length := by omega
          have hlen : ((es.take Hh).drop L).length = Hh - L := by simp [Nat.min_eq_left hHn]
          refine ⟨_, _, sz', by rw [hlen], by rw [hlen]; omega, ?_, ?_, ?_⟩
          · intro hne0 ad had
            have hne1 : es ≠ [] := fun q => hne0 (by subst q; simp)
            have hsp := hsp hne1
            split at had
            · exact hsp ad had
            · cases A with
              | none => simp at had
              | some a0 => simp at had; subst had; rw [addr_add' (hsp a0 rfl)]
          · intro had
            have hA : A = none := by
              split at had
              · exact had
              · cases A <;> simp_all
            have := hne hA
            subst this
            simp
          · have hr := DRows_drop L (DRows_take Hh hrows)
            split
            · next hc' =>
              have : ((es.take Hh).drop L) = [] := List.eq_nil_of_length_eq_zero (by rw [hlen]; omega)
              rw [this]; simp [DRows]
            · cases A with
              | none => have := hne rfl; subst this; simp [DRows]
              | some a0 =>
                by_cases q : es = []
                · subst q; simp [DRows]
                · rw [← hszz q]
                  exact DRows_shift (hsp q a0 rfl) _ hr
      · next r m hei hmx =>
        obtain ⟨sz, by'⟩ := r
        rintro ⟨rfl, h1, h2⟩
        exact nil (e := t) hei hv hcap (fun m' h => by rw [hmx] at h; cases h; rfl) (fun h => by rw [hmx] at h; simp at h) (by rw [h1]; rfl) h2 (.inr ⟨_, hmx⟩) (fun h => by rw [h1] at h; simp at h)
      · trivial
    case nil =>
      simp only [AR] at hy
      simp only [evSlice1]
      obtain ⟨A, hv⟩ := hy
      split
      · next r hei hmx =>
        obtain ⟨sz, by'⟩ := r
        rintro ⟨h1, h2⟩
        exact nil (e := t) hei hv (Nat.le_refl _) (fun m' h => by rw [hmx] at h; simp at h) (fun _ => ⟨rfl, rfl⟩) h1 h2 (.inl hmx) (fun _ => hmx)
      · next r m hei hmx =>
        obtain ⟨sz, by'⟩ := r
        rintro ⟨rfl, h1, h2⟩
        exact nil (e := t) hei hv (Nat.le_refl _) (fun m' h => by rw [hmx] at h; cases h; rfl) (fun h => by rw [hmx] at h; simp at h) (by rw [h1]; rfl) h2 (.inr ⟨_, hmx⟩) (fun h => by rw [h1] at h; simp at h)
      · trivial
end
end Go.AX

/- AX, part L: cuts of rows, make, slice literals, conversions, ranges over strings. -/
import Derived.Test.YtnmgmlmiijljmaaAxK
import Derived.Laws.IdiomStrings
set_option linter.unusedVariables false
set_option linter.unusedSimpArgs false
namespace Go.AX
section
variable {P : Program} {o : Oper} {a : Act} {c : Cf} {σ : List AObj} {env : List AV}

def noCall : R1 → Prop
  | .to .. => True
  | .need _ r => noCall r
  | .all _ _ k => ∀ e, noCall (k e)
  | .ite _ x y => noCall x ∧ noCall y
  | .call .. => False
  | .ex _ k => ∀ b, noCall (k b)
  | .bad => True
theorem R1.Ok_after {c' : Cf} {σ' : List AObj} (hw : c'.w = c.w) (hN : Nxt c σ c' σ') : ∀ (r : R1), noCall r → r.Ok P o a c' σ' → r.Ok P o a c σ
  | .to v σ2, _, h => by
    obtain ⟨nx, x, c2, h1, h2, h3, h4⟩ := h
    exact ⟨nx, x, c2, by rw [← hw]; exact h1, h2, h3, hN.trans h4⟩
  | .need p r, hn, h => fun hp => Ok_after hw hN r hn (h hp)
  | .all es i k, hn, h => by obtain ⟨e, h1, h2⟩ := h; exact ⟨e, h1, Ok_after hw hN (k e) (hn e) h2⟩
  | .ite t x y, hn, h => ⟨fun q => Ok_after hw hN x hn.1 (h.1 q), fun q => Ok_after hw hN y hn.2 (h.2 q)⟩
  | .call f args, hn, _ => hn.elim
  | .ex p k, hn, h => by obtain ⟨b, h1, h2⟩ := h; exact ⟨b, h1, Ok_after hw hN (k b) (hn b) h2⟩
  | .bad, _, _ => trivial
theorem evSlice2_noCall {t : TypeId} {lo hi mx : Bd} {x : AV} : noCall (evSlice2 P σ t lo hi mx x) := by
  unfold evSlice2
  split
  · trivial
  · unfold evSlice1
    repeat' split
    all_goals first | trivial | (simp only [noCall, evSliceS, evSliceD])
theorem evSlice_ok (H : Holds c σ) (he : ARs c env a.tmps.toList) {t : TypeId} {x : Operand} {lo hi mx : Option Operand} (ho : o.op = .slice t x lo hi mx) :
    (evSlice P σ t (evBd env lo) (evBd env hi) (evBd env mx) (evO env x)).Ok P o a c σ := by
  have hx := evO_sound he x
  unfold evSlice
  split
  · next l e =>
    rw [e] at hx
    split
    · next y σ' hd =>
      obtain ⟨c', w1, n1, d1⟩ := asD_sound H hx hd
      refine R1.Ok_after w1 n1 _ evSlice2_noCall ?_
      exact evSlice2_ok n1.hold (ARs.mono n1.le _ he) ho (by simpa [AR] using d1)
    · trivial
  · exact evSlice2_ok H he ho hx

/-! ### make -/
def zd (P : Program) (t : TypeId) : Option (List D) :=
  match P.underlying t with
  | some (.slice e) => match zc P e with
    | some cs => dsOf cs
    | none => none
  | _ => none
def evMake1 (σ : List AObj) (l k : Int) : Option (Nat × Nat) → Option (List D) → R1
  | some (sz, by'), some z => .need (0 ≤ l ∧ l ≤ k ∧ k * by' ≤ 140737488355328 ∧ k ≤ 9223372036854775807 ∧ z.length = sz) (.to (.own σ.length) (σ ++ [.row sz (List.replicate l.toNat z)]))
  | _, _ => .bad
def evMake (P : Program) (σ : List AObj) (t : TypeId) : Option (IntKind × Int) → Option (IntKind × Int) → R1
  | some (_, l), some (_, k) => evMake1 σ l k (ei P t) (zd P t)
  | _, _ => .bad
theorem dsOf_cv1 : ∀ {vs : List Value} {z : List D}, dsOf (vs.map cv1) = some z → ∀ h, DRs h z vs
  | [], z, e, h => by simp [dsOf] at e; subst e; simp [DRs]
  | v :: vs, z, e, h => by
    have r := dsOf_sound (c := ⟨default, h, 0, fun _ => 0, fun _ => undef⟩) e (ARs_map_cv1 _ (v :: vs))
    exact r
theorem DRs_replicate {h : Snap} {z : List D} {vs : List Value} (r : DRs h z vs) : ∀ n, DRs h (List.replicate n z).flatten (List.replicate n vs).flatten
  | 0 => by simp [DRs]
  | n + 1 => by simp only [List.replicate_succ, List.flatten_cons]; exact DRs_append r (DRs_replicate r n)
theorem range_mod {z : Array Value} (hz : 0 < z.size) : ∀ n m, m ≤ n → ((Array.range (n * z.size)).map (z[· % z.size]!)).toList.take (m * z.size) = (List.replicate m z.toList).flatten := by
  intro n m hm
  apply List.ext_getElem?
  intro j
  rw [List.getElem?_take]
  have hlen : (List.replicate m z.toList).flatten.length = m * z.size := by simp
  by_cases hj : j < m * z.size
  · rw [if_pos hj]
    have hmn : m * z.size ≤ n * z.size := Nat.mul_le_mul_right _ hm
    have e1 : ((Array.range (n * z.size)).map (z[· % z.size]!)).toList[j]? = some (z[j % z.size]!) := by
      simp [show j < n * z.size by omega]
    rw [e1]
    have : ∀ (m j : Nat), j < m * z.size → (List.replicate m z.toList).flatten[j]? = some (z[j % z.size]!) := by
      intro m
      induction m with
      | zero => intro j h; simp at h
      | succ m ih =>
        intro j h
        simp only [List.replicate_succ, List.flatten_cons]
        rw [List.getElem?_append]
        simp only [Array.length_toList]
        by_cases q : j < z.size
        · rw [if_pos q, Nat.mod_eq_of_lt q]; simp [q]
        · have h' : j - z.size < m * z.size := by rw [Nat.add_mul] at h; omega
          rw [if_neg q, ih (j - z.size) h', ← Nat.mod_eq_sub_mod (by omega)]
    exact (this m j hj).symm
  · rw [if_neg hj, List.getElem?_eq_none (by omega)]
theorem evMake_ok (H : Holds c σ) (he : ARs c env a.tmps.toList) {t : TypeId} {l k : Operand} (ho : o.op = .makeSlice t l k) : (evMake P σ t (evIx (evO env l)) (evIx (evO env k))).Ok P o a c σ := by
  have hl := evO_sound he l
  have hk := evO_sound he k
  cases e1 : evIx (evO env l) with
  | none => trivial
  | some r1 =>
    cases e2 : evIx (evO env k) with
    | none => trivial
    | some r2 =>
      obtain ⟨k1, n⟩ := r1
      obtain ⟨k2, m⟩ := r2
      have hv1 := evIx_sound e1 hl
      have hv2 := evIx_sound e2 hk
      simp only [evMake]
      cases hei : ei P t with
      | none => trivial
      | some q =>
        obtain ⟨sz, by'⟩ := q
        cases hzd : zd P t with
        | none => trivial
        | some z =>
          rintro ⟨h0, h1, h2, h3, h4⟩
          obtain ⟨e, i, zv, hu, hi, hz, g1, g2, g3, g4⟩ := ei_spec hei
          have hzz : DRs c.h z zv.cells.toList := by
            simp only [zd, hu, zc, hi, hz, Option.map] at hzd
            exact dsOf_cv1 hzd _
          have hwl : IntKind.i64.wrap n = n := by simp [IntKind.wrap, IntKind.bits, IntKind.signed]; omega
          have hwk : IntKind.i64.wrap m = m := by simp [IntKind.wrap, IntKind.bits, IntKind.signed]; omega
          have hrun : (Instr.makeSlice t (.int k1 n) (.int k2 m)).run P c.w = .ok (.slice (some ⟨c.w.heap.size, 0, none⟩) n.toNat m.toNat)
              (c.w.alloc (.cells ((Array.range (m.toNat * sz)).map (zv.cells[· % zv.cells.size]!)) e)) := by
            have hm0 : ¬ m < 0 := by omega
            have hn0 : ¬ n < 0 := by omega
            have hnm : ¬ m < n := by omega
            have hbig : ¬ (281474976710656 < (i.bytes : Int) * m) := by rw [Int.mul_comm]; rw [g3]; omega
            by_cases q : m.toNat * sz = 0
            · have hmz : m.toNat = 0 := by rcases Nat.mul_eq_zero.1 q with q | q <;> omega
              simp [Instr.makeSlice, run_underlying' hu, asInt, asIntOf, typeInfo, hi, hwl, hwk, sizeOf, g2, q, hm0, hn0, hnm, hbig, newRow, hmz, show Array.range 0 = #[] from rfl]
            · simp [Instr.makeSlice, run_underlying' hu, asInt, asIntOf, typeInfo, hi, hwl, hwk, sizeOf, g2, q, hm0, hn0, hnm, hbig, newRow, zeroValue, hz]
          by_cases hm : m.toNat = 0
          · have hn : n.toNat = 0 := by omega
            have N := Nxt.new H (.cells ((Array.range (m.toNat * sz)).map (zv.cells[· % zv.cells.size]!)) e) (.slice (some ⟨c.w.heap.size, 0, none⟩) n.toNat m.toNat) (.row sz (List.replicate n.toNat z)) (.inl ⟨by simp [hn], some ⟨c.w.heap.size, 0, none⟩, by simp [Cf.put, hn, hm]⟩)
            refine ⟨.value (.slice (some ⟨c.w.heap.size, 0, none⟩) n.toNat m.toNat), _, _, ?_, .inl rfl, ?_, N⟩
            rotate_left
            · simp only [AR]; exact ⟨by simp [Cf.put, H.n], by simp [Cf.put, H.n], _, _, _, rfl⟩
            · simp [execOp, ho, hv1, hv2, hrun]; rfl
          · obtain ⟨c', w1, a1, N⟩ := Nxt.newRow H (sz := sz) (es := List.replicate n.toNat z) (vs := (Array.range (m.toNat * sz)).map (zv.cells[· % zv.cells.size]!)) (ty := e) (cap := m.toNat) (by omega) (by simp; omega) (by simp)
              (by intro x hx; rw [List.eq_of_mem_replicate hx]; exact h4) (by
                have := range_mod (z := zv.cells) (by omega) m.toNat n.toNat (by omega)
                rw [g1] at this
                simp only [List.length_replicate]
                rw [g1, this]
                exact DRs_replicate hzz _)
            rw [List.length_replicate] at a1
            refine ⟨_, _, c', ?_, .inl rfl, a1, N⟩
            rw [w1]
            simp [execOp, ho, hv1, hv2, hrun]
end
end Go.AX

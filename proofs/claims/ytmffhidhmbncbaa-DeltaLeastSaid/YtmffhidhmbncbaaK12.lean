/- The least delta: what both makes compute, in plain Lean. -/
import Derived.Test.YtmffhidhmbncbaaK11
import Derived.IntWalk
import Derived.Shelf.Bytes.SlIndexWhole
set_option maxHeartbeats 8000000
set_option linter.unusedVariables false
set_option linter.unusedSimpArgs false
set_option maxRecDepth 20000
namespace Go.AX.De
open Go.Proofs Go.RowKit Go.IntWalk
/-- the longest common beginning -/
def pre : List Int → List Int → Nat
  | a :: r, b :: bs => if a = b then pre r bs + 1 else 0
  | _, _ => 0
/-- how much of s can be copied -/
def lg : List Int → List Int → Nat
  | [], _ => 0
  | b :: bs, s => max (pre (b :: bs) s) (lg bs s)
theorem pre_le : ∀ a s : List Int, pre a s ≤ s.length ∧ pre a s ≤ a.length
  | [], s => by cases s <;> simp [pre]
  | a :: r, [] => by simp [pre]
  | a :: r, b :: bs => by
    have := pre_le r bs
    simp only [pre]
    split <;> simp <;> omega
theorem lg_le : ∀ b s : List Int, lg b s ≤ s.length ∧ lg b s ≤ b.length
  | [], s => by simp [lg]
  | b :: bs, s => by
    have h1 := pre_le (b :: bs) s
    have h2 := lg_le bs s
    simp only [lg, List.length_cons] at h1 ⊢
    omega
def stp (a : Int × Int) (v w : Int) : Int × Int := if a.1 < 0 ∨ v < a.1 then (v, w) else a
/-- the copies, from the greatest down -/
def cpl (c : List Int) : Nat → Int × Int → Int × Int
  | 0, a => a
  | k + 1, a => cpl c k (stp a (3 + c.getD k 0) (k + 1))
/-- the inserts, from the least up -/
def inl : List Int → Nat → Int × Int → Int × Int
  | [], _, a => a
  | x :: xs, m, a => inl xs (m + 1) (stp a (1 + (m : Int) + x) (-(m : Int)))
def best (c : List Int) (L : Nat) : Int × Int := inl c 1 (cpl c L (-1, 0))
/-- the least cost of each end -/
def lst (b : List Int) : List Int → List Int
  | [] => [0]
  | t :: ts => (best (lst b ts) (lg b (t :: ts))).1 :: lst b ts
/-- how each end begins -/
def fst' (b : List Int) : List Int → List Int
  | [] => []
  | t :: ts => (best (lst b ts) (lg b (t :: ts))).2 :: fst' b ts
theorem lst_len (b : List Int) : ∀ s : List Int, (lst b s).length = s.length + 1
  | [] => rfl
  | t :: ts => by simp [lst, lst_len b ts]
theorem fst_len (b : List Int) : ∀ s : List Int, (fst' b s).length = s.length
  | [] => rfl
  | t :: ts => by simp [fst', fst_len b ts]
theorem lst_drop (b : List Int) : ∀ (s : List Int) (i : Nat), i ≤ s.length → (lst b s).drop i = lst b (s.drop i)
  | s, 0, _ => by simp
  | [], i + 1, h => by simp at h
  | t :: ts, i + 1, h => by simpa [lst] using lst_drop b ts i (by simpa using h)
theorem fst_drop (b : List Int) : ∀ (s : List Int) (i : Nat), i ≤ s.length → (fst' b s).drop i = fst' b (s.drop i)
  | s, 0, _ => by simp
  | [], i + 1, h => by simp at h
  | t :: ts, i + 1, h => by simpa [fst'] using fst_drop b ts i (by simpa using h)
/-- x is the least cost, f what comes first -/
def IsB (c : List Int) (L : Nat) (x f : Int) : Prop :=
  (∀ (k : Nat) (y : Int), c[k]? = some y → k < L → x ≤ 3 + y) ∧ (∀ (m : Nat) (y : Int), c[m]? = some y → x ≤ 2 + (m : Int) + y) ∧
  ((∃ (k : Nat) (y : Int), c[k]? = some y ∧ k < L ∧ f = (k : Int) + 1 ∧ x = 3 + y ∧ ∀ (k' : Nat) (y' : Int), c[k']? = some y' → k < k' → k' < L → x < 3 + y') ∨
   (∃ (m : Nat) (y : Int), c[m]? = some y ∧ f = -((m : Int) + 1) ∧ x = 2 + (m : Int) + y ∧ (∀ (k : Nat) (y : Int), c[k]? = some y → k < L → x < 3 + y) ∧ ∀ (m' : Nat) (y' : Int), c[m']? = some y' → m' < m → x < 2 + (m' : Int) + y'))
/-- among the copies longer than k -/
def CpB (c : List Int) (L j : Nat) (a : Int × Int) : Prop :=
  (a = (-1, 0) ∧ j = L) ∨ (∃ (k : Nat) (y : Int), c[k]? = some y ∧ j ≤ k ∧ k < L ∧ a = (3 + y, (k : Int) + 1) ∧ (∀ (k' : Nat) (y' : Int), c[k']? = some y' → j ≤ k' → k' < L → 3 + y ≤ 3 + y') ∧ ∀ (k' : Nat) (y' : Int), c[k']? = some y' → k < k' → k' < L → 3 + y < 3 + y')
theorem cpl_ok {c : List Int} (h0 : ∀ y ∈ c, 0 ≤ y) {L : Nat} (hL : L ≤ c.length) : ∀ (j : Nat) (a : Int × Int), j ≤ L → CpB c L j a → CpB c L 0 (cpl c j a)
  | 0, a, _, h => h
  | j + 1, a, hj, h => by
    have hlt : j < c.length := by omega
    obtain ⟨z, hz⟩ : ∃ z, c[j]? = some z := ⟨c[j], by simp [hlt]⟩
    have ez : c.getD j 0 = z := by simp [List.getD, hz]
    have z0 := h0 z (List.mem_of_getElem? hz)
    rw [cpl]
    refine cpl_ok h0 hL j _ (by omega) ?_
    rw [ez]
    rcases h with ⟨rfl, e⟩ | ⟨k, y, h1, h2, h3, rfl, h4, h5⟩
    · refine .inr ⟨j, z, hz, by omega, by omega, by simp [stp], fun k' y' e1 e2 e3 => ?_, fun k' y' e1 e2 e3 => by omega⟩
      have : k' = j := by omega
      subst this; rw [hz] at e1; cases e1; omega
    · have y0 := h0 y (List.mem_of_getElem? h1)
      by_cases q : 3 + z < 3 + y
      · refine .inr ⟨j, z, hz, by omega, by omega, by simp [stp, q], fun k' y' e1 e2 e3 => ?_, fun k' y' e1 e2 e3 => ?_⟩
        · rcases Nat.lt_or_ge j k' with p | p
          · have := h4 k' y' e1 (by omega) e3; omega
          · have : k' = j := by omega
            subst this; rw [hz] at e1; cases e1; omega
        · have := h4 k' y' e1 (by omega) e3; omega
      · refine .inr ⟨k, y, h1, by omega, h3, ?_, fun k' y' e1 e2 e3 => ?_, h5⟩
        · simp only [stp]
          rw [if_neg (by omega)]
        · rcases Nat.lt_or_ge j k' with p | p
          · exact h4 k' y' e1 (by omega) e3
          · have : k' = j := by omega
            subst this; rw [hz] at e1; cases e1; omega
/-- among all copies and the inserts shorter than j + 1 -/
def InB (c : List Int) (L j : Nat) (a : Int × Int) : Prop :=
  (a = (-1, 0) ∧ j = 0 ∧ L = 0) ∨
  ((∀ (k : Nat) (y : Int), c[k]? = some y → k < L → a.1 ≤ 3 + y) ∧ (∀ (m : Nat) (y : Int), c[m]? = some y → m < j → a.1 ≤ 2 + (m : Int) + y) ∧
  ((∃ (k : Nat) (y : Int), c[k]? = some y ∧ k < L ∧ a.2 = (k : Int) + 1 ∧ a.1 = 3 + y ∧ ∀ (k' : Nat) (y' : Int), c[k']? = some y' → k < k' → k' < L → a.1 < 3 + y') ∨
   (∃ (m : Nat) (y : Int), c[m]? = some y ∧ a.2 = -((m : Int) + 1) ∧ a.1 = 2 + (m : Int) + y ∧ (∀ (k : Nat) (y : Int), c[k]? = some y → k < L → a.1 < 3 + y) ∧ ∀ (m' : Nat) (y' : Int), c[m']? = some y' → m' < m → a.1 < 2 + (m' : Int) + y')))
theorem inB_pos {c : List Int} (h0 : ∀ y ∈ c, 0 ≤ y) {L j : Nat} {a : Int × Int} (h : InB c L j a) : a = (-1, 0) ∧ j = 0 ∧ L = 0 ∨ 0 ≤ a.1 := by
  rcases h with h | ⟨_, _, ⟨k, y, h1, _, _, h2, _⟩ | ⟨m, y, h1, _, h2, _⟩⟩
  · exact .inl h
  · have := h0 y (List.mem_of_getElem? h1); exact .inr (by omega)
  · have := h0 y (List.mem_of_getElem? h1); exact .inr (by omega)
theorem inB_step {c : List Int} (h0 : ∀ y ∈ c, 0 ≤ y) {L j : Nat} {a : Int × Int} {z : Int} (hz : c[j]? = some z) (h : InB c L j a) : InB c L (j + 1) (stp a (1 + ((j + 1 : Nat) : Int) + z) (-((j + 1 : Nat) : Int))) := by
  have z0 := h0 z (List.mem_of_getElem? hz)
  have ha := inB_pos h0 h
  by_cases q : a.1 < 0 ∨ 1 + ((j + 1 : Nat) : Int) + z < a.1
  · have e : stp a (1 + ((j + 1 : Nat) : Int) + z) (-((j + 1 : Nat) : Int)) = (1 + ((j + 1 : Nat) : Int) + z, -((j + 1 : Nat) : Int)) := by simp only [stp]; rw [if_pos q]
    rw [e]
    rcases h with ⟨rfl, rfl, rfl⟩ | ⟨h1, h2, h3⟩
    · refine .inr ⟨fun k y _ p => by omega, fun m y e1 p => ?_, .inr ⟨0, z, hz, by simp, by simp, fun k y _ p => by omega, fun m' y' _ p => by omega⟩⟩
      have : m = 0 := by omega
      subst this; rw [hz] at e1; cases e1; simp
    · have ha' : 0 ≤ a.1 := by
        rcases ha with ⟨rfl, e1, e2⟩ | h
        · subst e1; subst e2
          rcases h3 with ⟨k, y, _, p, _⟩ | ⟨m, y, e1, e2, e3, _⟩
          · omega
          · simp at e2; omega
        · exact h
      have q' : 1 + ((j + 1 : Nat) : Int) + z < a.1 := by omega
      refine .inr ⟨fun k y e1 p => ?_, fun m y e1 p => ?_, .inr ⟨j, z, hz, by simp, by simp only; omega, fun k y e1 p => ?_, fun m' y' e1 p => ?_⟩⟩
      · have := h1 k y e1 p; simp only; omega
      · simp only
        rcases Nat.lt_or_ge m j with r | r
        · have := h2 m y e1 r; omega
        · have : m = j := by omega
          subst this; rw [hz] at e1; cases e1; omega
      · have := h1 k y e1 p; simp only; omega
      · have := h2 m' y' e1 p; simp only; omega
  · have e : stp a (1 + ((j + 1 : Nat) : Int) + z) (-((j + 1 : Nat) : Int)) = a := by simp only [stp]; rw [if_neg q]
    rw [e]
    rcases h with ⟨rfl, rfl, rfl⟩ | ⟨h1, h2, h3⟩
    · simp at q
    · refine .inr ⟨h1, fun m y e1 p => ?_, h3⟩
      rcases Nat.lt_or_ge m j with r | r
      · exact h2 m y e1 r
      · have : m = j := by omega
        subst this; rw [hz] at e1; cases e1; omega
theorem inl_ok {c : List Int} (h0 : ∀ y ∈ c, 0 ≤ y) {L : Nat} : ∀ (d : List Int) (j : Nat) (a : Int × Int), c.drop j = d → j ≤ c.length → InB c L j a → InB c L c.length (inl d (j + 1) a)
  | [], j, a, hd, hj, h => by
    have : j = c.length := by have := congrArg List.length hd; simp at this; omega
    subst this; exact h
  | z :: d, j, a, hd, hj, h => by
    have hz : c[j]? = some z := by
      have := congrArg (fun l => l[0]?) hd
      simpa using this
    have hd' : c.drop (j + 1) = d := by
      have := congrArg List.tail hd
      simpa using this
    rw [inl]
    exact inl_ok h0 d (j + 1) _ hd' (by have := (List.getElem?_eq_some_iff.1 hz).1; omega) (inB_step h0 hz h)
theorem best_ok {c : List Int} (hc : c ≠ []) (h0 : ∀ y ∈ c, 0 ≤ y) {L : Nat} (hL : L ≤ c.length) : IsB c L (best c L).1 (best c L).2 := by
  have h1 := cpl_ok h0 hL L (-1, 0) (Nat.le_refl _) (.inl ⟨rfl, rfl⟩)
  have h2 : InB c L 0 (cpl c L (-1, 0)) := by
    rcases h1 with ⟨e, e2⟩ | ⟨k, y, h1, _, h3, e, h4, h5⟩
    · exact .inl ⟨e, rfl, e2.symm⟩
    · rw [e]
      exact .inr ⟨fun k' y' e1 e2 => h4 k' y' e1 (by omega) e2, fun m y e1 e2 => by omega, .inl ⟨k, y, h1, h3, rfl, rfl, h5⟩⟩
  have h3 := inl_ok h0 c 0 _ (by simp) (by omega) h2
  unfold best
  rcases h3 with ⟨_, e, _⟩ | ⟨a1, a2, a3⟩
  · exact absurd (List.length_eq_zero_iff.1 e) hc
  · exact ⟨a1, fun m y e1 => a2 m y e1 (List.getElem?_eq_some_iff.1 e1).1, a3⟩
/-- the reference: the least cost by min alone -/
def minl (L : Nat) : List Int → Nat → Int → Int
  | [], _, x => x
  | y :: ys, m, x => minl L ys (m + 1) (if m ≤ L then min (min x (1 + (m : Int) + y)) (3 + y) else min x (1 + (m : Int) + y))
def MnB (c : List Int) (L j : Nat) (x : Int) : Prop :=
  (∀ (m : Nat) (y : Int), c[m]? = some y → m < j → x ≤ 2 + (m : Int) + y ∧ (m < L → x ≤ 3 + y)) ∧ ((∃ y : Int, c[0]? = some y ∧ x = 2 + y) ∨ ∃ (m : Nat) (y : Int), c[m]? = some y ∧ m < j ∧ (x = 2 + (m : Int) + y ∨ (m < L ∧ x = 3 + y)))
/-- all costs are small -/
theorem lst_bd (b : List Int) : ∀ s : List Int, (∀ y ∈ lst b s, 0 ≤ y ∧ y ≤ s.length + 1) ∧ (lst b s)[0]? ≠ none
  | [] => by simp [lst]
  | t :: ts => by
    have ih := (lst_bd b ts).1
    have hl := lst_len b ts
    have hc : lst b ts ≠ [] := fun e => by rw [e] at hl; simp at hl
    have hL : lg b (t :: ts) ≤ (lst b ts).length := by rw [hl]; exact (lg_le b (t :: ts)).1
    have hb := best_ok hc (fun y hy => (ih y hy).1) hL
    refine ⟨fun y hy => ?_, by simp [lst]⟩
    simp only [lst, List.mem_cons] at hy
    rcases hy with rfl | hy
    · obtain ⟨_, h2, h3⟩ := hb
      constructor
      · rcases h3 with ⟨k, y, e1, _, _, e3, _⟩ | ⟨m, y, e1, _, e3, _⟩
        · have := ih y (List.mem_of_getElem? e1); omega
        · have := ih y (List.mem_of_getElem? e1); omega
      · have e : (lst b ts)[ts.length]? = some 0 := by
          have := congrArg (fun l => l[0]?) (lst_drop b ts ts.length (Nat.le_refl _))
          simpa [lst] using this
        have := h2 ts.length 0 e
        simp; omega
    · have := ih y hy; simp; omega
end Go.AX.De
/- bytes.Index, called with bytes: of data, and of a row of one's own. -/
set_option maxHeartbeats 8000000
set_option linter.unusedVariables false
set_option linter.unusedSimpArgs false
set_option maxRecDepth 20000
namespace Go.AX
/-- a spec that leans on a block that stays as it is -/
theorem bd_up {k m : Nat} (h : k ≤ m) : ∀ {x : AV}, bd k x → bd m x := fun {x} => by
  induction x using AV.rec (motive_2 := fun xs => bds k xs → bds m xs) with
  | _ => simp_all [bd, bds] <;> omega
theorem bds_up {k m : Nat} (h : k ≤ m) : ∀ {xs : List AV}, bds k xs → bds m xs
  | [], _ => trivial
  | _ :: _, e => ⟨bd_up h e.1, bds_up h e.2⟩
theorem Spec.gl {P : Program} {f : FuncId} {args : List AV} {r : AV} {b : Nat} {o : Obj} (h : Spec P f args [.obj b o] r [.obj b o]) (σ : List AObj) (l : Nat) (hl : σ[l]? = some (.obj b o)) (hb : bds 0 args) (hr : bd 0 r) : Spec P f args σ r σ := by
  have hlt := some_lt hl
  have ho : ob σ l = .obj b o := by simp [ob_eq, hl]
  have := Spec.frame (σ := σ) [l] h (bds_up (Nat.zero_le _) hb) (by simp) (by simp [hlt]) (by simp [obs, mapO, ho, renO]) ⟨trivial, trivial⟩
  rw [rens_id hb, ren_id hr] at this
  have e : back σ [l] [.obj b o] = σ := by
    have : σ.set l (.obj b o) = σ := by
      refine List.ext_getElem? fun i => ?_
      rw [List.getElem?_set]
      by_cases q : l = i
      · subst q; rw [if_pos rfl, if_pos hlt, hl]
      · simp [q]
    simp [back, setAll, mapO, renO, so_eq, this]
  rwa [e] at this
end Go.AX
namespace Go.AX.De
open Go.Proofs Go.RowKit Go.IntWalk Go.AX.Co
def lays_ren : Go.Shelf.Ren := ⟨fun | 185 => 32 | 187 => 50 | 115 => 51 | 253 => 52 | 224 => 53 | 254 => 54 | 255 => 61 | 291 => 62 | n => n, fun | 37 => 22 | 3 => 3 | 4 => 4 | 0 => 0 | 5 => 5 | 46 => 80 | 9 => 9 | 146 => 90 | 51 => 89 | n => n, fun | 1 => 0 | n => n⟩
theorem lays : Go.Proofs.Lays.n185 Try.prog lays_ren := {
  mixed := by kernel_rfl
  f115 := Try.func51.trans (congrArg some (by kernel_rfl))
  f185 := Try.func32.trans (congrArg some (by kernel_rfl))
  f187 := Try.func50.trans (congrArg some (by kernel_rfl))
  f224 := Try.func53.trans (congrArg some (by kernel_rfl))
  f253 := Try.func52.trans (congrArg some (by kernel_rfl))
  f254 := Try.func54.trans (congrArg some (by kernel_rfl))
  f255 := Try.func61.trans (congrArg some (by kernel_rfl))
  f291 := Try.func62.trans (congrArg some (by kernel_rfl))
  t0 := Try.underlying0
  a0 := Try.isAgg0
  z0 := Try.sizeOf0
  v0 := Try.zeroValue0
  t3 := Try.underlying3
  a3 := Try.isAgg3
  z3 := Try.sizeOf3
  v3 := Try.zeroValue3
  t4 := Try.underlying4
  a4 := Try.isAgg4
  z4 := Try.sizeOf4
  v4 := Try.zeroValue4
  t5 := Try.underlying5
  a5 := Try.isAgg5
  z5 := Try.sizeOf5
  v5 := Try.zeroValue5
  t9 := Try.underlying9
  a9 := Try.isAgg9
  z9 := Try.sizeOf9
  v9 := Try.zeroValue9
  t37 := Try.underlying22
  a37 := Try.isAgg22
  z37 := Try.sizeOf22
  v37 := Try.zeroValue22
  t46 := Try.underlying80
  a46 := Try.isAgg80
  z46 := Try.sizeOf80
  v46 := Try.zeroValue80
  t51 := Try.underlying89
  a51 := Try.isAgg89
  z51 := Try.sizeOf89
  v51 := Try.zeroValue89
  t146 := Try.underlying90
  a146 := Try.isAgg90
  z146 := Try.sizeOf90
  v146 := Try.zeroValue90
  g1 := by kernel_rfl }
/-- the package's variable that bytes.Index reads: some number -/
def GlO (o : Obj) : Prop := ∃ m : Int, ∀ w : World, w.heap[0]? = some o → w.cell? ⟨0, 0, none⟩ = some (.int .i64 m)
/-- a value that is these bytes -/
def Cel (w : World) (v : Value) (l : List Int) : Prop := ∃ a c, v = .slice (some a) l.length c ∧ l.length ≤ c ∧ ∀ i, i < l.length → w.cell? (a.add i) = some (.int .u8 (l.getD i 0))
theorem index_calls {o : Obj} (hg : GlO o) {v1 v2 : Value} {B p : List Int} {w : World} (h1 : Cel w v1 B) (h2 : Cel w v2 p) (hB : Bytes B) (hp : Bytes p) (hb : B.length ≤ 1000000) (hq : p.length ≤ 1000000) (h0 : w.heap[0]? = some o) :
    Calls Try.prog 32 #[v1, v2] w fun e w' => e = .returned (.int .i64 (Lib.index (u8s B) (u8s p))) ∧ ∃ q, w' = w.drewN q := by
  obtain ⟨a1, c1, rfl, k1, e1⟩ := h1
  obtain ⟨a2, c2, rfl, k2, e2⟩ := h2
  obtain ⟨m, hm⟩ := hg
  exact Any.bytes_Index_at lays a1 a2 B.length c1 p.length c2 B p m w rfl rfl (fun x hx => by have := hB x hx; omega) (fun x hx => by have := hp x hx; omega) e1 e2 k1 (by omega) (by omega) (hm w h0)
theorem cel_rows {w : World} {h : Snap} (hs : ∀ b o v, h b o = some v → w.cell? ⟨b, o, none⟩ = some v) : ∀ (l : List Int) (a : Addr) (sz k : Nat), DRows h (l.map bY) (some a) sz k → ∀ i, i < l.length → w.cell? (a.add (k + i)) = some (.int .u8 (l.getD i 0))
  | [], a, sz, k, _, i, hi => by simp at hi
  | x :: l, a, sz, k, H, i, hi => by
    simp only [List.map_cons, bY, DRows, DCells, DR] at H
    obtain ⟨h1, ⟨⟨a', v, e1, e2, e3, e4⟩, _⟩, h3⟩ := H
    simp at h1 e1
    subst e1
    subst h1
    cases i with
    | zero =>
      have ea : a.add k = ⟨a.block, a.off + k, none⟩ := by rw [addr_add' e2]
      rw [Nat.add_zero, ea, hs _ _ _ e3, e4]
      rfl
    | succ i =>
      have := cel_rows hs l a 1 (k + 1) h3 i (by simpa using hi)
      rw [show k + (i + 1) = k + 1 + i by omega, this]
      rfl
theorem cel_dat {w : World} {h : Snap} (hs : ∀ b o v, h b o = some v → w.cell? ⟨b, o, none⟩ = some v) {l : List Int} {v : Value} (hl : l ≠ []) (H : DR h (.sl (l.map bY)) v) : Cel w v l := by
  simp only [DR, List.length_map] at H
  obtain ⟨A, c, sz, rfl, h1, _, h3, h4⟩ := H
  cases A with
  | none => exact absurd (by simpa using h3 rfl) hl
  | some a =>
    refine ⟨a, c, rfl, h1, fun i hi => ?_⟩
    have := cel_rows hs l a sz 0 h4 i hi
    rwa [Nat.zero_add] at this
/-- of data -/
theorem index_dat {o : Obj} (hg : GlO o) (B p : List Int) (hB : Bytes B) (hp : Bytes p) (n1 : B ≠ []) (n2 : p ≠ []) (hb : B.length ≤ 1000000) (hq : p.length ≤ 1000000) :
    Spec Try.prog 32 [.d (.sl (B.map bY)), .d (.sl (p.map bY))] [.obj 0 o] (.d (.int .i64 (Lib.index (u8s B) (u8s p)))) [.obj 0 o] := by
  refine ⟨⟨_, Try.func32, by rfl, by rfl⟩, fun c vs H r => ?_⟩
  obtain ⟨vs⟩ := vs
  obtain ⟨v1, q, rfl, h1, h2⟩ := ARs_cons_left r
  obtain ⟨v2, q, rfl, h2', h3⟩ := ARs_cons_left h2
  have := ARs_nil_left h3
  subst this
  simp only [AR] at h1 h2'
  have h0 : c.w.heap[0]? = some o := (H.obj 0 _ rfl).2
  refine (index_calls hg (cel_dat H.snap n1 h1) (cel_dat H.snap n2 h2') hB hp hb hq h0).mono ?_
  rintro e w' ⟨rfl, q, rfl⟩
  exact ⟨c.at (c.w.drewN q), _, rfl, rfl, by simp [AR, DR], Nxt.quiet H _ rfl rfl rfl rfl⟩
end Go.AX.De
/- How much can be copied: of data, and of a part of a row of one's own. -/
set_option maxHeartbeats 8000000
set_option linter.unusedVariables false
set_option linter.unusedSimpArgs false
set_option maxRecDepth 20000
namespace Go.AX.De
open Go.Proofs Go.RowKit Go.IntWalk Go.AX.Co
theorem pre_nil_r (a : List Int) : pre a [] = 0 := by cases a <;> rfl
theorem pre_step {a s : List Int} {k : Nat} {x y : Int} (hx : a[k]? = some x) (hy : s[k]? = some y) (e : x = y) : pre (a.drop k) (s.drop k) = pre (a.drop (k + 1)) (s.drop (k + 1)) + 1 := by
  have h1 : a.drop k = x :: a.drop (k + 1) := by
    have hlt := (List.getElem?_eq_some_iff.1 hx).1
    rw [List.drop_eq_getElem_cons hlt, (List.getElem?_eq_some_iff.1 hx).2]
  have h2 : s.drop k = y :: s.drop (k + 1) := by
    have hlt := (List.getElem?_eq_some_iff.1 hy).1
    rw [List.drop_eq_getElem_cons hlt, (List.getElem?_eq_some_iff.1 hy).2]
  rw [h1, h2, pre, if_pos e]
theorem pre_stop {a s : List Int} {k : Nat} {x y : Int} (hx : a[k]? = some x) (hy : s[k]? = some y) (e : x ≠ y) : pre (a.drop k) (s.drop k) = 0 := by
  have h1 : a.drop k = x :: a.drop (k + 1) := by
    have hlt := (List.getElem?_eq_some_iff.1 hx).1
    rw [List.drop_eq_getElem_cons hlt, (List.getElem?_eq_some_iff.1 hx).2]
  have h2 : s.drop k = y :: s.drop (k + 1) := by
    have hlt := (List.getElem?_eq_some_iff.1 hy).1
    rw [List.drop_eq_getElem_cons hlt, (List.getElem?_eq_some_iff.1 hy).2]
  rw [h1, h2, pre, if_neg e]
theorem pre_end {a s : List Int} {k : Nat} (h : a.length ≤ k ∨ s.length ≤ k) : pre (a.drop k) (s.drop k) = 0 := by
  rcases h with h | h
  · rw [List.drop_eq_nil_of_le h]; simp [pre]
  · rw [List.drop_eq_nil_of_le h, pre_nil_r]
theorem lg_step {b s : List Int} {i : Nat} (h : i < b.length) : lg (b.drop i) s = max (pre (b.drop i) s) (lg (b.drop (i + 1)) s) := by
  have e : b.drop i = b[i] :: b.drop (i + 1) := List.drop_eq_getElem_cons h
  rw [e, lg]
theorem copied_dat (b s : List Int) (hb : b.length ≤ 1000) (hs : s.length ≤ 1000) : Spec Try.prog 31 [.d (.sl (b.map bY)), .d (.sl (s.map bY))] [] (.d (.int .i64 (lg b s))) [] := by
  refine spec_of_ev (fn := Try.f31) DX_ok 3000 Try.func31 rfl rfl (Nat.le_of_ble_eq_true rfl) ?_
  simp (maxSteps := 4000000) -implicitDefEqProofs only [Try.f31, go_sem]
  refine eloop (S := Nat × Nat) (fun q => mkE 44 [(0, .d (.sl (b.map bY))), (1, .d (.sl (s.map bY))), (4, .d (.int .i64 q.2)), (8, .d (.int .i64 b.length)), (9, .d (.int .i64 q.1))]) (fun _ => []) (fun q => q.1 ≤ b.length ∧ q.2 ≤ s.length ∧ max q.2 (lg (b.drop q.1) s) = lg b s) (fun q => b.length - q.1) (0, 0) ⟨by omega, by omega, by simp⟩ (Wk.sub (by (simp only [go_sem]) <;> trivial)) ?_
  intro q hq
  generalize e1 : q.1 = i at hq ⊢
  generalize e2 : q.2 = n at hq ⊢
  clear e1 e2 q
  obtain ⟨hi, hn, hm⟩ := hq
  rcases Nat.lt_or_ge i b.length with h2 | h2
  · have d2 : decide ((i : Int) < b.length) = true := by simp; omega
    have w1 : IntKind.i64.wrap ((i : Int) + 1) = i + 1 := i64_in _ (by omega)
    simp (maxSteps := 4000000) -implicitDefEqProofs only [go_sem, d2, Option.some.injEq, forall_eq', and_true, true_and, Bool.not_true, Bool.not_false, decide_true, Nat.reduceAdd, Nat.reduceSub, Nat.reduceLT, Nat.reduceLeDiff, Nat.reduceEqDiff, ↓reduceIte]
    refine eloop (S := Nat) (fun k => mkE 44 [(0, .d (.sl (b.map bY))), (1, .d (.sl (s.map bY))), (4, .d (.int .i64 n)), (5, .d (.int .i64 i)), (6, .d (.int .i64 k)), (8, .d (.int .i64 b.length)), (9, .d (.int .i64 i))]) (fun _ => []) (fun k => k ≤ s.length ∧ i + k ≤ b.length ∧ pre ((b.drop i).drop k) (s.drop k) + k = pre (b.drop i) s) (fun k => s.length - k) 0 ⟨by omega, by omega, by simp⟩ (Wk.sub (by (simp only [go_sem]) <;> trivial)) ?_
    rintro k ⟨hk, hik, hp⟩
    simp (maxSteps := 4000000) -implicitDefEqProofs only [go_sem, Nat.reduceAdd, Nat.reduceSub, Nat.reduceLT, Nat.reduceLeDiff, Nat.reduceEqDiff, ↓reduceIte]
    have w2 : IntKind.i64.wrap ((i : Int) + k) = i + k := i64_in _ (by omega)
    have fin : k = pre (b.drop i) s → (if (n : Int) < k then (k : Int) else n) = ((max n (pre (b.drop i) s) : Nat) : Int) := fun e1 => by split <;> omega
    rcases Nat.lt_or_ge k s.length with h3 | h3
    · have d3 : decide ((k : Int) < s.length) = true := by simp; omega
      rcases Nat.lt_or_ge (i + k) b.length with h4 | h4
      · have d4 : decide ((i : Int) + k < b.length) = true := by simp; omega
        obtain ⟨x, hx⟩ : ∃ x, b[i + k]? = some x := ⟨b[i + k]'h4, List.getElem?_eq_getElem _⟩
        obtain ⟨y, hy⟩ : ∃ x, s[k]? = some x := ⟨s[k]'h3, List.getElem?_eq_getElem _⟩
        have hx' : (b.drop i)[k]? = some x := by rw [List.getElem?_drop]; exact hx
        have n1 : (0 ≤ (i : Int) + k ∧ (i : Int) + k < b.length) = True := eq_true (by omega)
        have n2 : (0 ≤ (k : Int) ∧ (k : Int) < s.length) = True := eq_true (by omega)
        have n3 : (i + k < b.length) = True := eq_true h4
        have n4 : (k < s.length) = True := eq_true h3
        have t1 : ((i : Int) + k).toNat = i + k := by omega
        by_cases h5 : x = y
        · have z : (x == y) = true := by simp [h5]
          have w3 : IntKind.i64.wrap ((k : Int) + 1) = k + 1 := i64_in _ (by omega)
          refine DX.plain (.take 0 false (.take 1 false (.take 2 false (.take 3 false (.take 4 false (.take 5 false (.take 6 false (.take 7 false (.take 8 false (.take 9 false (.take 10 false (.take 11 false (.take 12 false (.take 13 false (.take 14 false (.take 15 false (.take 16 false (.take 17 false (.take 18 false (.take 19 false (.take 20 false (.take 21 false (.take 22 false (.take 23 false (.take 24 false .done))))))))))))))))))))))))) (by kernel_rfl) (by kernel_rfl) Ty.mixed ?_
          simp (maxSteps := 4000000) -implicitDefEqProofs only [go_sem, d3, d4, w2, n1, n2, n3, n4, t1, hx, hy, z, Option.some.injEq, forall_eq', and_true, true_and, Bool.not_true, Bool.not_false, decide_true, Nat.reduceAdd, Nat.reduceSub, Nat.reduceLT, Nat.reduceLeDiff, Nat.reduceEqDiff, ↓reduceIte]
          simp (maxSteps := 4000000) -implicitDefEqProofs only [go_sem, w3, Option.some.injEq, forall_eq', and_true, true_and, Bool.not_true, Bool.not_false, decide_true, Nat.reduceAdd, Nat.reduceSub, Nat.reduceLT, Nat.reduceLeDiff, Nat.reduceEqDiff, ↓reduceIte]
          exact .mk (k + 1) ⟨by omega, by omega, by rw [pre_step hx' hy h5] at hp; omega⟩ (by omega) (Wk.sub (by (simp only [go_sem]) <;> trivial))
        · have z : (x == y) = false := by simp [h5]
          rw [pre_stop hx' hy h5, Nat.zero_add] at hp
          refine DX.plain (.take 0 false (.take 1 false (.take 2 false (.take 3 false (.take 4 false (.take 5 false (.take 6 false (.take 7 false (.take 8 false (.take 9 false (.take 10 false (.take 11 false (.take 12 false (.take 13 false (.take 14 false (.take 15 false (.take 16 false (.take 17 false (.take 18 false (.take 19 false (.take 20 false (.take 21 false (.take 22 false (.take 23 false (.take 24 false .done))))))))))))))))))))))))) (by kernel_rfl) (by kernel_rfl) Ty.mixed ?_
          simp (maxSteps := 4000000) -implicitDefEqProofs only [go_sem, d3, d4, w2, n1, n2, n3, n4, t1, hx, hy, z, Option.some.injEq, forall_eq', and_true, true_and, Bool.not_true, Bool.not_false, decide_true, Nat.reduceAdd, Nat.reduceSub, Nat.reduceLT, Nat.reduceLeDiff, Nat.reduceEqDiff, ↓reduceIte]
          simp (maxSteps := 4000000) -implicitDefEqProofs only [go_sem, fin hp, w1, Option.some.injEq, forall_eq', and_true, true_and, Bool.not_true, Bool.not_false, decide_true, Nat.reduceAdd, Nat.reduceSub, Nat.reduceLT, Nat.reduceLeDiff, Nat.reduceEqDiff, ↓reduceIte]
          exact .mk (i + 1, max n (pre (b.drop i) s)) ⟨by simp only; omega, by have := pre_le (b.drop i) s; simp only; omega, by rw [lg_step h2] at hm; simp only; omega⟩ (by simp only; omega) (Wk.sub (by (simp only [go_sem]) <;> trivial))
      · have d4 : decide ((i : Int) + k < b.length) = false := by simp; omega
        rw [pre_end (.inl (by rw [List.length_drop]; omega)), Nat.zero_add] at hp
        refine DX.plain (.take 0 false (.take 1 false (.take 2 false (.take 3 false (.take 4 false (.take 5 false (.take 6 false (.take 7 false (.take 8 false (.take 9 false (.take 10 false (.take 11 false (.take 12 false (.take 13 false (.take 14 false (.take 15 false (.take 16 false (.take 17 false (.take 18 false (.take 19 false (.take 20 false (.take 21 false (.take 22 false (.take 23 false (.take 24 false .done))))))))))))))))))))))))) (by kernel_rfl) (by kernel_rfl) Ty.mixed ?_
        simp (maxSteps := 4000000) -implicitDefEqProofs only [go_sem, d3, d4, w2, Option.some.injEq, forall_eq', and_true, true_and, Bool.not_true, Bool.not_false, decide_true, Nat.reduceAdd, Nat.reduceSub, Nat.reduceLT, Nat.reduceLeDiff, Nat.reduceEqDiff, ↓reduceIte]
        simp (maxSteps := 4000000) -implicitDefEqProofs only [go_sem, fin hp, w1, Option.some.injEq, forall_eq', and_true, true_and, Bool.not_true, Bool.not_false, decide_true, Nat.reduceAdd, Nat.reduceSub, Nat.reduceLT, Nat.reduceLeDiff, Nat.reduceEqDiff, ↓reduceIte]
        exact .mk (i + 1, max n (pre (b.drop i) s)) ⟨by simp only; omega, by have := pre_le (b.drop i) s; simp only; omega, by rw [lg_step h2] at hm; simp only; omega⟩ (by simp only; omega) (Wk.sub (by (simp only [go_sem]) <;> trivial))
    · have d3 : decide ((k : Int) < s.length) = false := by simp; omega
      rw [pre_end (.inr (by omega)), Nat.zero_add] at hp
      refine DX.plain (.take 0 false (.take 1 false (.take 2 false (.take 3 false (.take 4 false (.take 5 false (.take 6 false (.take 7 false (.take 8 false (.take 9 false (.take 10 false (.take 11 false (.take 12 false (.take 13 false (.take 14 false (.take 15 false (.take 16 false (.take 17 false (.take 18 false (.take 19 false (.take 20 false (.take 21 false (.take 22 false (.take 23 false (.take 24 false .done))))))))))))))))))))))))) (by kernel_rfl) (by kernel_rfl) Ty.mixed ?_
      simp (maxSteps := 4000000) -implicitDefEqProofs only [go_sem, d3, Option.some.injEq, forall_eq', and_true, true_and, Bool.not_true, Bool.not_false, decide_true, Nat.reduceAdd, Nat.reduceSub, Nat.reduceLT, Nat.reduceLeDiff, Nat.reduceEqDiff, ↓reduceIte]
      simp (maxSteps := 4000000) -implicitDefEqProofs only [go_sem, fin hp, w1, Option.some.injEq, forall_eq', and_true, true_and, Bool.not_true, Bool.not_false, decide_true, Nat.reduceAdd, Nat.reduceSub, Nat.reduceLT, Nat.reduceLeDiff, Nat.reduceEqDiff, ↓reduceIte]
      exact .mk (i + 1, max n (pre (b.drop i) s)) ⟨by simp only; omega, by have := pre_le (b.drop i) s; simp only; omega, by rw [lg_step h2] at hm; simp only; omega⟩ (by simp only; omega) (Wk.sub (by (simp only [go_sem]) <;> trivial))
  · have d2 : decide ((i : Int) < b.length) = false := by simp; omega
    rw [List.drop_eq_nil_of_le h2, lg, Nat.max_zero] at hm
    rw [← hm]
    simp (maxSteps := 4000000) -implicitDefEqProofs only [go_sem, d2, Option.some.injEq, forall_eq', and_true, true_and, Bool.not_true, Bool.not_false, decide_true, Nat.reduceAdd, Nat.reduceSub, Nat.reduceLT, Nat.reduceLeDiff, Nat.reduceEqDiff, ↓reduceIte]
    exact Wk.sub (wkE_refl _)
end Go.AX.De
/- Rows of numbers that are filled from behind; what Make answers. -/
set_option maxHeartbeats 8000000
set_option linter.unusedVariables false
set_option linter.unusedSimpArgs false
set_option maxRecDepth 20000
namespace Go.AX.De
open Go.Proofs Go.RowKit Go.IntWalk Go.AX.Co
def iD (x : Int) : List D := [.int .i64 x]
attribute [go_sem] iD
theorem iD_len {l : List Int} : (∀ e ∈ l.map iD, e.length = 1) = True := eq_true (map_len (g := iD) fun _ => rfl)
theorem set_iD {l : List Int} {i : Nat} {v : Int} : (l.map iD).set i [.int .i64 v] = (l.set i v).map iD := by rw [List.map_set]; rfl
attribute [go_sem] iD_len set_iD
/-- a row filled from i on, x at i -/
def cR (i : Nat) (x : Int) (c : List Int) : List Int := List.replicate i 0 ++ x :: c
theorem cR_len (i : Nat) (x : Int) (c : List Int) : (cR i x c).length = i + 1 + c.length := by simp [cR]; omega
theorem cR_set (i : Nat) (x y : Int) (c : List Int) : (cR i x c).set i y = cR i y c := by
  simp [cR, List.set_append]
theorem cR_at (i : Nat) (x : Int) (c : List Int) : (cR i x c)[i]? = some x := by simp [cR]
theorem cR_up (i k : Nat) (x : Int) (c : List Int) : (cR i x c)[i + (k + 1)]? = c[k]? := by
  rw [cR, List.getElem?_append_right (by simp), List.length_replicate, show i + (k + 1) - i = k + 1 by omega, List.getElem?_cons_succ]
theorem cR_0 (i : Nat) (c : List Int) : List.replicate (i + 1) 0 ++ c = cR i 0 c := by rw [cR, List.replicate_succ', List.append_assoc]; rfl
/-- how an end begins -/
def fir (b s : List Int) : Int := (fst' b s).headD 0
theorem fst_at {b s : List Int} {i : Nat} (h : i < s.length) : (fst' b s)[i]? = some (fir b (s.drop i)) := by
  have e := fst_drop b s i (by omega)
  have h1 : ((fst' b s).drop i)[0]? = (fst' b s)[i]? := by simp
  rw [← h1, e, fir]
  have : (fst' b (s.drop i)).length = s.length - i := by rw [fst_len, List.length_drop]
  generalize fst' b (s.drop i) = q at this
  cases q with
  | nil => simp at this; omega
  | cons a q => rfl
theorem lst_at {b s : List Int} {i : Nat} (h : i < s.length) : ∃ t : Int, s.drop i = t :: s.drop (i + 1) ∧ lst b (s.drop i) = (best (lst b (s.drop (i + 1))) (lg b (s.drop i))).1 :: lst b (s.drop (i + 1)) ∧ fst' b (s.drop i) = (best (lst b (s.drop (i + 1))) (lg b (s.drop i))).2 :: fst' b (s.drop (i + 1)) := by
  have e : s.drop i = s[i] :: s.drop (i + 1) := List.drop_eq_getElem_cons h
  refine ⟨s[i], e, ?_, ?_⟩
  · rw [e, lst]
  · rw [e, fst']
theorem fir_ok {b s : List Int} (h : s ≠ []) : ∃ t ts, s = t :: ts ∧ IsB (lst b ts) (lg b s) ((lst b s).headD 0) (fir b s) := by
  cases s with
  | nil => exact absurd rfl h
  | cons t ts =>
    have hl := lst_len b ts
    exact ⟨t, ts, rfl, best_ok (fun e => by rw [e] at hl; simp at hl) (fun y hy => ((lst_bd b ts).1 y hy).1) (by rw [hl]; exact (lg_le b (t :: ts)).1)⟩
theorem fir_bd {b s : List Int} (h : s ≠ []) : (0 < fir b s ∧ fir b s ≤ lg b s) ∨ (fir b s < 0 ∧ -(fir b s) ≤ s.length) := by
  obtain ⟨t, ts, rfl, _, _, hf⟩ := fir_ok (b := b) h
  have hl := lst_len b ts
  rcases hf with ⟨k, y, _, h1, h2, _⟩ | ⟨m, y, h1, h2, _⟩
  · exact .inl (by omega)
  · have := (List.getElem?_eq_some_iff.1 h1).1
    simp only [List.length_cons]
    exact .inr (by omega)
def mkP (b : List Int) : Nat → List Int → List Part
  | 0, _ => []
  | d + 1, s => if s = [] then [] else if 0 < fir b s then ⟨Lib.index (u8s b) (u8s (s.take (fir b s).toNat)), fir b s, []⟩ :: mkP b d (s.drop (fir b s).toNat) else ⟨0, 0, s.take (-(fir b s)).toNat⟩ :: mkP b d (s.drop (-(fir b s)).toNat)
def makes (b s : List Int) : List Part × Int := if 300 < b.length ∨ 300 < s.length then ([], 4) else (mkP b s.length s, 0)
def cA (b s : List Int) (j : Nat) : List Int := List.replicate j 0 ++ lst b (s.drop j)
def fA (b s : List Int) (j : Nat) : List Int := List.replicate j 0 ++ fst' b (s.drop j)
theorem cA_end (b s : List Int) : cA b s s.length = List.replicate (s.length + 1) 0 := by rw [cA, List.drop_length, lst, List.replicate_succ']
theorem fA_end (b s : List Int) : fA b s s.length = List.replicate s.length 0 := by rw [fA, List.drop_length, fst', List.append_nil]
theorem cA_up (b s : List Int) (i : Nat) : cA b s (i + 1) = cR i 0 (lst b (s.drop (i + 1))) := cR_0 i _
theorem fA_up (b s : List Int) (i : Nat) : fA b s (i + 1) = cR i 0 (fst' b (s.drop (i + 1))) := cR_0 i _
theorem bIY : bI = bY := rfl
theorem fA_0 (b s : List Int) : fA b s 0 = fst' b s := by simp [fA]
theorem mkP_nil (b : List Int) (d : Nat) : mkP b d [] = [] := by cases d <;> simp [mkP]
end Go.AX.De

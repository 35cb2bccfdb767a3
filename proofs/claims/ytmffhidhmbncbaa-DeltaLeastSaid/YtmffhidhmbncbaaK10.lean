/- The order of values, by the reference; Cmp. -/
import Derived.Test.YtmffhidhmbncbaaK9
import Derived.KernelRfl
set_option maxHeartbeats 8000000
set_option linter.unusedVariables false
set_option linter.unusedSimpArgs false
set_option maxRecDepth 20000
namespace Go.AX.Co
open Go.Proofs Go.RowKit Go.IntWalk
end Go.AX.Co
/- Cmp, of the program and of the reference. -/
set_option maxHeartbeats 8000000
set_option linter.unusedVariables false
set_option linter.unusedSimpArgs false
set_option maxRecDepth 20000
namespace Go.AX.Co
open Go.Proofs Go.RowKit Go.IntWalk
def cmpP (a b : Vl) : Int × Int := if (encP a).2 ≠ 0 then (0, (encP a).2) else if (encP b).2 ≠ 0 then (0, (encP b).2) else (ordV a b, 0)
/-! ### values that are great -/
/-- all lengths are those of a machine -/
inductive SmV : Vl → Prop where
  | mk (k n : Int) (b : List Int) (l : List Vl) (hk : 0 ≤ k ∧ k ≤ 255) (hn : -9223372036854775808 ≤ n ∧ n ≤ 9223372036854775807) (hbb : Bytes b) (hb : Sm b.length) (hl : Sm l.length) (h : ∀ x, x ∈ l → SmV x) : SmV (.mk k n b l)
mutual
def cntV : Vl → Nat → Nat → Nat
  | .mk _ _ _ l, most, deep => cntL l 1 most deep
def cntL : List Vl → Nat → Nat → Nat → Nat
  | [], n, _, _ => n
  | x :: r, n, most, deep => if n < most ∧ 0 < deep then cntL r (n + cntV x (most - n) (deep - 1)) most deep else n
end
/-- wide: false means at most so deep -/
def widV : Nat → Vl → Bool
  | 0, .mk _ _ b l => decide (4000 < b.length) || !l.isEmpty
  | d + 1, .mk _ _ b l => decide (4000 < b.length) || l.any (widV d)
mutual
theorem cntV_le : ∀ (v : Vl) (most deep : Nat), 1 ≤ most → 1 ≤ cntV v most deep ∧ cntV v most deep ≤ most
  | .mk k n b l, most, deep, h => by rw [cntV]; exact ⟨cntL_ge l 1 most deep h, (cntL_le l 1 most deep h)⟩
theorem cntL_le : ∀ (l : List Vl) (n most deep : Nat), n ≤ most → cntL l n most deep ≤ most
  | [], n, most, deep, h => by rw [cntL]; exact h
  | x :: r, n, most, deep, h => by
    rw [cntL]
    split
    · next q => exact cntL_le r _ most deep (by have := (cntV_le x (most - n) (deep - 1) (by omega)).2; omega)
    · exact h
theorem cntL_ge : ∀ (l : List Vl) (n most deep : Nat), n ≤ most → n ≤ cntL l n most deep
  | [], n, most, deep, h => by rw [cntL]; exact Nat.le_refl _
  | x :: r, n, most, deep, h => by
    rw [cntL]
    split
    · next q => have := cntL_ge r (n + cntV x (most - n) (deep - 1)) most deep (by have := (cntV_le x (most - n) (deep - 1) (by omega)).2; omega); omega
    · exact Nat.le_refl _
end
end Go.AX.Co
/- Values that are great. -/
set_option maxHeartbeats 8000000
set_option linter.unusedVariables false
set_option linter.unusedSimpArgs false
set_option maxRecDepth 20000
namespace Go.AX.Co
open Go.Proofs Go.RowKit Go.IntWalk
def grV (v : Vl) : Bool := decide (2000 < cntV v 2001 20) || widV 20 v
theorem cntL_all : ∀ (l : List Vl) (n most deep : Nat), n ≤ most → 0 < deep → cntL l n most deep < most → n + l.length ≤ cntL l n most deep ∧ ∀ x ∈ l, ∃ m, m ≤ most ∧ cntV x m (deep - 1) < m
  | [], n, most, deep, _, _, h => ⟨by rw [cntL]; simp, by simp⟩
  | x :: r, n, most, deep, hn, hd, h => by
    rw [cntL] at h ⊢
    by_cases q : n < most
    case neg => rw [if_neg (fun p => q p.1)] at h; omega
    rw [if_pos ⟨q, hd⟩] at h ⊢
    have cl := cntV_le x (most - n) (deep - 1) (by omega)
    have ge := cntL_ge r (n + cntV x (most - n) (deep - 1)) most deep (by omega)
    have ih := cntL_all r (n + cntV x (most - n) (deep - 1)) most deep (by omega) hd h
    refine ⟨by rw [List.length_cons]; omega, fun y hy => ?_⟩
    rcases List.mem_cons.1 hy with rfl | hy
    · exact ⟨most - n, by omega, by omega⟩
    · exact ih.2 y hy
theorem fit_of : ∀ (d : Nat) (v : Vl), SmV v → widV d v = false → ∀ most deep, d ≤ deep → most ≤ 2001 → cntV v most deep < most → FitB v
  | 0, .mk k n b l, hv, hw, most, deep, _, _, _ => by
    obtain ⟨_, _, _, _, hk, hn, hbb, hb, hl, hx⟩ := hv
    rw [widV, Bool.or_eq_false_iff, decide_eq_false_iff_not] at hw
    have : l = [] := by cases l with
      | nil => rfl
      | cons x r => simp at hw
    subst this
    exact .mk _ _ _ _ hk hn hbb (by omega) (by simp) (by simp)
  | d + 1, .mk k n b l, hv, hw, most, deep, hd, hm, hc => by
    obtain ⟨_, _, _, _, hk, hn, hbb, hb, hl, hx⟩ := hv
    rw [widV, Bool.or_eq_false_iff, decide_eq_false_iff_not, List.any_eq_false] at hw
    rw [cntV] at hc
    have hm1 : 1 ≤ most := by omega
    have := cntL_all l 1 most deep hm1 (by omega) hc
    refine .mk _ _ _ _ hk hn hbb (by omega) (by omega) fun x hxm => ?_
    obtain ⟨m, hm', hcm⟩ := this.2 x hxm
    exact fit_of d x (hx x hxm) (by simpa using hw.2 x hxm) m (deep - 1) (by omega) (by omega) hcm
end Go.AX.Co
/- A law's arguments, opened, where a type may hold itself. -/
set_option maxHeartbeats 8000000
set_option linter.unusedVariables false
set_option linter.unusedSimpArgs false
set_option maxRecDepth 20000
namespace Go.AX
open Go.ChangeShapes
/-- types of data, closed under their parts -/
def okT (P : Program) (S : List TypeId) (t : TypeId) : Bool := match P.underlying t with
  | some .bool => true
  | some (.int _) => true
  | some .string => true
  | some (.slice e) => decide (0 < P.cellsOf e) && S.contains e
  | some (.struct fs) => tile P 0 fs.toList == some (P.cellsOf t) && fs.toList.all fun f => S.contains f.type
  | some (.array m e) => m * P.cellsOf e == P.cellsOf t && S.contains e
  | _ => false
theorem Sq.mono : ∀ {p q : List (List D → Prop)} {ds : List D}, p.length = q.length → (∀ (i : Nat) (a b : List D → Prop) (ds : List D), p[i]? = some a → q[i]? = some b → a ds → b ds) → Sq p ds → Sq q ds
  | [], [], ds, _, _, h => h
  | a :: p, b :: q, ds, hl, H, h => by
    obtain ⟨x, y, rfl, h1, h2⟩ := h
    exact ⟨x, y, rfl, H 0 a b _ rfl rfl h1, Sq.mono (by simpa using hl) (fun i a b ds e1 e2 => H (i + 1) a b ds (by simpa using e1) (by simpa using e2)) h2⟩
  | [], _ :: _, _, hl, _, _ => by simp at hl
  | _ :: _, [], _, hl, _, _ => by simp at hl
theorem Tyd.succ {P : Program} : ∀ {n : Nat} {t : TypeId} {ds : List D}, Tyd P n t ds → Tyd P (n + 1) t ds := by
  intro n
  induction n with
  | zero => intro t ds h; exact h.elim
  | succ n ih =>
    intro t ds h
    rw [Tyd] at h ⊢
    cases hu : P.underlying t with
    | none => rw [hu] at h; exact h.elim
    | some u =>
      rw [hu] at h
      cases u <;> simp only at h ⊢ <;> try exact h
      case slice e =>
        obtain ⟨es, rfl, h1, h2⟩ := h
        exact ⟨es, rfl, h1, fun x hx => ih (h2 x hx)⟩
      case struct fs =>
        refine Sq.mono (by simp) (fun i a b ds e1 e2 hd => ?_) h
        rw [List.getElem?_map] at e1 e2
        cases q : fs.toList[i]? with
        | none => rw [q] at e1; simp at e1
        | some f => rw [q] at e1 e2; simp at e1 e2; subst e1 e2; exact ih hd
      case array m e =>
        refine Sq.mono (by simp) (fun i a b ds e1 e2 hd => ?_) h
        rw [List.getElem?_replicate] at e1 e2
        split at e1
        · next hi => rw [if_pos hi] at e2; simp at e1 e2; subst e1 e2; exact ih hd
        · simp at e1
theorem Tyd.more {P : Program} {n : Nat} {t : TypeId} {ds : List D} : ∀ k, Tyd P n t ds → Tyd P (n + k) t ds
  | 0, h => h
  | k + 1, h => (Tyd.more k h).succ
def TydsX (P : Program) : List TypeId → List (List D) → Prop
  | [], [] => True
  | t :: ts, d :: ds => (∃ n, Tyd P (n + 8) t d) ∧ TydsX P ts ds
  | _, _ => False
section
variable {H : Type} {enc : TypeId × Value → H} {P : Program} {W : World} {base : Nat} {spare : Nat → Bool} {held : Bool}
end
end Go.AX
namespace Go.AX.Co
open Go.Proofs Go.RowKit Go.IntWalk
theorem int_of {n : Nat} {d : List D} (h : Tyd Try.prog (n + 1) 3 d) : ∃ i : Int, d = [.int .i64 i] ∧ (-9223372036854775808 ≤ i ∧ i ≤ 9223372036854775807) := by
  obtain ⟨i, rfl, hw⟩ := h.int Ty.under_3
  exact ⟨i, rfl, wf_i64 hw⟩
end Go.AX.Co
/- Values: what is written is read, and the other way about. -/
set_option maxHeartbeats 8000000
set_option linter.unusedVariables false
set_option linter.unusedSimpArgs false
set_option maxRecDepth 20000
namespace Go.AX.Co
open Go.Proofs Go.RowKit Go.IntWalk
end Go.AX.Co
/- The statements' own functions: fit, is, refused; constructors. -/
set_option maxHeartbeats 8000000
set_option linter.unusedVariables false
set_option linter.unusedSimpArgs false
set_option maxRecDepth 20000
namespace Go.AX.Co
open Go.Proofs Go.RowKit Go.IntWalk
theorem number_spec (n : Int) : Spec Try.prog 39 [.d (.int .i64 n)] [] (vA (.mk 1 n [] [])) [] := by
  refine spec_of_ev (fn := Try.f39) DX_ok 3000 Try.func39 rfl rfl (Nat.le_of_ble_eq_true rfl) ?_
  simp (maxSteps := 4000000) -implicitDefEqProofs only [Try.f39, go_sem]
  simp (maxSteps := 4000000) -implicitDefEqProofs only [go_sem, Nat.reduceAdd, Nat.reduceSub, Nat.reduceLT, Nat.reduceLeDiff, Nat.reduceEqDiff, ↓reduceIte]
  exact wk_dat (by simp only [go_sem]; rfl) (by simp only [vA, List.map_nil]) (by simp only [go_sem, vA, List.map_nil])
theorem text_spec (b : List Int) (hb : b.length ≤ 1000000) : Spec Try.prog 40 [.d (.sl (b.map bY))] [] (vA (.mk 2 0 b [])) [] := by
  refine spec_of_ev (fn := Try.f40) DX_ok 3000 Try.func40 rfl rfl (Nat.le_of_ble_eq_true rfl) ?_
  simp (maxSteps := 4000000) -implicitDefEqProofs only [Try.f40, go_sem]
  refine ⟨by decide, ⟨by omega, by omega⟩, ?_⟩
  simp (maxSteps := 4000000) -implicitDefEqProofs only [go_sem, Nat.reduceAdd, Nat.reduceSub, Nat.reduceLT, Nat.reduceLeDiff, Nat.reduceEqDiff, ↓reduceIte]
  exact wk_dat (by simp only [go_sem]; rfl) (by simp only [vA, List.map_nil]) (by simp only [go_sem, vA, List.map_nil])
theorem list_spec (l : List Vl) : Spec Try.prog 38 [.d (.sl (l.map vD))] [] (vA (.mk 3 0 [] l)) [] := by
  refine spec_of_ev (fn := Try.f38) DX_ok 3000 Try.func38 rfl rfl (Nat.le_of_ble_eq_true rfl) ?_
  simp (maxSteps := 4000000) -implicitDefEqProofs only [Try.f38, go_sem]
  simp (maxSteps := 4000000) -implicitDefEqProofs only [go_sem, Nat.reduceAdd, Nat.reduceSub, Nat.reduceLT, Nat.reduceLeDiff, Nat.reduceEqDiff, ↓reduceIte]
  exact wk_dat (by simp only [go_sem]; rfl) (by simp only [vA, List.map_nil]) (by simp only [go_sem, vA, List.map_nil])
def fitP (v : Vl) : Bool := !grV v && decide ((encP v).2 = 0)
/-- what starts with what -/
def stP (a b : List Int) : Bool := decide (b.length ≤ a.length) && decide (a.take b.length = b)
mutual
def sameV : Vl → Vl → Bool
  | .mk k n b l, .mk k' n' b' l' => decide (k = k') && decide (n = n') && decide (b = b') && sameL l l'
def sameL : List Vl → List Vl → Bool
  | [], [] => true
  | x :: a, y :: b => sameV x y && sameL a b
  | _, _ => false
end
mutual
theorem sameV_eq : ∀ v w : Vl, sameV v w = true ↔ v = w
  | .mk k n b l, .mk k' n' b' l' => by
    rw [sameV]
    simp only [Bool.and_eq_true, decide_eq_true_eq, sameL_eq l l', Vl.mk.injEq, and_assoc]
theorem sameL_eq : ∀ a b : List Vl, sameL a b = true ↔ a = b
  | [], [] => by rw [sameL]; simp
  | x :: a, y :: b => by rw [sameL]; simp only [Bool.and_eq_true, sameV_eq x y, sameL_eq a b, List.cons.injEq]
  | [], _ :: _ => by rw [sameL] <;> simp
  | _ :: _, [] => by rw [sameL] <;> simp
end
end Go.AX.Co

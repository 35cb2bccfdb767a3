/- Readers of a row of one's own: take, Clone. -/
import Derived.Test.YtheliodgamcdjaaK6
import Derived.KernelRfl
set_option maxHeartbeats 8000000
set_option linter.unusedVariables false
set_option linter.unusedSimpArgs false
set_option maxRecDepth 20000
namespace Go.AX
theorem AR_cut {c : Cf} {σ : List AObj} {l sz : Nat} {es : List (List D)} {v : Value} (H : Holds c σ) (hl : ob σ l = .row sz es) (h : AR c (.own l) v) : AR c (.osl l sz 0 es.length) v := by
  simp only [AR] at h ⊢
  obtain ⟨h1, rfl, _⟩ := h
  refine ⟨h1, ?_⟩
  rcases H.obj l _ (ob_some hl (by simp)) with ⟨rfl, A, e⟩ | ⟨cap, vs, ty, g0, g1, g2, _⟩
  · exact ⟨A, 0, e, Nat.le_refl _, fun h => absurd h (Nat.lt_irrefl 0)⟩
  · exact ⟨_, cap, g1, g2, fun _ => by rw [Nat.zero_mul]⟩
/-- an own row is a part of itself -/
theorem Wk.cut {n0 : Nat} {xs : List AV} {σ : List AObj} (l : Nat) {sz : Nat} {es : List (List D)} (hl : ob σ l = .row sz es) : Wk n0 (.own l :: xs) σ (.osl l sz 0 es.length :: xs) σ := Wk.ofNxt fun c vs H r => by
  obtain ⟨v, q, rfl, h1, h2⟩ := ARs_cons_left r
  exact ⟨c, rfl, Nxt.refl H, ARs_cons.2 ⟨AR_cut H hl h1, h2⟩⟩
end Go.AX
namespace Go.AX.Co
open Go.Proofs Go.RowKit Go.IntWalk
/-- a reader of what is left of a row of so many -/
def rO (N : Nat) (r : List Int) (b : Bool) : AObj := .cells [.osl 1 1 (N - r.length) r.length, .d (.bool b)]
def rW (bs : List Int) : AObj := .row 1 (bs.map bY)
attribute [go_sem] rO rW
theorem left_cut {bs q : List Int} (h : Left bs q) : bs.drop (bs.length - q.length) = q := by
  obtain ⟨a, rfl⟩ := h
  have e : (a ++ q).length - q.length = a.length := by simp
  rw [e]; simp
theorem Left.drop {bs q : List Int} (h : Left bs q) (n : Nat) : Left bs (q.drop n) := h.trans ⟨q.take n, (List.take_append_drop n q).symm⟩
end Go.AX.Co
/- Readers of a row of one's own: values. -/
set_option maxHeartbeats 8000000
set_option linter.unusedVariables false
set_option linter.unusedSimpArgs false
set_option maxRecDepth 20000
namespace Go.AX.Co
open Go.Proofs Go.RowKit Go.IntWalk
end Go.AX.Co
/- Readers of a row of one's own: Next, Decode. -/
set_option maxHeartbeats 8000000
set_option linter.unusedVariables false
set_option linter.unusedSimpArgs false
set_option maxRecDepth 20000
namespace Go.AX
end Go.AX
namespace Go.AX.Co
open Go.Proofs Go.RowKit Go.IntWalk
end Go.AX.Co
/- The reference's reader: codes of numbers. -/
set_option maxHeartbeats 8000000
set_option linter.unusedVariables false
set_option linter.unusedSimpArgs false
set_option maxRecDepth 20000
namespace Go.AX.Co
open Go.Proofs Go.RowKit Go.IntWalk
/-- the code of a number, read by the reference -/
def codR (r : List Int) : Nat × Nat := if (numP 10 0 0 r).2.2 = true then (0, 0) else ((numP 10 0 0 r).1, r.length - (numP 10 0 0 r).2.1.length)
end Go.AX.Co
/- The reference's reader: values. -/
set_option maxHeartbeats 8000000
set_option linter.unusedVariables false
set_option linter.unusedSimpArgs false
set_option maxRecDepth 20000
namespace Go.AX.Co
open Go.Proofs Go.RowKit Go.IntWalk
def readP (d : Nat) (b : List Int) : Vl × Nat := if (valP d b).2.2 = true then (v0, 0) else ((valP d b).1, b.length - (valP d b).2.1.length)
theorem lisP_bad (g : List Int → Vl × List Int × Bool) (n : Nat) (r : List Int) : lisP g n r true = ([], r, true) := by
  cases n with
  | zero => rfl
  | succ n => rw [lisP, if_pos rfl]
theorem valP_bad {d : Nat} {x : Int} {q : List Int} (h : (numR q false).2.2 = true) : (valP (d + 1) (x :: q)).2.2 = true := by
  rw [valP]
  generalize numR q false = m at h
  by_cases k1 : x = 1
  · rw [if_pos k1]; exact h
  rw [if_neg k1]
  by_cases k2 : x = 2
  · rw [if_pos k2]; unfold takeP; rw [if_pos (.inl h)]
  rw [if_neg k2]
  by_cases k3 : x = 3
  · rw [if_pos k3, h, Bool.true_or, lisP_bad]
  · rw [if_neg k3]
end Go.AX.Co
/- The reference's reader: Next, Decode. -/
set_option maxHeartbeats 8000000
set_option linter.unusedVariables false
set_option linter.unusedSimpArgs false
set_option maxRecDepth 20000
namespace Go.AX.Co
open Go.Proofs Go.RowKit Go.IntWalk
end Go.AX.Co
/- Values that are read are not too large; a law's arguments. -/
set_option maxHeartbeats 8000000
set_option linter.unusedVariables false
set_option linter.unusedSimpArgs false
set_option maxRecDepth 20000
namespace Go.AX.Co
open Go.Proofs Go.RowKit Go.IntWalk
theorem FitW.fitV {v : Vl} (h : FitW v) : FitV v := by
  induction h with
  | mk k n b l hn hb hl hx ih => exact .mk k n b l (by omega) (by omega) ih
theorem unf_in {n : Nat} (h : n < 2 ^ 64) : -9223372036854775808 ≤ unf n ∧ unf n ≤ 9223372036854775807 := by
  unfold unf
  split <;> omega
theorem lisP_len (g : List Int → Vl × List Int × Bool) : ∀ (n : Nat) (r : List Int) (b : Bool), (lisP g n r b).1.length ≤ n
  | 0, _, _ => Nat.le_refl _
  | n + 1, r, b => by
    rw [lisP]
    split
    · exact Nat.zero_le _
    · have := lisP_len g n (g r).2.1 (g r).2.2
      simp only [List.length_cons]; omega
theorem lisP_all {g : List Int → Vl × List Int × Bool} {Q : Vl → Prop} {K : List Int → Prop} (h : ∀ r, K r → Q (g r).1 ∧ K (g r).2.1) : ∀ (n : Nat) (r : List Int) (b : Bool), K r → ∀ x ∈ (lisP g n r b).1, Q x
  | 0, _, _, _, x, hx => by simp [lisP] at hx
  | n + 1, r, b, hr, x, hx => by
    rw [lisP] at hx
    split at hx
    · simp at hx
    · simp only [List.mem_cons] at hx
      rcases hx with rfl | hx
      · exact (h r hr).1
      · exact lisP_all h n _ _ (h r hr).2 x hx
theorem v0_fit : FitW v0 := .mk 0 0 [] [] (by omega) (by simp) (by simp) (by simp)
/-- values that are read are not too large -/
theorem valP_fit : ∀ (d : Nat) (r : List Int), r.length ≤ 900000 → Bytes r → FitW (valP d r).1
  | 0, [], _, _ => v0_fit
  | _ + 1, [], _, _ => v0_fit
  | 0, x :: q, _, _ => v0_fit
  | d + 1, x :: q, hr, hB => by
    have hqB : Bytes q := fun e he => hB e (by simp [he])
    have hql : q.length ≤ 900000 := by simp at hr; omega
    have nl := numR_left q false
    have nlt := numR_lt q false hqB
    rw [valP]
    generalize numR q false = m at nl nlt ⊢
    have hml := nl.len
    split
    · exact .mk _ _ _ _ (unf_in nlt) (by simp) (by simp) (by simp)
    split
    · refine .mk _ _ _ _ (by omega) ?_ (by simp) (by simp)
      unfold takeP
      split
      · simp
      · simp; omega
    split
    · refine .mk _ _ _ _ (by omega) (by simp) ?_ ?_
      · cases hb : (m.2.2 || decide (m.2.1.length < m.1)) with
        | true => rw [lisP_bad]; simp
        | false =>
          rw [Bool.or_eq_false_iff, decide_eq_false_iff_not] at hb
          have := lisP_len (valP d) m.1 m.2.1 false
          omega
      · exact lisP_all (Q := FitW) (K := fun r => r.length ≤ 900000 ∧ Bytes r) (fun r h => ⟨valP_fit d r h.1 h.2, by have := (valP_left d r).len; omega, (valP_left d r).bytes h.2⟩) _ _ _ ⟨by omega, nl.bytes hqB⟩
    · exact .mk _ _ _ _ (by omega) (by simp) (by simp) (by simp)
theorem u8_of {n : Nat} {d : List D} (h : Tyd Try.prog (n + 1) 5 d) : ∃ i : Int, d = bY i ∧ 0 ≤ i ∧ i ≤ 255 := by
  obtain ⟨i, rfl, hw⟩ := h.int Ty.under_5
  exact ⟨i, rfl, wf_u8 hw⟩
theorem rows_ofP {α : Type} {g : α → List D} {Q : α → Prop} : ∀ {es : List (List D)}, (∀ x ∈ es, ∃ y, x = g y ∧ Q y) → ∃ l : List α, es = l.map g ∧ ∀ y ∈ l, Q y
  | [], _ => ⟨[], rfl, by simp⟩
  | e :: es, h => by
    obtain ⟨y, rfl, hy⟩ := h e (by simp)
    obtain ⟨l, hl, hq⟩ := rows_ofP (es := es) (g := g) (Q := Q) fun x hx => h x (by simp [hx])
    exact ⟨y :: l, by rw [hl]; rfl, by simp; exact ⟨hy, hq⟩⟩
theorem bytes_of {n : Nat} {d : List D} (h : Tyd Try.prog (n + 2) 22 d) : ∃ l : List Int, d = [.sl (l.map bY)] ∧ Sm l.length ∧ Bytes l := by
  obtain ⟨es, rfl, h1, h2⟩ := h.slice Ty.under_22
  obtain ⟨l, rfl, hl⟩ := rows_ofP (g := bY) (Q := fun z => 0 ≤ z ∧ z ≤ 255) fun x hx => u8_of (h2 x hx)
  refine ⟨l, rfl, ?_, hl⟩
  have hb : Try.prog.bytesOf 5 = 1 := by kernel_rfl
  rw [hb, List.length_map] at h1
  unfold Sm; omega
end Go.AX.Co

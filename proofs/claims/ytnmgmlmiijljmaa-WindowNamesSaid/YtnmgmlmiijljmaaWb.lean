/- Windows: the plain law. Sorting, joining, what a list of windows says. -/
import Derived.Test.YtnmgmlmiijljmaaWa
set_option maxHeartbeats 8000000
set_option linter.unusedVariables false
set_option linter.unusedSimpArgs false
set_option maxRecDepth 20000
namespace Go.AX.Wn
open Go.Proofs Go.RowKit Go.IntWalk Go.AX.Br
/-! ### sorted by their beginnings, those of one beginning in their order -/
def ins (x : Hd) : List Hd → List Hd
  | [] => [x]
  | y :: ys => if x.fr < y.fr then x :: y :: ys else y :: ins x ys
def isort (l : List Hd) : List Hd := l.foldl (fun P x => ins x P) []
def Srt (P : List Hd) : Prop := P.Pairwise fun a b => a.fr ≤ b.fr
theorem ins_perm (x : Hd) : ∀ P : List Hd, (ins x P).Perm (x :: P)
  | [] => .refl _
  | y :: ys => by
    simp only [ins]
    split
    · exact .refl _
    · exact ((ins_perm x ys).cons y).trans (.swap x y ys)
theorem ins_srt (x : Hd) : ∀ {P : List Hd}, Srt P → Srt (ins x P)
  | [], _ => by simp [ins, Srt]
  | y :: ys, h => by
    obtain ⟨h1, h2⟩ := List.pairwise_cons.1 h
    simp only [ins]
    split
    · next e => exact List.pairwise_cons.2 ⟨fun z hz => by
        rcases List.mem_cons.1 hz with rfl | hz
        · omega
        · have := h1 z hz; omega, h⟩
    · next e => exact List.pairwise_cons.2 ⟨fun z hz => by
        rcases List.mem_cons.1 ((ins_perm x ys).mem_iff.1 hz) with rfl | hz
        · omega
        · exact h1 z hz, ins_srt x h2⟩
theorem ins_split {x : Hd} {B : List Hd} (hb : ∀ y, B.head? = some y → x.fr < y.fr) : ∀ {A : List Hd}, (∀ y ∈ A, y.fr ≤ x.fr) → ins x (A ++ B) = A ++ x :: B
  | [], _ => by
    cases B with
    | nil => rfl
    | cons y ys => simp only [List.nil_append, ins]; rw [if_pos (hb y rfl)]
  | y :: ys, h => by
    simp only [List.cons_append, ins]
    rw [if_neg (by have := h y (by simp); omega), ins_split hb fun z hz => h z (by simp [hz])]
theorem ins_find {x : Hd} {v : Int} : ∀ {P : List Hd}, Srt P → (ins x P).find? (fun h => decide (h.fr = v)) = (P ++ [x]).find? (fun h => decide (h.fr = v))
  | [], _ => rfl
  | y :: ys, h => by
    obtain ⟨h1, h2⟩ := List.pairwise_cons.1 h
    simp only [ins]
    split
    · next e =>
      by_cases hx : x.fr = v
      · have no : (y :: ys).find? (fun h => decide (h.fr = v)) = none := by
          rw [List.find?_eq_none]
          intro z hz
          rcases List.mem_cons.1 hz with rfl | hz
          · simp; omega
          · have := h1 z hz; simp; omega
        rw [List.find?_append, no]
        simp [hx]
      · rw [List.find?_append]
        simp only [List.find?_cons, List.find?_nil, decide_eq_false hx]
        cases (if decide (y.fr = v) = true then some y else ys.find? fun h => decide (h.fr = v)) <;> simp_all
    · simp only [List.cons_append, List.find?_cons]
      rw [ins_find h2]
theorem fold_srt : ∀ (l P : List Hd), Srt P → Srt (l.foldl (fun P x => ins x P) P) ∧ (l.foldl (fun P x => ins x P) P).Perm (P ++ l) ∧ ∀ v, (l.foldl (fun P x => ins x P) P).find? (fun h => decide (h.fr = v)) = (P ++ l).find? (fun h => decide (h.fr = v))
  | [], P, h => by simp [h]
  | x :: l, P, h => by
    obtain ⟨g1, g2, g3⟩ := fold_srt l (ins x P) (ins_srt x h)
    refine ⟨g1, g2.trans ?_, fun v => ?_⟩
    · exact ((ins_perm x P).append_right l).trans (List.perm_middle.symm)
    · rw [List.foldl_cons, g3 v, List.find?_append, ins_find h, ← List.find?_append]; simp
theorem isort_srt (l : List Hd) : Srt (isort l) := (fold_srt l [] .nil).1
theorem isort_mem {l : List Hd} {x : Hd} : x ∈ isort l ↔ x ∈ l := by unfold isort; simpa using (fold_srt l [] .nil).2.1.mem_iff
theorem isort_len (l : List Hd) : (isort l).length = l.length := by unfold isort; simpa using (fold_srt l [] .nil).2.1.length_eq
theorem isort_find (l : List Hd) (v : Int) : (isort l).find? (fun h => decide (h.fr = v)) = l.find? (fun h => decide (h.fr = v)) := by unfold isort; simpa using (fold_srt l [] .nil).2.2 v
theorem isort_snoc (l : List Hd) (x : Hd) : isort (l ++ [x]) = ins x (isort l) := by simp [isort]
/-! ### joined -/
def joinTo (w h : Hd) : Hd := ⟨w.br, w.fr, max w.to h.to, w.rs⟩
def mstep (out : List Hd) (h : Hd) : List Hd := match out.getLast? with
  | some w => if h.fr ≤ w.to then out.dropLast ++ [joinTo w h] else out ++ [h]
  | none => [h]
def winL (l : List Hd) (b : ByteArray) : List Hd := (isort (l.filter fun h => decide (h.br = b))).foldl mstep []
def cov (P : List Hd) (t : Int) : Prop := ∃ h ∈ P, h.fr ≤ t ∧ t < h.to
/-- in order, neither touching nor overlapping -/
def Can (W : List Hd) : Prop := W.Pairwise (fun a b => a.to < b.fr) ∧ ∀ w ∈ W, w.fr < w.to
structure Jn (P out : List Hd) : Prop where
  can : Can out
  same : ∀ t, cov P t ↔ cov out t
  first : ∀ w ∈ out, ∃ h ∈ P, P.find? (fun h => decide (h.fr = w.fr)) = some h ∧ w.br = h.br ∧ w.rs = h.rs
  last : ∀ w ∈ out, ∃ h ∈ P, h.to = w.to
theorem find_app {P Q : List Hd} {p : Hd → Bool} {h : Hd} (e : P.find? p = some h) : (P ++ Q).find? p = some h := by rw [List.find?_append, e]; rfl
theorem last_split {out : List Hd} {w : Hd} (h : out.getLast? = some w) : out = out.dropLast ++ [w] := by
  have hne : out ≠ [] := fun e => by simp [e] at h
  have := List.dropLast_concat_getLast hne
  rw [List.getLast?_eq_some_getLast hne] at h
  cases h
  exact this.symm
theorem jn_step {P out : List Hd} {h : Hd} (J : Jn P out) (hh : h.fr < h.to) (hs : ∀ p ∈ P, p.fr ≤ h.fr) (hp : ∀ p ∈ P, p.fr < p.to) : Jn (P ++ [h]) (mstep out h) := by
  have hcov : ∀ t, cov (P ++ [h]) t ↔ (cov P t ∨ (h.fr ≤ t ∧ t < h.to)) := fun t => by
    simp only [cov, List.mem_append, List.mem_singleton]
    constructor
    · rintro ⟨x, hx | rfl, h1⟩
      · exact .inl ⟨x, hx, h1⟩
      · exact .inr h1
    · rintro (⟨x, hx, h1⟩ | h1)
      · exact ⟨x, .inl hx, h1⟩
      · exact ⟨h, .inr rfl, h1⟩
  unfold mstep
  cases hl : out.getLast? with
  | none =>
    have ho : out = [] := by simpa using hl
    subst ho
    have hP : P = [] := by
      cases P with
      | nil => rfl
      | cons p P =>
        obtain ⟨w, hw, _⟩ := (J.same p.fr).1 ⟨p, by simp, Int.le_refl _, hp p (by simp)⟩
        simp at hw
    subst hP
    refine ⟨⟨by simp, by simp [hh]⟩, fun t => by simp, ?_, ?_⟩
    · intro w hw; simp at hw; subst hw; exact ⟨w, by simp, by simp, rfl, rfl⟩
    · intro w hw; simp at hw; subst hw; exact ⟨w, by simp, rfl⟩
  | some w =>
    have hsp := last_split hl
    obtain ⟨A, hA⟩ : ∃ A, A = out.dropLast := ⟨_, rfl⟩
    rw [← hA] at hsp ⊢
    have hwm : w ∈ out := by rw [hsp]; simp
    have c1 := J.can.1
    have c2 := J.can.2
    rw [hsp] at c1
    obtain ⟨cA, _, cAw⟩ := List.pairwise_append.1 c1
    have hAw : ∀ a ∈ A, a.to < w.fr := fun a ha => cAw a ha w (by simp)
    have hAm : ∀ a ∈ A, a ∈ out := fun a ha => by rw [hsp]; simp [ha]
    have hw := c2 w hwm
    obtain ⟨hf, hfm, hff, hfb, hfr⟩ := J.first w hwm
    have hwf : w.fr ≤ h.fr := by
      have e : hf.fr = w.fr := by simpa using List.find?_some hff
      have := hs hf hfm; omega
    simp only
    split
    · next hle =>
      have hcov2 : ∀ t, cov (A ++ [joinTo w h]) t ↔ (cov out t ∨ (h.fr ≤ t ∧ t < h.to)) := fun t => by
        rw [hsp]
        simp only [cov, List.mem_append, List.mem_singleton]
        constructor
        · rintro ⟨x, hx | rfl, h1, h2⟩
          · exact .inl ⟨x, .inl hx, h1, h2⟩
          · simp only [joinTo] at h1 h2
            rcases Int.lt_or_le t w.to with q | q
            · exact .inl ⟨w, .inr rfl, h1, q⟩
            · exact .inr ⟨by omega, by omega⟩
        · rintro (⟨x, hx | rfl, h1, h2⟩ | ⟨h1, h2⟩)
          · exact ⟨x, .inl hx, h1, h2⟩
          · exact ⟨_, .inr rfl, h1, by simp only [joinTo]; omega⟩
          · exact ⟨_, .inr rfl, by simp only [joinTo]; omega, by simp only [joinTo]; omega⟩
      refine ⟨⟨List.pairwise_append.2 ⟨cA, by simp, fun a ha x hx => ?_⟩, fun x hx => ?_⟩, fun t => ?_, fun x hx => ?_, fun x hx => ?_⟩
      · simp at hx; subst hx; exact hAw a ha
      · rcases List.mem_append.1 hx with hx | hx
        · exact c2 x (hAm x hx)
        · simp at hx; subst hx; simp only [joinTo]; omega
      · rw [hcov, hcov2, J.same]
      · rcases List.mem_append.1 hx with hx | hx
        · obtain ⟨y, y1, y2, y3, y4⟩ := J.first x (hAm x hx)
          exact ⟨y, by simp [y1], find_app y2, y3, y4⟩
        · simp at hx; subst hx
          exact ⟨hf, by simp [hfm], find_app hff, hfb, hfr⟩
      · rcases List.mem_append.1 hx with hx | hx
        · obtain ⟨y, y1, y2⟩ := J.last x (hAm x hx)
          exact ⟨y, by simp [y1], y2⟩
        · simp at hx; subst hx
          rcases Int.le_total w.to h.to with q | q
          · exact ⟨h, by simp, by simp only [joinTo]; omega⟩
          · obtain ⟨y, y1, y2⟩ := J.last w hwm
            exact ⟨y, by simp [y1], by simp only [joinTo]; omega⟩
    · next hlt =>
      have hAll : ∀ a ∈ out, a.to < h.fr := fun a ha => by
        rw [hsp] at ha
        rcases List.mem_append.1 ha with ha | ha
        · have := hAw a ha; omega
        · simp at ha; subst ha; omega
      refine ⟨⟨List.pairwise_append.2 ⟨J.can.1, by simp, fun a ha x hx => ?_⟩, fun x hx => ?_⟩, fun t => ?_, fun x hx => ?_, fun x hx => ?_⟩
      · simp at hx; subst hx; exact hAll a ha
      · rcases List.mem_append.1 hx with hx | hx
        · exact c2 x hx
        · simp at hx; subst hx; exact hh
      · rw [hcov, J.same]
        simp only [cov, List.mem_append, List.mem_singleton]
        constructor
        · rintro (⟨x, hx, h1⟩ | h1)
          · exact ⟨x, .inl hx, h1⟩
          · exact ⟨h, .inr rfl, h1⟩
        · rintro ⟨x, hx | rfl, h1⟩
          · exact .inl ⟨x, hx, h1⟩
          · exact .inr h1
      · rcases List.mem_append.1 hx with hx | hx
        · obtain ⟨y, y1, y2, y3, y4⟩ := J.first x hx
          exact ⟨y, by simp [y1], find_app y2, y3, y4⟩
        · simp at hx; subst hx
          have no : P.find? (fun h => decide (h.fr = x.fr)) = none := by
            rw [List.find?_eq_none]
            intro p hpm
            simp only [decide_eq_true_eq]
            intro e
            obtain ⟨v, v1, v2, v3⟩ := (J.same p.fr).1 ⟨p, hpm, Int.le_refl _, hp p hpm⟩
            have := hAll v v1
            omega
          exact ⟨x, by simp, by rw [List.find?_append, no]; simp, rfl, rfl⟩
      · rcases List.mem_append.1 hx with hx | hx
        · obtain ⟨y, y1, y2⟩ := J.last x hx
          exact ⟨y, by simp [y1], y2⟩
        · simp at hx; subst hx
          exact ⟨x, by simp, rfl⟩
theorem jn_all : ∀ (Q P out : List Hd), Jn P out → Srt (P ++ Q) → (∀ p ∈ P ++ Q, p.fr < p.to) → Jn (P ++ Q) (Q.foldl mstep out)
  | [], P, out, J, _, _ => by simpa using J
  | h :: Q, P, out, J, hs, hp => by
    have e : P ++ h :: Q = (P ++ [h]) ++ Q := by simp
    rw [e] at hs hp ⊢
    refine jn_all Q (P ++ [h]) _ (jn_step J (hp h (by simp)) (fun p hpm => ?_) fun p hpm => hp p (by simp [hpm])) hs hp
    have := (List.pairwise_append.1 (List.pairwise_append.1 hs).1).2.2 p hpm h (by simp)
    exact this
theorem jn_win (l : List Hd) (b : ByteArray) (hv : ∀ h ∈ l, h.fr < h.to) : Jn (isort (l.filter fun h => decide (h.br = b))) (winL l b) := by
  refine jn_all _ [] [] ⟨⟨.nil, by simp⟩, fun t => Iff.rfl, by simp, by simp⟩ (isort_srt _) fun p hp => ?_
  have := isort_mem.1 hp
  exact hv p (List.mem_filter.1 this).1
end Go.AX.Wn

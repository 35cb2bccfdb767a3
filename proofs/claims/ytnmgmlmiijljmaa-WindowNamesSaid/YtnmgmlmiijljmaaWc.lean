/- Windows: the plain law. Looking ticks up, slack, fit. -/
import Derived.Test.YtnmgmlmiijljmaaWb
set_option maxHeartbeats 8000000
set_option linter.unusedVariables false
set_option linter.unusedSimpArgs false
set_option maxRecDepth 20000
namespace Go.AX.Wn
open Go.Proofs Go.RowKit Go.IntWalk Go.AX.Br
def look (W : List Hd) (t : Int) : Option Hd := W.find? fun w => decide (t < w.to)
def endH : Hd := ⟨ByteArray.empty, 1000001, 1000001, ByteArray.empty⟩
def inR (W : List Hd) (t : Int) : Hd × Bool := match look W t with
  | some w => (w, decide (w.fr ≤ t))
  | none => (endH, false)
def nextW (W : List Hd) (t : Int) : Int := match look W t with
  | some w => if w.fr ≤ t then w.to else t
  | none => t
def stopW (W : List Hd) (t : Int) : Int := match look W t with
  | some w => max t w.fr
  | none => 1000001
theorem look_none {W : List Hd} {t : Int} (h : look W t = none) : ∀ a ∈ W, a.to ≤ t := fun a ha => by
  have := List.find?_eq_none.1 h a ha
  simp only [decide_eq_true_eq] at this; omega
theorem look_some {W : List Hd} {t : Int} {w : Hd} (C : Can W) (h : look W t = some w) :
    ∃ A B, W = A ++ w :: B ∧ (∀ a ∈ A, a.to ≤ t) ∧ t < w.to ∧ w.fr < w.to ∧ (∀ a ∈ A, a.to < w.fr) ∧ (∀ b ∈ B, w.to < b.fr ∧ b.fr < b.to) ∧ w ∈ W := by
  obtain ⟨h1, A, B, h2, h3⟩ := List.find?_eq_some_iff_append.1 h
  obtain ⟨c1, c2⟩ := C
  have hm : w ∈ W := by rw [h2]; simp
  have c1' := c1
  rw [h2] at c1'
  obtain ⟨_, p2, p3⟩ := List.pairwise_append.1 c1'
  refine ⟨A, B, h2, fun a ha => ?_, by simpa using h1, c2 w hm, fun a ha => p3 a ha w (by simp), fun b hb => ⟨(List.pairwise_cons.1 p2).1 b hb, c2 b (by rw [h2]; simp [hb])⟩, hm⟩
  have := h3 a ha
  simp only [Bool.not_eq_true', decide_eq_false_iff_not] at this; omega
theorem look_cov {W : List Hd} {t : Int} {w : Hd} (C : Can W) (h : look W t = some w) : cov W t ↔ w.fr ≤ t := by
  obtain ⟨A, B, e, a1, a2, a3, a4, a5, a6⟩ := look_some C h
  constructor
  · rintro ⟨x, hx, h1, h2⟩
    rw [e] at hx
    rcases List.mem_append.1 hx with hx | hx
    · have := a1 x hx; omega
    rcases List.mem_cons.1 hx with rfl | hx
    · exact h1
    · have := a5 x hx; omega
  · intro hw; exact ⟨w, a6, hw, a2⟩
theorem none_cov {W : List Hd} {t : Int} (h : look W t = none) : ¬ cov W t := by
  rintro ⟨x, hx, h1, h2⟩
  have := look_none h x hx; omega
theorem in_cov {W : List Hd} {t : Int} (C : Can W) : (inR W t).2 = true ↔ cov W t := by
  unfold inR
  cases h : look W t with
  | none => simp [none_cov h]
  | some w => simp [look_cov C h]
theorem find_congr {p q : Hd → Bool} : ∀ {l : List Hd}, (∀ x ∈ l, p x = q x) → l.find? p = l.find? q
  | [], _ => rfl
  | x :: l, h => by rw [List.find?_cons, List.find?_cons, h x (by simp), find_congr fun y hy => h y (by simp [hy])]
/-- a valid list's windows -/
structure Okw (l : List Hd) (b : ByteArray) : Prop where
  len : l.length ≤ 16
  val : ∀ h ∈ l, 0 ≤ h.fr ∧ h.fr < h.to ∧ h.to ≤ 1000000
theorem okw {l : List Hd} (b : ByteArray) (h : wcheck l = 0) : Okw l b := by
  simp only [wcheck] at h
  split at h
  · omega
  split at h
  · omega
  · next h1 h2 =>
    refine ⟨by omega, fun x hx => ?_⟩
    have h2 : l.any wrong = false := by simpa using h2
    have := List.any_eq_false.1 h2 x hx
    simp only [wrong, Bool.or_eq_true, decide_eq_true_eq, not_or] at this
    omega
section
variable {l : List Hd} {b : ByteArray} (O : Okw l b)
include O
theorem Okw.jn : Jn (isort (l.filter fun h => decide (h.br = b))) (winL l b) := jn_win l b fun h hh => (O.val h hh).2.1
theorem Okw.can : Can (winL l b) := O.jn.can
theorem Okw.mem {h : Hd} : h ∈ isort (l.filter fun h => decide (h.br = b)) ↔ h ∈ l ∧ h.br = b := by
  have _ := O.len
  rw [isort_mem, List.mem_filter]; simp
theorem Okw.heldC (t : Int) : Wn.held l b t = true ↔ cov (winL l b) t := by
  rw [← O.jn.same t]
  simp only [Wn.held, List.any_eq_true, cov]
  constructor
  · rintro ⟨h, hh, e⟩
    simp only [holds, Bool.and_eq_true, decide_eq_true_eq] at e
    exact ⟨h, O.mem.2 ⟨hh, e.1.1⟩, e.1.2, e.2⟩
  · rintro ⟨h, hh, e⟩
    obtain ⟨h1, h2⟩ := O.mem.1 hh
    exact ⟨h, h1, by simp [holds, h2, e.1, e.2]⟩
theorem Okw.nheld (t : Int) : Wn.held l b t = false ↔ ¬ cov (winL l b) t := by
  rw [← O.heldC t]; simp
theorem Okw.first {w : Hd} (hw : w ∈ winL l b) : ∃ h ∈ l, h.br = b ∧ h.fr = w.fr ∧ w.br = b ∧ (l.find? fun h => holds b w.fr h) = some h ∧ h.rs = w.rs := by
  obtain ⟨h, h1, h2, h3, h4⟩ := O.jn.first w hw
  obtain ⟨m1, m2⟩ := O.mem.1 h1
  have e : h.fr = w.fr := by simpa using List.find?_some h2
  refine ⟨h, m1, m2, e, by rw [h3, m2], ?_, h4.symm⟩
  rw [isort_find, List.find?_filter] at h2
  rw [← h2]
  refine find_congr fun x hx => ?_
  obtain ⟨v1, v2, v3⟩ := O.val x hx
  rw [Bool.eq_iff_iff]
  simp only [holds, Bool.and_eq_true, decide_eq_true_eq]
  constructor
  · rintro ⟨⟨x1, x2⟩, x3⟩
    refine ⟨x1, ?_⟩
    rcases Int.lt_or_le x.fr w.fr with q | q
    · exfalso
      have hc : cov (winL l b) (w.fr - 1) := (O.jn.same _).1 ⟨x, O.mem.2 ⟨hx, x1⟩, by omega, by omega⟩
      obtain ⟨y, y1, y2, y3⟩ := hc
      have C := O.can
      have hwv := C.2 w hw
      -- y is not w, not before it, not behind it
      obtain ⟨A, B, hs⟩ := List.append_of_mem hw
      have c1 := C.1
      rw [hs] at c1 y1
      obtain ⟨_, p2, p3⟩ := List.pairwise_append.1 c1
      rcases List.mem_append.1 y1 with y1 | y1
      · have := p3 y y1 w (by simp); omega
      rcases List.mem_cons.1 y1 with rfl | y1
      · omega
      · have := (List.pairwise_cons.1 p2).1 y y1; omega
    · omega
  · rintro ⟨x1, x2⟩
    exact ⟨⟨x1, by omega⟩, by omega⟩
theorem Okw.last {w : Hd} (hw : w ∈ winL l b) : ∃ h ∈ l, h.br = b ∧ h.to = w.to := by
  obtain ⟨h, h1, h2⟩ := O.jn.last w hw
  obtain ⟨m1, m2⟩ := O.mem.1 h1
  exact ⟨h, m1, m2, h2⟩
theorem Okw.bounds {w : Hd} (hw : w ∈ winL l b) : 0 ≤ w.fr ∧ w.fr < w.to ∧ w.to ≤ 1000000 := by
  obtain ⟨h, h1, _, h3, _⟩ := O.first hw
  obtain ⟨k, k1, _, k3⟩ := O.last hw
  have := O.val h h1; have := O.val k k1; have := O.can.2 w hw
  omega
end
theorem mstep_len (out : List Hd) (h : Hd) : (mstep out h).length ≤ out.length + 1 := by
  unfold mstep
  split
  · split
    · simp
    · simp
  · simp
theorem fold_len : ∀ (Q out : List Hd), (Q.foldl mstep out).length ≤ out.length + Q.length
  | [], out => by simp
  | h :: Q, out => by
    have := fold_len Q (mstep out h)
    have := mstep_len out h
    simp only [List.foldl_cons, List.length_cons]; omega
theorem winL_len (l : List Hd) (b : ByteArray) : (winL l b).length ≤ l.length := by
  have h1 := fold_len (isort (l.filter fun h => decide (h.br = b))) []
  rw [isort_len] at h1
  have := List.length_filter_le (fun h : Hd => decide (h.br = b)) l
  unfold winL
  simp only [List.length_nil] at h1; omega
/-! ### slack -/
def sumOv : List Hd → Int → Int → Int
  | [], _, _ => 0
  | w :: W, f, t => max 0 (min t w.to - max f w.fr) + sumOv W f t
def slR (W : List Hd) (f t : Int) : Int := t - f - sumOv W f t
theorem sum_app (f t : Int) : ∀ A B : List Hd, sumOv (A ++ B) f t = sumOv A f t + sumOv B f t
  | [], B => by simp [sumOv]
  | a :: A, B => by simp only [List.cons_append, sumOv, sum_app f t A B]; omega
theorem sum_zero {f t : Int} : ∀ {A : List Hd}, (∀ a ∈ A, a.to ≤ f) → sumOv A f t = 0
  | [], _ => rfl
  | a :: A, h => by
    have := h a (by simp)
    rw [sumOv, sum_zero fun x hx => h x (by simp [hx])]; omega
theorem sum_late {f f' t : Int} : ∀ {A : List Hd}, (∀ a ∈ A, f ≤ a.fr ∧ f' ≤ a.fr) → sumOv A f t = sumOv A f' t
  | [], _ => rfl
  | a :: A, h => by
    have := h a (by simp)
    rw [sumOv, sumOv, sum_late fun x hx => h x (by simp [hx])]; omega
theorem sum_past {f t : Int} : ∀ {A : List Hd}, (∀ a ∈ A, t ≤ a.fr) → sumOv A f t = 0
  | [], _ => rfl
  | a :: A, h => by
    have := h a (by simp)
    rw [sumOv, sum_past fun x hx => h x (by simp [hx])]; omega
theorem slack_held {W : List Hd} {f t : Int} {w : Hd} (C : Can W) (h : look W f = some w) (h1 : w.fr ≤ f) (h2 : f < t) : slR W f t = if w.to < t then slR W w.to t else 0 := by
  obtain ⟨A, B, e, a1, a2, a3, a4, a5, _⟩ := look_some C h
  unfold slR
  rw [e, sum_app, sum_app, sum_zero a1, sum_zero (A := A) (f := w.to) (fun a ha => by have := a4 a ha; omega), sumOv, sumOv]
  have hl : sumOv B f t = sumOv B w.to t := sum_late fun b hb => by have := a5 b hb; omega
  split
  · rw [hl]; omega
  · rw [sum_past fun b hb => by have := a5 b hb; omega]; omega
theorem slack_open {W : List Hd} {f t : Int} {w : Hd} (C : Can W) (h : look W f = some w) (h1 : f < w.fr) (h2 : f < t) : slR W f t = min w.fr t - f + if w.fr < t then slR W w.fr t else 0 := by
  obtain ⟨A, B, e, a1, a2, a3, a4, a5, _⟩ := look_some C h
  unfold slR
  rw [e, sum_app, sum_app, sum_zero a1, sum_zero (A := A) (f := w.fr) (fun a ha => by have := a4 a ha; omega), sumOv, sumOv]
  have hl : sumOv B f t = sumOv B w.fr t := sum_late fun b hb => by have := a5 b hb; omega
  split
  · rw [hl]; omega
  · rw [sum_past fun b hb => by have := a5 b hb; omega]; omega
theorem slack_none {W : List Hd} {f t : Int} (h : look W f = none) : slR W f t = t - f := by
  unfold slR
  rw [sum_zero (look_none h)]; omega
/-! ### fit -/
def fitA : List Hd → Int → Int → Int × Int
  | [], t, n => if n ≤ 1000001 - t then (t, 0) else (0, 6)
  | w :: B, t, n => if w.fr ≤ t then fitA B w.to n else if n ≤ w.fr - t then (t, 0) else fitA B w.to n
/-- those that end behind a tick -/
def late (W : List Hd) (t : Int) : List Hd := W.dropWhile fun w => decide (w.to ≤ t)
theorem late_some {W : List Hd} {t : Int} {w : Hd} (C : Can W) (h : look W t = some w) : ∃ B, late W t = w :: B ∧ late W w.to = B ∧ ∀ t', t' < w.to → t ≤ t' → late W t' = w :: B := by
  obtain ⟨A, B, e, a1, a2, a3, a4, a5, _⟩ := look_some C h
  have drop : ∀ t', (∀ a ∈ A, a.to ≤ t') → late W t' = late (w :: B) t' := fun t' ha => by
    unfold late
    rw [e, List.dropWhile_append_of_pos]
    intro a h; simpa using ha a h
  have stay : ∀ t', t' < w.to → late (w :: B) t' = w :: B := fun t' h => by
    unfold late
    rw [List.dropWhile_cons, if_neg (by simp; omega)]
  refine ⟨B, (drop t a1).trans (stay t a2), ?_, fun t' h1 h2 => (drop t' fun a ha => by have := a1 a ha; omega).trans (stay t' h1)⟩
  rw [drop w.to fun a ha => by have := a4 a ha; omega]
  unfold late
  rw [List.dropWhile_cons, if_pos (by simp)]
  cases B with
  | nil => rfl
  | cons x B =>
    rw [List.dropWhile_cons, if_neg]
    have := a5 x (by simp)
    simp; omega
theorem late_none {W : List Hd} {t : Int} (h : look W t = none) : late W t = [] := by
  have := look_none h
  unfold late
  clear h
  induction W with
  | nil => rfl
  | cons x W ih =>
    rw [List.dropWhile_cons, if_pos (by simpa using this x (by simp))]
    exact ih fun a ha => this a (by simp [ha])
def fitR (W : List Hd) (t n : Int) : Int × Int := fitA (late W t) t n
theorem fit_held {W : List Hd} {t n : Int} {w : Hd} (C : Can W) (h : look W t = some w) (h1 : w.fr ≤ t) : fitR W t n = fitR W w.to n := by
  obtain ⟨B, b1, b2, _⟩ := late_some C h
  unfold fitR
  rw [b1, b2, fitA, if_pos h1]
theorem fit_yes {W : List Hd} {t n : Int} {w : Hd} (C : Can W) (h : look W t = some w) (h1 : t < w.fr) (h2 : n ≤ w.fr - t) : fitR W t n = (t, 0) := by
  obtain ⟨B, b1, b2, _⟩ := late_some C h
  unfold fitR
  rw [b1, fitA, if_neg (by omega), if_pos h2]
theorem fit_no {W : List Hd} {t n : Int} {w : Hd} (C : Can W) (h : look W t = some w) (h1 : t < w.fr) (h2 : w.fr - t < n) : fitR W t n = fitR W w.to n := by
  obtain ⟨B, b1, b2, _⟩ := late_some C h
  unfold fitR
  rw [b1, b2, fitA, if_neg (by omega), if_neg (by omega)]
theorem fit_end {W : List Hd} {t n : Int} (h : look W t = none) : fitR W t n = if n ≤ 1000001 - t then (t, 0) else (0, 6) := by
  unfold fitR
  rw [late_none h, fitA]
theorem late_lt {W : List Hd} {t : Int} {w : Hd} (C : Can W) (h : look W t = some w) : (late W w.to).length < (late W t).length := by
  obtain ⟨B, b1, b2, _⟩ := late_some C h
  rw [b1, b2]; simp
end Go.AX.Wn

/- Readers of a row of one's own: take, Clone. -/
import Derived.Test.YtmffhidhmbncbaaK7
import Derived.KernelRfl
set_option maxHeartbeats 8000000
set_option linter.unusedVariables false
set_option linter.unusedSimpArgs false
set_option maxRecDepth 20000
namespace Go.AX
theorem AR_cut {c : Cf} {σ : List AObj} {l sz : Nat} {es : List (List D)} {v : Value} (H : Holds c σ) (hl : ob σ l = .row sz es) (h : AR c (.own l) v) : AR c (.osl l sz 0 es.length) v := by
  simp only [AR] at h ⊢
  obtain ⟨h1, rfl, _⟩ := h
  refine ⟨h1, ?_⟩
  rcases H.obj l _ (ob_some hl (by simp)) with ⟨rfl, A, e⟩ | ⟨cap, vs, ty, g0, g1, g2, _⟩
  · exact ⟨A, 0, e, Nat.le_refl _, fun h => absurd h (Nat.lt_irrefl 0)⟩
  · exact ⟨_, cap, g1, g2, fun _ => by rw [Nat.zero_mul]⟩
/-- an own row is a part of itself -/
theorem Wk.cut {n0 : Nat} {xs : List AV} {σ : List AObj} (l : Nat) {sz : Nat} {es : List (List D)} (hl : ob σ l = .row sz es) : Wk n0 (.own l :: xs) σ (.osl l sz 0 es.length :: xs) σ := Wk.ofNxt fun c vs H r => by
  obtain ⟨v, q, rfl, h1, h2⟩ := ARs_cons_left r
  exact ⟨c, rfl, Nxt.refl H, ARs_cons.2 ⟨AR_cut H hl h1, h2⟩⟩
end Go.AX
namespace Go.AX.Co
open Go.Proofs Go.RowKit Go.IntWalk
/-- a reader of what is left of a row of so many -/
def rO (N : Nat) (r : List Int) (b : Bool) : AObj := .cells [.osl 1 1 (N - r.length) r.length, .d (.bool b)]
def rW (bs : List Int) : AObj := .row 1 (bs.map bY)
attribute [go_sem] rO rW
theorem left_cut {bs q : List Int} (h : Left bs q) : bs.drop (bs.length - q.length) = q := by
  obtain ⟨a, rfl⟩ := h
  have e : (a ++ q).length - q.length = a.length := by simp
  rw [e]; simp
theorem Left.drop {bs q : List Int} (h : Left bs q) (n : Nat) : Left bs (q.drop n) := h.trans ⟨q.take n, (List.take_append_drop n q).symm⟩
end Go.AX.Co
/- Readers of a row of one's own: values. -/
set_option maxHeartbeats 8000000
set_option linter.unusedVariables false
set_option linter.unusedSimpArgs false
set_option maxRecDepth 20000
namespace Go.AX.Co
open Go.Proofs Go.RowKit Go.IntWalk
end Go.AX.Co
/- Readers of a row of one's own: Next, Decode. -/
set_option maxHeartbeats 8000000
set_option linter.unusedVariables false
set_option linter.unusedSimpArgs false
set_option maxRecDepth 20000
namespace Go.AX
end Go.AX
namespace Go.AX.Co
open Go.Proofs Go.RowKit Go.IntWalk
end Go.AX.Co
/- The reference's reader: codes of numbers. -/
set_option maxHeartbeats 8000000
set_option linter.unusedVariables false
set_option linter.unusedSimpArgs false
set_option maxRecDepth 20000
namespace Go.AX.Co
open Go.Proofs Go.RowKit Go.IntWalk
/-- the code of a number, read by the reference -/
def codR (r : List Int) : Nat × Nat := if (numP 10 0 0 r).2.2 = true then (0, 0) else ((numP 10 0 0 r).1, r.length - (numP 10 0 0 r).2.1.length)
theorem numP_nil (f i n : Nat) : numP f i n [] = (0, [], true) := by cases f <;> rfl
theorem coded_ref (r : List Int) (hr : r.length ≤ 1000000) (hB : Bytes r) :
    Spec Try.prog 74 [.d (.sl (r.map bY))] [] (.tup [.d (.int .u64 (codR r).1), .d (.int .i64 (codR r).2)]) [] := by
  generalize hR : codR r = R
  unfold codR at hR
  refine spec_of_ev (fn := Try.f74) DX_ok 3000 Try.func74 rfl rfl (Nat.le_of_ble_eq_true rfl) ?_
  simp (maxSteps := 4000000) -implicitDefEqProofs only [Try.f74, go_sem]
  refine eloop (S := Nat × Nat) (fun s => mkE 53 [(0, .d (.sl (r.map bY))), (4, .d (.int .u64 s.2)), (5, .d (.int .i64 s.1))]) (fun s => [])
    (fun s => s.1 ≤ 10 ∧ s.1 ≤ r.length ∧ s.2 < 2 ^ (7 * s.1) ∧ numP 10 0 0 r = numP (10 - s.1) s.1 s.2 (r.drop s.1)) (fun s => 10 - s.1) ((0, 0) : Nat × Nat) ⟨by omega, by omega, by show 0 < 2 ^ (7 * 0); omega, rfl⟩ (Wk.sub (by (simp only [go_sem]) <;> trivial)) ?_
  intro s hs
  obtain ⟨i, n⟩ := s
  simp only at hs ⊢
  have h1 := hs.1
  have h2 := hs.2.1
  have h3 := hs.2.2.1
  have h4 := hs.2.2.2
  rw [h4] at hR
  have dl : decide ((i : Int) < r.length) = decide (i < r.length) := by rw [Bool.eq_iff_iff]; simp
  have d10 : decide ((i : Int) < 10) = decide (i < 10) := by rw [Bool.eq_iff_iff]; simp; omega
  by_cases hi : i < r.length
  case neg =>
    rw [List.drop_eq_nil_of_le (by omega), numP_nil, if_pos rfl] at hR
    subst hR
    rw [decide_eq_false hi] at dl
    simp (maxSteps := 4000000) -implicitDefEqProofs only [go_sem, dl, d10, Option.some.injEq, forall_eq', and_true, true_and, Bool.not_true, Bool.not_false, decide_true, Nat.reduceAdd, Nat.reduceSub, Nat.reduceLT, Nat.reduceLeDiff, Nat.reduceEqDiff, ↓reduceIte]
    exact (Wk.forget (by (simp only [go_sem]) <;> trivial) (by simp only [go_sem]))
  by_cases hi9 : i < 10
  case neg =>
    have e10 : i = 10 := by omega
    subst e10
    rw [show numP (10 - 10) 10 n (r.drop 10) = (0, r.drop 10, true) from rfl, if_pos rfl] at hR
    subst hR
    rw [decide_eq_false hi9] at d10
    rw [decide_eq_true hi] at dl
    simp (maxSteps := 4000000) -implicitDefEqProofs only [go_sem, dl, d10, Option.some.injEq, forall_eq', and_true, true_and, Bool.not_true, Bool.not_false, decide_true, Nat.reduceAdd, Nat.reduceSub, Nat.reduceLT, Nat.reduceLeDiff, Nat.reduceEqDiff, ↓reduceIte]
    exact (Wk.forget (by (simp only [go_sem]) <;> trivial) (by simp only [go_sem]))
  rw [decide_eq_true hi] at dl
  rw [decide_eq_true hi9] at d10
  apply Exists.elim (show ∃ x0, r[i]? = some x0 from ⟨r[i]'hi, List.getElem?_eq_getElem _⟩)
  intro x0 hx
  have hx0 := hB x0 (List.mem_of_getElem? hx)
  apply Exists.elim (show ∃ x : Nat, x0 = (x : Int) from ⟨x0.toNat, by omega⟩)
  intro x hxx
  rw [hxx] at hx
  have x256 : x < 256 := by omega
  have hdr : r.drop i = (x : Int) :: r.drop (i + 1) := by rw [List.drop_eq_getElem_cons hi, (List.getElem?_eq_some_iff.1 hx).2]
  rw [hdr, show 10 - i = (9 - i) + 1 by omega] at hR
  rw [hdr, show 10 - i = (9 - i) + 1 by omega] at h4
  have n1 : (0 ≤ (i : Int) ∧ (i : Int) < r.length) = True := eq_true (by omega)
  have n2 : (i < r.length) = True := eq_true hi
  have e9 : ((i : Int) == 9) = decide (i = 9) := by rw [Bool.eq_iff_iff]; simp; omega
  have d1 : decide (1 < (x : Int)) = decide (1 < x) := by rw [Bool.eq_iff_iff]; simp; omega
  have s0 : decide (0 < (i : Int)) = decide (0 < i) := by rw [Bool.eq_iff_iff]; simp
  have x0' : ((x : Int) == 0) = decide (x = 0) := by rw [Bool.eq_iff_iff]; simp
  have d128 : decide ((x : Int) < 128) = decide (x < 128) := by rw [Bool.eq_iff_iff]; simp; omega
  have w1 : IntKind.i64.wrap ((i : Int) + 1) = ((i + 1 : Nat) : Int) := by rw [i64_in _ (by omega)]; simp
  by_cases hbad : i = 9 ∧ 1 < x
  · have en : numP (9 - i + 1) i n ((x : Int) :: r.drop (i + 1)) = (0, r.drop (i + 1), true) := by rw [numP, if_pos (by omega)]
    rw [en, if_pos rfl] at hR
    subst hR
    rw [decide_eq_true hbad.1] at e9
    rw [decide_eq_true hbad.2] at d1
    simp (maxSteps := 4000000) -implicitDefEqProofs only [go_sem, dl, d10, n1, n2, hx, e9, d1, Option.some.injEq, forall_eq', and_true, true_and, Bool.not_true, Bool.not_false, decide_true, Nat.reduceAdd, Nat.reduceSub, Nat.reduceLT, Nat.reduceLeDiff, Nat.reduceEqDiff, ↓reduceIte]
    exact (Wk.forget (by (simp only [go_sem]) <;> trivial) (by simp only [go_sem]))
  have h9 : i = 9 → x ≤ 1 := fun h => by omega
  have nb := sum_lt (x := x) (show i ≤ 9 by omega) h3 h9
  have nx := next_lt (x := x) h3
  have m8 : Int.tmod (x : Int) 128 = ((x % 128 : Nat) : Int) := by rw [Int.tmod_eq_emod_of_nonneg (by omega)]; omega
  have w8 : IntKind.u8.wrap ((x % 128 : Nat) : Int) = ((x % 128 : Nat) : Int) := u8_in _ (by omega)
  have w64 : IntKind.u64.wrap ((x % 128 : Nat) : Int) = ((x % 128 : Nat) : Int) := wrap64 (by omega)
  have w7 : IntKind.i64.wrap (7 * (i : Int)) = ((7 * i : Nat) : Int) := by rw [i64_in _ (by omega)]; omega
  have g0 : (0 ≤ ((7 * i : Nat) : Int)) = True := eq_true (by omega)
  have mn : min (7 * i) 64 = 7 * i := by omega
  have mn' : min (7 * i) IntKind.u64.bits = 7 * i := mn
  have wp : IntKind.u64.wrap (((x % 128 : Nat) : Int) * 2 ^ (7 * i)) = ((x % 128 * 2 ^ (7 * i) : Nat) : Int) := by
    rw [show ((x % 128 : Nat) : Int) * 2 ^ (7 * i) = ((x % 128 * 2 ^ (7 * i) : Nat) : Int) by push_cast; rfl]
    exact wrap64 nb.2
  have wn : IntKind.u64.wrap ((n : Int) + ((x % 128 * 2 ^ (7 * i) : Nat) : Int)) = ((x % 128 * 2 ^ (7 * i) + n : Nat) : Int) := by
    rw [← Int.natCast_add, Nat.add_comm]
    exact wrap64 nb.1
  have en : numP (9 - i + 1) i n ((x : Int) :: r.drop (i + 1)) = if 0 < i ∧ x = 0 then (0, r.drop (i + 1), true) else if x < 128 then (x % 128 * 2 ^ (7 * i) + n, r.drop (i + 1), false) else numP (9 - i) (i + 1) (x % 128 * 2 ^ (7 * i) + n) (r.drop (i + 1)) := by
    rw [numP, Int.toNat_natCast]
    by_cases h : 0 < i ∧ x = 0
    · rw [if_pos h, if_pos (by omega)]
    · rw [if_neg h, if_neg (by omega)]
      by_cases h : x < 128
      · rw [if_pos h, if_pos (by omega)]
      · rw [if_neg h, if_neg (by omega)]
  rw [en] at hR h4
  generalize x % 128 * 2 ^ (7 * i) + n = N at nx wn hR h4
  generalize x % 128 * 2 ^ (7 * i) = M at wp wn
  by_cases hx8 : x < 128
  case neg =>
    rw [decide_eq_false hx8] at d128
    have hz : ¬ (0 < i ∧ x = 0) := by omega
    rw [if_neg hz, if_neg hx8] at h4
    by_cases p1 : i = 9 <;> by_cases p2 : 1 < x
    all_goals first | (exfalso; omega) | skip
    all_goals first | rw [decide_eq_true p1] at e9 | rw [decide_eq_false p1] at e9
    all_goals first | rw [decide_eq_true p2] at d1 | rw [decide_eq_false p2] at d1
    all_goals (simp (maxSteps := 4000000) -implicitDefEqProofs only [go_sem, dl, d10, n1, n2, hx, e9, d1, m8, w8, w64, w7, g0, mn, mn', wp, wn, d128, w1, Option.some.injEq, forall_eq', and_true, true_and, Bool.not_true, Bool.not_false, decide_true, Nat.reduceAdd, Nat.reduceSub, Nat.reduceLT, Nat.reduceLeDiff, Nat.reduceEqDiff, ↓reduceIte])
    all_goals refine ⟨by decide, ?_⟩
    all_goals exact .mk ((i + 1, N) : Nat × Nat) ⟨by show i + 1 ≤ 10; omega, by show i + 1 ≤ r.length; omega, nx, by rw [h4]; show numP (9 - i) (i + 1) N (r.drop (i + 1)) = numP (10 - (i + 1)) (i + 1) N (r.drop (i + 1)); congr 1; omega⟩ (by show 10 - (i + 1) < 10 - i; omega) (Wk.sub (by (simp only [go_sem]) <;> trivial))
  rw [decide_eq_true hx8] at d128
  by_cases hz : 0 < i ∧ x = 0
  · rw [if_pos hz, if_pos rfl] at hR
    subst hR
    rw [decide_eq_true hz.1] at s0
    rw [decide_eq_true hz.2] at x0'
    by_cases p1 : i = 9 <;> by_cases p2 : 1 < x
    all_goals first | (exfalso; omega) | skip
    all_goals first | rw [decide_eq_true p1] at e9 | rw [decide_eq_false p1] at e9
    all_goals first | rw [decide_eq_true p2] at d1 | rw [decide_eq_false p2] at d1
    all_goals (simp (maxSteps := 4000000) -implicitDefEqProofs only [go_sem, dl, d10, n1, n2, hx, e9, d1, m8, w8, w64, w7, g0, mn, mn', wp, wn, d128, w1, s0, x0', Option.some.injEq, forall_eq', and_true, true_and, Bool.not_true, Bool.not_false, decide_true, Nat.reduceAdd, Nat.reduceSub, Nat.reduceLT, Nat.reduceLeDiff, Nat.reduceEqDiff, ↓reduceIte])
    all_goals refine ⟨by decide, ?_⟩
    all_goals exact (Wk.forget (by (simp only [go_sem]) <;> trivial) (by simp only [go_sem]))
  rw [if_neg hz, if_pos hx8, if_neg (by simp)] at hR
  have er : r.length - (r.drop (i + 1)).length = i + 1 := by rw [List.length_drop]; omega
  rw [er] at hR
  subst hR
  by_cases p1 : i = 9 <;> by_cases p2 : 1 < x <;> by_cases p3 : 0 < i <;> by_cases p4 : x = 0
  all_goals first | (exfalso; omega) | skip
  all_goals first | rw [decide_eq_true p1] at e9 | rw [decide_eq_false p1] at e9
  all_goals first | rw [decide_eq_true p2] at d1 | rw [decide_eq_false p2] at d1
  all_goals first | rw [decide_eq_true p3] at s0 | rw [decide_eq_false p3] at s0
  all_goals first | rw [decide_eq_true p4] at x0' | rw [decide_eq_false p4] at x0'
  all_goals (simp (maxSteps := 4000000) -implicitDefEqProofs only [go_sem, dl, d10, n1, n2, hx, e9, d1, m8, w8, w64, w7, g0, mn, mn', wp, wn, d128, w1, s0, x0', Option.some.injEq, forall_eq', and_true, true_and, Bool.not_true, Bool.not_false, decide_true, Nat.reduceAdd, Nat.reduceSub, Nat.reduceLT, Nat.reduceLeDiff, Nat.reduceEqDiff, ↓reduceIte])
  all_goals refine ⟨by decide, ?_⟩
  all_goals exact (Wk.forget (by (simp only [go_sem]) <;> trivial) (by simp only [go_sem]))
end Go.AX.Co
/- The reference's reader: values. -/
set_option maxHeartbeats 8000000
set_option linter.unusedVariables false
set_option linter.unusedSimpArgs false
set_option maxRecDepth 20000
namespace Go.AX.Co
open Go.Proofs Go.RowKit Go.IntWalk
theorem unfold_ref (n : Nat) (hn : n < 2 ^ 64) : Spec Try.prog 75 [.d (.int .u64 n)] [] (.d (.int .i64 (unf n))) [] := by
  have f1 : Int.tmod (n : Int) 2 = ((n % 2 : Nat) : Int) := by rw [Int.tmod_eq_emod_of_nonneg (by omega)]; omega
  have f2 : Int.tdiv (n : Int) 2 = ((n / 2 : Nat) : Int) := by rw [Int.tdiv_eq_ediv_of_nonneg (by omega)]; omega
  have w1 : IntKind.u64.wrap ((n % 2 : Nat) : Int) = ((n % 2 : Nat) : Int) := wrap64 (by omega)
  have w2 : IntKind.u64.wrap ((n / 2 : Nat) : Int) = ((n / 2 : Nat) : Int) := wrap64 (by omega)
  have w3 : IntKind.i64.wrap ((n / 2 : Nat) : Int) = ((n / 2 : Nat) : Int) := i64_in _ (by omega)
  have w4 : IntKind.i64.wrap (0 - ((n / 2 : Nat) : Int)) = -((n / 2 : Nat) : Int) := by rw [i64_in _ (by omega)]; omega
  have w5 : IntKind.i64.wrap (-((n / 2 : Nat) : Int) - 1) = -((n / 2 : Nat) : Int) - 1 := i64_in _ (by omega)
  unfold unf
  by_cases h : n % 2 = 0
  · have z : (((n % 2 : Nat) : Int) == 0) = true := by rw [h]; rfl
    rw [if_pos h]
    refine spec_of_ev (fn := Try.f75) DX_ok 3000 Try.func75 rfl rfl (Nat.le_of_ble_eq_true rfl) ?_
    simp (maxSteps := 4000000) -implicitDefEqProofs only [Try.f75, go_sem, f1, f2, w1, w2, w3, z]
    refine ⟨by decide, by decide, ?_⟩
    exact (Wk.forget (by (simp only [go_sem]) <;> trivial) (by simp only [go_sem]))
  · have z : (((n % 2 : Nat) : Int) == 0) = false := by rw [beq_eq_false_iff_ne]; omega
    rw [if_neg h]
    refine spec_of_ev (fn := Try.f75) DX_ok 3000 Try.func75 rfl rfl (Nat.le_of_ble_eq_true rfl) ?_
    simp (maxSteps := 4000000) -implicitDefEqProofs only [Try.f75, go_sem, f1, f2, w1, w2, w3, w4, w5, z]
    refine ⟨by decide, by decide, ?_⟩
    exact (Wk.forget (by (simp only [go_sem]) <;> trivial) (by simp only [go_sem]))
def readP (d : Nat) (b : List Int) : Vl × Nat := if (valP d b).2.2 = true then (v0, 0) else ((valP d b).1, b.length - (valP d b).2.1.length)
theorem numP_used : ∀ (f i n : Nat) (r : List Int), (numP f i n r).2.2 = false → (numP f i n r).2.1.length < r.length
  | 0, _, _, r, h => by cases h
  | _ + 1, _, _, [], h => by cases h
  | f + 1, i, n, x :: r, h => by
    rw [numP] at h ⊢
    split at h
    · cases h
    next hb =>
    rw [if_neg hb]
    split at h
    next hx => rw [if_pos hx]; simp
    next hx => rw [if_neg hx]; have := numP_used f (i + 1) _ r h; simp; omega
theorem valP_used (d : Nat) (r : List Int) (h : (valP d r).2.2 = false) : (valP d r).2.1.length < r.length := by
  cases r with
  | nil => cases d <;> cases h
  | cons x q =>
    cases d with
    | zero => cases h
    | succ d =>
      have hn := (numR_left q false).len
      have hl := (lisP_left (valP_left d) (numR q false).1 (numR q false).2.1 ((numR q false).2.2 || decide ((numR q false).2.1.length < (numR q false).1))).len
      have ht := (takeP_left (numR q false).1 (numR q false).2.1 (numR q false).2.2).len
      rw [valP]
      simp only [List.length_cons]
      split
      · simp only; omega
      split
      · simp only; omega
      split
      · simp only; omega
      · simp only; omega
theorem lisP_bad (g : List Int → Vl × List Int × Bool) (n : Nat) (r : List Int) : lisP g n r true = ([], r, true) := by
  cases n with
  | zero => rfl
  | succ n => rw [lisP, if_pos rfl]
theorem valP_bad {d : Nat} {x : Int} {q : List Int} (h : (numR q false).2.2 = true) : (valP (d + 1) (x :: q)).2.2 = true := by
  rw [valP]
  generalize numR q false = m at h
  by_cases k1 : x = 1
  · rw [if_pos k1]; exact h
  rw [if_neg k1]
  by_cases k2 : x = 2
  · rw [if_pos k2]; unfold takeP; rw [if_pos (.inl h)]
  rw [if_neg k2]
  by_cases k3 : x = 3
  · rw [if_pos k3, h, Bool.true_or, lisP_bad]
  · rw [if_neg k3]
theorem read_step (d : Nat) (hd : d ≤ 6) (ih : ∀ d', d = d' + 1 → ∀ r : List Int, r.length ≤ 1000000 → Bytes r → Spec Try.prog 70 [.d (.sl (r.map bY)), .d (.int .i64 d')] [] (.tup [vA (readP d' r).1, .d (.int .i64 (readP d' r).2)]) [])
    (r : List Int) (hr : r.length ≤ 1000000) (hB : Bytes r) :
    Spec Try.prog 70 [.d (.sl (r.map bY)), .d (.int .i64 d)] [] (.tup [vA (readP d r).1, .d (.int .i64 (readP d r).2)]) [] := by
  generalize hR : readP d r = R
  unfold readP at hR
  have z0 : ∀ n : Nat, ((n : Int) == 0) = decide (n = 0) := fun n => by rw [Bool.eq_iff_iff]; simp
  have fail : ∀ τ : List AObj, Wk 0 [.tup [.agg [.d (.int .u8 0), .d (.int .i64 0), .nil, .nil], .d (.int .i64 0)]] τ [.tup [vA v0, .d (.int .i64 ((0 : Nat) : Int))]] [] := fun τ =>
    wk_dat (r' := .tup [.agg [.d (.int .u8 0), .d (.int .i64 0), .d (.sl []), .d (.sl [])], .d (.int .i64 0)]) (by simp only [go_sem]; rfl) (by simp only [vA, v0, List.map_nil]; rfl) (by simp only [go_sem, vA, v0, List.map_nil])
  refine spec_of_ev (fn := Try.f70) DX_ok 3000 Try.func70 rfl rfl (Nat.le_of_ble_eq_true rfl) ?_
  simp (maxSteps := 4000000) -implicitDefEqProofs only [Try.f70, go_sem]
  apply Or.elim (Decidable.em (r = []))
  · intro hq
    subst hq
    have e2 : valP d [] = (v0, [], true) := by cases d <;> rfl
    rw [e2, if_pos rfl] at hR
    subst hR
    have z1 : (((([] : List Int).length : Nat) : Int) == 0) = true := rfl
    have z1' : (((0 : Nat) : Int) == 0) = true := rfl
    simp (maxSteps := 4000000) -implicitDefEqProofs only [go_sem, z1, z1', Option.some.injEq, forall_eq', and_true, true_and, Bool.not_true, Bool.not_false, decide_true, Nat.reduceAdd, Nat.reduceSub, Nat.reduceLT, Nat.reduceLeDiff, Nat.reduceEqDiff, ↓reduceIte]
    exact fail _
  intro hq
  apply Exists.elim (List.exists_cons_of_ne_nil hq)
  intro x0 hx; apply Exists.elim hx
  intro q hx
  have hx0 := hB x0 (by rw [hx]; simp)
  have hqB : Bytes q := fun e he => hB e (by rw [hx]; simp [he])
  have hrl : r.length = q.length + 1 := by rw [hx]; rfl
  have hql : q.length ≤ 1000000 := by omega
  have zl : ((r.length : Int) == 0) = false := by rw [beq_eq_false_iff_ne]; omega
  have hd1 : r.drop 1 = q := by rw [hx]; rfl
  have hr0 : r[0]? = some x0 := by rw [hx]; rfl
  have hsz : (0 ≤ (1 : Int) ∧ (1 : Int) ≤ (r.length : Int) ∧ (r.length : Int) ≤ (r.length : Int)) = True := eq_true (by omega)
  rw [show valP d r = valP d (x0 :: q) by rw [hx]] at hR
  cases d with
  | zero =>
    have dz : decide (((0 : Nat) : Int) < 1) = true := rfl
    rw [show valP 0 (x0 :: q) = (v0, q, true) from rfl, if_pos rfl] at hR
    subst hR
    simp (maxSteps := 4000000) -implicitDefEqProofs only [go_sem, zl, dz, Option.some.injEq, forall_eq', and_true, true_and, Bool.not_true, Bool.not_false, decide_true, Nat.reduceAdd, Nat.reduceSub, Nat.reduceLT, Nat.reduceLeDiff, Nat.reduceEqDiff, ↓reduceIte]
    exact fail _
  | succ d =>
  have dz : decide (((d + 1 : Nat) : Int) < 1) = false := by simp; omega
  have ihd := ih d rfl
  have c2 := coded_ref q hql hqB
  have nu := numP_used 10 0 0 q
  have nl := numR_left q false
  have nlt := numR_lt q false hqB
  have en : numR q false = numP 10 0 0 q := rfl
  unfold codR at c2
  rw [← en] at c2 nu
  apply Or.elim (Bool.eq_false_or_eq_true (numR q false).2.2)
  · intro hb
    rw [if_pos hb] at c2
    rw [if_pos (valP_bad hb)] at hR
    subst hR
    have z1 : (((0 : Nat) : Int) == 0) = true := rfl
    simp (maxSteps := 4000000) -implicitDefEqProofs only [go_sem, zl, dz, hsz, List.take_length, hd1, Option.some.injEq, forall_eq', and_true, true_and, Bool.not_true, Bool.not_false, decide_true, Nat.reduceAdd, Nat.reduceSub, Nat.reduceLT, Nat.reduceLeDiff, Nat.reduceEqDiff, ↓reduceIte]
    refine ecall0 _ c2 (by simp only [go_sem]) (by simp only [go_sem]) ?_
    simp (maxSteps := 4000000) -implicitDefEqProofs only [go_sem, z1, Option.some.injEq, forall_eq', and_true, true_and, Bool.not_true, Bool.not_false, decide_true, Nat.reduceAdd, Nat.reduceSub, Nat.reduceLT, Nat.reduceLeDiff, Nat.reduceEqDiff, ↓reduceIte]
    exact fail _
  intro hb
  have nu := nu hb
  rw [if_neg (by simp [hb])] at c2
  generalize hV : valP (d + 1) (x0 :: q) = V at hR
  rw [valP] at hV
  generalize numR q false = m at c2 nu nl nlt hb hV
  have hml := nl.len
  have at1 : ∃ a : Nat, a = q.length - m.2.1.length := ⟨_, rfl⟩
  apply Exists.elim at1
  intro a ha
  rw [← ha] at c2
  simp only at c2
  have za : ((a : Int) == 0) = false := by rw [beq_eq_false_iff_ne]; omega
  have wa : IntKind.i64.wrap ((a : Int) + 1) = ((a + 1 : Nat) : Int) := by rw [i64_in _ (by omega)]; simp
  have ws : IntKind.i64.wrap ((r.length : Int) - ((a + 1 : Nat) : Int)) = (m.2.1.length : Int) := by rw [i64_in _ (by omega)]; omega
  have wu : IntKind.u64.wrap (m.2.1.length : Int) = (m.2.1.length : Int) := u64_in _ (by omega)
  have hdr : r.drop (a + 1) = m.2.1 := by
    rw [hx]
    apply Exists.elim nl
    intro p hp
    have : a = p.length := by rw [ha, hp]; simp
    rw [List.drop_succ_cons, hp, this]; simp
  have g1 : (0 ≤ (0 : Int) ∧ (0 : Int) < (r.length : Int)) = True := eq_true (by omega)
  have g2 : (0 < r.length) = True := eq_true (by omega)
  have d1 : decide ((m.2.1.length : Int) < m.1) = decide (m.2.1.length < m.1) := by rw [Bool.eq_iff_iff]; simp
  simp (maxSteps := 4000000) -implicitDefEqProofs only [go_sem, zl, dz, hsz, List.take_length, hd1, Option.some.injEq, forall_eq', and_true, true_and, Bool.not_true, Bool.not_false, decide_true, Nat.reduceAdd, Nat.reduceSub, Nat.reduceLT, Nat.reduceLeDiff, Nat.reduceEqDiff, ↓reduceIte]
  refine ecall0 _ c2 (by simp only [go_sem]) (by simp only [go_sem]) ?_
  by_cases k1 : x0 = 1
  · have z1 : (x0 == 1) = true := by simp [k1]
    have c3 := unfold_ref m.1 nlt
    rw [if_pos k1] at hV
    rw [← hV, if_neg (by simp [hb])] at hR
    have er : r.length - m.2.1.length = a + 1 := by omega
    simp only [er] at hR
    subst hR
    simp (maxSteps := 4000000) -implicitDefEqProofs only [go_sem, za, wa, g1, g2, hr0, z1, Option.some.injEq, forall_eq', and_true, true_and, Bool.not_true, Bool.not_false, decide_true, Nat.reduceAdd, Nat.reduceSub, Nat.reduceLT, Nat.reduceLeDiff, Nat.reduceEqDiff, ↓reduceIte]
    refine ecall0 _ c3 (by simp only [go_sem]) (by simp only [go_sem]) ?_
    simp (maxSteps := 4000000) -implicitDefEqProofs only [go_sem, Nat.reduceAdd, Nat.reduceSub, Nat.reduceLT, Nat.reduceLeDiff, Nat.reduceEqDiff, ↓reduceIte]
    exact wk_dat (by simp only [go_sem]; rfl) (by simp only [vA, List.map_nil]) (by simp only [go_sem, vA, List.map_nil])
  have z1 : (x0 == 1) = false := by simp [k1]
  rw [if_neg k1] at hV
  by_cases k2 : x0 = 2
  · have z2 : (x0 == 2) = true := by simp [k2]
    rw [if_pos k2] at hV
    by_cases ht : m.2.1.length < m.1
    · have et : takeP m.1 m.2.1 m.2.2 = ([], m.2.1, true) := by unfold takeP; rw [if_pos (.inr ht)]
      rw [et] at hV
      rw [← hV, if_pos rfl] at hR
      subst hR
      rw [decide_eq_true ht] at d1
      simp (maxSteps := 4000000) -implicitDefEqProofs only [go_sem, za, wa, ws, wu, g1, g2, hr0, z1, z2, d1, Option.some.injEq, forall_eq', and_true, true_and, Bool.not_true, Bool.not_false, decide_true, Nat.reduceAdd, Nat.reduceSub, Nat.reduceLT, Nat.reduceLeDiff, Nat.reduceEqDiff, ↓reduceIte]
      exact fail _
    · have et : takeP m.1 m.2.1 m.2.2 = (m.2.1.take m.1, m.2.1.drop m.1, false) := by unfold takeP; rw [if_neg (by simp [hb]; omega)]
      rw [et] at hV
      rw [← hV, if_neg (by simp)] at hR
      have er : r.length - (m.2.1.drop m.1).length = a + 1 + m.1 := by rw [List.length_drop]; omega
      simp only [er] at hR
      subst hR
      rw [decide_eq_false ht] at d1
      have wi : IntKind.i64.wrap (m.1 : Int) = (m.1 : Int) := i64_in _ (by omega)
      have wt : IntKind.i64.wrap (((a + 1 : Nat) : Int) + m.1) = ((a + 1 + m.1 : Nat) : Int) := by rw [i64_in _ (by omega)]; omega
      have hsl : (0 ≤ ((a + 1 : Nat) : Int) ∧ ((a + 1 : Nat) : Int) ≤ ((a + 1 + m.1 : Nat) : Int) ∧ ((a + 1 + m.1 : Nat) : Int) ≤ (r.length : Int)) = True := eq_true (by omega)
      have etk : (r.take (a + 1 + m.1)).drop (a + 1) = m.2.1.take m.1 := by rw [List.drop_take, hdr]; congr 1; omega
      simp (maxSteps := 4000000) -implicitDefEqProofs only [go_sem, za, wa, ws, wu, g1, g2, hr0, z1, z2, d1, wi, wt, hsl, Int.toNat_natCast, etk, Option.some.injEq, forall_eq', and_true, true_and, Bool.not_true, Bool.not_false, decide_true, Nat.reduceAdd, Nat.reduceSub, Nat.reduceLT, Nat.reduceLeDiff, Nat.reduceEqDiff, ↓reduceIte]
      have htl : (m.2.1.take m.1).length ≤ 1000000 := by rw [List.length_take]; omega
      refine ⟨⟨by omega, by omega⟩, ?_⟩
      exact wk_dat (by simp only [go_sem]; rfl) (by simp only [vA, List.map_nil]) (by simp only [go_sem, vA, List.map_nil])
  have z2 : (x0 == 2) = false := by simp [k2]
  rw [if_neg k2] at hV
  by_cases k3 : x0 = 3
  case neg =>
    have z3 : (x0 == 3) = false := by simp [k3]
    rw [if_neg k3] at hV
    rw [← hV, if_pos rfl] at hR
    subst hR
    simp (maxSteps := 4000000) -implicitDefEqProofs only [go_sem, za, wa, g1, g2, hr0, z1, z2, z3, Option.some.injEq, forall_eq', and_true, true_and, Bool.not_true, Bool.not_false, decide_true, Nat.reduceAdd, Nat.reduceSub, Nat.reduceLT, Nat.reduceLeDiff, Nat.reduceEqDiff, ↓reduceIte]
    exact fail _
  have z3 : (x0 == 3) = true := by simp [k3]
  rw [if_pos k3] at hV
  rw [hb, Bool.false_or] at hV
  by_cases ht : m.2.1.length < m.1
  · rw [decide_eq_true ht, lisP_bad] at hV
    rw [← hV, if_pos rfl] at hR
    subst hR
    rw [decide_eq_true ht] at d1
    simp (maxSteps := 4000000) -implicitDefEqProofs only [go_sem, za, wa, ws, wu, g1, g2, hr0, z1, z2, z3, d1, Option.some.injEq, forall_eq', and_true, true_and, Bool.not_true, Bool.not_false, decide_true, Nat.reduceAdd, Nat.reduceSub, Nat.reduceLT, Nat.reduceLeDiff, Nat.reduceEqDiff, ↓reduceIte]
    exact fail _
  rw [decide_eq_false ht] at hV
  rw [decide_eq_false ht] at d1
  generalize hF : lisP (valP d) m.1 m.2.1 false = F at hV
  have wi : IntKind.i64.wrap (m.1 : Int) = (m.1 : Int) := i64_in _ (by omega)
  simp (maxSteps := 4000000) -implicitDefEqProofs only [go_sem, za, wa, ws, wu, g1, g2, hr0, z1, z2, z3, d1, Option.some.injEq, forall_eq', and_true, true_and, Bool.not_true, Bool.not_false, decide_true, Nat.reduceAdd, Nat.reduceSub, Nat.reduceLT, Nat.reduceLeDiff, Nat.reduceEqDiff, ↓reduceIte]
  have ea : a + 1 = r.length - m.2.1.length := by omega
  have hLm : Left r m.2.1 := by rw [hx]; exact Left.cons.trans nl
  rw [ea]
  clear hdr at1 ha ws wa za c2
  refine eloop (S := Nat × List Vl × List Int) (fun s => mkE 105 [(0, .d (.sl (r.map bY))), (1, .d (.int .i64 ((d + 1 : Nat) : Int))), (4, .ptr 0 0), (6, .d (.int .u64 m.1)), (7, .d (.int .i64 ((r.length - s.2.2.length : Nat) : Int))), (8, .ptr 1 0), (9, .d (.int .i64 s.1))])
    (fun s => [.cells [.d (.int .u8 0), .d (.int .i64 0), .nil, .nil], .cells [.d (.int .u8 3), .d (.int .i64 0), .nil, .own 2], .row 4 (s.2.1.map vD)])
    (fun s => s.1 ≤ m.1 ∧ Left r s.2.2 ∧ s.2.1.length = s.1 ∧ F = (s.2.1 ++ (lisP (valP d) (m.1 - s.1) s.2.2 false).1, (lisP (valP d) (m.1 - s.1) s.2.2 false).2)) (fun s => m.1 - s.1) ((0, [], m.2.1) : Nat × List Vl × List Int) ⟨Nat.zero_le _, hLm, rfl, by rw [← hF]; rfl⟩ (Wk.trans (Wk.nilC 1 3 4 rfl rfl) (Wk.sub (by (simp only [go_sem]) <;> trivial))) ?_
  clear hF
  intro s hs
  obtain ⟨i, l, q1⟩ := s
  simp only at hs ⊢
  have e1 := hs.1
  have e2 := hs.2.1
  have e3 := hs.2.2.1
  have e4 := hs.2.2.2
  have q1n := e2.len
  have q1B := e2.bytes hB
  have di : decide ((i : Int) < m.1) = decide (i < m.1) := by rw [Bool.eq_iff_iff]; simp
  by_cases hi : i < m.1
  case neg =>
    rw [decide_eq_false hi] at di
    rw [show m.1 - i = 0 by omega, show lisP (valP d) 0 q1 false = ([], q1, false) from rfl, List.append_nil] at e4
    rw [e4] at hV
    rw [← hV, if_neg (by simp)] at hR
    subst hR
    simp (maxSteps := 4000000) -implicitDefEqProofs only [go_sem, wi, di, Option.some.injEq, forall_eq', and_true, true_and, Bool.not_true, Bool.not_false, decide_true, Nat.reduceAdd, Nat.reduceSub, Nat.reduceLT, Nat.reduceLeDiff, Nat.reduceEqDiff, ↓reduceIte]
    exact wk_dat (by simp only [go_sem]; rfl) (by simp only [vA, List.map_nil]) (by simp only [go_sem, vA, List.map_nil])
  rw [decide_eq_true hi] at di
  have c5 := ihd q1 (by omega) q1B
  have vl := valP_left d q1
  have vu := valP_used d q1
  rw [show m.1 - i = (m.1 - (i + 1)) + 1 by omega, lisP, if_neg (by simp)] at e4
  unfold readP at c5
  generalize valP d q1 = w at c5 vl vu e4
  have hsl : (0 ≤ ((r.length - q1.length : Nat) : Int) ∧ ((r.length - q1.length : Nat) : Int) ≤ (r.length : Int) ∧ (r.length : Int) ≤ (r.length : Int)) = True := eq_true (by omega)
  have hcut := left_cut e2
  have wd : IntKind.i64.wrap (((d + 1 : Nat) : Int) - 1) = (d : Int) := by rw [i64_in _ (by omega)]; omega
  have w1 : IntKind.i64.wrap ((i : Int) + 1) = ((i + 1 : Nat) : Int) := by rw [i64_in _ (by omega)]; simp
  apply Or.elim (Bool.eq_false_or_eq_true w.2.2)
  · intro hw
    rw [if_pos hw] at c5
    rw [hw, lisP_bad] at e4
    rw [e4] at hV
    rw [← hV, if_pos rfl] at hR
    subst hR
    have z9 : (((0 : Nat) : Int) == 0) = true := rfl
    simp only [vA, v0] at c5
    simp (maxSteps := 4000000) -implicitDefEqProofs only [go_sem, wi, di, hsl, List.take_length, hcut, wd, Option.some.injEq, forall_eq', and_true, true_and, Bool.not_true, Bool.not_false, decide_true, Nat.reduceAdd, Nat.reduceSub, Nat.reduceLT, Nat.reduceLeDiff, Nat.reduceEqDiff, ↓reduceIte]
    refine .all _ _ (c5.lift0 _ (by simp only [go_sem]) (by simp only [go_sem])) ?_
    simp (maxSteps := 4000000) -implicitDefEqProofs only [go_sem, z9, Option.some.injEq, forall_eq', and_true, true_and, Bool.not_true, Bool.not_false, decide_true, Nat.reduceAdd, Nat.reduceSub, Nat.reduceLT, Nat.reduceLeDiff, Nat.reduceEqDiff, ↓reduceIte]
    exact fail _
  intro hw
  have vu := vu hw
  rw [if_neg (by simp [hw])] at c5
  rw [hw] at e4
  obtain ⟨⟨kk, nn, bb, ll⟩, wr⟩ := w
  simp only [vA] at c5 vl vu e4
  have z9 : (((q1.length - wr.1.length : Nat) : Int) == 0) = false := by rw [beq_eq_false_iff_ne]; omega
  have hvd : (l.map vD ++ [[.int .u8 kk, .int .i64 nn, .sl (bb.map bY), .sl (ll.map vD)]] : List (List D)) = (l ++ [Vl.mk kk nn bb ll]).map vD := by
    rw [List.map_append, List.map_cons, List.map_nil, vD, vDs_eq]
  have wat : IntKind.i64.wrap (((r.length - q1.length : Nat) : Int) + ((q1.length - wr.1.length : Nat) : Int)) = ((r.length - wr.1.length : Nat) : Int) := by rw [i64_in _ (by omega)]; omega
  simp (maxSteps := 4000000) -implicitDefEqProofs only [go_sem, wi, di, hsl, List.take_length, hcut, wd, Option.some.injEq, forall_eq', and_true, true_and, Bool.not_true, Bool.not_false, decide_true, Nat.reduceAdd, Nat.reduceSub, Nat.reduceLT, Nat.reduceLeDiff, Nat.reduceEqDiff, ↓reduceIte]
  refine .all _ _ (c5.lift0 _ (by simp only [go_sem]) (by simp only [go_sem])) ?_
  simp (maxSteps := 4000000) -implicitDefEqProofs only [go_sem, z9, wat, w1, Option.some.injEq, forall_eq', and_true, true_and, Bool.not_true, Bool.not_false, decide_true, Nat.reduceAdd, Nat.reduceSub, Nat.reduceLT, Nat.reduceLeDiff, Nat.reduceEqDiff, ↓reduceIte]
  refine ⟨by omega, ⟨fun e he => by simp at he; subst he; rfl, by omega, by omega⟩, ?_⟩
  exact .mk ((i + 1, l ++ [Vl.mk kk nn bb ll], wr.1) : Nat × List Vl × List Int) ⟨by show i + 1 ≤ m.1; omega, e2.trans vl, by show (l ++ [Vl.mk kk nn bb ll]).length = i + 1; simp [e3], by rw [e4]; simp⟩ (by show m.1 - (i + 1) < m.1 - i; omega) (by rw [hvd]; exact (Wk.via [0, 1, 5] (by (simp only [go_sem, ↓reduceIte]) <;> trivial) (by first | (simp (maxSteps := 4000000) -implicitDefEqProofs only [go_sem, Nat.reduceAdd, Nat.reduceSub, Nat.reduceLT, Nat.reduceLeDiff, Nat.reduceEqDiff, ↓reduceIte]; done) | ((simp (maxSteps := 4000000) -implicitDefEqProofs only [go_sem, Nat.reduceAdd, Nat.reduceSub, Nat.reduceLT, Nat.reduceLeDiff, Nat.reduceEqDiff, ↓reduceIte]) <;> omega)) (by simp) (by first | (simp; done) | (simp [so]; done)) (by (simp (maxSteps := 4000000) -implicitDefEqProofs only [go_sem, Nat.reduceAdd, Nat.reduceSub, Nat.reduceLT, Nat.reduceLeDiff, Nat.reduceEqDiff, ↓reduceIte]) <;> trivial) (by first | (simp only [go_sem]; done) | ((simp (maxSteps := 4000000) -implicitDefEqProofs only [go_sem, Nat.reduceAdd, Nat.reduceSub, Nat.reduceLT, Nat.reduceLeDiff, Nat.reduceEqDiff, ↓reduceIte]) <;> omega)) (Nat.zero_le _) (fun i h => absurd h (Nat.not_lt_zero i))))
theorem read_ref : ∀ (d : Nat), d ≤ 6 → ∀ (r : List Int), r.length ≤ 1000000 → Bytes r →
    Spec Try.prog 70 [.d (.sl (r.map bY)), .d (.int .i64 d)] [] (.tup [vA (readP d r).1, .d (.int .i64 (readP d r).2)]) []
  | 0, hd, r, hr, hB => read_step 0 hd (fun d' h => by omega) r hr hB
  | d + 1, hd, r, hr, hB => read_step (d + 1) hd (fun d' h r hr hB => by
      have e : d' = d := by omega
      subst e
      exact read_ref d' (by omega) r hr hB) r hr hB
end Go.AX.Co
/- The reference's reader: Next, Decode. -/
set_option maxHeartbeats 8000000
set_option linter.unusedVariables false
set_option linter.unusedSimpArgs false
set_option maxRecDepth 20000
namespace Go.AX.Co
open Go.Proofs Go.RowKit Go.IntWalk
theorem readP_zero {d : Nat} {b : List Int} : (readP d b).2 = 0 ↔ (valP d b).2.2 = true := by
  unfold readP
  cases h : (valP d b).2.2 with
  | true => rw [if_pos rfl]; simp
  | false =>
    have := valP_used d b h
    rw [if_neg (by simp)]
    simp only [Bool.false_eq_true, iff_false]
    omega
/-- both readers answer alike -/
theorem nextP_eq (b : List Int) : nextP b = if (readP 6 b).2 = 0 ∨ 3000 < (readP 6 b).2 then (v0, 0, 12) else ((readP 6 b).1, (readP 6 b).2, 0) := by
  have z := readP_zero (d := 6) (b := b)
  unfold nextP
  cases h : (valP 6 b).2.2 with
  | true =>
    rw [if_pos (.inl rfl), if_pos (.inl (z.2 h))]
  | false =>
    have z' : ¬ (readP 6 b).2 = 0 := fun e => by rw [z.1 e] at h; cases h
    have e : readP 6 b = ((valP 6 b).1, b.length - (valP 6 b).2.1.length) := by unfold readP; rw [if_neg (by simp [h])]
    rw [e] at z' ⊢
    by_cases h3 : 3000 < b.length - (valP 6 b).2.1.length
    · rw [if_pos (.inr h3), if_pos (.inr h3)]
    · rw [if_neg (by simp; omega), if_neg (fun q => q.elim z' h3)]
theorem next_ref (b : List Int) (hr : b.length ≤ 1000000) (hB : Bytes b) : Spec Try.prog 60 [.d (.sl (b.map bY))] [] (.tup [vA (nextP b).1, .d (.int .i64 (nextP b).2.1), .d (.int .i64 (nextP b).2.2)]) [] := by
  have c1 := read_ref 6 (by omega) b hr hB
  generalize hR : nextP b = R
  rw [nextP_eq] at hR
  have hn : (readP 6 b).2 ≤ b.length := by
    unfold readP
    split
    · exact Nat.zero_le _
    · exact Nat.sub_le _ _
  generalize readP 6 b = w at c1 hR hn
  obtain ⟨⟨kk, nn, bb, ll⟩, n⟩ := w
  simp only [vA] at c1
  simp only at hR hn
  rw [show ((6 : Nat) : Int) = 6 from rfl] at c1
  have z1 : ((n : Int) == 0) = decide (n = 0) := by rw [Bool.eq_iff_iff]; simp
  have d1 : decide (3000 < (n : Int)) = decide (3000 < n) := by rw [Bool.eq_iff_iff]; simp; omega
  have fail : ∀ τ : List AObj, Wk 0 [.tup [.agg [.d (.int .u8 0), .d (.int .i64 0), .nil, .nil], .d (.int .i64 0), .d (.int .i64 12)]] τ [.tup [vA v0, .d (.int .i64 ((0 : Nat) : Int)), .d (.int .i64 12)]] [] := fun τ =>
    wk_dat (r' := .tup [.agg [.d (.int .u8 0), .d (.int .i64 0), .d (.sl []), .d (.sl [])], .d (.int .i64 0), .d (.int .i64 12)]) (by simp only [go_sem]; rfl) (by simp only [vA, v0, List.map_nil]; rfl) (by simp only [go_sem, vA, v0, List.map_nil])
  refine spec_of_ev (fn := Try.f60) DX_ok 3000 Try.func60 rfl rfl (Nat.le_of_ble_eq_true rfl) ?_
  simp (maxSteps := 4000000) -implicitDefEqProofs only [Try.f60, go_sem]
  refine ecall0 _ c1 (by simp only [go_sem]) (by simp only [go_sem]) ?_
  by_cases h1 : n = 0
  · rw [decide_eq_true h1] at z1
    rw [if_pos (.inl h1)] at hR
    subst hR
    simp (maxSteps := 4000000) -implicitDefEqProofs only [go_sem, z1, Option.some.injEq, forall_eq', and_true, true_and, Bool.not_true, Bool.not_false, decide_true, Nat.reduceAdd, Nat.reduceSub, Nat.reduceLT, Nat.reduceLeDiff, Nat.reduceEqDiff, ↓reduceIte]
    exact fail _
  rw [decide_eq_false h1] at z1
  by_cases h2 : 3000 < n
  · rw [decide_eq_true h2] at d1
    rw [if_pos (.inr h2)] at hR
    subst hR
    simp (maxSteps := 4000000) -implicitDefEqProofs only [go_sem, z1, d1, Option.some.injEq, forall_eq', and_true, true_and, Bool.not_true, Bool.not_false, decide_true, Nat.reduceAdd, Nat.reduceSub, Nat.reduceLT, Nat.reduceLeDiff, Nat.reduceEqDiff, ↓reduceIte]
    exact fail _
  rw [decide_eq_false h2] at d1
  rw [if_neg (fun q => q.elim h1 h2)] at hR
  subst hR
  simp (maxSteps := 4000000) -implicitDefEqProofs only [go_sem, z1, d1, Option.some.injEq, forall_eq', and_true, true_and, Bool.not_true, Bool.not_false, decide_true, Nat.reduceAdd, Nat.reduceSub, Nat.reduceLT, Nat.reduceLeDiff, Nat.reduceEqDiff, ↓reduceIte]
  exact wk_dat (by simp only [go_sem]; rfl) (by simp only [vA]) (by simp only [go_sem, vA])
theorem decode_ref (b : List Int) (hr : b.length ≤ 1000000) (hB : Bytes b) : Spec Try.prog 45 [.d (.sl (b.map bY))] [] (.tup [vA (decP b).1, .d (.int .i64 (decP b).2)]) [] := by
  have c1 := next_ref b hr hB
  generalize hR : decP b = R
  unfold decP at hR
  generalize nextP b = w at c1 hR
  obtain ⟨⟨kk, nn, bb, ll⟩, n, e⟩ := w
  simp only [vA] at c1
  simp only at hR
  have fail : ∀ τ : List AObj, Wk 0 [.tup [.agg [.d (.int .u8 0), .d (.int .i64 0), .nil, .nil], .d (.int .i64 12)]] τ [.tup [vA v0, .d (.int .i64 12)]] [] := fun τ =>
    wk_dat (r' := .tup [.agg [.d (.int .u8 0), .d (.int .i64 0), .d (.sl []), .d (.sl [])], .d (.int .i64 12)]) (by simp only [go_sem]; rfl) (by simp only [vA, v0, List.map_nil]) (by simp only [go_sem, vA, v0, List.map_nil])
  refine spec_of_ev (fn := Try.f45) DX_ok 3000 Try.func45 rfl rfl (Nat.le_of_ble_eq_true rfl) ?_
  simp (maxSteps := 4000000) -implicitDefEqProofs only [Try.f45, go_sem]
  refine ecall0 _ c1 (by simp only [go_sem]) (by simp only [go_sem]) ?_
  by_cases h1 : e = 0
  case neg =>
    have z1 : (e != 0) = true := by simp [h1]
    rw [if_pos (.inl h1)] at hR
    subst hR
    simp (maxSteps := 4000000) -implicitDefEqProofs only [go_sem, z1, Option.some.injEq, forall_eq', and_true, true_and, Bool.not_true, Bool.not_false, decide_true, Nat.reduceAdd, Nat.reduceSub, Nat.reduceLT, Nat.reduceLeDiff, Nat.reduceEqDiff, ↓reduceIte]
    exact fail _
  have z1 : (e != 0) = false := by simp [h1]
  by_cases h2 : n = b.length
  case neg =>
    have z2 : ((n : Int) != b.length) = true := by simp; omega
    rw [if_pos (.inr h2)] at hR
    subst hR
    simp (maxSteps := 4000000) -implicitDefEqProofs only [go_sem, z1, z2, Option.some.injEq, forall_eq', and_true, true_and, Bool.not_true, Bool.not_false, decide_true, Nat.reduceAdd, Nat.reduceSub, Nat.reduceLT, Nat.reduceLeDiff, Nat.reduceEqDiff, ↓reduceIte]
    exact fail _
  have z2 : ((n : Int) != b.length) = false := by simp; omega
  rw [if_neg (fun h => h.elim (fun h => h h1) (fun h => h h2))] at hR
  subst hR
  simp (maxSteps := 4000000) -implicitDefEqProofs only [go_sem, z1, z2, Option.some.injEq, forall_eq', and_true, true_and, Bool.not_true, Bool.not_false, decide_true, Nat.reduceAdd, Nat.reduceSub, Nat.reduceLT, Nat.reduceLeDiff, Nat.reduceEqDiff, ↓reduceIte]
  exact wk_dat (by simp only [go_sem]; rfl) (by simp only [vA]) (by simp only [go_sem, vA])
end Go.AX.Co
/- Values that are read are not too large; a law's arguments. -/
set_option maxHeartbeats 8000000
set_option linter.unusedVariables false
set_option linter.unusedSimpArgs false
set_option maxRecDepth 20000
namespace Go.AX.Co
open Go.Proofs Go.RowKit Go.IntWalk
theorem u8_of {n : Nat} {d : List D} (h : Tyd Try.prog (n + 1) 5 d) : ∃ i : Int, d = bY i ∧ 0 ≤ i ∧ i ≤ 255 := by
  obtain ⟨i, rfl, hw⟩ := h.int Ty.under_5
  exact ⟨i, rfl, wf_u8 hw⟩
theorem rows_ofP {α : Type} {g : α → List D} {Q : α → Prop} : ∀ {es : List (List D)}, (∀ x ∈ es, ∃ y, x = g y ∧ Q y) → ∃ l : List α, es = l.map g ∧ ∀ y ∈ l, Q y
  | [], _ => ⟨[], rfl, by simp⟩
  | e :: es, h => by
    obtain ⟨y, rfl, hy⟩ := h e (by simp)
    obtain ⟨l, hl, hq⟩ := rows_ofP (es := es) (g := g) (Q := Q) fun x hx => h x (by simp [hx])
    exact ⟨y :: l, by rw [hl]; rfl, by simp; exact ⟨hy, hq⟩⟩
theorem bytes_of {n : Nat} {d : List D} (h : Tyd Try.prog (n + 2) 22 d) : ∃ l : List Int, d = [.sl (l.map bY)] ∧ Sm l.length ∧ Bytes l := by
  obtain ⟨es, rfl, h1, h2⟩ := h.slice Ty.under_22
  obtain ⟨l, rfl, hl⟩ := rows_ofP (g := bY) (Q := fun z => 0 ≤ z ∧ z ≤ 255) fun x hx => u8_of (h2 x hx)
  refine ⟨l, rfl, ?_, hl⟩
  have hb : Try.prog.bytesOf 5 = 1 := by kernel_rfl
  rw [hb, List.length_map] at h1
  unfold Sm; omega
end Go.AX.Co

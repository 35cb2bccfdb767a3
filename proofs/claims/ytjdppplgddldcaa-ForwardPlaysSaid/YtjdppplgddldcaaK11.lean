/- Forward: the program's gaps. -/
import Derived.Test.YtjdppplgddldcaaK10
set_option maxHeartbeats 8000000
set_option linter.unusedVariables false
set_option linter.unusedSimpArgs false
set_option maxRecDepth 20000
namespace Go.AX.Fw
open Go.Proofs Go.RowKit Go.IntWalk Go.AX.Br Go.AX.Lg
theorem gH_so_pre {pre post : List AObj} {o : List ByteArray} {G : Gr} {c l : Nat} {x : AObj} (h : l < pre.length) : so (gH pre o G c post) l x = gH (so pre l x) o G c post := by
  rw [so_eq, so_eq]
  unfold gH
  rw [List.set_append, if_pos h, List.length_set]
theorem gH_setp {pre post : List AObj} {o : List ByteArray} {G : Gr} {c j : Nat} {x : AObj} : (gH pre o G c post).set (pre.length + 1 + c + j) x = gH pre o G c (post.set j x) := by
  unfold gH
  have e : (rowsL G o.length c).length = c := by simp [rowsL]
  rw [List.set_append, if_neg (by omega), show pre.length + 1 + c + j - pre.length = (c + j) + 1 by omega, List.set_cons_succ, List.set_append, if_neg (by omega), e, show c + j - c = j by omega]
theorem gH_getp {pre post : List AObj} {o : List ByteArray} {G : Gr} {c j : Nat} : (gH pre o G c post)[pre.length + 1 + c + j]? = post[j]? := by
  have e : (rowsL G o.length c).length = c := by simp [rowsL]
  rw [gH, List.getElem?_append_right (by omega), show pre.length + 1 + c + j - pre.length = (c + j) + 1 by omega, List.getElem?_cons_succ, List.getElem?_append_right (by omega), e, show c + j - c = j by omega]
/-- the blocks behind the grid, round by round -/
def dG : Nat → Nat
  | 0 => 0
  | i + 1 => 3 + 2 * i + 1
def pG (rc bx : AObj) (L : Nat → AObj) : Nat → List AObj
  | 0 => [L 0, bx, rc]
  | i + 1 => (pG rc bx L i).set (dG i) .gone ++ [.gone, L (i + 1)]
section
variable {rc bx : AObj} {L : Nat → AObj}
end
def argG (G : Gr) (n i : Nat) : List AV := match (gapsL G n)[i]? with
  | some x => [.d (.int .i64 (x.1 : Int)), .d (.int .i64 (x.2 : Int))]
  | none => []
end Go.AX.Fw
/- Forward: plans: the program's side. -/
set_option maxHeartbeats 8000000
set_option linter.unusedVariables false
set_option linter.unusedSimpArgs false
set_option maxRecDepth 20000
namespace Go.AX.Fw
open Go.Proofs Go.RowKit Go.IntWalk Go.AX.Br Go.AX.Lg
def lastT (g : Nat → Bool) : Nat → Nat
  | 0 => 0
  | k + 1 => if g k then k else lastT g k
def fillN (G : Gr) (l : List (Nat × Nat)) : Gr := l.foldl (fun g x => upd g x.1 x.2) G
def fill (G : Gr) (n i : Nat) : Gr := fillN G ((gapsL G n).take i)
def nameAt (o : List ByteArray) (i : Nat) : ByteArray := (o[i]?).getD ByteArray.empty
def stP (o : List ByteArray) (G : Gr) (j : Nat) : St := match (gapsL G o.length)[j]? with
  | some x => ⟨x.1, nameAt o (lastT (fill G o.length j x.1) o.length), nameAt o x.2⟩
  | none => ⟨0, ByteArray.empty, ByteArray.empty⟩
def planS (o : List ByteArray) (G : Gr) : List St := (List.range (gapsL G o.length).length).map (stP o G)
def plD (o : List ByteArray) (G : Gr) (i : Nat) : List (List D) := ((List.range i).map (stP o G)).map stD
section
variable {G : Gr} {n i c b : Nat}
end
/-- Plan -/
def plnR (l : Lg) (o : List ByteArray) : List St × Int := if fcheck l o ≠ 0 then ([], fcheck l o) else (planS o (gridG l o), 0)
end Go.AX.Fw
/- Forward: plans: the reference's side. -/
set_option maxHeartbeats 8000000
set_option linter.unusedVariables false
set_option linter.unusedSimpArgs false
set_option maxRecDepth 20000
namespace Go.AX.Fw
open Go.Proofs Go.RowKit Go.IntWalk Go.AX.Br Go.AX.Lg
/-- the name of the last branch before i where it is in effect -/
def fromI (g : Nat → Bool) (o : List ByteArray) : Nat → ByteArray
  | 0 => ByteArray.empty
  | i + 1 => if g i then nameAt o i else fromI g o i
/-- the steps, k of them whole, the next one under way -/
def mixS (o : List ByteArray) (G : Gr) (k : Nat) (fr : ByteArray) (j : Nat) : St :=
  if j < k then stP o G j else match (gapsL G o.length)[j]? with
    | some x => ⟨x.1, if j = k then fr else ByteArray.empty, nameAt o x.2⟩
    | none => ⟨0, ByteArray.empty, ByteArray.empty⟩
def mixD (o : List ByteArray) (G : Gr) (k : Nat) (fr : ByteArray) : List St := (List.range (gapsL G o.length).length).map (mixS o G k fr)
section
variable {o : List ByteArray} {G : Gr} {k c b : Nat} {fr fr' : ByteArray}
end
end Go.AX.Fw
/- Forward: Same, Great; the arguments of a law; ForwardFinds. -/
set_option maxHeartbeats 8000000
set_option linter.unusedVariables false
set_option linter.unusedSimpArgs false
set_option maxRecDepth 20000
namespace Go.AX.Fw
open Go.Proofs Go.RowKit Go.IntWalk Go.AX.Br Go.AX.Lg
deriving instance DecidableEq for St
theorem int_of {n : Nat} {d : List D} (h : Tyd Try.prog (n + 1) 3 d) : ∃ i : Int, d = [.int .i64 i] ∧ (-9223372036854775808 ≤ i ∧ i ≤ 9223372036854775807) := Lg.int_of h
theorem str_of {n : Nat} {d : List D} (h : Tyd Try.prog (n + 1) 9 d) : ∃ s : ByteArray, d = [.str s] ∧ Sm s.size := Lg.str_of h
theorem ledger_of {n : Nat} {x : List D} (h : Tyd Try.prog (n + 5) 26 x) : ∃ l : Lg, x = [.sl (l.kn.map kD), .sl (l.br.map bD), .sl (l.ev.map esD)] ∧ LSm l := Lg.ledger_of h
theorem rows_ofF {α : Type} {g : α → List D} : ∀ {es : List (List D)}, (∀ x ∈ es, ∃ a, x = g a) → ∃ l : List α, es = l.map g
  | [], _ => ⟨[], rfl⟩
  | x :: es, h => by
    obtain ⟨a, rfl⟩ := h x (by simp)
    obtain ⟨l, rfl⟩ := rows_ofF (es := es) fun y hy => h y (List.mem_cons_of_mem _ hy)
    exact ⟨a :: l, rfl⟩
theorem texts_of {n : Nat} {d : List D} (h : Tyd Try.prog (n + 2) 27 d) : ∃ l : List ByteArray, d = [.sl (l.map sD)] ∧ Sm l.length := by
  obtain ⟨es, rfl, h1, h2⟩ := h.slice Ty.under_27
  obtain ⟨l, rfl⟩ := rows_ofF (g := sD) fun x hx => by
    obtain ⟨s, hs, _⟩ := Lg.str_of (h2 x hx)
    exact ⟨s, hs⟩
  refine ⟨l, rfl, ?_⟩
  have hb : Try.prog.bytesOf 9 = 16 := by kernel_rfl
  rw [hb, List.length_map] at h1
  unfold Sm; omega
theorem step_of {n : Nat} {x : List D} (h : Tyd Try.prog (n + 2) 51 x) : ∃ r : St, x = stD r := by
  obtain ⟨f0, f1, f2, hu, e0, e1, e2⟩ : ∃ f0 f1 f2 : Field, Try.prog.underlying 51 = some (.struct #[f0, f1, f2]) ∧ f0.type = 3 ∧ f1.type = 9 ∧ f2.type = 9 := ⟨_, _, _, by rfl, rfl, rfl, rfl⟩
  have this := h.struct hu
  simp only [List.map_cons, List.map_nil, Sq] at this
  obtain ⟨a0, b0, rfl, k0, a1, b1, rfl, k1, a2, b2, rfl, k2, rfl⟩ := this
  rw [e0] at k0; rw [e1] at k1; rw [e2] at k2
  obtain ⟨i, rfl, _⟩ := Lg.int_of k0
  obtain ⟨j, rfl, _⟩ := Lg.str_of k1
  obtain ⟨s, rfl, _⟩ := Lg.str_of k2
  exact ⟨⟨i, j, s⟩, rfl⟩
theorem steps_of {n : Nat} {d : List D} (h : Tyd Try.prog (n + 3) 28 d) : ∃ q : List St, d = [.sl (q.map stD)] ∧ Sm q.length := by
  obtain ⟨es, rfl, h1, h2⟩ := h.slice Ty.under_28
  obtain ⟨l, rfl⟩ := rows_ofF (g := stD) fun x hx => step_of (h2 x hx)
  refine ⟨l, rfl, ?_⟩
  have hb : Try.prog.bytesOf 51 = 40 := by kernel_rfl
  rw [hb, List.length_map] at h1
  unfold Sm; omega
def bigO (x : ByteArray) : Bool := decide (100 < x.size)
def bigP (x : St) : Bool := decide (100 < x.fr.size) || decide (100 < x.to.size)
def bigL (n : Nat) : Bool := decide (60 < n) && decide (n ≤ 300)
def great30 (l : Lg) (o : List ByteArray) (pl : List St) : Bool := o.any bigO || pl.any bigP || (greatL l || decide (20 < o.length) || bigL pl.length || decide (310 < pl.length))
theorem great_fref (l : Lg) (o : List ByteArray) (pl : List St) (hl : LSm l) (ho : Sm o.length) (hp : Sm pl.length) : Spec Try.prog 10 [lA l, .d (.sl (o.map sD)), .d (.sl (pl.map stD))] [] (.d (.bool (great30 l o pl))) [] := by
  have c1 := great_lref l hl.k hl.b hl.e hl.s
  simp only [lA] at c1
  unfold Sm at ho hp
  obtain ⟨R, hR⟩ : ∃ R, R = great30 l o pl := ⟨_, rfl⟩
  rw [← hR]
  have yes : great30 l o pl = true → ∀ {σ : List AObj}, Wk 0 [.d (.bool true)] σ [.d (.bool R)] [] := fun h {σ} => wk_bool (by rw [hR, h])
  refine spec_of_ev (fn := Try.f10) DX_ok 3000 Try.func10 rfl rfl (Nat.le_of_ble_eq_true rfl) ?_
  simp (maxSteps := 4000000) -implicitDefEqProofs only [Try.f10, go_sem, lA]
  refine eloop (S := Nat) (fun i => mkE 65 [(1, .d (.sl (o.map sD))), (2, .d (.sl (pl.map stD))), (3, .ptr 0 0), (7, .d (.int .i64 i))]) (fun i => [lH l]) (fun i => i ≤ o.length ∧ ∀ j y, o[j]? = some y → j < i → bigO y = false) (fun i => o.length - i) 0 ⟨by omega, by omega⟩ (Wk.via [0] (by (simp only [go_sem, ↓reduceIte]) <;> trivial) (by first | (simp (maxSteps := 4000000) -implicitDefEqProofs only [go_sem, Nat.reduceAdd, Nat.reduceSub, Nat.reduceLT, Nat.reduceLeDiff, Nat.reduceEqDiff, ↓reduceIte]; done) | ((simp (maxSteps := 4000000) -implicitDefEqProofs only [go_sem, Nat.reduceAdd, Nat.reduceSub, Nat.reduceLT, Nat.reduceLeDiff, Nat.reduceEqDiff, ↓reduceIte]) <;> omega)) (by simp) (by first | (simp; done) | (simp [so]; done)) (by (simp (maxSteps := 4000000) -implicitDefEqProofs only [go_sem, Nat.reduceAdd, Nat.reduceSub, Nat.reduceLT, Nat.reduceLeDiff, Nat.reduceEqDiff, ↓reduceIte]) <;> trivial) (by first | (simp only [go_sem]; done) | ((simp (maxSteps := 4000000) -implicitDefEqProofs only [go_sem, Nat.reduceAdd, Nat.reduceSub, Nat.reduceLT, Nat.reduceLeDiff, Nat.reduceEqDiff, ↓reduceIte]) <;> omega)) (Nat.zero_le _) (fun i h => absurd h (Nat.not_lt_zero i))) ?_
  rintro i ⟨hi, hj⟩
  rcases Nat.lt_or_ge i o.length with h2 | h2
  case inl =>
    have f1 : decide ((i : Int) < o.length) = true := by simp; omega
    obtain ⟨x, hx⟩ : ∃ x, o[i]? = some x := ⟨o[i]'h2, List.getElem?_eq_getElem _⟩
    have n1 : (0 ≤ (i : Int) ∧ (i : Int) < o.length) = True := eq_true (by omega)
    have n2 : (i < o.length) = True := eq_true (by omega)
    have w1 : IntKind.i64.wrap ((i : Int) + 1) = ((i + 1 : Nat) : Int) := by rw [i64_in _ (by omega)]; simp
    cases g : bigO x
    case true =>
      have d1 : decide ((100 : Int) < x.size) = true := by simp only [bigO, decide_eq_true_eq] at g ⊢; omega
      simp (maxSteps := 4000000) -implicitDefEqProofs only [go_sem, f1, n1, n2, hx, d1, Option.some.injEq, forall_eq', and_true, true_and, Bool.not_true, Bool.not_false, decide_true, Nat.reduceAdd, Nat.reduceSub, Nat.reduceLT, Nat.reduceLeDiff, Nat.reduceEqDiff, ↓reduceIte]
      exact yes (by rw [great30, any_t hx g]; rfl)
    have d1 : decide ((100 : Int) < x.size) = false := by simp only [bigO, decide_eq_false_iff_not] at g ⊢; omega
    simp (maxSteps := 4000000) -implicitDefEqProofs only [go_sem, f1, n1, n2, hx, d1, w1, Option.some.injEq, forall_eq', and_true, true_and, Bool.not_true, Bool.not_false, decide_true, Nat.reduceAdd, Nat.reduceSub, Nat.reduceLT, Nat.reduceLeDiff, Nat.reduceEqDiff, ↓reduceIte]
    exact .mk (i + 1) ⟨by omega, upto_succ hx g hj⟩ (by omega) (Wk.via [0] (by (simp only [go_sem, ↓reduceIte]) <;> trivial) (by first | (simp (maxSteps := 4000000) -implicitDefEqProofs only [go_sem, Nat.reduceAdd, Nat.reduceSub, Nat.reduceLT, Nat.reduceLeDiff, Nat.reduceEqDiff, ↓reduceIte]; done) | ((simp (maxSteps := 4000000) -implicitDefEqProofs only [go_sem, Nat.reduceAdd, Nat.reduceSub, Nat.reduceLT, Nat.reduceLeDiff, Nat.reduceEqDiff, ↓reduceIte]) <;> omega)) (by simp) (by first | (simp; done) | (simp [so]; done)) (by (simp (maxSteps := 4000000) -implicitDefEqProofs only [go_sem, Nat.reduceAdd, Nat.reduceSub, Nat.reduceLT, Nat.reduceLeDiff, Nat.reduceEqDiff, ↓reduceIte]) <;> trivial) (by first | (simp only [go_sem]; done) | ((simp (maxSteps := 4000000) -implicitDefEqProofs only [go_sem, Nat.reduceAdd, Nat.reduceSub, Nat.reduceLT, Nat.reduceLeDiff, Nat.reduceEqDiff, ↓reduceIte]) <;> omega)) (Nat.zero_le _) (fun i h => absurd h (Nat.not_lt_zero i)))
  have f1 : decide ((i : Int) < o.length) = false := by simp; omega
  have no : o.any bigO = false := any_f fun j y hy => hj j y hy (by have := some_lt hy; omega)
  simp (maxSteps := 4000000) -implicitDefEqProofs only [go_sem, f1, Option.some.injEq, forall_eq', and_true, true_and, Bool.not_true, Bool.not_false, decide_true, Nat.reduceAdd, Nat.reduceSub, Nat.reduceLT, Nat.reduceLeDiff, Nat.reduceEqDiff, ↓reduceIte]
  clear hj hi h2 f1
  refine eloop (S := Nat) (fun i => mkE 65 [(1, .d (.sl (o.map sD))), (2, .d (.sl (pl.map stD))), (3, .ptr 0 0), (8, .d (.int .i64 i))]) (fun i => [lH l]) (fun i => i ≤ pl.length ∧ ∀ j y, pl[j]? = some y → j < i → bigP y = false) (fun i => pl.length - i) 0 ⟨by omega, by omega⟩ (Wk.via [0] (by (simp only [go_sem, ↓reduceIte]) <;> trivial) (by first | (simp (maxSteps := 4000000) -implicitDefEqProofs only [go_sem, Nat.reduceAdd, Nat.reduceSub, Nat.reduceLT, Nat.reduceLeDiff, Nat.reduceEqDiff, ↓reduceIte]; done) | ((simp (maxSteps := 4000000) -implicitDefEqProofs only [go_sem, Nat.reduceAdd, Nat.reduceSub, Nat.reduceLT, Nat.reduceLeDiff, Nat.reduceEqDiff, ↓reduceIte]) <;> omega)) (by simp) (by first | (simp; done) | (simp [so]; done)) (by (simp (maxSteps := 4000000) -implicitDefEqProofs only [go_sem, Nat.reduceAdd, Nat.reduceSub, Nat.reduceLT, Nat.reduceLeDiff, Nat.reduceEqDiff, ↓reduceIte]) <;> trivial) (by first | (simp only [go_sem]; done) | ((simp (maxSteps := 4000000) -implicitDefEqProofs only [go_sem, Nat.reduceAdd, Nat.reduceSub, Nat.reduceLT, Nat.reduceLeDiff, Nat.reduceEqDiff, ↓reduceIte]) <;> omega)) (Nat.zero_le _) (fun i h => absurd h (Nat.not_lt_zero i))) ?_
  rintro i ⟨hi, hj⟩
  rcases Nat.lt_or_ge i pl.length with h2 | h2
  case inl =>
    have f1 : decide ((i : Int) < pl.length) = true := by simp; omega
    obtain ⟨x, hx⟩ : ∃ x, pl[i]? = some x := ⟨pl[i]'h2, List.getElem?_eq_getElem _⟩
    have n1 : (0 ≤ (i : Int) ∧ (i : Int) < pl.length) = True := eq_true (by omega)
    have n2 : (i < pl.length) = True := eq_true (by omega)
    have w1 : IntKind.i64.wrap ((i : Int) + 1) = ((i + 1 : Nat) : Int) := by rw [i64_in _ (by omega)]; simp
    have a1 : decide ((100 : Int) < x.fr.size) = decide (100 < x.fr.size) := decide_eq_decide.2 (by omega)
    have a2 : decide ((100 : Int) < x.to.size) = decide (100 < x.to.size) := decide_eq_decide.2 (by omega)
    cases g1 : decide (100 < x.fr.size)
    case true =>
      rw [g1] at a1
      simp (maxSteps := 4000000) -implicitDefEqProofs only [go_sem, f1, n1, n2, hx, a1, Option.some.injEq, forall_eq', and_true, true_and, Bool.not_true, Bool.not_false, decide_true, Nat.reduceAdd, Nat.reduceSub, Nat.reduceLT, Nat.reduceLeDiff, Nat.reduceEqDiff, ↓reduceIte]
      exact yes (by rw [great30, any_t hx (by rw [bigP, g1]; rfl)]; simp)
    rw [g1] at a1
    cases g2 : decide (100 < x.to.size)
    case true =>
      rw [g2] at a2
      simp (maxSteps := 4000000) -implicitDefEqProofs only [go_sem, f1, n1, n2, hx, a1, a2, Option.some.injEq, forall_eq', and_true, true_and, Bool.not_true, Bool.not_false, decide_true, Nat.reduceAdd, Nat.reduceSub, Nat.reduceLT, Nat.reduceLeDiff, Nat.reduceEqDiff, ↓reduceIte]
      exact yes (by rw [great30, any_t hx (by rw [bigP, g1, g2]; rfl)]; simp)
    rw [g2] at a2
    simp (maxSteps := 4000000) -implicitDefEqProofs only [go_sem, f1, n1, n2, hx, a1, a2, w1, Option.some.injEq, forall_eq', and_true, true_and, Bool.not_true, Bool.not_false, decide_true, Nat.reduceAdd, Nat.reduceSub, Nat.reduceLT, Nat.reduceLeDiff, Nat.reduceEqDiff, ↓reduceIte]
    exact .mk (i + 1) ⟨by omega, upto_succ hx (by rw [bigP, g1, g2]; rfl) hj⟩ (by omega) (Wk.via [0] (by (simp only [go_sem, ↓reduceIte]) <;> trivial) (by first | (simp (maxSteps := 4000000) -implicitDefEqProofs only [go_sem, Nat.reduceAdd, Nat.reduceSub, Nat.reduceLT, Nat.reduceLeDiff, Nat.reduceEqDiff, ↓reduceIte]; done) | ((simp (maxSteps := 4000000) -implicitDefEqProofs only [go_sem, Nat.reduceAdd, Nat.reduceSub, Nat.reduceLT, Nat.reduceLeDiff, Nat.reduceEqDiff, ↓reduceIte]) <;> omega)) (by simp) (by first | (simp; done) | (simp [so]; done)) (by (simp (maxSteps := 4000000) -implicitDefEqProofs only [go_sem, Nat.reduceAdd, Nat.reduceSub, Nat.reduceLT, Nat.reduceLeDiff, Nat.reduceEqDiff, ↓reduceIte]) <;> trivial) (by first | (simp only [go_sem]; done) | ((simp (maxSteps := 4000000) -implicitDefEqProofs only [go_sem, Nat.reduceAdd, Nat.reduceSub, Nat.reduceLT, Nat.reduceLeDiff, Nat.reduceEqDiff, ↓reduceIte]) <;> omega)) (Nat.zero_le _) (fun i h => absurd h (Nat.not_lt_zero i)))
  have f1 : decide ((i : Int) < pl.length) = false := by simp; omega
  have np : pl.any bigP = false := any_f fun j y hy => hj j y hy (by have := some_lt hy; omega)
  have hg : great30 l o pl = (greatL l || decide (20 < o.length) || bigL pl.length || decide (310 < pl.length)) := by rw [great30, no, np]; rfl
  have a1 : decide ((20 : Int) < o.length) = decide (20 < o.length) := decide_eq_decide.2 (by omega)
  have a2 : decide ((60 : Int) < pl.length) = decide (60 < pl.length) := decide_eq_decide.2 (by omega)
  have a3 : decide ((pl.length : Int) ≤ 300) = decide (pl.length ≤ 300) := decide_eq_decide.2 (by omega)
  have a4 : decide ((310 : Int) < pl.length) = decide (310 < pl.length) := decide_eq_decide.2 (by omega)
  simp (maxSteps := 4000000) -implicitDefEqProofs only [go_sem, f1, Option.some.injEq, forall_eq', and_true, true_and, Bool.not_true, Bool.not_false, decide_true, Nat.reduceAdd, Nat.reduceSub, Nat.reduceLT, Nat.reduceLeDiff, Nat.reduceEqDiff, ↓reduceIte]
  refine ecall0 _ c1 (by simp only [go_sem]) (by simp only [go_sem]) ?_
  rw [bigL] at hg
  cases g1 : greatL l
  case true =>
    simp (maxSteps := 4000000) -implicitDefEqProofs only [go_sem, Nat.reduceAdd, Nat.reduceSub, Nat.reduceLT, Nat.reduceLeDiff, Nat.reduceEqDiff, ↓reduceIte]
    exact yes (by rw [hg, g1]; rfl)
  cases g2 : decide (20 < o.length)
  case true =>
    rw [g2] at a1
    simp (maxSteps := 4000000) -implicitDefEqProofs only [go_sem, a1, Option.some.injEq, forall_eq', and_true, true_and, Bool.not_true, Bool.not_false, decide_true, Nat.reduceAdd, Nat.reduceSub, Nat.reduceLT, Nat.reduceLeDiff, Nat.reduceEqDiff, ↓reduceIte]
    exact yes (by rw [hg, g1, g2]; rfl)
  cases g3 : decide (60 < pl.length)
  case false =>
    rw [g2] at a1
    rw [g3] at a2
    simp (maxSteps := 4000000) -implicitDefEqProofs only [go_sem, a1, a2, Option.some.injEq, forall_eq', and_true, true_and, Bool.not_true, Bool.not_false, decide_true, Nat.reduceAdd, Nat.reduceSub, Nat.reduceLT, Nat.reduceLeDiff, Nat.reduceEqDiff, ↓reduceIte]
    exact wk_bool (by rw [hR, hg, g1, g2, g3, ← a4]; rfl)
  cases g4 : decide (pl.length ≤ 300)
  case true =>
    rw [g2] at a1
    rw [g3] at a2
    rw [g4] at a3
    simp (maxSteps := 4000000) -implicitDefEqProofs only [go_sem, a1, a2, a3, Option.some.injEq, forall_eq', and_true, true_and, Bool.not_true, Bool.not_false, decide_true, Nat.reduceAdd, Nat.reduceSub, Nat.reduceLT, Nat.reduceLeDiff, Nat.reduceEqDiff, ↓reduceIte]
    exact yes (by rw [hg, g1, g2, g3, g4]; rfl)
  rw [g2] at a1
  rw [g3] at a2
  rw [g4] at a3
  simp (maxSteps := 4000000) -implicitDefEqProofs only [go_sem, a1, a2, a3, Option.some.injEq, forall_eq', and_true, true_and, Bool.not_true, Bool.not_false, decide_true, Nat.reduceAdd, Nat.reduceSub, Nat.reduceLT, Nat.reduceLeDiff, Nat.reduceEqDiff, ↓reduceIte]
  exact wk_bool (by rw [hR, hg, g1, g2, g3, g4, ← a4]; rfl)
structure Fit30 (l : Lg) (o : List ByteArray) (pl : List St) : Prop where
  g : greatL l = false
  o : o.length ≤ 20
  p : pl.length ≤ 60 ∨ (300 < pl.length ∧ pl.length ≤ 310)
theorem fit30_of {l : Lg} {o : List ByteArray} {pl : List St} (h : great30 l o pl = false) : Fit30 l o pl := by
  simp only [great30, bigL, Bool.or_eq_false_iff, Bool.and_eq_false_iff, decide_eq_false_iff_not] at h
  obtain ⟨_, ⟨⟨h1, h2⟩, h3⟩, h4⟩ := h
  exact ⟨h1, by omega, by omega⟩
end Go.AX.Fw

/- Ledgers: events, the state of classes. -/
import Derived.Test.YtejipcfaedookaaGreatK5
set_option maxHeartbeats 8000000
set_option linter.unusedVariables false
set_option linter.unusedSimpArgs false
set_option maxRecDepth 20000
namespace Go.AX.Lg
open Go.Proofs Go.RowKit Go.IntWalk Go.AX.Br
structure Kn where
  ch : ByteArray
  cl : Int
structure Ev where
  kd : Int
  ch : ByteArray
instance : DecidableEq Kn := fun a b => decidable_of_iff (a.ch = b.ch ∧ a.cl = b.cl) (by cases a; cases b; simp)
instance : DecidableEq Ev := fun a b => decidable_of_iff (a.kd = b.kd ∧ a.ch = b.ch) (by cases a; cases b; simp)
def kD (k : Kn) : List D := [.str k.ch, .int .i64 k.cl]
def eD (e : Ev) : List D := [.int .u8 e.kd, .str e.ch]
def esD (s : List Ev) : List D := [.sl (s.map eD)]
theorem kD_len {l : List Kn} : (∀ e ∈ l.map kD, e.length = 2) = True := eq_true (map_len (g := kD) fun _ => rfl)
theorem eD_len {l : List Ev} : (∀ e ∈ l.map eD, e.length = 2) = True := eq_true (map_len (g := eD) fun _ => rfl)
theorem esD_len {l : List (List Ev)} : (∀ e ∈ l.map esD, e.length = 1) = True := eq_true (map_len (g := esD) fun _ => rfl)
attribute [go_sem] kD eD esD kD_len eD_len esD_len
structure Lg where
  kn : List Kn
  br : List Br
  ev : List (List Ev)
def lA (l : Lg) : AV := .agg [.d (.sl (l.kn.map kD)), .d (.sl (l.br.map bD)), .d (.sl (l.ev.map esD))]
structure Sta where
  sn : List Bool
  inn : List Bool
def bv (b : Bool) : AV := .d (.bool b)
def stC (s : Sta) : List AV := (s.sn ++ s.inn).map bv
theorem bds_bv (k : Nat) : ∀ l : List Bool, bds k (l.map bv)
  | [] => trivial
  | _ :: l => ⟨trivial, bds_bv k l⟩
theorem bds_bv' (k : Nat) (l : List Bool) : bds k (l.map bv) = True := eq_true (bds_bv k l)
theorem rens_bv (f : Nat → Nat) (l : List Bool) : rens f (l.map bv) = l.map bv := rens_id (bds_bv 0 l)
theorem bds_st (k : Nat) (s : Sta) : bds k (stC s) = True := eq_true (bds_bv k _)
theorem rens_st (f : Nat → Nat) (s : Sta) : rens f (stC s) = stC s := rens_bv f _
theorem wkE_st (s : Sta) : wkE (stC s) (stC s) = True := eq_true (wkE_refl _)
attribute [go_sem] bds_bv' rens_bv bds_st rens_st wkE_st
structure Sta.Ok (s : Sta) : Prop where
  a : s.sn.length = 30
  b : s.inn.length = 30
def put (s : Sta) (kd : Int) (c : Nat) : Sta := ⟨s.sn.set c true, s.inn.set c (kd != 3)⟩
def sta0 : Sta := ⟨List.replicate 30 false, List.replicate 30 false⟩
theorem put_ok {s : Sta} (h : s.Ok) (kd : Int) (c : Nat) : (put s kd c).Ok := ⟨by simp [put, h.a], by simp [put, h.b]⟩
section
variable {s : Sta} (h : s.Ok)
include h
theorem Sta.Ok.len : (stC s).length = 60 := by simp [stC, h.a, h.b]
theorem Sta.Ok.ldS {c : Nat} (hc : c < 30) {b : Bool} (hb : s.sn[c]? = some b) : ∃ r, drA (stC s) c = .d (.bool b) :: r := by
  have := h.a
  rw [drA_eq]
  have e : (stC s)[c]? = some (bv b) := by
    simp only [stC, List.getElem?_map]
    rw [List.getElem?_append_left (by omega), hb]; rfl
  rw [List.drop_eq_getElem_cons (by rw [h.len]; omega), (List.getElem?_eq_some_iff.1 e).2]
  exact ⟨_, rfl⟩
theorem Sta.Ok.ldI {c : Nat} (hc : c < 30) {b : Bool} (hb : s.inn[c]? = some b) : ∃ r, drA (stC s) (30 + c) = .d (.bool b) :: r := by
  have ha := h.a
  rw [drA_eq]
  have e : (stC s)[30 + c]? = some (bv b) := by
    simp only [stC, List.getElem?_map]
    rw [List.getElem?_append_right (by omega), show 30 + c - s.sn.length = c by omega, hb]; rfl
  rw [List.drop_eq_getElem_cons (by rw [h.len]; omega), (List.getElem?_eq_some_iff.1 e).2]
  exact ⟨_, rfl⟩
theorem Sta.Ok.spS {c : Nat} (hc : c < 30) (b : Bool) : spl (stC s) c [.d (.bool b)] = stC ⟨s.sn.set c b, s.inn⟩ := by
  have ha := h.a
  refine List.ext_getElem? fun q => ?_
  rw [spl_get _ _ _ _ (by rw [h.len]; simp; omega)]
  simp only [stC, List.getElem?_map, List.length_singleton]
  by_cases e : q = c
  · subst e
    rw [if_pos (by omega), Nat.sub_self, List.getElem?_append_left (by simp; omega), List.getElem?_set_self (by omega)]; rfl
  · rw [if_neg (by omega)]
    rcases Nat.lt_or_ge q 30 with g | g
    · rw [List.getElem?_append_left (by omega), List.getElem?_append_left (by simp; omega), List.getElem?_set_ne (Ne.symm e)]
    · rw [List.getElem?_append_right (by omega), List.getElem?_append_right (by simp; omega), List.length_set]
theorem Sta.Ok.spI {c : Nat} (hc : c < 30) (b : Bool) : spl (stC s) (30 + c) [.d (.bool b)] = stC ⟨s.sn, s.inn.set c b⟩ := by
  have ha := h.a
  have hb := h.b
  refine List.ext_getElem? fun q => ?_
  rw [spl_get _ _ _ _ (by rw [h.len]; simp; omega)]
  simp only [stC, List.getElem?_map, List.length_singleton]
  by_cases e : q = 30 + c
  · subst e
    rw [if_pos (by omega), Nat.sub_self, List.getElem?_append_right (by omega), show 30 + c - s.sn.length = c by omega, List.getElem?_set_self (by omega)]; rfl
  · rw [if_neg (by omega)]
    rcases Nat.lt_or_ge q 30 with g | g
    · rw [List.getElem?_append_left (by omega), List.getElem?_append_left (by omega)]
    · rw [List.getElem?_append_right (by omega), List.getElem?_append_right (by omega), List.getElem?_set_ne (by omega)]
end
theorem put_own (s : Sta) (h : s.Ok) (kd : Int) (c : Nat) (hc : c < 30) : Spec Tryz.prog 91 [.ptr 0 0, .d (.int .u8 kd), .d (.int .i64 c)] [.cells (stC s)] (.tup []) [.cells (stC (put s kd c))] := by
  have n1 : (0 ≤ (c : Int) ∧ (c : Int) < ((30 : Nat) : Int)) = True := eq_true (by omega)
  have n1' : (0 ≤ (c : Int) ∧ (c : Int) < 30) = True := eq_true (by omega)
  have l1 := h.len
  have p1 := h.spS hc true
  have h2 : (⟨s.sn.set c true, s.inn⟩ : Sta).Ok := ⟨by simp [h.a], h.b⟩
  have l2 := h2.len
  have p2 := h2.spI hc (kd != 3)
  have n2 : (c + 1 ≤ 60) = True := eq_true (by omega)
  have n3 : (30 + c + 1 ≤ 60) = True := eq_true (by omega)
  refine spec_of_ev (fn := Tryz.f91) DX_ok 3000 Tryz.func91 rfl rfl (Nat.le_of_ble_eq_true rfl) ?_
  simp (maxSteps := 4000000) -implicitDefEqProofs only [Tryz.f91, go_sem]
  simp (maxSteps := 4000000) -implicitDefEqProofs only [go_sem, n1, n1', l1, p1, l2, p2, n2, n3, Option.some.injEq, forall_eq', and_true, true_and, Bool.not_true, Bool.not_false, decide_true, Nat.reduceAdd, Nat.reduceSub, Nat.reduceLT, Nat.reduceLeDiff, Nat.reduceEqDiff, ↓reduceIte]
  exact Wk.refl _ _ _
def bAt (l : List Bool) (c : Nat) : Bool := (l[c]?).getD false
def allowR (s : Sta) (kd : Int) (c : Nat) : Int :=
  if kd < 1 ∨ 4 < kd then 2 else if kd = 3 then (if bAt s.inn c then 0 else 36) else if bAt s.inn c then 30 else if kd = 1 ∧ bAt s.sn c = true then 14 else if kd = 4 ∧ bAt s.sn c = false then 36 else 0
theorem bAt_get {l : List Bool} {c : Nat} (h : c < l.length) : l[c]? = some (bAt l c) := by
  rw [bAt, List.getElem?_eq_getElem h]; rfl
theorem allow_own (s : Sta) (h : s.Ok) (kd : Int) (c : Nat) (hc : c < 30) : Spec Tryz.prog 105 [.ptr 0 0, .d (.int .u8 kd), .d (.int .i64 c)] [.cells (stC s)] (.d (.int .i64 (allowR s kd c))) [.cells (stC s)] := by
  have n1 : (0 ≤ (c : Int) ∧ (c : Int) < ((30 : Nat) : Int)) = True := eq_true (by omega)
  have n1' : (0 ≤ (c : Int) ∧ (c : Int) < 30) = True := eq_true (by omega)
  obtain ⟨b1, hb1⟩ : ∃ b, b = bAt s.sn c := ⟨_, rfl⟩
  obtain ⟨b2, hb2⟩ : ∃ b, b = bAt s.inn c := ⟨_, rfl⟩
  obtain ⟨r1, g1⟩ := h.ldS hc (b := b1) (by rw [hb1]; exact bAt_get (by rw [h.a]; exact hc))
  obtain ⟨r2, g2⟩ := h.ldI hc (b := b2) (by rw [hb2]; exact bAt_get (by rw [h.b]; exact hc))
  have fin : ∀ {x y : Int} {σ : List AObj}, x = y → Wk 1 [.d (.int .i64 x)] σ [.d (.int .i64 y)] σ := fun e => by subst e; exact Wk.refl _ _ _
  obtain ⟨R, hR⟩ : ∃ R, R = allowR s kd c := ⟨_, rfl⟩
  rw [← hR]
  unfold allowR at hR
  rw [← hb1, ← hb2] at hR
  refine spec_of_ev (fn := Tryz.f105) DX_ok 3000 Tryz.func105 rfl rfl (Nat.le_of_ble_eq_true rfl) ?_
  simp (maxSteps := 4000000) -implicitDefEqProofs only [Tryz.f105, go_sem]
  cases k1 : decide (kd < 1)
  case true =>
    simp (maxSteps := 4000000) -implicitDefEqProofs only [go_sem, k1, Option.some.injEq, forall_eq', and_true, true_and, Bool.not_true, Bool.not_false, decide_true, Nat.reduceAdd, Nat.reduceSub, Nat.reduceLT, Nat.reduceLeDiff, Nat.reduceEqDiff, ↓reduceIte]
    exact fin (by rw [hR, if_pos (.inl (of_decide_eq_true k1))])
  cases k2 : decide (4 < kd)
  case true =>
    simp (maxSteps := 4000000) -implicitDefEqProofs only [go_sem, k1, k2, Option.some.injEq, forall_eq', and_true, true_and, Bool.not_true, Bool.not_false, decide_true, Nat.reduceAdd, Nat.reduceSub, Nat.reduceLT, Nat.reduceLeDiff, Nat.reduceEqDiff, ↓reduceIte]
    exact fin (by rw [hR, if_pos (.inr (of_decide_eq_true k2))])
  have k1' := of_decide_eq_false k1
  have k2' := of_decide_eq_false k2
  rw [if_neg (by omega)] at hR
  cases k3 : (kd == 3)
  case true =>
    have : kd = 3 := by simpa using k3
    rw [if_pos this] at hR
    cases b2
    case' false => simp (maxSteps := 4000000) -implicitDefEqProofs only [go_sem, k1, k2, k3, n1, n1', g2, Option.some.injEq, forall_eq', and_true, true_and, Bool.not_true, Bool.not_false, decide_true, Nat.reduceAdd, Nat.reduceSub, Nat.reduceLT, Nat.reduceLeDiff, Nat.reduceEqDiff, ↓reduceIte]
    case' true => simp (maxSteps := 4000000) -implicitDefEqProofs only [go_sem, k1, k2, k3, n1, n1', g2, Option.some.injEq, forall_eq', and_true, true_and, Bool.not_true, Bool.not_false, decide_true, Nat.reduceAdd, Nat.reduceSub, Nat.reduceLT, Nat.reduceLeDiff, Nat.reduceEqDiff, ↓reduceIte]
    all_goals exact fin (by rw [hR]; rfl)
  have k3' : kd ≠ 3 := by simpa using k3
  rw [if_neg k3'] at hR
  cases b2
  case true =>
    simp (maxSteps := 4000000) -implicitDefEqProofs only [go_sem, k1, k2, k3, n1, n1', g2, Option.some.injEq, forall_eq', and_true, true_and, Bool.not_true, Bool.not_false, decide_true, Nat.reduceAdd, Nat.reduceSub, Nat.reduceLT, Nat.reduceLeDiff, Nat.reduceEqDiff, ↓reduceIte]
    exact fin (by rw [hR]; rfl)
  simp only [Bool.false_eq_true, if_false] at hR
  cases k4 : (kd == 1)
  case true =>
    have k4' : kd = 1 := by simpa using k4
    have k5 : (kd == 4) = false := by rw [k4']; rfl
    cases b1
    case' true => simp (maxSteps := 4000000) -implicitDefEqProofs only [go_sem, k1, k2, k3, k4, n1, n1', g1, g2, Option.some.injEq, forall_eq', and_true, true_and, Bool.not_true, Bool.not_false, decide_true, Nat.reduceAdd, Nat.reduceSub, Nat.reduceLT, Nat.reduceLeDiff, Nat.reduceEqDiff, ↓reduceIte]
    case' false => simp (maxSteps := 4000000) -implicitDefEqProofs only [go_sem, k1, k2, k3, k4, k5, n1, n1', g1, g2, Option.some.injEq, forall_eq', and_true, true_and, Bool.not_true, Bool.not_false, decide_true, Nat.reduceAdd, Nat.reduceSub, Nat.reduceLT, Nat.reduceLeDiff, Nat.reduceEqDiff, ↓reduceIte]
    all_goals exact fin (by rw [hR]; simp [k4'])
  have k4' : kd ≠ 1 := by simpa using k4
  cases k5 : (kd == 4)
  case false =>
    have k5' : kd ≠ 4 := by simpa using k5
    simp (maxSteps := 4000000) -implicitDefEqProofs only [go_sem, k1, k2, k3, k4, k5, n1, n1', g1, g2, Option.some.injEq, forall_eq', and_true, true_and, Bool.not_true, Bool.not_false, decide_true, Nat.reduceAdd, Nat.reduceSub, Nat.reduceLT, Nat.reduceLeDiff, Nat.reduceEqDiff, ↓reduceIte]
    exact fin (by rw [hR]; simp [k4', k5'])
  have k5' : kd = 4 := by simpa using k5
  cases b1
  case' true => simp (maxSteps := 4000000) -implicitDefEqProofs only [go_sem, k1, k2, k3, k4, k5, n1, n1', g1, g2, Option.some.injEq, forall_eq', and_true, true_and, Bool.not_true, Bool.not_false, decide_true, Nat.reduceAdd, Nat.reduceSub, Nat.reduceLT, Nat.reduceLeDiff, Nat.reduceEqDiff, ↓reduceIte]
  case' false => simp (maxSteps := 4000000) -implicitDefEqProofs only [go_sem, k1, k2, k3, k4, k5, n1, n1', g1, g2, Option.some.injEq, forall_eq', and_true, true_and, Bool.not_true, Bool.not_false, decide_true, Nat.reduceAdd, Nat.reduceSub, Nat.reduceLT, Nat.reduceLeDiff, Nat.reduceEqDiff, ↓reduceIte]
  all_goals exact fin (by rw [hR]; simp [k5'])
def listL (l : List Bool) (n : Nat) : List Int := ((List.range n).filter fun c => bAt l c).map Int.ofNat
theorem listL_yes {l : List Bool} {n : Nat} (h : bAt l n = true) : listL l (n + 1) = listL l n ++ [(n : Int)] := by
  simp [listL, List.range_succ, List.filter_append, h]
theorem listL_no {l : List Bool} {n : Nat} (h : bAt l n = false) : listL l (n + 1) = listL l n := by
  simp [listL, List.range_succ, List.filter_append, h]
theorem listL_len (l : List Bool) (n : Nat) : (listL l n).length ≤ n := by
  unfold listL
  rw [List.length_map]
  have := List.length_filter_le (fun c => bAt l c) (List.range n)
  simpa using this
theorem ld_agg {l : List Bool} {c : Nat} (h : c < l.length) : ∃ r, drA (l.map bv) c = .d (.bool (bAt l c)) :: r := by
  rw [drA_eq]
  have e : (l.map bv)[c]? = some (bv (bAt l c)) := by rw [List.getElem?_map, bAt_get h]; rfl
  rw [List.drop_eq_getElem_cons (by simpa using h), (List.getElem?_eq_some_iff.1 e).2]
  exact ⟨_, rfl⟩
theorem list_own (s : Sta) (h : s.Ok) : Spec Tryz.prog 46 [.ptr 0 0] [.cells (stC s)] (.own 1) [.cells (stC s), .row 1 ((listL s.inn 30).map iD)] := by
  have ha := h.a
  have hb := h.b
  have l1 : drA (stC s) 30 = s.inn.map bv := by
    rw [drA_eq]
    simp only [stC, List.map_append]
    exact List.drop_left' (by simp; omega)
  have l2 : (s.inn.map bv).take 30 = s.inn.map bv := List.take_of_length_le (by simp; omega)
  refine spec_of_ev (fn := Tryz.f46) DX_ok 3000 Tryz.func46 rfl rfl (Nat.le_of_ble_eq_true rfl) ?_
  simp (maxSteps := 4000000) -implicitDefEqProofs only [Tryz.f46, go_sem]
  simp (maxSteps := 4000000) -implicitDefEqProofs only [go_sem, l1, l2, hb, Option.some.injEq, forall_eq', and_true, true_and, Bool.not_true, Bool.not_false, decide_true, Nat.reduceAdd, Nat.reduceSub, Nat.reduceLT, Nat.reduceLeDiff, Nat.reduceEqDiff, ↓reduceIte]
  refine eloop (S := Nat) (fun i => mkE 21 [(3, .own 1), (9, .agg (s.inn.map bv)), (10, .d (.int .i64 i))]) (fun i => [.cells (stC s), .row 1 ((listL s.inn i).map iD)]) (fun i => i ≤ 30) (fun i => 30 - i) 0 (by omega) (Wk.trans (Wk.nil 3 1 rfl) (Wk.via [0, 1] (by (simp only [go_sem, ↓reduceIte]) <;> trivial) (by (simp (maxSteps := 4000000) -implicitDefEqProofs only [go_sem, Nat.reduceAdd, Nat.reduceSub, Nat.reduceLT, Nat.reduceLeDiff, Nat.reduceEqDiff, ↓reduceIte]) <;> omega) (by simp) (by simp) (by (simp (maxSteps := 4000000) -implicitDefEqProofs only [go_sem, Nat.reduceAdd, Nat.reduceSub, Nat.reduceLT, Nat.reduceLeDiff, Nat.reduceEqDiff, ↓reduceIte]) <;> trivial) (by (simp (maxSteps := 4000000) -implicitDefEqProofs only [go_sem, Nat.reduceAdd, Nat.reduceSub, Nat.reduceLT, Nat.reduceLeDiff, Nat.reduceEqDiff, ↓reduceIte]) <;> omega) (Nat.le_of_ble_eq_true rfl) (at0_pre rfl))) ?_
  intro i hi
  rcases Nat.lt_or_ge i 30 with h2 | h2
  case inr =>
    have : i = 30 := by omega
    subst this
    have f1 : decide (((30 : Nat) : Int) < 30) = false := rfl
    simp (maxSteps := 4000000) -implicitDefEqProofs only [go_sem, f1, Option.some.injEq, forall_eq', and_true, true_and, Bool.not_true, Bool.not_false, decide_true, Nat.reduceAdd, Nat.reduceSub, Nat.reduceLT, Nat.reduceLeDiff, Nat.reduceEqDiff, ↓reduceIte]
    exact Wk.refl _ _ _
  have f1 : decide ((i : Int) < 30) = true := by simp; omega
  have n1 : (0 ≤ (i : Int) ∧ (i : Int) < ((30 : Nat) : Int)) = True := eq_true (by omega)
  have n1' : (0 ≤ (i : Int) ∧ (i : Int) < 30) = True := eq_true (by omega)
  have w1 : IntKind.i64.wrap ((i : Int) + 1) = ((i + 1 : Nat) : Int) := by rw [i64_in _ (by omega)]; simp
  obtain ⟨r, g⟩ := ld_agg (l := s.inn) (c := i) (by omega)
  have ll := listL_len s.inn i
  cases g1 : bAt s.inn i
  case false =>
    have e := listL_no g1
    rw [g1] at g
    simp (maxSteps := 4000000) -implicitDefEqProofs only [go_sem, f1, n1, n1', g, w1, Option.some.injEq, forall_eq', and_true, true_and, Bool.not_true, Bool.not_false, decide_true, Nat.reduceAdd, Nat.reduceSub, Nat.reduceLT, Nat.reduceLeDiff, Nat.reduceEqDiff, ↓reduceIte]
    exact .mk (i + 1) (by omega) (by omega) (by rw [e]; exact (Wk.via [0, 1] (by (simp only [go_sem, ↓reduceIte]) <;> trivial) (by (simp (maxSteps := 4000000) -implicitDefEqProofs only [go_sem, Nat.reduceAdd, Nat.reduceSub, Nat.reduceLT, Nat.reduceLeDiff, Nat.reduceEqDiff, ↓reduceIte]) <;> omega) (by simp) (by simp) (by (simp (maxSteps := 4000000) -implicitDefEqProofs only [go_sem, Nat.reduceAdd, Nat.reduceSub, Nat.reduceLT, Nat.reduceLeDiff, Nat.reduceEqDiff, ↓reduceIte]) <;> trivial) (by (simp (maxSteps := 4000000) -implicitDefEqProofs only [go_sem, Nat.reduceAdd, Nat.reduceSub, Nat.reduceLT, Nat.reduceLeDiff, Nat.reduceEqDiff, ↓reduceIte]) <;> omega) (Nat.le_of_ble_eq_true rfl) (at0_pre rfl)))
  have e := listL_yes g1
  have e3 : (listL s.inn i).map iD ++ [[D.int .i64 (i : Int)]] = (listL s.inn i ++ [(i : Int)]).map iD := by simp [iD]
  rw [g1] at g
  simp (maxSteps := 4000000) -implicitDefEqProofs only [go_sem, f1, n1, n1', g, w1, Option.some.injEq, forall_eq', and_true, true_and, Bool.not_true, Bool.not_false, decide_true, Nat.reduceAdd, Nat.reduceSub, Nat.reduceLT, Nat.reduceLeDiff, Nat.reduceEqDiff, ↓reduceIte]
  refine ⟨⟨fun e he => by simp at he; subst he; rfl, by omega, by omega⟩, ?_⟩
  rw [e3]
  exact .mk (i + 1) (by omega) (by omega) (by rw [e]; exact (Wk.via [0, 3] (by (simp only [go_sem, ↓reduceIte]) <;> trivial) (by (simp (maxSteps := 4000000) -implicitDefEqProofs only [go_sem, Nat.reduceAdd, Nat.reduceSub, Nat.reduceLT, Nat.reduceLeDiff, Nat.reduceEqDiff, ↓reduceIte]) <;> omega) (by simp) (by simp) (by (simp (maxSteps := 4000000) -implicitDefEqProofs only [go_sem, Nat.reduceAdd, Nat.reduceSub, Nat.reduceLT, Nat.reduceLeDiff, Nat.reduceEqDiff, ↓reduceIte]) <;> trivial) (by (simp (maxSteps := 4000000) -implicitDefEqProofs only [go_sem, Nat.reduceAdd, Nat.reduceSub, Nat.reduceLT, Nat.reduceLeDiff, Nat.reduceEqDiff, ↓reduceIte]) <;> omega) (Nat.le_of_ble_eq_true rfl) (at0_pre rfl)))
def clsM (kn : List Kn) : List (ByteArray × Int) := kn.foldl (fun m k => mput k.ch k.cl m) []
theorem cls_snoc {kn : List Kn} {i : Nat} {k : Kn} (h : kn[i]? = some k) : clsM (kn.take (i + 1)) = mput k.ch k.cl (clsM (kn.take i)) := by
  rw [List.take_add_one, h]; simp [clsM]
theorem classes_own (l : Lg) (hl : Sm l.kn.length) : Spec Tryz.prog 90 [lA l] [] (.mp 0) [.map false false (mD sD iD (clsM l.kn))] := by
  unfold Sm at hl
  have nd := fun m => mneed (P := Tryz.prog) (vD := iD) Ty.keyT_9 sD_kind m
  refine spec_of_ev (fn := Tryz.f90) DX_ok 3000 Tryz.func90 rfl rfl (Nat.le_of_ble_eq_true rfl) ?_
  simp (maxSteps := 4000000) -implicitDefEqProofs only [Tryz.f90, go_sem]
  simp (maxSteps := 4000000) -implicitDefEqProofs only [go_sem, lA, Option.some.injEq, forall_eq', and_true, true_and, Bool.not_true, Bool.not_false, decide_true, Nat.reduceAdd, Nat.reduceSub, Nat.reduceLT, Nat.reduceLeDiff, Nat.reduceEqDiff, ↓reduceIte]
  refine eloop (S := Nat) (fun i => mkE 21 [(3, .mp 0), (8, .d (.sl (l.kn.map kD))), (9, .d (.int .i64 l.kn.length)), (10, .d (.int .i64 i))]) (fun i => [.map false false (mD sD iD (clsM (l.kn.take i)))]) (fun i => i ≤ l.kn.length) (fun i => l.kn.length - i) 0 (by omega) (Wk.via1 1 (by (simp only [go_sem, ↓reduceIte]) <;> trivial) (by simp (maxSteps := 4000000) -implicitDefEqProofs only [go_sem, Nat.reduceAdd, Nat.reduceSub, Nat.reduceLT, Nat.reduceLeDiff, Nat.reduceEqDiff, ↓reduceIte]) (by simp) (by (simp only [go_sem]) <;> trivial) (by trivial)) ?_
  intro i hi
  rcases Nat.lt_or_ge i l.kn.length with h2 | h2
  case inr =>
    have f1 : decide ((i : Int) < l.kn.length) = false := by simp; omega
    simp (maxSteps := 4000000) -implicitDefEqProofs only [go_sem, f1, Option.some.injEq, forall_eq', and_true, true_and, Bool.not_true, Bool.not_false, decide_true, Nat.reduceAdd, Nat.reduceSub, Nat.reduceLT, Nat.reduceLeDiff, Nat.reduceEqDiff, ↓reduceIte]
    rw [List.take_of_length_le h2]
    exact Wk.via1 0 (by (simp only [go_sem, ↓reduceIte]) <;> trivial) (by (simp (maxSteps := 4000000) -implicitDefEqProofs only [go_sem, Nat.reduceAdd, Nat.reduceSub, Nat.reduceLT, Nat.reduceLeDiff, Nat.reduceEqDiff, ↓reduceIte]) <;> omega) (by simp) (by (simp only [go_sem]) <;> trivial) (by trivial)
  have f1 : decide ((i : Int) < l.kn.length) = true := by simp; omega
  obtain ⟨k, hk⟩ : ∃ x, l.kn[i]? = some x := ⟨l.kn[i]'h2, List.getElem?_eq_getElem _⟩
  have n1 : (0 ≤ (i : Int) ∧ (i : Int) < l.kn.length) = True := eq_true (by omega)
  have n2 : (i < l.kn.length) = True := eq_true (by omega)
  have w1 : IntKind.i64.wrap ((i : Int) + 1) = ((i + 1 : Nat) : Int) := by rw [i64_in _ (by omega)]; simp
  have e := cls_snoc hk
  obtain ⟨m, hm⟩ : ∃ m, m = clsM (l.kn.take i) := ⟨_, rfl⟩
  rw [← hm] at e ⊢
  have nd : (∃ ks, KeyT Tryz.prog 9 false ks ∧ kindOk false ks [D.str k.ch] ∧ ∀ y ∈ mD sD iD m, kindOk false ks y.1) = True := mneed (kD := sD) (vD := iD) Ty.keyT_9 sD_kind k.ch m
  have up : upM [D.str k.ch] [D.int .i64 k.cl] (mD sD iD m) = mD sD iD (mput k.ch k.cl m) := upM_mD (kD := sD) (vD := iD) sD_eq k.ch k.cl m
  simp (maxSteps := 4000000) -implicitDefEqProofs only [go_sem, f1, n1, n2, hk, nd, up, w1, Option.some.injEq, forall_eq', and_true, true_and, Bool.not_true, Bool.not_false, decide_true, Nat.reduceAdd, Nat.reduceSub, Nat.reduceLT, Nat.reduceLeDiff, Nat.reduceEqDiff, ↓reduceIte]
  exact .mk (i + 1) (by omega) (by omega) (by rw [e]; exact (Wk.via1 0 (by (simp only [go_sem, ↓reduceIte]) <;> trivial) (by simp (maxSteps := 4000000) -implicitDefEqProofs only [go_sem, Nat.reduceAdd, Nat.reduceSub, Nat.reduceLT, Nat.reduceLeDiff, Nat.reduceEqDiff, ↓reduceIte]) (by simp) (by (simp only [go_sem]) <;> trivial) (by trivial)))
theorem isName_own (s : ByteArray) : Spec Tryz.prog 101 [.d (.str s)] [] (.d (.bool (isNm s))) [] := by
  have hc := check_own [⟨s, ⟨#[]⟩, 0⟩] (by unfold Sm; simp)
  have ck : (check [⟨s, ⟨#[]⟩, 0⟩] == 0) = isNm s := by
    have ht : twice [⟨s, ⟨#[]⟩, 0⟩] = false := by
      refine anyI_f fun i b hb => decide_eq_false ?_
      have hi := some_lt hb
      simp at hi
      subst hi
      simp at hb
      subst hb
      have := idx_le (l := [(⟨s, ⟨#[]⟩, 0⟩ : Br)]) (i := 0) (x := ⟨s, ⟨#[]⟩, 0⟩) rfl (p := has s) (by simp [has])
      simp only; omega
    have hb : anyI (badAt [⟨s, ⟨#[]⟩, 0⟩]) [⟨s, ⟨#[]⟩, 0⟩] = !isNm s := by
      cases h : isNm s
      · exact anyI_t (i := 0) (x := ⟨s, ⟨#[]⟩, 0⟩) rfl (by simp [badAt, badN, h])
      · refine anyI_f fun i b hb => ?_
        have hi := some_lt hb
        simp at hi
        subst hi
        simp at hb
        subst hb
        simp [badAt, badN, root, h]
    simp only [check, ht, hb]
    cases isNm s <;> simp
  refine spec_of_ev (fn := Tryz.f101) DX_ok 3000 Tryz.func101 rfl rfl (Nat.le_of_ble_eq_true rfl) ?_
  simp (maxSteps := 4000000) -implicitDefEqProofs only [Tryz.f101, go_sem]
  simp (maxSteps := 4000000) -implicitDefEqProofs only [go_sem, Nat.reduceAdd, Nat.reduceSub, Nat.reduceLT, Nat.reduceLeDiff, Nat.reduceEqDiff, ↓reduceIte]
  refine ⟨by omega, ?_⟩
  refine ECall.frz 0 rfl ?_
  simp (maxSteps := 4000000) -implicitDefEqProofs only [go_sem, Nat.reduceAdd, Nat.reduceSub, Nat.reduceLT, Nat.reduceLeDiff, Nat.reduceEqDiff, ↓reduceIte]
  refine ecall0 _ hc (by simp only [go_sem]) (by simp only [go_sem]) ?_
  simp (maxSteps := 4000000) -implicitDefEqProofs only [go_sem, Nat.reduceAdd, Nat.reduceSub, Nat.reduceLT, Nat.reduceLeDiff, Nat.reduceEqDiff, ↓reduceIte]
  exact wk_bool ck
def cntL (l : Lg) : List Int := l.ev.map fun s => (s.length : Int)
def cAt (l : Lg) (i : Nat) : List Int := (cntL l).take i ++ List.replicate (l.ev.length - i) 0
theorem cAt_len {l : Lg} {i : Nat} (h : i ≤ l.ev.length) : (cAt l i).length = l.ev.length := by simp [cAt, cntL]; omega
theorem cAt_set {l : Lg} {i : Nat} {s : List Ev} (h : l.ev[i]? = some s) : ((cAt l i).map iD).set i [.int .i64 s.length] = (cAt l (i + 1)).map iD := by
  have hlt := some_lt h
  obtain ⟨k, hk⟩ : ∃ k, l.ev.length - i = k + 1 := ⟨l.ev.length - i - 1, by omega⟩
  have hk2 : l.ev.length - (i + 1) = k := by omega
  have ht : ((cntL l).take i).length = i := by simp [cntL]; omega
  have e : (cntL l).take (i + 1) = (cntL l).take i ++ [(s.length : Int)] := by
    rw [List.take_add_one]; simp [cntL, h]
  unfold cAt
  rw [hk, hk2, List.replicate_succ, e, List.map_append, List.set_append_right _ _ (by simp [cntL]; omega), List.length_map, ht, Nat.sub_self]
  simp [iD]
theorem counts_own (l : Lg) (hl : l.ev.length ≤ 1000) : Spec Tryz.prog 89 [lA l] [] (.own 0) [.row 1 ((cntL l).map iD)] := by
  have b1 : (0 ≤ (l.ev.length : Int) ∧ (l.ev.length : Int) ≤ l.ev.length) = True := eq_true (by omega)
  refine spec_of_ev (fn := Tryz.f89) DX_ok 3000 Tryz.func89 rfl rfl (Nat.le_of_ble_eq_true rfl) ?_
  simp (maxSteps := 4000000) -implicitDefEqProofs only [Tryz.f89, go_sem]
  simp (maxSteps := 4000000) -implicitDefEqProofs only [go_sem, lA, Option.some.injEq, forall_eq', and_true, true_and, Bool.not_true, Bool.not_false, decide_true, Nat.reduceAdd, Nat.reduceSub, Nat.reduceLT, Nat.reduceLeDiff, Nat.reduceEqDiff, ↓reduceIte]
  refine ⟨⟨by omega, by omega, by omega, by omega⟩, ?_⟩
  refine eloop (S := Nat) (fun i => mkE 25 [(3, .own 0), (11, .d (.sl (l.ev.map esD))), (12, .d (.int .i64 l.ev.length)), (13, .d (.int .i64 i))]) (fun i => [.row 1 ((cAt l i).map iD)]) (fun i => i ≤ l.ev.length) (fun i => l.ev.length - i) 0 (by omega) (by
    have e0 : (cAt l 0).map iD = List.replicate l.ev.length [.int .i64 0] := by simp [cAt, iD]
    rw [e0]; exact (Wk.via1 1 (by (simp only [go_sem, ↓reduceIte]) <;> trivial) (by simp (maxSteps := 4000000) -implicitDefEqProofs only [go_sem, Nat.reduceAdd, Nat.reduceSub, Nat.reduceLT, Nat.reduceLeDiff, Nat.reduceEqDiff, ↓reduceIte]) (by simp) (by (simp only [go_sem]) <;> trivial) (by trivial))) ?_
  intro i hi
  rcases Nat.lt_or_ge i l.ev.length with h2 | h2
  case inr =>
    have f1 : decide ((i : Int) < l.ev.length) = false := by simp; omega
    have e : cAt l i = cntL l := by
      unfold cAt
      rw [List.take_of_length_le (by simp [cntL]; omega), show l.ev.length - i = 0 by omega]; simp
    simp (maxSteps := 4000000) -implicitDefEqProofs only [go_sem, f1, Option.some.injEq, forall_eq', and_true, true_and, Bool.not_true, Bool.not_false, decide_true, Nat.reduceAdd, Nat.reduceSub, Nat.reduceLT, Nat.reduceLeDiff, Nat.reduceEqDiff, ↓reduceIte]
    rw [e]
    exact (Wk.via1 0 (by (simp only [go_sem, ↓reduceIte]) <;> trivial) (by simp (maxSteps := 4000000) -implicitDefEqProofs only [go_sem, Nat.reduceAdd, Nat.reduceSub, Nat.reduceLT, Nat.reduceLeDiff, Nat.reduceEqDiff, ↓reduceIte]) (by simp) (by (simp only [go_sem]) <;> trivial) (by trivial))
  have f1 : decide ((i : Int) < l.ev.length) = true := by simp; omega
  obtain ⟨s, hs⟩ : ∃ x, l.ev[i]? = some x := ⟨l.ev[i]'h2, List.getElem?_eq_getElem _⟩
  have n1 : (0 ≤ (i : Int) ∧ (i : Int) < l.ev.length) = True := eq_true (by omega)
  have n2 : (i < l.ev.length) = True := eq_true (by omega)
  have cl := cAt_len hi
  have n3 : (0 ≤ (i : Int) ∧ (i : Int) < (cAt l i).length) = True := eq_true (by omega)
  have n4 : (i < (cAt l i).length) = True := eq_true (by omega)
  obtain ⟨z, hz⟩ : ∃ x, (cAt l i)[i]? = some x := ⟨(cAt l i)[i]'(by omega), List.getElem?_eq_getElem _⟩
  have w1 : IntKind.i64.wrap ((i : Int) + 1) = ((i + 1 : Nat) : Int) := by rw [i64_in _ (by omega)]; simp
  have st := cAt_set hs
  simp (maxSteps := 4000000) -implicitDefEqProofs only [go_sem, f1, n1, n2, n3, n4, hs, hz, w1, Option.some.injEq, forall_eq', and_true, true_and, Bool.not_true, Bool.not_false, decide_true, Nat.reduceAdd, Nat.reduceSub, Nat.reduceLT, Nat.reduceLeDiff, Nat.reduceEqDiff, ↓reduceIte]
  rw [st]
  exact .mk (i + 1) (by omega) (by omega) (Wk.via1 0 (by (simp only [go_sem, ↓reduceIte]) <;> trivial) (by simp (maxSteps := 4000000) -implicitDefEqProofs only [go_sem, Nat.reduceAdd, Nat.reduceSub, Nat.reduceLT, Nat.reduceLeDiff, Nat.reduceEqDiff, ↓reduceIte]) (by simp) (by (simp only [go_sem]) <;> trivial) (by trivial))
end Go.AX.Lg
namespace Go.AX
theorem ecall1 {Γ : Ctx} {E : List AV → List AObj → Prop} {dst : Option Tmp} {f : FuncId} {args env : List AV} {σ : List AObj} (l : Nat) {args0 : List AV} (r : AV) {o o' : AObj} (h7 : Spec Γ.P f args0 [o] r [o']) (h1 : args = rens (at0 [l]) args0) (hb : bds 1 args0) (hl : l < σ.length) (hO : ob σ l = renO (at0 [l]) o) (ho : bdO 1 o)
    (h8 : E (putO env dst (ren (rn [l] σ.length) r)) (back σ [l] [o'])) : ECall Γ E dst f env args σ :=
  .mk [l] args0 [o] r [o'] h1 hb (by simp) (by simpa using hl) (by simp [obs, mapO, hO]) ⟨ho, trivial⟩ h7 h8
end Go.AX
namespace Go.AX.Lg
open Go.Proofs Go.RowKit Go.IntWalk Go.AX.Br
def evAt (l : Lg) (m : Mk) : Option Ev := (l.ev[m.b.toNat]?).bind fun s => s[m.e.toNat]?
def InR (l : Lg) (m : Mk) : Prop := ∃ (b e : Nat) (s : List Ev) (x : Ev), m = ⟨b, e⟩ ∧ l.ev[b]? = some s ∧ s[e]? = some x
theorem evAt_in {l : Lg} {b e : Nat} {s : List Ev} {x : Ev} (h1 : l.ev[b]? = some s) (h2 : s[e]? = some x) : evAt l ⟨b, e⟩ = some x := by
  simp [evAt, h1, h2]
def clI (l : Lg) (ch : ByteArray) : Int := (look ch (clsM l.kn)).getD 0
def Kv (l : Lg) : Prop := ∀ k ∈ l.kn, 0 ≤ k.cl ∧ k.cl < 30
theorem look_mem {k : ByteArray} {v : Int} : ∀ {m : List (ByteArray × Int)}, look k m = some v → (k, v) ∈ m
  | [], h => by simp [look] at h
  | (a, b) :: m, h => by
    simp only [look] at h
    split at h
    · next e => cases h; subst e; simp
    · exact List.mem_cons_of_mem _ (look_mem h)
theorem put_mem {k : ByteArray} {v : Int} {p : ByteArray × Int} : ∀ {m : List (ByteArray × Int)}, p ∈ mput k v m → p = (k, v) ∨ p ∈ m
  | [], h => by simp [mput] at h; exact .inl h
  | (a, b) :: m, h => by
    simp only [mput] at h
    split at h
    · next e =>
      rcases List.mem_cons.1 h with h | h
      · left; rw [h]
      · exact .inr (List.mem_cons_of_mem _ h)
    · rcases List.mem_cons.1 h with h | h
      · right; rw [h]; simp
      · rcases put_mem h with h | h
        · exact .inl h
        · exact .inr (List.mem_cons_of_mem _ h)
theorem cls_mem : ∀ (kn : List Kn) (m : List (ByteArray × Int)) {p : ByteArray × Int}, p ∈ kn.foldl (fun m k => mput k.ch k.cl m) m → p ∈ m ∨ ∃ k ∈ kn, p = (k.ch, k.cl)
  | [], m, p, h => .inl h
  | k :: kn, m, p, h => by
    rcases cls_mem kn _ h with h | ⟨q, hq, e⟩
    · rcases put_mem h with h | h
      · exact .inr ⟨k, by simp, h⟩
      · exact .inl h
    · exact .inr ⟨q, by simp [hq], e⟩
theorem clI_range {l : Lg} (h : Kv l) (ch : ByteArray) : 0 ≤ clI l ch ∧ clI l ch < 30 := by
  unfold clI
  cases e : look ch (clsM l.kn) with
  | none => simp
  | some v =>
    rcases cls_mem l.kn [] (look_mem e) with q | ⟨k, hk, q⟩
    · simp at q
    · have := h k hk
      simp only [Prod.mk.injEq] at q
      simp only [Option.getD_some]; omega
def stepS (l : Lg) (s : Sta) (m : Mk) : Sta := match evAt l m with
  | some x => put s x.kd (clI l x.ch).toNat
  | none => s
def foldS (l : Lg) (v : List Mk) : Sta := v.foldl (stepS l) sta0
theorem sta0_ok : sta0.Ok := ⟨rfl, rfl⟩
theorem foldS_ok (l : Lg) (v : List Mk) : (foldS l v).Ok := by
  unfold foldS
  have : ∀ (v : List Mk) (s : Sta), s.Ok → (v.foldl (stepS l) s).Ok := by
    intro v
    induction v with
    | nil => exact fun s h => h
    | cons m v ih =>
      intro s h
      refine ih _ ?_
      unfold stepS
      split
      · exact put_ok h _ _
      · exact h
  exact this v _ sta0_ok
theorem foldS_snoc {l : Lg} {v : List Mk} {i : Nat} {m : Mk} {x : Ev} (hm : v[i]? = some m) (hx : evAt l m = some x) : foldS l (v.take (i + 1)) = put (foldS l (v.take i)) x.kd (clI l x.ch).toNat := by
  unfold foldS
  rw [List.take_add_one, hm]; simp [stepS, hx]
theorem folded_own (l : Lg) (v : List Mk) (hk : Kv l) (hkl : l.kn.length ≤ 30) (hv : ∀ m ∈ v, InR l m) (hvl : v.length ≤ 1000) (hel : l.ev.length ≤ 1000) : Spec Tryz.prog 45 [lA l, .d (.sl (v.map mkD))] [] (.ptr 0 0) [.cells (stC (foldS l v))] := by
  have cl := classes_own l (by unfold Sm; omega)
  simp only [lA] at cl
  obtain ⟨M, hM⟩ : ∃ M, M = clsM l.kn := ⟨_, rfl⟩
  rw [← hM] at cl
  refine spec_of_ev (fn := Tryz.f45) DX_ok 3000 Tryz.func45 rfl rfl (Nat.le_of_ble_eq_true rfl) ?_
  simp (maxSteps := 4000000) -implicitDefEqProofs only [Tryz.f45, go_sem]
  simp (maxSteps := 4000000) -implicitDefEqProofs only [go_sem, lA, Option.some.injEq, forall_eq', and_true, true_and, Bool.not_true, Bool.not_false, decide_true, Nat.reduceAdd, Nat.reduceSub, Nat.reduceLT, Nat.reduceLeDiff, Nat.reduceEqDiff, ↓reduceIte]
  refine ecallN _ _ cl (by simp only [go_sem]) ?_
  simp (maxSteps := 4000000) -implicitDefEqProofs only [go_sem, Nat.reduceAdd, Nat.reduceSub, Nat.reduceLT, Nat.reduceLeDiff, Nat.reduceEqDiff, ↓reduceIte]
  refine eloop (S := Nat) (fun i => mkE 39 [(2, .ptr 0 0), (5, .ptr 1 0), (6, .mp 2), (13, .d (.sl (v.map mkD))), (14, .d (.int .i64 v.length)), (15, .d (.int .i64 i))]) (fun i => [.cells [.d (.sl (l.kn.map kD)), .d (.sl (l.br.map bD)), .d (.sl (l.ev.map esD))], .cells (stC (foldS l (v.take i))), .map false false (mD sD iD M)]) (fun i => i ≤ v.length) (fun i => v.length - i) 0 (by omega) ?_ ?_
  · have e0 : stC (foldS l (v.take 0)) = List.replicate 60 (.d (.bool false)) := rfl
    simp only [List.replicate] at e0
    rw [e0]
    exact (Wk.via [0, 1, 2] (by (simp only [go_sem, ↓reduceIte]) <;> trivial) (by first | (simp (maxSteps := 4000000) -implicitDefEqProofs only [go_sem, Nat.reduceAdd, Nat.reduceSub, Nat.reduceLT, Nat.reduceLeDiff, Nat.reduceEqDiff, ↓reduceIte]; done) | ((simp (maxSteps := 4000000) -implicitDefEqProofs only [go_sem, Nat.reduceAdd, Nat.reduceSub, Nat.reduceLT, Nat.reduceLeDiff, Nat.reduceEqDiff, ↓reduceIte]) <;> omega)) (by simp) (by first | (simp; done) | (simp [so]; done)) (by (simp (maxSteps := 4000000) -implicitDefEqProofs only [go_sem, Nat.reduceAdd, Nat.reduceSub, Nat.reduceLT, Nat.reduceLeDiff, Nat.reduceEqDiff, ↓reduceIte]) <;> trivial) (by first | (simp only [go_sem]; done) | ((simp (maxSteps := 4000000) -implicitDefEqProofs only [go_sem, Nat.reduceAdd, Nat.reduceSub, Nat.reduceLT, Nat.reduceLeDiff, Nat.reduceEqDiff, ↓reduceIte]) <;> omega)) (Nat.zero_le _) (fun i h => absurd h (Nat.not_lt_zero i)))
  intro i hi
  rcases Nat.lt_or_ge i v.length with h2 | h2
  case inr =>
    have f1 : decide ((i : Int) < v.length) = false := by simp; omega
    simp (maxSteps := 4000000) -implicitDefEqProofs only [go_sem, f1, Option.some.injEq, forall_eq', and_true, true_and, Bool.not_true, Bool.not_false, decide_true, Nat.reduceAdd, Nat.reduceSub, Nat.reduceLT, Nat.reduceLeDiff, Nat.reduceEqDiff, ↓reduceIte]
    rw [List.take_of_length_le h2]
    exact (Wk.via [1] (by (simp only [go_sem, ↓reduceIte]) <;> trivial) (by (simp (maxSteps := 4000000) -implicitDefEqProofs only [go_sem, Nat.reduceAdd, Nat.reduceSub, Nat.reduceLT, Nat.reduceLeDiff, Nat.reduceEqDiff, ↓reduceIte]) <;> omega) (by simp) (by simp) (by (simp (maxSteps := 4000000) -implicitDefEqProofs only [go_sem, Nat.reduceAdd, Nat.reduceSub, Nat.reduceLT, Nat.reduceLeDiff, Nat.reduceEqDiff, ↓reduceIte]) <;> trivial) (by (simp (maxSteps := 4000000) -implicitDefEqProofs only [go_sem, Nat.reduceAdd, Nat.reduceSub, Nat.reduceLT, Nat.reduceLeDiff, Nat.reduceEqDiff, ↓reduceIte]) <;> omega) (Nat.le_of_ble_eq_true rfl) (at0_pre rfl))
  have f1 : decide ((i : Int) < v.length) = true := by simp; omega
  obtain ⟨m, hm⟩ : ∃ x, v[i]? = some x := ⟨v[i]'h2, List.getElem?_eq_getElem _⟩
  have n1 : (0 ≤ (i : Int) ∧ (i : Int) < v.length) = True := eq_true (by omega)
  have n2 : (i < v.length) = True := eq_true (by omega)
  have w1 : IntKind.i64.wrap ((i : Int) + 1) = ((i + 1 : Nat) : Int) := by rw [i64_in _ (by omega)]; simp
  obtain ⟨b, e, s, x, rfl, hb, he⟩ := hv m (List.mem_of_getElem? hm)
  have hfo := foldS_snoc hm (evAt_in hb he)
  have hok := foldS_ok l (v.take i)
  obtain ⟨S, hS⟩ : ∃ S, S = foldS l (v.take i) := ⟨_, rfl⟩
  rw [← hS] at hfo hok ⊢
  obtain ⟨kd, ch⟩ := x
  have hc := clI_range hk ch
  obtain ⟨c, hcc⟩ : ∃ c : Nat, clI l ch = c := ⟨(clI l ch).toNat, by omega⟩
  have hlb := some_lt hb
  have hle := some_lt he
  have m1 : (0 ≤ (b : Int) ∧ (b : Int) < l.ev.length) = True := eq_true (by omega)
  have m2 : (b < l.ev.length) = True := eq_true (by omega)
  have m3 : (0 ≤ (e : Int) ∧ (e : Int) < s.length) = True := eq_true (by omega)
  have m4 : (e < s.length) = True := eq_true (by omega)
  have a1 : (∃ x, (l.ev.map esD)[b]? = some x ∧ x.length = 1 ∧ AV.eptr x = AV.eptr [D.sl (s.map eD)]) = True := eq_true ⟨esD s, by simp [hb], rfl, rfl⟩
  have a2 : (∃ x, (s.map eD)[e]? = some x ∧ x.length = 2 ∧ AV.eptr x = AV.eptr [D.int .u8 kd, D.str ch]) = True := eq_true ⟨eD ⟨kd, ch⟩, by simp [he], rfl, rfl⟩
  have nd : (∃ ks, KeyT Tryz.prog 9 false ks ∧ kindOk false ks [D.str ch] ∧ ∀ y ∈ mD sD iD M, kindOk false ks y.1) = True := mneed (kD := sD) (vD := iD) Ty.keyT_9 sD_kind ch M
  have gd : (lkM [D.str ch] (mD sD iD M)).getD [D.int .i64 0] = [D.int .i64 (clI l ch)] := by
    have := lkM_mD (kD := sD) (vD := iD) sD_eq ch M
    rw [show [D.str ch] = sD ch from rfl, this, hM, clI]
    cases look ch (clsM l.kn) <;> rfl
  have hcc' : (D.int .i64 (clI l ch)) = D.int .i64 (c : Int) := by rw [hcc]
  simp (maxSteps := 4000000) -implicitDefEqProofs only [go_sem, f1, n1, n2, hm, Option.some.injEq, forall_eq', and_true, true_and, Bool.not_true, Bool.not_false, decide_true, Nat.reduceAdd, Nat.reduceSub, Nat.reduceLT, Nat.reduceLeDiff, Nat.reduceEqDiff, ↓reduceIte]
  refine DX.plain (.take 0 true (.take 1 true (.take 2 true (.take 3 true (.take 4 true (.take 5 true (.take 6 true (.take 7 true (.take 8 true (.take 9 true (.run [10] (fun _ => [true, true, true, true, true, true, true, true, true, true]) fun _ => (.run [11] (fun _ => [false, false, false, false, false, false, false, false, false, false]) fun _ => .done)))))))))))) (by kernel_rfl) (by kernel_rfl) Ty.mixed ?_
  simp (maxSteps := 4000000) -implicitDefEqProofs only [go_sem, m1, m2, m3, m4, hb, he, a1, a2, nd, gd, hcc', Option.some.injEq, forall_eq', and_true, true_and, Bool.not_true, Bool.not_false, decide_true, Nat.reduceAdd, Nat.reduceSub, Nat.reduceLT, Nat.reduceLeDiff, Nat.reduceEqDiff, ↓reduceIte]
  refine ecall1 1 _ (put_own S hok kd c (by omega)) (by simp only [go_sem]) (by (simp only [go_sem]) <;> omega) (by simp) (by simp only [go_sem]) (by simp only [go_sem]) ?_
  rw [hcc, Int.toNat_natCast] at hfo
  simp (maxSteps := 4000000) -implicitDefEqProofs only [go_sem, w1, Option.some.injEq, forall_eq', and_true, true_and, Bool.not_true, Bool.not_false, decide_true, Nat.reduceAdd, Nat.reduceSub, Nat.reduceLT, Nat.reduceLeDiff, Nat.reduceEqDiff, ↓reduceIte]
  exact .mk (i + 1) (by omega) (by omega) (by rw [hfo]; exact (Wk.via [0, 1, 2] (by (simp only [go_sem, ↓reduceIte]) <;> trivial) (by first | (simp (maxSteps := 4000000) -implicitDefEqProofs only [go_sem, Nat.reduceAdd, Nat.reduceSub, Nat.reduceLT, Nat.reduceLeDiff, Nat.reduceEqDiff, ↓reduceIte]; done) | ((simp (maxSteps := 4000000) -implicitDefEqProofs only [go_sem, Nat.reduceAdd, Nat.reduceSub, Nat.reduceLT, Nat.reduceLeDiff, Nat.reduceEqDiff, ↓reduceIte]) <;> omega)) (by simp) (by first | (simp; done) | (simp [so]; done)) (by (simp (maxSteps := 4000000) -implicitDefEqProofs only [go_sem, Nat.reduceAdd, Nat.reduceSub, Nat.reduceLT, Nat.reduceLeDiff, Nat.reduceEqDiff, ↓reduceIte]) <;> trivial) (by first | (simp only [go_sem]; done) | ((simp (maxSteps := 4000000) -implicitDefEqProofs only [go_sem, Nat.reduceAdd, Nat.reduceSub, Nat.reduceLT, Nat.reduceLeDiff, Nat.reduceEqDiff, ↓reduceIte]) <;> omega)) (Nat.zero_le _) (fun i h => absurd h (Nat.not_lt_zero i))))
end Go.AX.Lg
namespace Go.AX.Lg
open Go.Proofs Go.RowKit Go.IntWalk Go.AX.Br
def lH (l : Lg) : AObj := .cells [.d (.sl (l.kn.map kD)), .d (.sl (l.br.map bD)), .d (.sl (l.ev.map esD))]
attribute [go_sem] lH
def hasC (ch : ByteArray) (k : Kn) : Bool := decide (k.ch = ch)
def classN (l : Lg) (ch : ByteArray) : Option Int := (l.kn.find? (hasC ch)).map (·.cl)
def classR (l : Lg) (ch : ByteArray) : Int := (classN l ch).getD (-1)
theorem find_upto {α : Type} {p : α → Bool} : ∀ {l : List α} {i : Nat} {x : α}, l[i]? = some x → p x = true → (∀ j y, l[j]? = some y → j < i → p y = false) → l.find? p = some x
  | [], i, x, h, _, _ => by simp at h
  | a :: l, 0, x, h, hp, _ => by simp at h; subst h; simp [List.find?, hp]
  | a :: l, i + 1, x, h, hp, hj => by
    have ha := hj 0 a rfl (by omega)
    simp only [List.find?, ha]
    exact find_upto (by simpa using h) hp fun j y hy hlt => hj (j + 1) y (by simpa using hy) (by omega)
theorem find_no {α : Type} {p : α → Bool} {l : List α} (h : ∀ (j : Nat) (y : α), l[j]? = some y → p y = false) : l.find? p = none := by
  rw [List.find?_eq_none]
  intro x hx
  obtain ⟨i, hi⟩ := List.getElem?_of_mem hx
  rw [h i x hi]; simp
theorem class_ref (l : Lg) (ch : ByteArray) (hl : Sm l.kn.length) : Spec Tryz.prog 37 [lA l, .d (.str ch)] [] (.d (.int .i64 (classR l ch))) [] := by
  unfold Sm at hl
  refine spec_of_ev (fn := Tryz.f37) DX_ok 3000 Tryz.func37 rfl rfl (Nat.le_of_ble_eq_true rfl) ?_
  simp (maxSteps := 4000000) -implicitDefEqProofs only [Tryz.f37, go_sem]
  simp (maxSteps := 4000000) -implicitDefEqProofs only [go_sem, lA, Option.some.injEq, forall_eq', and_true, true_and, Bool.not_true, Bool.not_false, decide_true, Nat.reduceAdd, Nat.reduceSub, Nat.reduceLT, Nat.reduceLeDiff, Nat.reduceEqDiff, ↓reduceIte]
  refine eloop (S := Nat) (fun i => mkE 27 [(1, .d (.str ch)), (2, .ptr 0 0), (5, .d (.int .i64 i))]) (fun i => [.cells [.d (.sl (l.kn.map kD)), .d (.sl (l.br.map bD)), .d (.sl (l.ev.map esD))]]) (fun i => i ≤ l.kn.length ∧ ∀ j y, l.kn[j]? = some y → j < i → hasC ch y = false) (fun i => l.kn.length - i) 0 ⟨by omega, by omega⟩ (Wk.sub (by (simp only [go_sem]) <;> trivial)) ?_
  rintro i ⟨hi, hj⟩
  rcases Nat.lt_or_ge i l.kn.length with h2 | h2
  case inr =>
    have f1 : decide ((i : Int) < l.kn.length) = false := by simp; omega
    have e : classR l ch = -1 := by
      rw [classR, classN, find_no fun j y hy => hj j y hy (by have := some_lt hy; omega)]; rfl
    simp (maxSteps := 4000000) -implicitDefEqProofs only [go_sem, f1, e, Option.some.injEq, forall_eq', and_true, true_and, Bool.not_true, Bool.not_false, decide_true, Nat.reduceAdd, Nat.reduceSub, Nat.reduceLT, Nat.reduceLeDiff, Nat.reduceEqDiff, ↓reduceIte]
    exact (Wk.forget (by (simp only [go_sem]) <;> trivial) (by simp only [go_sem]))
  have f1 : decide ((i : Int) < l.kn.length) = true := by simp; omega
  obtain ⟨k, hk⟩ : ∃ x, l.kn[i]? = some x := ⟨l.kn[i]'h2, List.getElem?_eq_getElem _⟩
  have n1 : (0 ≤ (i : Int) ∧ (i : Int) < l.kn.length) = True := eq_true (by omega)
  have n2 : (i < l.kn.length) = True := eq_true (by omega)
  have w1 : IntKind.i64.wrap ((i : Int) + 1) = ((i + 1 : Nat) : Int) := by rw [i64_in _ (by omega)]; simp
  cases h3 : decide (k.ch = ch)
  case true =>
    have e : classR l ch = k.cl := by rw [classR, classN, find_upto hk h3 hj]; rfl
    simp (maxSteps := 4000000) -implicitDefEqProofs only [go_sem, f1, n1, n2, hk, h3, e, Option.some.injEq, forall_eq', and_true, true_and, Bool.not_true, Bool.not_false, decide_true, Nat.reduceAdd, Nat.reduceSub, Nat.reduceLT, Nat.reduceLeDiff, Nat.reduceEqDiff, ↓reduceIte]
    exact (Wk.forget (by (simp only [go_sem]) <;> trivial) (by simp only [go_sem]))
  simp (maxSteps := 4000000) -implicitDefEqProofs only [go_sem, f1, n1, n2, hk, h3, w1, Option.some.injEq, forall_eq', and_true, true_and, Bool.not_true, Bool.not_false, decide_true, Nat.reduceAdd, Nat.reduceSub, Nat.reduceLT, Nat.reduceLeDiff, Nat.reduceEqDiff, ↓reduceIte]
  refine .mk (i + 1) ⟨by omega, fun j y hy hlt => ?_⟩ (by omega) (Wk.sub (by (simp only [go_sem]) <;> trivial))
  rcases Nat.lt_or_ge j i with q | q
  · exact hj j y hy q
  · have : j = i := by omega
    subst this; rw [hk] at hy; cases hy; exact h3
theorem cntL_succ {l : Lg} {i : Nat} {s : List Ev} (h : l.ev[i]? = some s) : ((cntL l).take i).map iD ++ [[.int .i64 s.length]] = ((cntL l).take (i + 1)).map iD := by
  rw [List.take_add_one]; simp [cntL, h, iD]
theorem counts_ref (l : Lg) (hl : l.ev.length ≤ 1000) : Spec Tryz.prog 39 [lA l] [] (.d (.sl ((cntL l).map iD))) [] := by
  refine spec_of_ev (fn := Tryz.f39) DX_ok 3000 Tryz.func39 rfl rfl (Nat.le_of_ble_eq_true rfl) ?_
  simp (maxSteps := 4000000) -implicitDefEqProofs only [Tryz.f39, go_sem]
  simp (maxSteps := 4000000) -implicitDefEqProofs only [go_sem, lA, Option.some.injEq, forall_eq', and_true, true_and, Bool.not_true, Bool.not_false, decide_true, Nat.reduceAdd, Nat.reduceSub, Nat.reduceLT, Nat.reduceLeDiff, Nat.reduceEqDiff, ↓reduceIte]
  refine eloop (S := Nat) (fun i => mkE 22 [(1, .ptr 0 0), (3, .own 1), (4, .d (.int .i64 i))]) (fun i => [lH l, .row 1 (((cntL l).take i).map iD)]) (fun i => i ≤ l.ev.length) (fun i => l.ev.length - i) 0 (by omega) (Wk.trans (Wk.nil 3 1 rfl) (Wk.via [0, 1] (by (simp only [go_sem, ↓reduceIte]) <;> trivial) (by first | (simp (maxSteps := 4000000) -implicitDefEqProofs only [go_sem, Nat.reduceAdd, Nat.reduceSub, Nat.reduceLT, Nat.reduceLeDiff, Nat.reduceEqDiff, ↓reduceIte]; done) | ((simp (maxSteps := 4000000) -implicitDefEqProofs only [go_sem, Nat.reduceAdd, Nat.reduceSub, Nat.reduceLT, Nat.reduceLeDiff, Nat.reduceEqDiff, ↓reduceIte]) <;> omega)) (by simp) (by first | (simp; done) | (simp [so]; done)) (by (simp (maxSteps := 4000000) -implicitDefEqProofs only [go_sem, Nat.reduceAdd, Nat.reduceSub, Nat.reduceLT, Nat.reduceLeDiff, Nat.reduceEqDiff, ↓reduceIte]) <;> trivial) (by first | (simp only [go_sem]; done) | ((simp (maxSteps := 4000000) -implicitDefEqProofs only [go_sem, Nat.reduceAdd, Nat.reduceSub, Nat.reduceLT, Nat.reduceLeDiff, Nat.reduceEqDiff, ↓reduceIte]) <;> omega)) (Nat.zero_le _) (fun i h => absurd h (Nat.not_lt_zero i)))) ?_
  intro i hi
  rcases Nat.lt_or_ge i l.ev.length with h2 | h2
  case inr =>
    have f1 : decide ((i : Int) < l.ev.length) = false := by simp; omega
    have e : (cntL l).take i = cntL l := List.take_of_length_le (by simp [cntL]; omega)
    simp (maxSteps := 4000000) -implicitDefEqProofs only [go_sem, f1, e, Option.some.injEq, forall_eq', and_true, true_and, Bool.not_true, Bool.not_false, decide_true, Nat.reduceAdd, Nat.reduceSub, Nat.reduceLT, Nat.reduceLeDiff, Nat.reduceEqDiff, ↓reduceIte]
    exact wk_dat (r' := .d (.sl ((cntL l).map iD))) (by simp only [go_sem]; rfl) rfl (by simp only [go_sem])
  have f1 : decide ((i : Int) < l.ev.length) = true := by simp; omega
  obtain ⟨s, hs⟩ : ∃ x, l.ev[i]? = some x := ⟨l.ev[i]'h2, List.getElem?_eq_getElem _⟩
  have n1 : (0 ≤ (i : Int) ∧ (i : Int) < l.ev.length) = True := eq_true (by omega)
  have n2 : (i < l.ev.length) = True := eq_true (by omega)
  have w1 : IntKind.i64.wrap ((i : Int) + 1) = ((i + 1 : Nat) : Int) := by rw [i64_in _ (by omega)]; simp
  have e := cntL_succ hs
  have ll : ((cntL l).take i).length ≤ i := by rw [List.length_take]; omega
  simp (maxSteps := 4000000) -implicitDefEqProofs only [go_sem, f1, n1, n2, hs, w1, Option.some.injEq, forall_eq', and_true, true_and, Bool.not_true, Bool.not_false, decide_true, Nat.reduceAdd, Nat.reduceSub, Nat.reduceLT, Nat.reduceLeDiff, Nat.reduceEqDiff, ↓reduceIte]
  refine ⟨⟨fun e he => by simp at he; subst he; rfl, by omega, by omega⟩, ?_⟩
  rw [e]
  exact .mk (i + 1) (by omega) (by omega) (Wk.via [0, 3] (by (simp only [go_sem, ↓reduceIte]) <;> trivial) (by first | (simp (maxSteps := 4000000) -implicitDefEqProofs only [go_sem, Nat.reduceAdd, Nat.reduceSub, Nat.reduceLT, Nat.reduceLeDiff, Nat.reduceEqDiff, ↓reduceIte]; done) | ((simp (maxSteps := 4000000) -implicitDefEqProofs only [go_sem, Nat.reduceAdd, Nat.reduceSub, Nat.reduceLT, Nat.reduceLeDiff, Nat.reduceEqDiff, ↓reduceIte]) <;> omega)) (by simp) (by first | (simp; done) | (simp [so]; done)) (by (simp (maxSteps := 4000000) -implicitDefEqProofs only [go_sem, Nat.reduceAdd, Nat.reduceSub, Nat.reduceLT, Nat.reduceLeDiff, Nat.reduceEqDiff, ↓reduceIte]) <;> trivial) (by first | (simp only [go_sem]; done) | ((simp (maxSteps := 4000000) -implicitDefEqProofs only [go_sem, Nat.reduceAdd, Nat.reduceSub, Nat.reduceLT, Nat.reduceLeDiff, Nat.reduceEqDiff, ↓reduceIte]) <;> omega)) (Nat.zero_le _) (fun i h => absurd h (Nat.not_lt_zero i)))
def seenL (l : Lg) (v : List Mk) : List Ev := v.filterMap (evAt l)
theorem seenL_len {l : Lg} {v : List Mk} (h : ∀ m ∈ v, InR l m) : (seenL l v).length = v.length := by
  unfold seenL
  induction v with
  | nil => rfl
  | cons m v ih =>
    obtain ⟨b, e, s, x, rfl, hb, he⟩ := h m (by simp)
    rw [List.filterMap_cons, evAt_in hb he]
    simp only [List.length_cons]
    rw [ih fun m hm => h m (by simp [hm])]
theorem seenL_snoc {l : Lg} {v : List Mk} {k : Nat} {m : Mk} {x : Ev} (hm : v[k]? = some m) (hx : evAt l m = some x) : seenL l (v.take (k + 1)) = seenL l (v.take k) ++ [x] := by
  unfold seenL
  rw [List.take_add_one, hm]
  simp [List.filterMap_append, hx]
theorem seen_ref (l : Lg) (v : List Mk) (n : Int) (hv : ∀ m ∈ v, InR l m) (hvl : v.length ≤ 1000) (hel : l.ev.length ≤ 1000) (hn : n = v.length) : Spec Tryz.prog 52 [lA l, .d (.sl (v.map mkD)), .d (.int .i64 n)] [] (.d (.sl ((seenL l v).map eD))) [] := by
  subst hn
  refine spec_of_ev (fn := Tryz.f52) DX_ok 3000 Tryz.func52 rfl rfl (Nat.le_of_ble_eq_true rfl) ?_
  simp (maxSteps := 4000000) -implicitDefEqProofs only [Tryz.f52, go_sem]
  simp (maxSteps := 4000000) -implicitDefEqProofs only [go_sem, lA, Option.some.injEq, forall_eq', and_true, true_and, Bool.not_true, Bool.not_false, decide_true, Nat.reduceAdd, Nat.reduceSub, Nat.reduceLT, Nat.reduceLeDiff, Nat.reduceEqDiff, ↓reduceIte]
  refine eloop (S := Nat) (fun i => mkE 40 [(1, .d (.sl (v.map mkD))), (2, .d (.int .i64 v.length)), (3, .ptr 0 0), (7, .own 1), (8, .d (.int .i64 i))]) (fun i => [lH l, .row 2 ((seenL l (v.take i)).map eD)]) (fun i => i ≤ v.length) (fun i => v.length - i) 0 (by omega) (Wk.trans (Wk.nil 7 2 rfl) (Wk.via [0, 1] (by (simp only [go_sem, ↓reduceIte]) <;> trivial) (by first | (simp (maxSteps := 4000000) -implicitDefEqProofs only [go_sem, Nat.reduceAdd, Nat.reduceSub, Nat.reduceLT, Nat.reduceLeDiff, Nat.reduceEqDiff, ↓reduceIte]; done) | ((simp (maxSteps := 4000000) -implicitDefEqProofs only [go_sem, Nat.reduceAdd, Nat.reduceSub, Nat.reduceLT, Nat.reduceLeDiff, Nat.reduceEqDiff, ↓reduceIte]) <;> omega)) (by simp) (by first | (simp; done) | (simp [so]; done)) (by (simp (maxSteps := 4000000) -implicitDefEqProofs only [go_sem, Nat.reduceAdd, Nat.reduceSub, Nat.reduceLT, Nat.reduceLeDiff, Nat.reduceEqDiff, ↓reduceIte]) <;> trivial) (by first | (simp only [go_sem]; done) | ((simp (maxSteps := 4000000) -implicitDefEqProofs only [go_sem, Nat.reduceAdd, Nat.reduceSub, Nat.reduceLT, Nat.reduceLeDiff, Nat.reduceEqDiff, ↓reduceIte]) <;> omega)) (Nat.zero_le _) (fun i h => absurd h (Nat.not_lt_zero i)))) ?_
  intro i hi
  rcases Nat.lt_or_ge i v.length with h2 | h2
  case inr =>
    have f1 : decide ((i : Int) < v.length) = false := by simp; omega
    have e : v.take i = v := List.take_of_length_le (by omega)
    simp (maxSteps := 4000000) -implicitDefEqProofs only [go_sem, f1, e, Option.some.injEq, forall_eq', and_true, true_and, Bool.not_true, Bool.not_false, decide_true, Nat.reduceAdd, Nat.reduceSub, Nat.reduceLT, Nat.reduceLeDiff, Nat.reduceEqDiff, ↓reduceIte]
    exact wk_dat (r' := .d (.sl ((seenL l v).map eD))) (by simp only [go_sem]; rfl) rfl (by simp only [go_sem])
  have f1 : decide ((i : Int) < v.length) = true := by simp; omega
  obtain ⟨m, hm⟩ : ∃ x, v[i]? = some x := ⟨v[i]'h2, List.getElem?_eq_getElem _⟩
  have n1 : (0 ≤ (i : Int) ∧ (i : Int) < v.length) = True := eq_true (by omega)
  have n2 : (i < v.length) = True := eq_true (by omega)
  have w1 : IntKind.i64.wrap ((i : Int) + 1) = ((i + 1 : Nat) : Int) := by rw [i64_in _ (by omega)]; simp
  obtain ⟨b, e, s, x, rfl, hb, he⟩ := hv m (List.mem_of_getElem? hm)
  have hsn := seenL_snoc hm (evAt_in hb he)
  obtain ⟨kd, ch⟩ := x
  have hlb := some_lt hb
  have hle := some_lt he
  have m1 : (0 ≤ (b : Int) ∧ (b : Int) < l.ev.length) = True := eq_true (by omega)
  have m2 : (b < l.ev.length) = True := eq_true (by omega)
  have m3 : (0 ≤ (e : Int) ∧ (e : Int) < s.length) = True := eq_true (by omega)
  have m4 : (e < s.length) = True := eq_true (by omega)
  have ll : (seenL l (v.take i)).length ≤ i := by
    refine Nat.le_trans (List.length_filterMap_le _ _) ?_
    rw [List.length_take]; omega
  simp (maxSteps := 4000000) -implicitDefEqProofs only [go_sem, f1, Option.some.injEq, forall_eq', and_true, true_and, Bool.not_true, Bool.not_false, decide_true, Nat.reduceAdd, Nat.reduceSub, Nat.reduceLT, Nat.reduceLeDiff, Nat.reduceEqDiff, ↓reduceIte]
  refine DX.plain (.take 0 true (.take 1 false (.take 2 false (.take 3 false (.take 4 false (.take 5 false (.take 6 false (.take 7 false (.take 8 false (.take 9 false (.take 10 false (.take 11 false (.take 12 false (.take 13 false (.take 14 false (.take 15 false (.take 16 false (.run [17] (fun _ => [true]) fun _ => (.run [18] (fun _ => [false]) fun _ => (.take 19 false .done)))))))))))))))))))) (by kernel_rfl) (by kernel_rfl) Ty.mixed ?_
  simp (maxSteps := 4000000) -implicitDefEqProofs only [go_sem, n1, n2, hm, m1, m2, m3, m4, hb, he, w1, Option.some.injEq, forall_eq', and_true, true_and, Bool.not_true, Bool.not_false, decide_true, Nat.reduceAdd, Nat.reduceSub, Nat.reduceLT, Nat.reduceLeDiff, Nat.reduceEqDiff, ↓reduceIte]
  refine ⟨by omega, ⟨fun e he => by simp at he; subst he; rfl, by omega, by omega⟩, ?_⟩
  have e3 : (seenL l (v.take i)).map eD ++ [[D.int .u8 kd, D.str ch]] = (seenL l (v.take (i + 1))).map eD := by rw [hsn]; simp [eD]
  rw [e3]
  exact .mk (i + 1) (by omega) (by omega) (Wk.via [0, 3] (by (simp only [go_sem, ↓reduceIte]) <;> trivial) (by first | (simp (maxSteps := 4000000) -implicitDefEqProofs only [go_sem, Nat.reduceAdd, Nat.reduceSub, Nat.reduceLT, Nat.reduceLeDiff, Nat.reduceEqDiff, ↓reduceIte]; done) | ((simp (maxSteps := 4000000) -implicitDefEqProofs only [go_sem, Nat.reduceAdd, Nat.reduceSub, Nat.reduceLT, Nat.reduceLeDiff, Nat.reduceEqDiff, ↓reduceIte]) <;> omega)) (by simp) (by first | (simp; done) | (simp [so]; done)) (by (simp (maxSteps := 4000000) -implicitDefEqProofs only [go_sem, Nat.reduceAdd, Nat.reduceSub, Nat.reduceLT, Nat.reduceLeDiff, Nat.reduceEqDiff, ↓reduceIte]) <;> trivial) (by first | (simp only [go_sem]; done) | ((simp (maxSteps := 4000000) -implicitDefEqProofs only [go_sem, Nat.reduceAdd, Nat.reduceSub, Nat.reduceLT, Nat.reduceLeDiff, Nat.reduceEqDiff, ↓reduceIte]) <;> omega)) (Nat.zero_le _) (fun i h => absurd h (Nat.not_lt_zero i)))
end Go.AX.Lg
namespace Go.AX.Lg
open Go.Proofs Go.RowKit Go.IntWalk Go.AX.Br
theorem beq_dec (a b : Int) : (a == b) = decide (a = b) := by by_cases h : a = b <;> simp [h]
def isC (l : Lg) (c : Int) (x : Ev) : Bool := decide (classR l x.ch = c)
def lastN {α : Type} (p : α → Bool) (s : List α) : Nat → Int
  | 0 => -1
  | n + 1 => if s[n]?.any p then n else lastN p s n
def lastR (l : Lg) (s : List Ev) (c : Int) : Int := lastN (isC l c) s s.length
theorem lastN_range {α : Type} {p : α → Bool} {s : List α} : ∀ n, -1 ≤ lastN p s n ∧ lastN p s n < n
  | 0 => by simp [lastN]
  | n + 1 => by
    have := lastN_range (p := p) (s := s) n
    simp only [lastN]; split <;> omega
theorem lastN_get {α : Type} {p : α → Bool} {s : List α} : ∀ {n}, n ≤ s.length → 0 ≤ lastN p s n → ∃ (k : Nat) (x : α), lastN p s n = k ∧ s[k]? = some x ∧ p x = true
  | 0, _, h => by simp [lastN] at h
  | n + 1, hn, h => by
    simp only [lastN] at h ⊢
    obtain ⟨x, hx⟩ : ∃ x, s[n]? = some x := ⟨s[n]'(by omega), List.getElem?_eq_getElem _⟩
    cases q : p x
    case true =>
      refine ⟨n, x, ?_, hx, q⟩
      rw [hx]; simp [q]
    case false =>
      rw [hx] at h ⊢
      simp only [Option.any_some, q, Bool.false_eq_true, if_false] at h ⊢
      exact lastN_get (by omega) h
theorem lastN_pre {α : Type} {p : α → Bool} {s t : List α} : ∀ {n}, n ≤ s.length → lastN p (s ++ t) n = lastN p s n
  | 0, _ => rfl
  | n + 1, h => by
    simp only [lastN]
    rw [List.getElem?_append_left (by omega), lastN_pre (by omega)]
theorem lastR_snoc (l : Lg) (s : List Ev) (x : Ev) (c : Int) : lastR l (s ++ [x]) c = if isC l c x then (s.length : Int) else lastR l s c := by
  unfold lastR
  rw [List.length_append]
  simp only [List.length_singleton, lastN]
  rw [List.getElem?_append_right (Nat.le_refl _), Nat.sub_self, lastN_pre (Nat.le_refl _)]
  simp
def kdAt (s : List Ev) (k : Int) : Int := match s[k.toNat]? with
  | some x => x.kd
  | none => 0
def inR (l : Lg) (s : List Ev) (c : Int) : Bool := decide (0 ≤ lastR l s c) && (kdAt s (lastR l s c) != 3)
theorem last_ref (l : Lg) (s : List Ev) (c : Int) (hk : Sm l.kn.length) (hs : Sm s.length) : Spec Tryz.prog 94 [lA l, .d (.sl (s.map eD)), .d (.int .i64 c)] [] (.d (.int .i64 (lastR l s c))) [] := by
  unfold Sm at hs
  have cl := fun ch => class_ref l ch hk
  simp only [lA] at cl
  refine spec_of_ev (fn := Tryz.f94) DX_ok 3000 Tryz.func94 rfl rfl (Nat.le_of_ble_eq_true rfl) ?_
  simp (maxSteps := 4000000) -implicitDefEqProofs only [Tryz.f94, go_sem]
  simp (maxSteps := 4000000) -implicitDefEqProofs only [go_sem, lA, Option.some.injEq, forall_eq', and_true, true_and, Bool.not_true, Bool.not_false, decide_true, Nat.reduceAdd, Nat.reduceSub, Nat.reduceLT, Nat.reduceLeDiff, Nat.reduceEqDiff, ↓reduceIte]
  refine eloop (S := Nat) (fun i => mkE 26 [(1, .d (.sl (s.map eD))), (2, .d (.int .i64 c)), (3, .ptr 0 0), (7, .d (.int .i64 (lastN (isC l c) s i))), (8, .d (.int .i64 i))]) (fun i => [lH l]) (fun i => i ≤ s.length) (fun i => s.length - i) 0 (by omega) (Wk.sub (by (simp only [go_sem]) <;> trivial)) ?_
  intro i hi
  rcases Nat.lt_or_ge i s.length with h2 | h2
  case inr =>
    have f1 : decide ((i : Int) < s.length) = false := by simp; omega
    have e : i = s.length := by omega
    subst e
    simp (maxSteps := 4000000) -implicitDefEqProofs only [go_sem, f1, Option.some.injEq, forall_eq', and_true, true_and, Bool.not_true, Bool.not_false, decide_true, Nat.reduceAdd, Nat.reduceSub, Nat.reduceLT, Nat.reduceLeDiff, Nat.reduceEqDiff, ↓reduceIte]
    exact (Wk.forget (by (simp only [go_sem]) <;> trivial) (by simp only [go_sem]))
  have f1 : decide ((i : Int) < s.length) = true := by simp; omega
  obtain ⟨x, hx⟩ : ∃ x, s[i]? = some x := ⟨s[i]'h2, List.getElem?_eq_getElem _⟩
  have n1 : (0 ≤ (i : Int) ∧ (i : Int) < s.length) = True := eq_true (by omega)
  have n2 : (i < s.length) = True := eq_true (by omega)
  have w1 : IntKind.i64.wrap ((i : Int) + 1) = ((i + 1 : Nat) : Int) := by rw [i64_in _ (by omega)]; simp
  cases h3 : isC l c x
  case' true =>
    have e : lastN (isC l c) s (i + 1) = i := by simp [lastN, hx, h3]
  case' false =>
    have e : lastN (isC l c) s (i + 1) = lastN (isC l c) s i := by simp [lastN, hx, h3]
  all_goals
    have h3' : (classR l x.ch == c) = _ := (beq_dec _ _).trans h3
    simp (maxSteps := 4000000) -implicitDefEqProofs only [go_sem, f1, Option.some.injEq, forall_eq', and_true, true_and, Bool.not_true, Bool.not_false, decide_true, Nat.reduceAdd, Nat.reduceSub, Nat.reduceLT, Nat.reduceLeDiff, Nat.reduceEqDiff, ↓reduceIte]
    refine DX.plain (.take 0 false (.take 1 false (.take 2 false (.take 3 false (.take 4 false (.take 5 false (.take 6 false (.take 7 false (.take 8 false .done))))))))) (by kernel_rfl) (by kernel_rfl) Ty.mixed ?_
    simp (maxSteps := 4000000) -implicitDefEqProofs only [go_sem, n1, n2, hx, Option.some.injEq, forall_eq', and_true, true_and, Bool.not_true, Bool.not_false, decide_true, Nat.reduceAdd, Nat.reduceSub, Nat.reduceLT, Nat.reduceLeDiff, Nat.reduceEqDiff, ↓reduceIte]
    refine ⟨_, _, (cl x.ch).lift0 _ (by simp only [go_sem]) (by simp only [go_sem]), rfl, ?_⟩
    simp (maxSteps := 4000000) -implicitDefEqProofs only [go_sem, h3', w1, Option.some.injEq, forall_eq', and_true, true_and, Bool.not_true, Bool.not_false, decide_true, Nat.reduceAdd, Nat.reduceSub, Nat.reduceLT, Nat.reduceLeDiff, Nat.reduceEqDiff, ↓reduceIte]
    exact .mk (i + 1) (by omega) (by omega) (by rw [e]; exact (Wk.sub (by (simp only [go_sem]) <;> trivial)))
theorem in_ref (l : Lg) (s : List Ev) (c : Int) (hk : Sm l.kn.length) (hs : Sm s.length) : Spec Tryz.prog 93 [lA l, .d (.sl (s.map eD)), .d (.int .i64 c)] [] (.d (.bool (inR l s c))) [] := by
  have la := last_ref l s c hk hs
  simp only [lA] at la
  have hr := lastN_range (p := isC l c) (s := s) s.length
  rw [show lastN (isC l c) s s.length = lastR l s c from rfl] at hr
  refine spec_of_ev (fn := Tryz.f93) DX_ok 3000 Tryz.func93 rfl rfl (Nat.le_of_ble_eq_true rfl) ?_
  simp (maxSteps := 4000000) -implicitDefEqProofs only [Tryz.f93, go_sem]
  simp (maxSteps := 4000000) -implicitDefEqProofs only [go_sem, lA, Option.some.injEq, forall_eq', and_true, true_and, Bool.not_true, Bool.not_false, decide_true, Nat.reduceAdd, Nat.reduceSub, Nat.reduceLT, Nat.reduceLeDiff, Nat.reduceEqDiff, ↓reduceIte]
  refine ecall0 _ la (by simp only [go_sem]) (by simp only [go_sem]) ?_
  cases h1 : decide (0 ≤ lastR l s c)
  case false =>
    simp (maxSteps := 4000000) -implicitDefEqProofs only [go_sem, h1, Option.some.injEq, forall_eq', and_true, true_and, Bool.not_true, Bool.not_false, decide_true, Nat.reduceAdd, Nat.reduceSub, Nat.reduceLT, Nat.reduceLeDiff, Nat.reduceEqDiff, ↓reduceIte]
    exact wk_bool (by simp [inR, h1])
  have h1' := of_decide_eq_true h1
  obtain ⟨k, x, hk2, hx, -⟩ := lastN_get (Nat.le_refl _) h1'
  rw [show lastN (isC l c) s s.length = lastR l s c from rfl] at hk2
  have hlt := some_lt hx
  have n1 : (0 ≤ (k : Int) ∧ (k : Int) < s.length) = True := eq_true (by omega)
  have n2 : (k < s.length) = True := eq_true (by omega)
  have e : inR l s c = (x.kd != 3) := by
    unfold inR kdAt
    rw [h1, hk2, Int.toNat_natCast, hx]; rfl
  rw [hk2] at h1 ⊢
  simp (maxSteps := 4000000) -implicitDefEqProofs only [go_sem, h1, n1, n2, hx, Option.some.injEq, forall_eq', and_true, true_and, Bool.not_true, Bool.not_false, decide_true, Nat.reduceAdd, Nat.reduceSub, Nat.reduceLT, Nat.reduceLeDiff, Nat.reduceEqDiff, ↓reduceIte]
  exact wk_bool e.symm
def allR (l : Lg) (s : List Ev) (x : Ev) : Int :=
  let c := classR l x.ch
  if x.kd < 1 ∨ 4 < x.kd then 2 else if inR l s c = true ∧ x.kd ≠ 3 then 30 else if x.kd = 1 ∧ 0 ≤ lastR l s c then 14
  else if x.kd = 3 ∧ inR l s c = false ∨ x.kd = 4 ∧ lastR l s c < 0 then 36 else 0
theorem allowed_ref (l : Lg) (s : List Ev) (x : Ev) (hk : Sm l.kn.length) (hs : Sm s.length) : Spec Tryz.prog 53 [lA l, .d (.sl (s.map eD)), .agg [.d (.int .u8 x.kd), .d (.str x.ch)]] [] (.d (.int .i64 (allR l s x))) [] := by
  have cl := class_ref l x.ch hk
  obtain ⟨c, hc⟩ : ∃ c, c = classR l x.ch := ⟨_, rfl⟩
  have la := last_ref l s c hk hs
  have li := in_ref l s c hk hs
  simp only [lA] at cl la li
  rw [← hc] at cl
  obtain ⟨R, hR⟩ : ∃ R, R = allR l s x := ⟨_, rfl⟩
  rw [← hR]
  unfold allR at hR
  simp only [← hc] at hR
  obtain ⟨kd, ch⟩ := x
  simp only at hR cl ⊢
  obtain ⟨b, hb⟩ : ∃ b, b = inR l s c := ⟨_, rfl⟩
  obtain ⟨a, ha⟩ : ∃ b, b = lastR l s c := ⟨_, rfl⟩
  rw [← hb] at li hR
  rw [← ha] at la hR
  have fin : ∀ {x y : Int} {σ : List AObj}, x = y → Wk 0 [.d (.int .i64 x)] σ [.d (.int .i64 y)] [] := fun e => by subst e; exact Wk.forget (by simp only [go_sem]) (by simp only [go_sem])
  refine spec_of_ev (fn := Tryz.f53) DX_ok 3000 Tryz.func53 rfl rfl (Nat.le_of_ble_eq_true rfl) ?_
  simp (maxSteps := 4000000) -implicitDefEqProofs only [Tryz.f53, go_sem]
  simp (maxSteps := 4000000) -implicitDefEqProofs only [go_sem, lA, Option.some.injEq, forall_eq', and_true, true_and, Bool.not_true, Bool.not_false, decide_true, Nat.reduceAdd, Nat.reduceSub, Nat.reduceLT, Nat.reduceLeDiff, Nat.reduceEqDiff, ↓reduceIte]
  refine ecall0 _ cl (by simp only [go_sem]) (by simp only [go_sem]) ?_
  cases k1 : decide (kd < 1)
  case true =>
    simp (maxSteps := 4000000) -implicitDefEqProofs only [go_sem, k1, Option.some.injEq, forall_eq', and_true, true_and, Bool.not_true, Bool.not_false, decide_true, Nat.reduceAdd, Nat.reduceSub, Nat.reduceLT, Nat.reduceLeDiff, Nat.reduceEqDiff, ↓reduceIte]
    exact fin (by rw [hR, if_pos (.inl (of_decide_eq_true k1))])
  cases k2 : decide (4 < kd)
  case true =>
    simp (maxSteps := 4000000) -implicitDefEqProofs only [go_sem, k1, k2, Option.some.injEq, forall_eq', and_true, true_and, Bool.not_true, Bool.not_false, decide_true, Nat.reduceAdd, Nat.reduceSub, Nat.reduceLT, Nat.reduceLeDiff, Nat.reduceEqDiff, ↓reduceIte]
    exact fin (by rw [hR, if_pos (.inr (of_decide_eq_true k2))])
  have k1' := of_decide_eq_false k1
  have k2' := of_decide_eq_false k2
  rw [if_neg (by omega)] at hR
  simp (maxSteps := 4000000) -implicitDefEqProofs only [go_sem, k1, k2, Option.some.injEq, forall_eq', and_true, true_and, Bool.not_true, Bool.not_false, decide_true, Nat.reduceAdd, Nat.reduceSub, Nat.reduceLT, Nat.reduceLeDiff, Nat.reduceEqDiff, ↓reduceIte]
  refine ecall0 _ li (by simp only [go_sem]) (by simp only [go_sem]) ?_
  have hv : kd = 1 ∨ kd = 2 ∨ kd = 3 ∨ kd = 4 := by omega
  rcases hv with h | h | h | h
  · skip
    have e1 : (kd == 1) = true := by rw [h]; rfl
    have e2 : (kd == 3) = false := by rw [h]; rfl
    have e3 : (kd == 4) = false := by rw [h]; rfl
    have e4 : (kd != 3) = true := by rw [h]; rfl
    cases b
    case true =>
      simp (maxSteps := 4000000) -implicitDefEqProofs only [go_sem, e1, e2, e3, e4, Option.some.injEq, forall_eq', and_true, true_and, Bool.not_true, Bool.not_false, decide_true, Nat.reduceAdd, Nat.reduceSub, Nat.reduceLT, Nat.reduceLeDiff, Nat.reduceEqDiff, ↓reduceIte]
      exact fin (by rw [hR]; simp [h])
    simp (maxSteps := 4000000) -implicitDefEqProofs only [go_sem, e1, e2, e3, e4, Option.some.injEq, forall_eq', and_true, true_and, Bool.not_true, Bool.not_false, decide_true, Nat.reduceAdd, Nat.reduceSub, Nat.reduceLT, Nat.reduceLeDiff, Nat.reduceEqDiff, ↓reduceIte]
    refine ecall0 _ la (by simp only [go_sem]) (by simp only [go_sem]) ?_
    cases k3 : decide (0 ≤ a)
    case true =>
      have := of_decide_eq_true k3
      simp (maxSteps := 4000000) -implicitDefEqProofs only [go_sem, k3, e1, e2, e3, e4, Option.some.injEq, forall_eq', and_true, true_and, Bool.not_true, Bool.not_false, decide_true, Nat.reduceAdd, Nat.reduceSub, Nat.reduceLT, Nat.reduceLeDiff, Nat.reduceEqDiff, ↓reduceIte]
      exact fin (by rw [hR]; simp [h, this])
    have := of_decide_eq_false k3
    simp (maxSteps := 4000000) -implicitDefEqProofs only [go_sem, k3, e1, e2, e3, e4, Option.some.injEq, forall_eq', and_true, true_and, Bool.not_true, Bool.not_false, decide_true, Nat.reduceAdd, Nat.reduceSub, Nat.reduceLT, Nat.reduceLeDiff, Nat.reduceEqDiff, ↓reduceIte]
    exact fin (by rw [hR]; simp [h, this])
  · skip
    have e1 : (kd == 1) = false := by rw [h]; rfl
    have e2 : (kd == 3) = false := by rw [h]; rfl
    have e3 : (kd == 4) = false := by rw [h]; rfl
    have e4 : (kd != 3) = true := by rw [h]; rfl
    cases b
    case' true => simp (maxSteps := 4000000) -implicitDefEqProofs only [go_sem, e1, e2, e3, e4, Option.some.injEq, forall_eq', and_true, true_and, Bool.not_true, Bool.not_false, decide_true, Nat.reduceAdd, Nat.reduceSub, Nat.reduceLT, Nat.reduceLeDiff, Nat.reduceEqDiff, ↓reduceIte]
    case' false => simp (maxSteps := 4000000) -implicitDefEqProofs only [go_sem, e1, e2, e3, e4, Option.some.injEq, forall_eq', and_true, true_and, Bool.not_true, Bool.not_false, decide_true, Nat.reduceAdd, Nat.reduceSub, Nat.reduceLT, Nat.reduceLeDiff, Nat.reduceEqDiff, ↓reduceIte]
    all_goals exact fin (by rw [hR]; simp [h])
  · skip
    have e1 : (kd == 1) = false := by rw [h]; rfl
    have e2 : (kd == 3) = true := by rw [h]; rfl
    have e3 : (kd == 4) = false := by rw [h]; rfl
    have e4 : (kd != 3) = false := by rw [h]; rfl
    cases b
    all_goals
      simp (maxSteps := 4000000) -implicitDefEqProofs only [go_sem, e1, e2, e3, e4, Option.some.injEq, forall_eq', and_true, true_and, Bool.not_true, Bool.not_false, decide_true, Nat.reduceAdd, Nat.reduceSub, Nat.reduceLT, Nat.reduceLeDiff, Nat.reduceEqDiff, ↓reduceIte]
      refine ecall0 _ li (by simp only [go_sem]) (by simp only [go_sem]) ?_
      simp (maxSteps := 4000000) -implicitDefEqProofs only [go_sem, e1, e2, e3, e4, Option.some.injEq, forall_eq', and_true, true_and, Bool.not_true, Bool.not_false, decide_true, Nat.reduceAdd, Nat.reduceSub, Nat.reduceLT, Nat.reduceLeDiff, Nat.reduceEqDiff, ↓reduceIte]
      exact fin (by rw [hR]; simp [h])
  · skip
    have e1 : (kd == 1) = false := by rw [h]; rfl
    have e2 : (kd == 3) = false := by rw [h]; rfl
    have e3 : (kd == 4) = true := by rw [h]; rfl
    have e4 : (kd != 3) = true := by rw [h]; rfl
    cases b
    case true =>
      simp (maxSteps := 4000000) -implicitDefEqProofs only [go_sem, e1, e2, e3, e4, Option.some.injEq, forall_eq', and_true, true_and, Bool.not_true, Bool.not_false, decide_true, Nat.reduceAdd, Nat.reduceSub, Nat.reduceLT, Nat.reduceLeDiff, Nat.reduceEqDiff, ↓reduceIte]
      exact fin (by rw [hR]; simp [h])
    simp (maxSteps := 4000000) -implicitDefEqProofs only [go_sem, e1, e2, e3, e4, Option.some.injEq, forall_eq', and_true, true_and, Bool.not_true, Bool.not_false, decide_true, Nat.reduceAdd, Nat.reduceSub, Nat.reduceLT, Nat.reduceLeDiff, Nat.reduceEqDiff, ↓reduceIte]
    refine ecall0 _ la (by simp only [go_sem]) (by simp only [go_sem]) ?_
    cases k3 : decide (a < 0)
    case true =>
      have := of_decide_eq_true k3
      simp (maxSteps := 4000000) -implicitDefEqProofs only [go_sem, k3, e1, e2, e3, e4, Option.some.injEq, forall_eq', and_true, true_and, Bool.not_true, Bool.not_false, decide_true, Nat.reduceAdd, Nat.reduceSub, Nat.reduceLT, Nat.reduceLeDiff, Nat.reduceEqDiff, ↓reduceIte]
      exact fin (by rw [hR]; simp [h, this])
    have := of_decide_eq_false k3
    simp (maxSteps := 4000000) -implicitDefEqProofs only [go_sem, k3, e1, e2, e3, e4, Option.some.injEq, forall_eq', and_true, true_and, Bool.not_true, Bool.not_false, decide_true, Nat.reduceAdd, Nat.reduceSub, Nat.reduceLT, Nat.reduceLeDiff, Nat.reduceEqDiff, ↓reduceIte]
    exact fin (by rw [hR]; simp [h, this])
end Go.AX.Lg
namespace Go.AX.Lg
open Go.Proofs Go.RowKit Go.IntWalk Go.AX.Br
def stepE (l : Lg) (s : Sta) (x : Ev) : Sta := put s x.kd (clI l x.ch).toNat
def foldE (l : Lg) (s : List Ev) : Sta := s.foldl (stepE l) sta0
theorem foldS_foldE {l : Lg} {v : List Mk} (h : ∀ m ∈ v, InR l m) : foldS l v = foldE l (seenL l v) := by
  unfold foldS foldE seenL
  have : ∀ (v : List Mk) (S : Sta), (∀ m ∈ v, InR l m) → v.foldl (stepS l) S = (v.filterMap (evAt l)).foldl (stepE l) S := by
    intro v
    induction v with
    | nil => intros; rfl
    | cons m v ih =>
      intro S h
      obtain ⟨b, e, s, x, rfl, hb, he⟩ := h m (by simp)
      rw [List.filterMap_cons, evAt_in hb he, List.foldl_cons, List.foldl_cons, ih _ fun m hm => h m (by simp [hm])]
      simp only [stepS, evAt_in hb he, stepE]
  exact this v _ h
theorem foldE_snoc (l : Lg) (s : List Ev) (x : Ev) : foldE l (s ++ [x]) = put (foldE l s) x.kd (clI l x.ch).toNat := by
  simp [foldE, stepE]
theorem foldE_ok (l : Lg) (s : List Ev) : (foldE l s).Ok := by
  unfold foldE
  have : ∀ (v : List Ev) (s : Sta), s.Ok → (v.foldl (stepE l) s).Ok := by
    intro v
    induction v with
    | nil => exact fun s h => h
    | cons m v ih => exact fun s h => ih _ (put_ok h _ _)
  exact this s _ sta0_ok
def Nd (l : Lg) : Prop := (l.kn.map (·.ch)).Nodup
theorem look_none {ch : ByteArray} : ∀ {kn : List Kn} {m : List (ByteArray × Int)}, ch ∉ kn.map (·.ch) → look ch (kn.foldl (fun m k => mput k.ch k.cl m) m) = look ch m
  | [], m, _ => rfl
  | k :: kn, m, h => by
    simp only [List.map_cons, List.mem_cons, not_or] at h
    simp only [List.foldl_cons]
    rw [look_none h.2, look_put, if_neg (by intro e; exact h.1 e)]
theorem class_look {l : Lg} (h : Nd l) (ch : ByteArray) : look ch (clsM l.kn) = classN l ch := by
  unfold clsM classN
  have : ∀ (kn : List Kn) (m : List (ByteArray × Int)), (kn.map (·.ch)).Nodup → (∀ k ∈ kn, look k.ch m = none) → look ch (kn.foldl (fun m k => mput k.ch k.cl m) m) = ((kn.find? (hasC ch)).map (·.cl)).or (look ch m) := by
    intro kn
    induction kn with
    | nil => intro m _ _; rfl
    | cons k kn ih =>
      intro m hn hm
      simp only [List.map_cons, List.nodup_cons] at hn
      simp only [List.foldl_cons, List.find?]
      cases q : hasC ch k
      · rw [ih _ hn.2 (fun k' hk' => by
          rw [look_put, if_neg (by intro e; exact hn.1 (by rw [← e]; exact List.mem_map_of_mem hk'))]
          exact hm k' (by simp [hk']))]
        simp only
        rw [look_put, if_neg (by intro e; simp [hasC, e] at q)]
      · have e : k.ch = ch := by simpa [hasC] using q
        subst e
        rw [look_none hn.1, look_put, if_pos rfl]; rfl
  rw [this l.kn [] h (fun _ _ => rfl)]
  cases (l.kn.find? (hasC ch)).map (·.cl) <;> rfl
def Known (l : Lg) (s : List Ev) : Prop := ∀ x ∈ s, ∃ c, classN l x.ch = some c
theorem classN_range {l : Lg} (h : Kv l) {ch : ByteArray} {c : Int} (hc : classN l ch = some c) : 0 ≤ c ∧ c < 30 := by
  unfold classN at hc
  cases q : l.kn.find? (hasC ch) with
  | none => rw [q] at hc; simp at hc
  | some k =>
    rw [q] at hc
    simp only [Option.map_some, Option.some.injEq] at hc
    subst hc
    exact h k (List.mem_of_find?_eq_some q)
theorem clI_of {l : Lg} (hn : Nd l) {ch : ByteArray} {c : Int} (hc : classN l ch = some c) : clI l ch = c := by
  rw [clI, class_look hn, hc]; rfl
theorem classR_of {l : Lg} {ch : ByteArray} {c : Int} (hc : classN l ch = some c) : classR l ch = c := by
  rw [classR, hc]; rfl
theorem bAt_set {l : List Bool} {i c : Nat} {b : Bool} (h : i < l.length) : bAt (l.set i b) c = if c = i then b else bAt l c := by
  unfold bAt
  by_cases e : c = i
  · subst e; rw [List.getElem?_set_self h, if_pos rfl]; rfl
  · rw [List.getElem?_set_ne (Ne.symm e), if_neg e]
theorem kdAt_pre {s : List Ev} {x : Ev} {k : Int} (h : k < s.length) (h0 : 0 ≤ k) : kdAt (s ++ [x]) k = kdAt s k := by
  unfold kdAt
  rw [List.getElem?_append_left (by omega)]
theorem state_ref {l : Lg} (hn : Nd l) (hk : Kv l) (s : List Ev) (hs : Known l s) (c : Nat) (hc : c < 30) :
    bAt (foldE l s).sn c = decide (0 ≤ lastR l s c) ∧ bAt (foldE l s).inn c = inR l s c := by
  induction hx : s.length generalizing s with
  | zero =>
    have : s = [] := List.length_eq_zero_iff.1 hx
    subst this
    have e : ∀ c : Nat, c < 30 → bAt (List.replicate 30 false) c = false := by decide
    exact ⟨(e c hc).trans (by simp [lastR, lastN]), (e c hc).trans (by simp [inR, lastR, lastN])⟩
  | succ n ih =>
    obtain ⟨t, x, rfl⟩ : ∃ t x, s = t ++ [x] := ⟨s.dropLast, s.getLast (by intro e; rw [e] at hx; simp at hx), (List.dropLast_concat_getLast _).symm⟩
    have ⟨i1, i2⟩ := ih t (fun y hy => hs y (by simp [hy])) (by simpa using hx)
    obtain ⟨d, hd⟩ := hs x (by simp)
    have hr := classN_range hk hd
    have ho := foldE_ok l t
    have ha := ho.a
    have hb := ho.b
    have lr := lastN_range (p := isC l c) (s := t) t.length
    rw [show lastN (isC l c) t t.length = lastR l t c from rfl] at lr
    have hiff : (c = d.toNat) ↔ d = c := by omega
    rw [foldE_snoc, clI_of hn hd, lastR_snoc]
    unfold put inR
    rw [lastR_snoc]
    simp only
    rw [bAt_set (by omega), bAt_set (by omega), i1, i2]
    unfold isC
    rw [classR_of hd]
    by_cases q : d = c
    · rw [if_pos (hiff.2 q), if_pos (hiff.2 q), if_pos (decide_eq_true q)]
      refine ⟨by simp, ?_⟩
      simp only [kdAt, Int.toNat_natCast, List.getElem?_append_right (Nat.le_refl _), Nat.sub_self, List.getElem?_cons_zero]
      simp
    · rw [if_neg (fun e => q (hiff.1 e)), if_neg (fun e => q (hiff.1 e))]
      simp only [decide_eq_false q, Bool.false_eq_true, if_false]
      refine ⟨trivial, ?_⟩
      unfold inR
      cases h : decide (0 ≤ lastR l t c)
      · rfl
      · rw [kdAt_pre (by omega) (of_decide_eq_true h)]
theorem allow_ref {l : Lg} (hn : Nd l) (hk : Kv l) {s : List Ev} (hs : Known l s) {x : Ev} {c : Int} (hc : classN l x.ch = some c) : allowR (foldE l s) x.kd c.toNat = allR l s x := by
  have hr := classN_range hk hc
  obtain ⟨h1, h2⟩ := state_ref hn hk s hs c.toNat (by omega)
  unfold allowR allR
  rw [classR_of hc, h1, h2, show ((c.toNat : Nat) : Int) = c by omega]
  simp only
  by_cases k1 : x.kd < 1 ∨ 4 < x.kd
  · rw [if_pos k1, if_pos k1]
  · rw [if_neg k1, if_neg k1]
    by_cases k3 : x.kd = 3
    · cases inR l s c <;> simp [k3]
    · rw [if_neg k3]
      cases inR l s c <;> simp [k3]
theorem list_ref {l : Lg} (hn : Nd l) (hk : Kv l) {s : List Ev} (hs : Known l s) : listL (foldE l s).inn 30 = ((List.range 30).filter fun (c : Nat) => inR l s c).map Int.ofNat := by
  unfold listL
  congr 1
  refine List.filter_congr fun c hc => ?_
  exact (state_ref hn hk s hs c (by simpa using hc)).2
theorem mput_len {k : ByteArray} {v : Int} : ∀ m : List (ByteArray × Int), (mput k v m).length = if look k m = none then m.length + 1 else m.length
  | [] => rfl
  | (a, b) :: m => by
    simp only [mput, look]
    by_cases e : k = a
    · simp [e]
    · have := mput_len (k := k) (v := v) m
      simp only [if_neg e, List.length_cons, this]
      split <;> rfl
theorem cls_len {l : Lg} : (clsM l.kn).length ≤ l.kn.length ∧ (Nd l ↔ (clsM l.kn).length = l.kn.length) := by
  obtain ⟨kn, br, ev⟩ := l
  simp only [Nd]
  clear br ev
  induction hx : kn.length generalizing kn with
  | zero =>
    have : kn = [] := List.length_eq_zero_iff.1 hx
    subst this
    simp [clsM]
  | succ n ih =>
    obtain ⟨t, x, rfl⟩ : ∃ t x, kn = t ++ [x] := ⟨kn.dropLast, kn.getLast (by intro e; rw [e] at hx; simp at hx), (List.dropLast_concat_getLast _).symm⟩
    have hl : t.length = n := by simpa using hx
    obtain ⟨i1, i2⟩ := ih t hl
    have e : clsM (t ++ [x]) = mput x.ch x.cl (clsM t) := by simp [clsM]
    have hlook : look x.ch (clsM t) = none ↔ x.ch ∉ t.map (·.ch) := by
      constructor
      · intro h hm
        have : ∀ (t : List Kn) (m : List (ByteArray × Int)), x.ch ∈ t.map (·.ch) ∨ look x.ch m ≠ none → look x.ch (t.foldl (fun m k => mput k.ch k.cl m) m) ≠ none := by
          intro t
          induction t with
          | nil => intro m h; simpa using h
          | cons k t ih2 =>
            intro m h
            refine ih2 _ ?_
            rw [look_put]
            by_cases q : x.ch = k.ch
            · right; rw [if_pos q]; simp
            · rw [if_neg q]
              rcases h with h | h
              · left; simpa [q] using h
              · exact .inr h
        exact this t [] (.inl hm) h
      · intro h; exact look_none h
    rw [e, mput_len, List.map_append, List.nodup_append]
    simp only [List.map_cons, List.map_nil]
    constructor
    · split <;> omega
    · constructor
      · rintro ⟨h1, -, h3⟩
        have := i2.1 h1
        rw [if_pos (hlook.2 fun hm => h3 _ hm x.ch (by simp) rfl)]; omega
      · intro h
        split at h
        · next q => exact ⟨i2.2 (by omega), by simp, fun a ha b hb e => by simp at hb; subst hb; subst e; exact hlook.1 q ha⟩
        · omega
end Go.AX.Lg
namespace Go.AX.Lg
open Go.Proofs Go.RowKit Go.IntWalk Go.AX.Br
theorem counts_dat (l : Lg) (hl : l.ev.length ≤ 1000) : Spec Tryz.prog 89 [lA l] [] (.d (.sl ((cntL l).map iD))) [] :=
  (counts_own l hl).wk (wk_dat (r' := .d (.sl ((cntL l).map iD))) (by simp only [go_sem]; rfl) rfl (by simp only [go_sem]))
theorem View_dat (l : List Br) (cs : List Int) (nm : ByteArray) (hl : Sm l.length) (hc : Sm cs.length) : Spec Tryz.prog 38 [.d (.sl (l.map bD)), .d (.sl (cs.map iD)), .d (.str nm)] [] (.tup [.d (.sl ((viewR l cs nm).1.map mkD)), .d (.int .i64 (viewR l cs nm).2)]) [] :=
  (View_own l cs nm hl hc).wk (wk_dat (r' := .tup [.d (.sl ((viewR l cs nm).1.map mkD)), .d (.int .i64 (viewR l cs nm).2)]) (by simp only [go_sem]; rfl) rfl (by simp only [go_sem]))
structure Tab (l : Lg) : Prop where
  g : Br.Good l.br (cntL l)
  fits : fits l.br (cntL l) = 0
theorem cnt_len (l : Lg) : (cntL l).length = l.ev.length := by simp [cntL]
theorem cnt_get {l : Lg} {i : Nat} {s : List Ev} (h : l.ev[i]? = some s) : (cntL l)[i]? = some (s.length : Int) := by simp [cntL, h]
theorem cnt_some {l : Lg} {i : Nat} {c : Int} (h : (cntL l)[i]? = some c) : ∃ s, l.ev[i]? = some s ∧ c = s.length := by
  simp only [cntL, List.getElem?_map] at h
  cases q : l.ev[i]? with
  | none => rw [q] at h; simp at h
  | some s => rw [q] at h; simp at h; exact ⟨s, rfl, h.symm⟩
theorem Tab.ev {l : Lg} (t : Tab l) : l.ev.length = l.br.length := by rw [← cnt_len]; exact t.g.len
theorem mark_in {l : Lg} (t : Tab l) {i : Nat} {v : List Mk} (hv : (vw l.br (cntL l))[i]? = some v) : ∀ m ∈ v, ∃ (b e : Nat) (s : List Ev) (x : Ev), m = ⟨b, e⟩ ∧ b ≤ i ∧ l.ev[b]? = some s ∧ s[e]? = some x := by
  intro m hm
  obtain ⟨p, hp⟩ := List.getElem?_of_mem hm
  obtain ⟨b, e, x, c, w, k1, k2, k3, k4, k5, k6, k7, k8⟩ := mark_pos t.g i v p m hv hp
  obtain ⟨s, hs, rfl⟩ := cnt_some k4
  exact ⟨b, e, s, s[e]'(by omega), k1, k2, hs, List.getElem?_eq_getElem _⟩
theorem inr_of {l : Lg} (t : Tab l) {i : Nat} {v : List Mk} (hv : (vw l.br (cntL l))[i]? = some v) : ∀ m ∈ v, InR l m := fun m hm => by
  obtain ⟨b, e, s, x, h1, -, h2, h3⟩ := mark_in t hv m hm
  exact ⟨b, e, s, x, h1, h2, h3⟩
theorem vw_shape {l : Lg} (t : Tab l) {i : Nat} {x : Br} {s : List Ev} {v : List Mk} (hx : l.br[i]? = some x) (hs : l.ev[i]? = some s) (hv : (vw l.br (cntL l))[i]? = some v) :
    ∃ pre : List Mk, v = pre ++ own i s.length ∧ pre.length = x.at'.toNat ∧ 0 ≤ x.at' ∧ (∀ m ∈ pre, ∃ (b e : Nat) (s : List Ev) (x : Ev), m = ⟨b, e⟩ ∧ b < i ∧ l.ev[b]? = some s ∧ s[e]? = some x) := by
  have hc := cnt_get hs
  rcases Nat.eq_zero_or_pos i with h0 | h0
  · subst h0
    have h1 := t.g.fit.zero _ v hc hv
    have h2 := (t.g.ok.root x hx).2
    exact ⟨[], by rw [h1]; rfl, by rw [h2]; rfl, by omega, by simp⟩
  · obtain ⟨j, f, j1, j2, j3, j4, j5⟩ := t.g.fit.step i x _ v h0 hx hc hv
    have hat := (t.g.ok.good i x hx).2.1
    refine ⟨f.take x.at'.toNat, j5, ?_, by omega, fun m hm => ?_⟩
    · rw [List.length_take]; omega
    · obtain ⟨b, e, s, y, h1, h2, h3, h4⟩ := mark_in t j3 m (List.mem_of_mem_take hm)
      exact ⟨b, e, s, y, h1, by omega, h3, h4⟩
theorem seen_own {l : Lg} {i : Nat} {s : List Ev} (hs : l.ev[i]? = some s) : seenL l (own i s.length) = s := by
  unfold seenL own
  rw [List.filterMap_map]
  simp only [Int.toNat_natCast]
  have : ∀ (n : Nat), n ≤ s.length → (List.range n).filterMap ((evAt l) ∘ fun (k : Nat) => (⟨i, k⟩ : Mk)) = s.take n := by
    intro n
    induction n with
    | zero => intro _; simp
    | succ n ih =>
      intro hn
      rw [List.range_succ, List.filterMap_append, ih (by omega), List.take_add_one]
      have : evAt l ⟨i, n⟩ = s[n]? := by simp [evAt, hs]
      simp only [List.filterMap_cons, Function.comp, this, List.filterMap_nil]
      cases s[n]? <;> rfl
  rw [this _ (Nat.le_refl _), List.take_length]
def badX (l : Lg) (s : List Ev) (x : Ev) : Bool := decide (classN l x.ch = none) || decide (allR l s x ≠ 0)
def badL (l : Lg) : List Ev → List Ev → Bool
  | _, [] => false
  | pre, x :: s => badX l pre x || badL l (pre ++ [x]) s
def atN (l : Lg) (i : Nat) : Nat := ((l.br[i]?).map (·.at'.toNat)).getD 0
def vwI (l : Lg) (i : Nat) : List Mk := (vw l.br (cntL l)).getD i []
def preE (l : Lg) (i : Nat) : List Ev := seenL l ((vwI l i).take (atN l i))
def badB (l : Lg) (i : Nat) : Bool := badL l (preE l i) ((l.ev[i]?).getD [])
theorem vwI_eq {l : Lg} {i : Nat} {v : List Mk} (hv : (vw l.br (cntL l))[i]? = some v) : vwI l i = v := by
  rw [vwI, List.getD_eq_getElem?_getD, hv]; rfl
structure At (l : Lg) (i : Nat) (x : Br) (s : List Ev) (v : List Mk) : Prop where
  hx : l.br[i]? = some x
  hs : l.ev[i]? = some s
  hv : (vw l.br (cntL l))[i]? = some v
  at0 : 0 ≤ x.at'
  len : v.length = x.at'.toNat + s.length
  inr : ∀ m ∈ v, InR l m
  seen : seenL l v = preE l i ++ s
  prel : (preE l i).length = x.at'.toNat
  tak : seenL l (v.take x.at'.toNat) = preE l i
  early : ∀ y ∈ preE l i, ∃ (b : Nat) (s : List Ev), b < i ∧ l.ev[b]? = some s ∧ y ∈ s
theorem at_of {l : Lg} (t : Tab l) {i : Nat} (hi : i < l.br.length) : ∃ x s v, At l i x s v := by
  have he := t.ev
  obtain ⟨x, hx⟩ : ∃ x, l.br[i]? = some x := ⟨l.br[i], List.getElem?_eq_getElem _⟩
  obtain ⟨s, hs⟩ : ∃ x, l.ev[i]? = some x := ⟨l.ev[i]'(by omega), List.getElem?_eq_getElem _⟩
  obtain ⟨v, hv⟩ := good_view t.g hi
  obtain ⟨pre, h1, h2, h0, h3⟩ := vw_shape t hx hs hv
  have hin := inr_of t hv
  have hp : v.take x.at'.toNat = pre := by rw [h1, ← h2]; simp
  have hpre : preE l i = seenL l pre := by
    rw [preE, vwI_eq hv, show atN l i = x.at'.toNat by simp [atN, hx], hp]
  refine ⟨x, s, v, hx, hs, hv, h0, ?_, hin, ?_, ?_, ?_, ?_⟩
  · rw [h1, List.length_append, own_len, h2]; simp
  · rw [hpre, h1]
    unfold seenL
    rw [List.filterMap_append]
    congr 1
    exact seen_own hs
  · rw [hpre, seenL_len fun m hm => hin m (by rw [h1]; simp [hm]), h2]
  · rw [hp, hpre]
  · intro y hy
    rw [hpre] at hy
    unfold seenL at hy
    obtain ⟨m, hm, he⟩ := List.mem_filterMap.1 hy
    obtain ⟨b, e, s', x', rfl, hb, hs', hx'⟩ := h3 m hm
    rw [evAt_in hs' hx'] at he
    cases he
    exact ⟨b, s', hb, hs', List.mem_of_getElem? hx'⟩
theorem badL_known {l : Lg} : ∀ {s pre : List Ev}, badL l pre s = false → Known l s
  | [], _, _ => fun x hx => by simp at hx
  | x :: s, pre, h => by
    simp only [badL, Bool.or_eq_false_iff] at h
    intro y hy
    rcases List.mem_cons.1 hy with rfl | hy
    · have := h.1
      simp only [badX, Bool.or_eq_false_iff, decide_eq_false_iff_not] at this
      cases q : classN l y.ch with
      | none => exact absurd q this.1
      | some c => exact ⟨c, rfl⟩
    · exact badL_known h.2 y hy
theorem badB_known {l : Lg} {i : Nat} {x : Br} {s : List Ev} {v : List Mk} (a : At l i x s v) (h : badB l i = false) : Known l s := by
  rw [badB, a.hs] at h
  exact badL_known h
theorem pre_known {l : Lg} {i : Nat} {x : Br} {s : List Ev} {v : List Mk} (a : At l i x s v) (h : ∀ j, j < i → badB l j = false) : Known l (preE l i) := fun y hy => by
  obtain ⟨b, s', hb, hs', hm⟩ := a.early y hy
  have := h b hb
  rw [badB, hs'] at this
  exact badL_known this y hm
theorem vname {l : Lg} (t : Tab l) {i : Nat} {x : Br} {s : List Ev} {v : List Mk} (a : At l i x s v) : viewR l.br (cntL l) x.name = (v, 0) := by
  have hi := t.g.ok.name i x a.hx
  have f := t.fits
  unfold viewR
  rw [if_neg (by omega), if_neg (by omega), hi, Int.toNat_natCast, List.getD_eq_getElem?_getD, a.hv]; rfl
theorem Tab.ev8 {l : Lg} (t : Tab l) : l.ev.length ≤ 8 := by have := t.ev; have := t.g.ok.len; omega
theorem begin_own (l : Lg) (t : Tab l) (hk : Kv l) (hkl : l.kn.length ≤ 30) {i : Nat} {x : Br} {s : List Ev} {v : List Mk} (a : At l i x s v) (hsl : s.length ≤ 40) (hat : x.at' ≤ 320) (M : List (ByteArray × Int)) (hM : M = clsM l.kn) :
    Spec Tryz.prog 104 [lA l, .mp 0, .d (.int .i64 i)] [.map false false (mD sD iD M)] (.ptr 1 0) [.map false false (mD sD iD M), .cells (stC (foldE l (preE l i)))] := by
  have te := t.ev
  have t8 := t.ev8
  have hil := some_lt a.hx
  have c1 := counts_dat l (by omega)
  have c2 := View_dat l.br (cntL l) x.name (by unfold Sm; omega) (by unfold Sm; rw [cnt_len]; omega)
  rw [vname t a] at c2
  simp only [lA] at c1 c2
  have n1 : (0 ≤ (i : Int) ∧ (i : Int) < l.br.length) = True := eq_true (by omega)
  have n2 : (i < l.br.length) = True := eq_true (by omega)
  have hx := a.hx
  refine spec_of_ev (fn := Tryz.f104) DX_ok 3000 Tryz.func104 rfl rfl (Nat.le_of_ble_eq_true rfl) ?_
  simp (maxSteps := 4000000) -implicitDefEqProofs only [Tryz.f104, go_sem, lA]
  refine DX.plain (.take 0 false (.take 1 false (.take 2 false (.take 3 false (.take 4 false (.take 5 false (.take 6 false (.take 7 false (.take 8 false (.take 9 false (.take 10 false (.take 11 false (.take 12 false (.take 13 false (.take 14 false (.take 15 false .done)))))))))))))))) (by kernel_rfl) (by kernel_rfl) Ty.mixed ?_
  simp (maxSteps := 4000000) -implicitDefEqProofs only [go_sem, n1, n2, hx, Option.some.injEq, forall_eq', and_true, true_and, Bool.not_true, Bool.not_false, decide_true, Nat.reduceAdd, Nat.reduceSub, Nat.reduceLT, Nat.reduceLeDiff, Nat.reduceEqDiff, ↓reduceIte]
  refine ⟨_, _, c1.lift0 _ (by simp only [go_sem]) (by simp only [go_sem]), rfl, ?_⟩
  refine ⟨_, _, c2.lift0 _ (by simp only [go_sem]) (by simp only [go_sem]), rfl, ?_⟩
  simp (maxSteps := 4000000) -implicitDefEqProofs only [go_sem, n1, n2, hx, Option.some.injEq, forall_eq', and_true, true_and, Bool.not_true, Bool.not_false, decide_true, Nat.reduceAdd, Nat.reduceSub, Nat.reduceLT, Nat.reduceLeDiff, Nat.reduceEqDiff, ↓reduceIte]
  have alen := a.len
  have at0 := a.at0
  refine ⟨⟨by omega, by omega, by omega⟩, ?_⟩
  obtain ⟨w, hw⟩ : ∃ w, w = v.take x.at'.toNat := ⟨_, rfl⟩
  have hv : ∀ m ∈ w, InR l m := fun m hm => a.inr m (by rw [hw] at hm; exact List.mem_of_mem_take hm)
  have hfin : foldE l (preE l i) = foldS l w := by rw [foldS_foldE hv, hw, a.tak]
  have hwl : w.length ≤ 400 := by rw [hw, List.length_take]; omega
  rw [← hw, hfin]
  refine eloop (S := Nat) (fun i => mkE 61 [(1, .mp 0), (3, .ptr 1 0), (7, .ptr 2 0), (35, .d (.sl (w.map mkD))), (36, .d (.int .i64 w.length)), (37, .d (.int .i64 i))]) (fun i => [.map false false (mD sD iD M), lH l, .cells (stC (foldS l (w.take i)))]) (fun i => i ≤ w.length) (fun i => w.length - i) 0 (by omega) ?_ ?_
  · have e0 : stC (foldS l (w.take 0)) = List.replicate 60 (.d (.bool false)) := rfl
    simp only [List.replicate] at e0
    rw [e0]
    exact (Wk.via [0, 1, 2] (by (simp only [go_sem, ↓reduceIte]) <;> trivial) (by (simp (maxSteps := 4000000) -implicitDefEqProofs only [go_sem, Nat.reduceAdd, Nat.reduceSub, Nat.reduceLT, Nat.reduceLeDiff, Nat.reduceEqDiff, ↓reduceIte]) <;> omega) (by simp) (by simp) (by (simp (maxSteps := 4000000) -implicitDefEqProofs only [go_sem, Nat.reduceAdd, Nat.reduceSub, Nat.reduceLT, Nat.reduceLeDiff, Nat.reduceEqDiff, ↓reduceIte]) <;> trivial) (by (simp (maxSteps := 4000000) -implicitDefEqProofs only [go_sem, Nat.reduceAdd, Nat.reduceSub, Nat.reduceLT, Nat.reduceLeDiff, Nat.reduceEqDiff, ↓reduceIte]) <;> omega) (Nat.le_of_ble_eq_true rfl) (at0_pre rfl))
  clear hx n1 n2 c1 c2 hfin
  intro i hi
  rcases Nat.lt_or_ge i w.length with h2 | h2
  case inr =>
    have f1 : decide ((i : Int) < w.length) = false := by simp; omega
    simp (maxSteps := 4000000) -implicitDefEqProofs only [go_sem, f1, Option.some.injEq, forall_eq', and_true, true_and, Bool.not_true, Bool.not_false, decide_true, Nat.reduceAdd, Nat.reduceSub, Nat.reduceLT, Nat.reduceLeDiff, Nat.reduceEqDiff, ↓reduceIte]
    rw [List.take_of_length_le h2]
    exact (Wk.via [0, 2] (by (simp only [go_sem, ↓reduceIte]) <;> trivial) (by (simp (maxSteps := 4000000) -implicitDefEqProofs only [go_sem, Nat.reduceAdd, Nat.reduceSub, Nat.reduceLT, Nat.reduceLeDiff, Nat.reduceEqDiff, ↓reduceIte]) <;> omega) (by simp) (by simp) (by (simp (maxSteps := 4000000) -implicitDefEqProofs only [go_sem, Nat.reduceAdd, Nat.reduceSub, Nat.reduceLT, Nat.reduceLeDiff, Nat.reduceEqDiff, ↓reduceIte]) <;> trivial) (by (simp (maxSteps := 4000000) -implicitDefEqProofs only [go_sem, Nat.reduceAdd, Nat.reduceSub, Nat.reduceLT, Nat.reduceLeDiff, Nat.reduceEqDiff, ↓reduceIte]) <;> omega) (Nat.le_of_ble_eq_true rfl) (at0_pre rfl))
  have f1 : decide ((i : Int) < w.length) = true := by simp; omega
  obtain ⟨m, hm⟩ : ∃ x, w[i]? = some x := ⟨w[i]'h2, List.getElem?_eq_getElem _⟩
  have n1 : (0 ≤ (i : Int) ∧ (i : Int) < w.length) = True := eq_true (by omega)
  have n2 : (i < w.length) = True := eq_true (by omega)
  have w1 : IntKind.i64.wrap ((i : Int) + 1) = ((i + 1 : Nat) : Int) := by rw [i64_in _ (by omega)]; simp
  obtain ⟨b, e, s, x, rfl, hb, he⟩ := hv m (List.mem_of_getElem? hm)
  have hfo := foldS_snoc hm (evAt_in hb he)
  have hok := foldS_ok l (w.take i)
  obtain ⟨S, hS⟩ : ∃ S, S = foldS l (w.take i) := ⟨_, rfl⟩
  rw [← hS] at hfo hok ⊢
  obtain ⟨kd, ch⟩ := x
  have hc := clI_range hk ch
  obtain ⟨c, hcc⟩ : ∃ c : Nat, clI l ch = c := ⟨(clI l ch).toNat, by omega⟩
  have hlb := some_lt hb
  have hle := some_lt he
  have m1 : (0 ≤ (b : Int) ∧ (b : Int) < l.ev.length) = True := eq_true (by omega)
  have m2 : (b < l.ev.length) = True := eq_true (by omega)
  have m3 : (0 ≤ (e : Int) ∧ (e : Int) < s.length) = True := eq_true (by omega)
  have m4 : (e < s.length) = True := eq_true (by omega)
  have a1 : (∃ x, (l.ev.map esD)[b]? = some x ∧ x.length = 1 ∧ AV.eptr x = AV.eptr [D.sl (s.map eD)]) = True := eq_true ⟨esD s, by simp [hb], rfl, rfl⟩
  have a2 : (∃ x, (s.map eD)[e]? = some x ∧ x.length = 2 ∧ AV.eptr x = AV.eptr [D.int .u8 kd, D.str ch]) = True := eq_true ⟨eD ⟨kd, ch⟩, by simp [he], rfl, rfl⟩
  have nd : (∃ ks, KeyT Tryz.prog 9 false ks ∧ kindOk false ks [D.str ch] ∧ ∀ y ∈ mD sD iD M, kindOk false ks y.1) = True := mneed (kD := sD) (vD := iD) Ty.keyT_9 sD_kind ch M
  have gd : (lkM [D.str ch] (mD sD iD M)).getD [D.int .i64 0] = [D.int .i64 (clI l ch)] := by
    have := lkM_mD (kD := sD) (vD := iD) sD_eq ch M
    rw [show [D.str ch] = sD ch from rfl, this, hM, clI]
    cases look ch (clsM l.kn) <;> rfl
  have hcc' : (D.int .i64 (clI l ch)) = D.int .i64 (c : Int) := by rw [hcc]
  simp (maxSteps := 4000000) -implicitDefEqProofs only [go_sem, f1, n1, n2, hm, Option.some.injEq, forall_eq', and_true, true_and, Bool.not_true, Bool.not_false, decide_true, Nat.reduceAdd, Nat.reduceSub, Nat.reduceLT, Nat.reduceLeDiff, Nat.reduceEqDiff, ↓reduceIte]
  refine DX.plain (.take 0 true (.take 1 true (.take 2 true (.take 3 true (.take 4 true (.take 5 true (.take 6 true (.take 7 true (.take 8 true (.take 9 true (.run [10] (fun _ => [true, true, true, true, true, true, true, true, true, true]) fun _ => (.run [11] (fun _ => [false, false, false, false, false, false, false, false, false, false]) fun _ => .done)))))))))))) (by kernel_rfl) (by kernel_rfl) Ty.mixed ?_
  simp (maxSteps := 4000000) -implicitDefEqProofs only [go_sem, m1, m2, m3, m4, hb, he, a1, a2, nd, gd, hcc', Option.some.injEq, forall_eq', and_true, true_and, Bool.not_true, Bool.not_false, decide_true, Nat.reduceAdd, Nat.reduceSub, Nat.reduceLT, Nat.reduceLeDiff, Nat.reduceEqDiff, ↓reduceIte]
  refine ecall1 2 _ (put_own S hok kd c (by omega)) (by simp only [go_sem]) (by (simp only [go_sem]) <;> omega) (by simp) (by simp only [go_sem]) (by simp only [go_sem]) ?_
  rw [hcc, Int.toNat_natCast] at hfo
  simp (maxSteps := 4000000) -implicitDefEqProofs only [go_sem, w1, Option.some.injEq, forall_eq', and_true, true_and, Bool.not_true, Bool.not_false, decide_true, Nat.reduceAdd, Nat.reduceSub, Nat.reduceLT, Nat.reduceLeDiff, Nat.reduceEqDiff, ↓reduceIte]
  exact .mk (i + 1) (by omega) (by omega) (by rw [hfo]; exact (Wk.via [0, 1, 2] (by (simp only [go_sem, ↓reduceIte]) <;> trivial) (by (simp (maxSteps := 4000000) -implicitDefEqProofs only [go_sem, Nat.reduceAdd, Nat.reduceSub, Nat.reduceLT, Nat.reduceLeDiff, Nat.reduceEqDiff, ↓reduceIte]) <;> omega) (by simp) (by simp) (by (simp (maxSteps := 4000000) -implicitDefEqProofs only [go_sem, Nat.reduceAdd, Nat.reduceSub, Nat.reduceLT, Nat.reduceLeDiff, Nat.reduceEqDiff, ↓reduceIte]) <;> trivial) (by (simp (maxSteps := 4000000) -implicitDefEqProofs only [go_sem, Nat.reduceAdd, Nat.reduceSub, Nat.reduceLT, Nat.reduceLeDiff, Nat.reduceEqDiff, ↓reduceIte]) <;> omega) (Nat.le_of_ble_eq_true rfl) (at0_pre rfl)))
end Go.AX.Lg
namespace Go.AX.Lg
open Go.Proofs Go.RowKit Go.IntWalk Go.AX.Br
def many (s : List Ev) : Bool := decide (40 < s.length)
def evA (s : List Ev) : AV := .d (.sl (s.map eD))
attribute [go_sem] evA
theorem many_own (s : List Ev) : Spec Tryz.prog 103 [.d (.sl (s.map eD))] [] (.d (.bool (many s))) [] := by
  refine spec_of_ev (fn := Tryz.f103) DX_ok 3000 Tryz.func103 rfl rfl (Nat.le_of_ble_eq_true rfl) ?_
  simp (maxSteps := 4000000) -implicitDefEqProofs only [Tryz.f103, go_sem]
  exact wk_bool (decide_eq_decide.2 (by omega))
theorem evs_indexFunc (l : List (List Ev)) (p : (List Ev) → Bool) (f : FuncId) (caps : List AV) (τ : List AObj) (hl : Sm l.length) (h : ∀ x ∈ l, Spec Tryz.prog f (evA x :: caps) τ (.d (.bool (p x))) τ) :
    Spec Tryz.prog 122 [.d (.sl (l.map esD)), .fn f caps] τ (.d (.int .i64 (idx p l))) τ := by
  unfold Sm at hl
  refine spec_of_ev (fn := Tryz.f122) DX_ok 3000 Tryz.func122 rfl rfl (Nat.le_of_ble_eq_true rfl) ?_
  simp (maxSteps := 4000000) -implicitDefEqProofs only [Tryz.f122, go_sem]
  refine eloop (S := Nat) (fun i => mkE 19 [(0, .d (.sl (l.map esD))), (1, .fn f caps), (6, .d (.sl (l.map esD))), (7, .d (.int .i64 l.length)), (8, .d (.int .i64 i))]) (fun i => τ) (fun i => i ≤ l.length ∧ ∀ j x, l[j]? = some x → j < i → p x = false) (fun i => l.length - i) 0 ⟨by omega, by omega⟩ (Wk.sub (by (simp only [go_sem]) <;> trivial)) ?_
  rintro i ⟨hi, hj⟩
  simp (maxSteps := 4000000) -implicitDefEqProofs only [go_sem, Nat.reduceAdd, Nat.reduceSub, Nat.reduceLT, Nat.reduceLeDiff, Nat.reduceEqDiff, ↓reduceIte]
  refine cbs (fun h1 => ?_) (fun h1 => ?_)
  · simp only [go_sem, decide_eq_true_eq] at h1 ⊢
    refine ⟨by omega, fun x hx => .all _ _ (h x (List.mem_of_getElem? hx)) ?_⟩
    simp (maxSteps := 4000000) -implicitDefEqProofs only [go_sem, Nat.reduceAdd, Nat.reduceSub, Nat.reduceLT, Nat.reduceLeDiff, Nat.reduceEqDiff, ↓reduceIte]
    refine cbs (fun h2 => ?_) (fun h2 => ?_)
    · simp (maxSteps := 4000000) -implicitDefEqProofs only [go_sem, Nat.reduceAdd, Nat.reduceSub, Nat.reduceLT, Nat.reduceLeDiff, Nat.reduceEqDiff, ↓reduceIte]
      rw [idx_found hx h2 hj]
      exact Wk.refl _ _ _
    · simp (maxSteps := 4000000) -implicitDefEqProofs only [go_sem, Nat.reduceAdd, Nat.reduceSub, Nat.reduceLT, Nat.reduceLeDiff, Nat.reduceEqDiff, ↓reduceIte]
      rw [i64_in _ (by omega)]
      refine .mk (i + 1) ⟨by omega, fun j y hy hlt => ?_⟩ (by omega) (Wk.sub (by (simp only [go_sem]) <;> trivial))
      rcases Nat.lt_or_ge j i with q | q
      · exact hj j y hy q
      · have : j = i := by omega
        subst this; rw [hx] at hy; cases hy; exact h2
  · simp only [go_sem, decide_eq_false_iff_not] at h1 ⊢
    rw [idx_none fun j y hy => hj j y hy (by have := some_lt hy; omega)]
    exact Wk.refl _ _ _
theorem evs_containsFunc (l : List (List Ev)) (p : (List Ev) → Bool) (f : FuncId) (caps : List AV) (τ : List AObj) (hl : Sm l.length) (h : ∀ x ∈ l, Spec Tryz.prog f (evA x :: caps) τ (.d (.bool (p x))) τ) :
    Spec Tryz.prog 102 [.d (.sl (l.map esD)), .fn f caps] τ (.d (.bool (l.any p))) τ := by
  refine spec_of_ev (fn := Tryz.f102) DX_ok 3000 Tryz.func102 rfl rfl (Nat.le_of_ble_eq_true rfl) ?_
  simp (maxSteps := 4000000) -implicitDefEqProofs only [Tryz.f102, go_sem]
  refine .all _ _ (evs_indexFunc l p f caps τ hl h) ?_
  simp (maxSteps := 4000000) -implicitDefEqProofs only [go_sem, Nat.reduceAdd, Nat.reduceSub, Nat.reduceLT, Nat.reduceLeDiff, Nat.reduceEqDiff, ↓reduceIte]
  rw [idx_any]
  exact Wk.refl _ _ _
def badK (k : Kn) : Bool := !isNm k.ch || decide (k.cl < 0) || decide (30 ≤ k.cl)
def lcheck (l : Lg) : Int :=
  if 30 < l.kn.length then 4 else if (clsM l.kn).length < l.kn.length then 14 else if l.kn.any badK then 8
  else if check l.br ≠ 0 then check l.br else if l.ev.length ≠ l.br.length then 2 else if l.ev.any many then 4
  else if fits l.br (cntL l) ≠ 0 then fits l.br (cntL l) else if (List.range l.ev.length).any (badB l) then 8 else 0
theorem any_f {α : Type} {p : α → Bool} {l : List α} (h : ∀ (j : Nat) (y : α), l[j]? = some y → p y = false) : l.any p = false := by
  rw [List.any_eq_false]
  intro x hx
  obtain ⟨i, hi⟩ := List.getElem?_of_mem hx
  rw [h i x hi]; simp
theorem any_t {α : Type} {p : α → Bool} {l : List α} {i : Nat} {x : α} (h : l[i]? = some x) (hp : p x = true) : l.any p = true :=
  List.any_eq_true.2 ⟨x, List.mem_of_getElem? h, hp⟩
theorem badL_drop {l : Lg} {pre s : List Ev} {k : Nat} {x : Ev} (hx : s[k]? = some x) : badL l (pre ++ s.take k) (s.drop k) = (badX l (pre ++ s.take k) x || badL l (pre ++ s.take (k + 1)) (s.drop (k + 1))) := by
  have hlt := some_lt hx
  rw [List.drop_eq_getElem_cons hlt, List.take_add_one, hx]
  simp only [badL, Option.toList_some, List.append_assoc]
  rw [(List.getElem?_eq_some_iff.1 hx).2]
theorem lcheck_own (l : Lg) (hk : l.kn.length ≤ 1000) (hb : l.br.length ≤ 1000) (he : l.ev.length ≤ 1000) : Spec Tryz.prog 70 [lA l] [] (.d (.int .i64 (lcheck l))) [] := by
  have c1 := classes_own l (by unfold Sm; omega)
  have c2 := counts_dat l he
  have c3 := Br.check_own l.br (by unfold Sm; omega)
  have c4 := fits_own l.br (cntL l) (by unfold Sm; omega) (by unfold Sm; rw [cnt_len]; omega)
  have c5 := evs_containsFunc l.ev many 103 [] [] (by unfold Sm; omega) (fun s _ => many_own s)
  obtain ⟨M, hM⟩ : ∃ M, M = clsM l.kn := ⟨_, rfl⟩
  simp only [lA] at c1 c2
  rw [← hM] at c1
  obtain ⟨R, hR⟩ : ∃ R, R = lcheck l := ⟨_, rfl⟩
  rw [← hR]
  unfold lcheck at hR
  rw [← hM] at hR
  have fin : ∀ {x y : Int} {σ : List AObj}, x = y → Wk 0 [.d (.int .i64 x)] σ [.d (.int .i64 y)] [] := fun e => by subst e; exact Wk.forget (by simp only [go_sem]) (by simp only [go_sem])
  refine spec_of_ev (fn := Tryz.f70) DX_ok 3000 Tryz.func70 rfl rfl (Nat.le_of_ble_eq_true rfl) ?_
  simp (maxSteps := 4000000) -implicitDefEqProofs only [Tryz.f70, go_sem, lA]
  cases k1 : decide (30 < l.kn.length)
  case true =>
    have := of_decide_eq_true k1
    have k1' : decide (30 < (l.kn.length : Int)) = true := decide_eq_true (by omega)
    simp (maxSteps := 4000000) -implicitDefEqProofs only [go_sem, k1', Option.some.injEq, forall_eq', and_true, true_and, Bool.not_true, Bool.not_false, decide_true, Nat.reduceAdd, Nat.reduceSub, Nat.reduceLT, Nat.reduceLeDiff, Nat.reduceEqDiff, ↓reduceIte]
    exact fin (by rw [hR, if_pos this])
  have k1x := of_decide_eq_false k1
  have k1' : decide (30 < (l.kn.length : Int)) = false := decide_eq_false (by omega)
  rw [if_neg k1x] at hR
  simp (maxSteps := 4000000) -implicitDefEqProofs only [go_sem, k1', Option.some.injEq, forall_eq', and_true, true_and, Bool.not_true, Bool.not_false, decide_true, Nat.reduceAdd, Nat.reduceSub, Nat.reduceLT, Nat.reduceLeDiff, Nat.reduceEqDiff, ↓reduceIte]
  refine ecallN _ _ c1 (by simp only [go_sem]) ?_
  have ml : (mD sD iD M).length = M.length := by simp [mD]
  cases k2 : decide (M.length < l.kn.length)
  case true =>
    have := of_decide_eq_true k2
    have k2' : decide ((M.length : Int) < l.kn.length) = true := decide_eq_true (by omega)
    simp (maxSteps := 4000000) -implicitDefEqProofs only [go_sem, ml, k2', Option.some.injEq, forall_eq', and_true, true_and, Bool.not_true, Bool.not_false, decide_true, Nat.reduceAdd, Nat.reduceSub, Nat.reduceLT, Nat.reduceLeDiff, Nat.reduceEqDiff, ↓reduceIte]
    exact fin (by rw [hR, if_pos this])
  have k2x := of_decide_eq_false k2
  have k2' : decide ((M.length : Int) < l.kn.length) = false := decide_eq_false (by omega)
  rw [if_neg k2x] at hR
  simp (maxSteps := 4000000) -implicitDefEqProofs only [go_sem, ml, k2', Option.some.injEq, forall_eq', and_true, true_and, Bool.not_true, Bool.not_false, decide_true, Nat.reduceAdd, Nat.reduceSub, Nat.reduceLT, Nat.reduceLeDiff, Nat.reduceEqDiff, ↓reduceIte]
  refine eloop (S := Nat) (fun i => mkE 115 [(1, .ptr 0 0), (3, .mp 1), (28, .d (.sl (l.kn.map kD))), (29, .d (.int .i64 l.kn.length)), (30, .d (.int .i64 i))]) (fun i => [lH l, .map false false (mD sD iD M)]) (fun i => i ≤ l.kn.length ∧ ∀ j y, l.kn[j]? = some y → j < i → badK y = false) (fun i => l.kn.length - i) 0 ⟨by omega, by omega⟩ (Wk.via [0, 1] (by (simp only [go_sem, ↓reduceIte]) <;> trivial) (by first | (simp (maxSteps := 4000000) -implicitDefEqProofs only [go_sem, Nat.reduceAdd, Nat.reduceSub, Nat.reduceLT, Nat.reduceLeDiff, Nat.reduceEqDiff, ↓reduceIte]; done) | ((simp (maxSteps := 4000000) -implicitDefEqProofs only [go_sem, Nat.reduceAdd, Nat.reduceSub, Nat.reduceLT, Nat.reduceLeDiff, Nat.reduceEqDiff, ↓reduceIte]) <;> omega)) (by simp) (by first | (simp; done) | (simp [so]; done)) (by (simp (maxSteps := 4000000) -implicitDefEqProofs only [go_sem, Nat.reduceAdd, Nat.reduceSub, Nat.reduceLT, Nat.reduceLeDiff, Nat.reduceEqDiff, ↓reduceIte]) <;> trivial) (by first | (simp only [go_sem]; done) | ((simp (maxSteps := 4000000) -implicitDefEqProofs only [go_sem, Nat.reduceAdd, Nat.reduceSub, Nat.reduceLT, Nat.reduceLeDiff, Nat.reduceEqDiff, ↓reduceIte]) <;> omega)) (Nat.zero_le _) (fun i h => absurd h (Nat.not_lt_zero i))) ?_
  rintro i ⟨hi, hj⟩
  rcases Nat.lt_or_ge i l.kn.length with h2 | h2
  case inl =>
    have f1 : decide ((i : Int) < l.kn.length) = true := by simp; omega
    obtain ⟨k, hkk⟩ : ∃ x, l.kn[i]? = some x := ⟨l.kn[i]'h2, List.getElem?_eq_getElem _⟩
    have n1 : (0 ≤ (i : Int) ∧ (i : Int) < l.kn.length) = True := eq_true (by omega)
    have n2 : (i < l.kn.length) = True := eq_true (by omega)
    have w1 : IntKind.i64.wrap ((i : Int) + 1) = ((i + 1 : Nat) : Int) := by rw [i64_in _ (by omega)]; simp
    have nx : badK k = false → ∀ j y, l.kn[j]? = some y → j < i + 1 → badK y = false := fun hb j y hy hlt => by
      rcases Nat.lt_or_ge j i with q | q
      · exact hj j y hy q
      · have : j = i := by omega
        subst this; rw [hkk] at hy; cases hy; exact hb
    simp (maxSteps := 4000000) -implicitDefEqProofs only [go_sem, f1, n1, n2, hkk, Option.some.injEq, forall_eq', and_true, true_and, Bool.not_true, Bool.not_false, decide_true, Nat.reduceAdd, Nat.reduceSub, Nat.reduceLT, Nat.reduceLeDiff, Nat.reduceEqDiff, ↓reduceIte]
    refine ecall0 _ (isName_own k.ch) (by simp only [go_sem]) (by simp only [go_sem]) ?_
    cases g1 : isNm k.ch
    case false =>
      simp (maxSteps := 4000000) -implicitDefEqProofs only [go_sem, w1, Option.some.injEq, forall_eq', and_true, true_and, Bool.not_true, Bool.not_false, decide_true, Nat.reduceAdd, Nat.reduceSub, Nat.reduceLT, Nat.reduceLeDiff, Nat.reduceEqDiff, ↓reduceIte]
      exact fin (by rw [hR, if_pos (any_t hkk (by simp [badK, g1]))])
    cases g2 : decide (k.cl < 0)
    case true =>
      simp (maxSteps := 4000000) -implicitDefEqProofs only [go_sem, g2, Option.some.injEq, forall_eq', and_true, true_and, Bool.not_true, Bool.not_false, decide_true, Nat.reduceAdd, Nat.reduceSub, Nat.reduceLT, Nat.reduceLeDiff, Nat.reduceEqDiff, ↓reduceIte]
      exact fin (by rw [hR, if_pos (any_t hkk (by simp [badK, g2]))])
    cases g3 : decide (30 ≤ k.cl)
    case true =>
      simp (maxSteps := 4000000) -implicitDefEqProofs only [go_sem, g2, g3, Option.some.injEq, forall_eq', and_true, true_and, Bool.not_true, Bool.not_false, decide_true, Nat.reduceAdd, Nat.reduceSub, Nat.reduceLT, Nat.reduceLeDiff, Nat.reduceEqDiff, ↓reduceIte]
      exact fin (by rw [hR, if_pos (any_t hkk (by simp [badK, g3]))])
    simp (maxSteps := 4000000) -implicitDefEqProofs only [go_sem, g2, g3, w1, Option.some.injEq, forall_eq', and_true, true_and, Bool.not_true, Bool.not_false, decide_true, Nat.reduceAdd, Nat.reduceSub, Nat.reduceLT, Nat.reduceLeDiff, Nat.reduceEqDiff, ↓reduceIte]
    exact .mk (i + 1) ⟨by omega, nx (by simp only [badK, g1, g2, g3]; rfl)⟩ (by omega) (Wk.via [0, 1] (by (simp only [go_sem, ↓reduceIte]) <;> trivial) (by first | (simp (maxSteps := 4000000) -implicitDefEqProofs only [go_sem, Nat.reduceAdd, Nat.reduceSub, Nat.reduceLT, Nat.reduceLeDiff, Nat.reduceEqDiff, ↓reduceIte]; done) | ((simp (maxSteps := 4000000) -implicitDefEqProofs only [go_sem, Nat.reduceAdd, Nat.reduceSub, Nat.reduceLT, Nat.reduceLeDiff, Nat.reduceEqDiff, ↓reduceIte]) <;> omega)) (by simp) (by first | (simp; done) | (simp [so]; done)) (by (simp (maxSteps := 4000000) -implicitDefEqProofs only [go_sem, Nat.reduceAdd, Nat.reduceSub, Nat.reduceLT, Nat.reduceLeDiff, Nat.reduceEqDiff, ↓reduceIte]) <;> trivial) (by first | (simp only [go_sem]; done) | ((simp (maxSteps := 4000000) -implicitDefEqProofs only [go_sem, Nat.reduceAdd, Nat.reduceSub, Nat.reduceLT, Nat.reduceLeDiff, Nat.reduceEqDiff, ↓reduceIte]) <;> omega)) (Nat.zero_le _) (fun i h => absurd h (Nat.not_lt_zero i)))
  have f1 : decide ((i : Int) < l.kn.length) = false := by simp; omega
  have nk : l.kn.any badK = false := any_f fun j y hy => hj j y hy (by have := some_lt hy; omega)
  rw [nk] at hR
  simp only [Bool.false_eq_true, if_false] at hR
  simp (maxSteps := 4000000) -implicitDefEqProofs only [go_sem, f1, Option.some.injEq, forall_eq', and_true, true_and, Bool.not_true, Bool.not_false, decide_true, Nat.reduceAdd, Nat.reduceSub, Nat.reduceLT, Nat.reduceLeDiff, Nat.reduceEqDiff, ↓reduceIte]
  refine ecall0 _ c3 (by simp only [go_sem]) (by simp only [go_sem]) ?_
  cases k3 : (check l.br != 0)
  case true =>
    have : check l.br ≠ 0 := by simpa using k3
    simp (maxSteps := 4000000) -implicitDefEqProofs only [go_sem, k3, Option.some.injEq, forall_eq', and_true, true_and, Bool.not_true, Bool.not_false, decide_true, Nat.reduceAdd, Nat.reduceSub, Nat.reduceLT, Nat.reduceLeDiff, Nat.reduceEqDiff, ↓reduceIte]
    exact fin (by rw [hR, if_pos this])
  have k3x : check l.br = 0 := by simpa using k3
  rw [if_neg (by omega)] at hR
  by_cases k4 : l.ev.length = l.br.length
  case neg =>
    have k4' : ((l.ev.length : Int) != l.br.length) = true := by simp; omega
    simp (maxSteps := 4000000) -implicitDefEqProofs only [go_sem, k3, k4', Option.some.injEq, forall_eq', and_true, true_and, Bool.not_true, Bool.not_false, decide_true, Nat.reduceAdd, Nat.reduceSub, Nat.reduceLT, Nat.reduceLeDiff, Nat.reduceEqDiff, ↓reduceIte]
    exact fin (by rw [hR, if_pos k4])
  have k4' : ((l.ev.length : Int) != l.br.length) = false := by simp [k4]
  rw [if_neg (by omega)] at hR
  simp (maxSteps := 4000000) -implicitDefEqProofs only [go_sem, k3, k4', Option.some.injEq, forall_eq', and_true, true_and, Bool.not_true, Bool.not_false, decide_true, Nat.reduceAdd, Nat.reduceSub, Nat.reduceLT, Nat.reduceLeDiff, Nat.reduceEqDiff, ↓reduceIte]
  refine ecall0 _ c5 (by simp only [go_sem]) (by simp only [go_sem]) ?_
  cases k5 : l.ev.any many
  case true =>
    simp (maxSteps := 4000000) -implicitDefEqProofs only [go_sem, k5, Option.some.injEq, forall_eq', and_true, true_and, Bool.not_true, Bool.not_false, decide_true, Nat.reduceAdd, Nat.reduceSub, Nat.reduceLT, Nat.reduceLeDiff, Nat.reduceEqDiff, ↓reduceIte]
    exact fin (by rw [hR, if_pos k5])
  rw [k5] at hR
  simp only [Bool.false_eq_true, if_false] at hR
  simp (maxSteps := 4000000) -implicitDefEqProofs only [go_sem, k5, Option.some.injEq, forall_eq', and_true, true_and, Bool.not_true, Bool.not_false, decide_true, Nat.reduceAdd, Nat.reduceSub, Nat.reduceLT, Nat.reduceLeDiff, Nat.reduceEqDiff, ↓reduceIte]
  refine DX.plain (.take 0 false (.take 1 false (.take 2 false (.take 3 false (.take 4 false (.take 5 false .done)))))) (by kernel_rfl) (by kernel_rfl) Ty.mixed ?_
  simp (maxSteps := 4000000) -implicitDefEqProofs only [go_sem, k5, Option.some.injEq, forall_eq', and_true, true_and, Bool.not_true, Bool.not_false, decide_true, Nat.reduceAdd, Nat.reduceSub, Nat.reduceLT, Nat.reduceLeDiff, Nat.reduceEqDiff, ↓reduceIte]
  refine ⟨_, _, c2.lift0 _ (by simp only [go_sem]) (by simp only [go_sem]), rfl, ?_⟩
  refine ⟨_, _, c4.lift0 _ (by simp only [go_sem]) (by simp only [go_sem]), rfl, ?_⟩
  simp (maxSteps := 4000000) -implicitDefEqProofs only [go_sem, Nat.reduceAdd, Nat.reduceSub, Nat.reduceLT, Nat.reduceLeDiff, Nat.reduceEqDiff, ↓reduceIte]
  cases k6 : (fits l.br (cntL l) != 0)
  case true =>
    have : fits l.br (cntL l) ≠ 0 := by simpa using k6
    simp (maxSteps := 4000000) -implicitDefEqProofs only [go_sem, k6, Option.some.injEq, forall_eq', and_true, true_and, Bool.not_true, Bool.not_false, decide_true, Nat.reduceAdd, Nat.reduceSub, Nat.reduceLT, Nat.reduceLeDiff, Nat.reduceEqDiff, ↓reduceIte]
    exact fin (by rw [hR, if_pos this])
  have k6x : fits l.br (cntL l) = 0 := by simpa using k6
  rw [if_neg (by omega)] at hR
  have t : Tab l := ⟨good_of k6x, k6x⟩
  simp (maxSteps := 4000000) -implicitDefEqProofs only [go_sem, k6, Option.some.injEq, forall_eq', and_true, true_and, Bool.not_true, Bool.not_false, decide_true, Nat.reduceAdd, Nat.reduceSub, Nat.reduceLT, Nat.reduceLeDiff, Nat.reduceEqDiff, ↓reduceIte]
  clear hj hi h2 f1 c1 c2 c3 c4 c5
  have nd : Nd l := cls_len.2.2 (by have := (cls_len (l := l)).1; rw [hM] at k2x; omega)
  have kv : Kv l := fun k hk => by
    have := List.any_eq_false.1 nk k hk
    simp only [badK, Bool.or_eq_true, Bool.not_eq_true', decide_eq_true_eq, not_or] at this
    omega
  have mk : ∀ (ch : ByteArray), (∃ ks, KeyT Tryz.prog 9 false ks ∧ kindOk false ks [D.str ch] ∧ ∀ y ∈ mD sD iD M, kindOk false ks y.1) = True := fun ch => mneed (kD := sD) (vD := iD) Ty.keyT_9 sD_kind ch M
  have lo : ∀ (ch : ByteArray), lkM [D.str ch] (mD sD iD M) = (classN l ch).map iD := fun ch => by
    rw [show [D.str ch] = sD ch from rfl, lkM_mD (kD := sD) (vD := iD) sD_eq ch M, hM, class_look nd]
  refine eloop (S := Nat) (fun i => mkE 115 [(1, .ptr 0 0), (3, .mp 1), (74, .d (.sl (l.ev.map esD))), (75, .d (.int .i64 l.ev.length)), (76, .d (.int .i64 i))]) (fun i => [lH l, .map false false (mD sD iD M)]) (fun i => i ≤ l.ev.length ∧ ∀ j, j < i → badB l j = false) (fun i => l.ev.length - i) 0 ⟨by omega, by omega⟩ (Wk.via [0, 1] (by (simp only [go_sem, ↓reduceIte]) <;> trivial) (by first | (simp (maxSteps := 4000000) -implicitDefEqProofs only [go_sem, Nat.reduceAdd, Nat.reduceSub, Nat.reduceLT, Nat.reduceLeDiff, Nat.reduceEqDiff, ↓reduceIte]; done) | ((simp (maxSteps := 4000000) -implicitDefEqProofs only [go_sem, Nat.reduceAdd, Nat.reduceSub, Nat.reduceLT, Nat.reduceLeDiff, Nat.reduceEqDiff, ↓reduceIte]) <;> omega)) (by simp) (by first | (simp; done) | (simp [so]; done)) (by (simp (maxSteps := 4000000) -implicitDefEqProofs only [go_sem, Nat.reduceAdd, Nat.reduceSub, Nat.reduceLT, Nat.reduceLeDiff, Nat.reduceEqDiff, ↓reduceIte]) <;> trivial) (by first | (simp only [go_sem]; done) | ((simp (maxSteps := 4000000) -implicitDefEqProofs only [go_sem, Nat.reduceAdd, Nat.reduceSub, Nat.reduceLT, Nat.reduceLeDiff, Nat.reduceEqDiff, ↓reduceIte]) <;> omega)) (Nat.zero_le _) (fun i h => absurd h (Nat.not_lt_zero i))) ?_
  rintro i ⟨hi, hj⟩
  rcases Nat.lt_or_ge i l.ev.length with h2 | h2
  case inr =>
    have f1 : decide ((i : Int) < l.ev.length) = false := by simp; omega
    simp (maxSteps := 4000000) -implicitDefEqProofs only [go_sem, f1, Option.some.injEq, forall_eq', and_true, true_and, Bool.not_true, Bool.not_false, decide_true, Nat.reduceAdd, Nat.reduceSub, Nat.reduceLT, Nat.reduceLeDiff, Nat.reduceEqDiff, ↓reduceIte]
    refine fin ?_
    rw [hR, if_neg]
    simp only [List.any_eq_true, List.mem_range, not_exists, not_and]
    intro j hj2
    rw [hj j (by omega)]; simp
  have f1 : decide ((i : Int) < l.ev.length) = true := by simp; omega
  obtain ⟨x, s, v, a⟩ := at_of t (i := i) (by omega)
  have hs := a.hs
  have n1 : (0 ≤ (i : Int) ∧ (i : Int) < l.ev.length) = True := eq_true (by omega)
  have n2 : (i < l.ev.length) = True := eq_true (by omega)
  have w1 : IntKind.i64.wrap ((i : Int) + 1) = ((i + 1 : Nat) : Int) := by rw [i64_in _ (by omega)]; simp
  have hsl : s.length ≤ 40 := by
    have := List.any_eq_false.1 k5 s (List.mem_of_getElem? hs)
    simp only [many, decide_eq_true_eq] at this
    omega
  have hat := (t.g.ok.good i x a.hx).2.2
  have bo := begin_own l t kv (by omega) a hsl hat M hM
  have kp := pre_known a hj
  have hbB : badB l i = badL l (preE l i) s := by rw [badB, hs]; rfl
  obtain ⟨pre, hpre⟩ : ∃ p, p = preE l i := ⟨_, rfl⟩
  rw [← hpre] at bo kp hbB
  simp only [lA] at bo
  simp (maxSteps := 4000000) -implicitDefEqProofs only [go_sem, f1, n1, n2, hs, Option.some.injEq, forall_eq', and_true, true_and, Bool.not_true, Bool.not_false, decide_true, Nat.reduceAdd, Nat.reduceSub, Nat.reduceLT, Nat.reduceLeDiff, Nat.reduceEqDiff, ↓reduceIte]
  refine .mk [1] [.agg [.d (.sl (l.kn.map kD)), .d (.sl (l.br.map bD)), .d (.sl (l.ev.map esD))], .mp 0, .d (.int .i64 i)] [.map false false (mD sD iD M)] _ _ rfl (by simp [bds, bd]) (by simp) (by simp) rfl (by simp [bdOs, bdO]) bo ?_
  simp (maxSteps := 4000000) -implicitDefEqProofs only [go_sem, Nat.reduceAdd, Nat.reduceSub, Nat.reduceLT, Nat.reduceLeDiff, Nat.reduceEqDiff, ↓reduceIte]
  refine eloop (S := Nat) (fun k => mkE 115 [(1, .ptr 0 0), (3, .mp 1), (10, .ptr 2 0), (74, .d (.sl (l.ev.map esD))), (75, .d (.int .i64 l.ev.length)), (76, .d (.int .i64 i)), (85, .d (.sl (s.map eD))), (86, .d (.int .i64 s.length)), (87, .d (.int .i64 k))]) (fun k => [lH l, .map false false (mD sD iD M), .cells (stC (foldE l (pre ++ s.take k)))]) (fun k => k ≤ s.length ∧ badL l pre s = badL l (pre ++ s.take k) (s.drop k) ∧ Known l (pre ++ s.take k)) (fun k => s.length - k) 0 ⟨by omega, by simp, by simpa using kp⟩ (by
    have e0 : pre ++ s.take 0 = pre := by simp
    rw [e0]; exact (Wk.via [0, 1, 2] (by (simp only [go_sem, ↓reduceIte]) <;> trivial) (by first | (simp (maxSteps := 4000000) -implicitDefEqProofs only [go_sem, Nat.reduceAdd, Nat.reduceSub, Nat.reduceLT, Nat.reduceLeDiff, Nat.reduceEqDiff, ↓reduceIte]; done) | ((simp (maxSteps := 4000000) -implicitDefEqProofs only [go_sem, Nat.reduceAdd, Nat.reduceSub, Nat.reduceLT, Nat.reduceLeDiff, Nat.reduceEqDiff, ↓reduceIte]) <;> omega)) (by simp) (by first | (simp; done) | (simp [so]; done)) (by (simp (maxSteps := 4000000) -implicitDefEqProofs only [go_sem, Nat.reduceAdd, Nat.reduceSub, Nat.reduceLT, Nat.reduceLeDiff, Nat.reduceEqDiff, ↓reduceIte]) <;> trivial) (by first | (simp only [go_sem]; done) | ((simp (maxSteps := 4000000) -implicitDefEqProofs only [go_sem, Nat.reduceAdd, Nat.reduceSub, Nat.reduceLT, Nat.reduceLeDiff, Nat.reduceEqDiff, ↓reduceIte]) <;> omega)) (Nat.zero_le _) (fun i h => absurd h (Nat.not_lt_zero i)))) ?_
  rintro k ⟨hk2, hbl, kn⟩
  rcases Nat.lt_or_ge k s.length with h3 | h3
  case inr =>
    have f1 : decide ((k : Int) < s.length) = false := by simp; omega
    have hb0 : badB l i = false := by
      rw [hbB, hbl, List.drop_eq_nil_of_le h3]; rfl
    simp (maxSteps := 4000000) -implicitDefEqProofs only [go_sem, f1, w1, Option.some.injEq, forall_eq', and_true, true_and, Bool.not_true, Bool.not_false, decide_true, Nat.reduceAdd, Nat.reduceSub, Nat.reduceLT, Nat.reduceLeDiff, Nat.reduceEqDiff, ↓reduceIte]
    refine .mk (i + 1) ⟨by omega, fun j hj2 => ?_⟩ (by omega) (Wk.via [0, 1] (by (simp only [go_sem, ↓reduceIte]) <;> trivial) (by first | (simp (maxSteps := 4000000) -implicitDefEqProofs only [go_sem, Nat.reduceAdd, Nat.reduceSub, Nat.reduceLT, Nat.reduceLeDiff, Nat.reduceEqDiff, ↓reduceIte]; done) | ((simp (maxSteps := 4000000) -implicitDefEqProofs only [go_sem, Nat.reduceAdd, Nat.reduceSub, Nat.reduceLT, Nat.reduceLeDiff, Nat.reduceEqDiff, ↓reduceIte]) <;> omega)) (by simp) (by first | (simp; done) | (simp [so]; done)) (by (simp (maxSteps := 4000000) -implicitDefEqProofs only [go_sem, Nat.reduceAdd, Nat.reduceSub, Nat.reduceLT, Nat.reduceLeDiff, Nat.reduceEqDiff, ↓reduceIte]) <;> trivial) (by first | (simp only [go_sem]; done) | ((simp (maxSteps := 4000000) -implicitDefEqProofs only [go_sem, Nat.reduceAdd, Nat.reduceSub, Nat.reduceLT, Nat.reduceLeDiff, Nat.reduceEqDiff, ↓reduceIte]) <;> omega)) (Nat.zero_le _) (fun i h => absurd h (Nat.not_lt_zero i)))
    rcases Nat.lt_or_ge j i with q | q
    · exact hj j q
    · have : j = i := by omega
      subst this; exact hb0
  have f2 : decide ((k : Int) < s.length) = true := by simp; omega
  obtain ⟨y, hy⟩ : ∃ x, s[k]? = some x := ⟨s[k]'h3, List.getElem?_eq_getElem _⟩
  have n3 : (0 ≤ (k : Int) ∧ (k : Int) < s.length) = True := eq_true (by omega)
  have n4 : (k < s.length) = True := eq_true (by omega)
  have w2 : IntKind.i64.wrap ((k : Int) + 1) = ((k + 1 : Nat) : Int) := by rw [i64_in _ (by omega)]; simp
  rw [badL_drop hy] at hbl
  have et : pre ++ s.take (k + 1) = pre ++ s.take k ++ [y] := by rw [List.take_add_one, hy]; simp
  have hfo := foldE_snoc l (pre ++ s.take k) y
  rw [← et] at hfo
  have hok := foldE_ok l (pre ++ s.take k)
  have out : badX l (pre ++ s.take k) y = true → R = 8 := fun hx => by
    rw [hR, if_pos]
    refine List.any_eq_true.2 ⟨i, by simpa using h2, ?_⟩
    rw [hbB, hbl, hx]; rfl
  have lo1 := lo y.ch
  have mk1 := mk y.ch
  obtain ⟨kd, ch⟩ := y
  simp only at lo1 mk1
  cases g1 : classN l ch with
  | none =>
    rw [g1] at lo1
    simp (maxSteps := 4000000) -implicitDefEqProofs only [go_sem, f2, n3, n4, hy, mk1, lo1, Option.some.injEq, forall_eq', and_true, true_and, Bool.not_true, Bool.not_false, decide_true, Nat.reduceAdd, Nat.reduceSub, Nat.reduceLT, Nat.reduceLeDiff, Nat.reduceEqDiff, ↓reduceIte]
    exact fin (out (by simp [badX, g1])).symm
  | some c =>
    rw [g1] at lo1
    have hc := classN_range kv g1
    have ar := allow_ref nd kv kn (x := ⟨kd, ch⟩) g1
    obtain ⟨c, rfl⟩ : ∃ n : Nat, c = n := ⟨c.toNat, by omega⟩
    have kn2 : Known l (pre ++ s.take (k + 1)) := fun y hy2 => by
      rw [et] at hy2
      rcases List.mem_append.1 hy2 with q | q
      · exact kn y q
      · simp at q; subst q; exact ⟨c, g1⟩
    simp only [Int.toNat_natCast] at ar
    simp only at hfo
    rw [clI_of nd g1, Int.toNat_natCast] at hfo
    have lo2 : (Option.map iD (some (c : Int))) = some [D.int .i64 (c : Int)] := rfl
    rw [lo2] at lo1
    obtain ⟨S, hS⟩ : ∃ S, S = foldE l (pre ++ s.take k) := ⟨_, rfl⟩
    rw [← hS] at hfo hok ar ⊢
    have ao := allow_own S hok kd c (by omega)
    rw [ar] at ao
    simp (maxSteps := 4000000) -implicitDefEqProofs only [go_sem, f2, n3, n4, hy, mk1, lo1, Option.some.injEq, forall_eq', and_true, true_and, Bool.not_true, Bool.not_false, decide_true, Nat.reduceAdd, Nat.reduceSub, Nat.reduceLT, Nat.reduceLeDiff, Nat.reduceEqDiff, ↓reduceIte]
    refine ecall1 2 _ ao (by simp only [go_sem]) (by (simp only [go_sem]) <;> omega) (by simp) (by simp only [go_sem]) (by simp only [go_sem]) ?_
    cases g2 : (allR l (pre ++ s.take k) ⟨kd, ch⟩ != 0)
    case true =>
      simp (maxSteps := 4000000) -implicitDefEqProofs only [go_sem, g2, Option.some.injEq, forall_eq', and_true, true_and, Bool.not_true, Bool.not_false, decide_true, Nat.reduceAdd, Nat.reduceSub, Nat.reduceLT, Nat.reduceLeDiff, Nat.reduceEqDiff, ↓reduceIte]
      exact fin (out (by
        have : allR l (pre ++ s.take k) ⟨kd, ch⟩ ≠ 0 := by simpa using g2
        simp [badX, this])).symm
    have g2x : allR l (pre ++ s.take k) ⟨kd, ch⟩ = 0 := by simpa using g2
    simp (maxSteps := 4000000) -implicitDefEqProofs only [go_sem, g2, Option.some.injEq, forall_eq', and_true, true_and, Bool.not_true, Bool.not_false, decide_true, Nat.reduceAdd, Nat.reduceSub, Nat.reduceLT, Nat.reduceLeDiff, Nat.reduceEqDiff, ↓reduceIte]
    refine ecall1 2 _ (put_own S hok kd c (by omega)) (by simp only [go_sem]) (by (simp only [go_sem]) <;> omega) (by simp) (by simp only [go_sem]) (by simp only [go_sem]) ?_
    simp (maxSteps := 4000000) -implicitDefEqProofs only [go_sem, w2, Option.some.injEq, forall_eq', and_true, true_and, Bool.not_true, Bool.not_false, decide_true, Nat.reduceAdd, Nat.reduceSub, Nat.reduceLT, Nat.reduceLeDiff, Nat.reduceEqDiff, ↓reduceIte]
    refine .mk (k + 1) ⟨by omega, ?_, kn2⟩ (by omega) (by rw [hfo]; exact (Wk.via [0, 1, 2] (by (simp only [go_sem, ↓reduceIte]) <;> trivial) (by first | (simp (maxSteps := 4000000) -implicitDefEqProofs only [go_sem, Nat.reduceAdd, Nat.reduceSub, Nat.reduceLT, Nat.reduceLeDiff, Nat.reduceEqDiff, ↓reduceIte]; done) | ((simp (maxSteps := 4000000) -implicitDefEqProofs only [go_sem, Nat.reduceAdd, Nat.reduceSub, Nat.reduceLT, Nat.reduceLeDiff, Nat.reduceEqDiff, ↓reduceIte]) <;> omega)) (by simp) (by first | (simp; done) | (simp [so]; done)) (by (simp (maxSteps := 4000000) -implicitDefEqProofs only [go_sem, Nat.reduceAdd, Nat.reduceSub, Nat.reduceLT, Nat.reduceLeDiff, Nat.reduceEqDiff, ↓reduceIte]) <;> trivial) (by first | (simp only [go_sem]; done) | ((simp (maxSteps := 4000000) -implicitDefEqProofs only [go_sem, Nat.reduceAdd, Nat.reduceSub, Nat.reduceLT, Nat.reduceLeDiff, Nat.reduceEqDiff, ↓reduceIte]) <;> omega)) (Nat.zero_le _) (fun i h => absurd h (Nat.not_lt_zero i))))
    rw [hbl]
    simp [badX, g1, g2x]
end Go.AX.Lg
namespace Go.AX.Lg
open Go.Proofs Go.RowKit Go.IntWalk Go.AX.Br
theorem nd_of {l : Lg} (h : ∀ (a b : Nat) (x y : Kn), l.kn[a]? = some x → l.kn[b]? = some y → a < b → x.ch ≠ y.ch) : Nd l := by
  unfold Nd List.Nodup
  rw [List.pairwise_iff_getElem]
  intro i j hi hj hlt
  simp only [List.length_map] at hi hj
  simp only [List.getElem_map]
  exact h i j _ _ (List.getElem?_eq_getElem hi) (List.getElem?_eq_getElem hj) hlt
theorem nd_no {l : Lg} {a b : Nat} {x y : Kn} (hx : l.kn[a]? = some x) (hy : l.kn[b]? = some y) (hlt : a < b) (he : x.ch = y.ch) : ¬ Nd l := fun h => by
  unfold Nd List.Nodup at h
  rw [List.pairwise_iff_getElem] at h
  have ha := some_lt hx
  have hb := some_lt hy
  have := h a b (by simpa using ha) (by simpa using hb) hlt
  simp only [List.getElem_map] at this
  rw [(List.getElem?_eq_some_iff.1 hx).2, (List.getElem?_eq_some_iff.1 hy).2] at this
  exact this he
theorem View_refD (l : Lg) (t : Tab l) {i : Nat} {x : Br} {s : List Ev} {v : List Mk} (a : At l i x s v) : Spec Tryz.prog 51 [.d (.sl (l.br.map bD)), .d (.sl ((cntL l).map iD)), .d (.str x.name)] [] (.tup [.d (.sl (v.map mkD)), .d (.int .i64 0)]) [] := by
  have t8 := t.ev8
  have te := t.ev
  have := View_ref l.br (cntL l) x.name (by unfold Sm; omega) (by unfold Sm; rw [cnt_len]; omega)
  rwa [vname t a] at this
theorem lcheck_ref (l : Lg) (hk : l.kn.length ≤ 1000) (hb : l.br.length ≤ 1000) (he : l.ev.length ≤ 1000) : Spec Tryz.prog 22 [lA l] [] (.d (.int .i64 (lcheck l))) [] := by
  have c2 := counts_ref l he
  have c3 := Br.check_ref l.br (by unfold Sm; omega)
  have c4 := fits_ref l.br (cntL l) (by unfold Sm; omega) (by unfold Sm; rw [cnt_len]; omega)
  simp only [lA] at c2
  obtain ⟨R, hR⟩ : ∃ R, R = lcheck l := ⟨_, rfl⟩
  rw [← hR]
  unfold lcheck at hR
  have fin : ∀ {x y : Int} {σ : List AObj}, x = y → Wk 0 [.d (.int .i64 x)] σ [.d (.int .i64 y)] [] := fun e => by subst e; exact Wk.forget (by simp only [go_sem]) (by simp only [go_sem])
  refine spec_of_ev (fn := Tryz.f22) DX_ok 3000 Tryz.func22 rfl rfl (Nat.le_of_ble_eq_true rfl) ?_
  simp (maxSteps := 4000000) -implicitDefEqProofs only [Tryz.f22, go_sem, lA]
  cases k1 : decide (30 < l.kn.length)
  case true =>
    have := of_decide_eq_true k1
    have k1' : decide (30 < (l.kn.length : Int)) = true := decide_eq_true (by omega)
    simp (maxSteps := 4000000) -implicitDefEqProofs only [go_sem, k1', Option.some.injEq, forall_eq', and_true, true_and, Bool.not_true, Bool.not_false, decide_true, Nat.reduceAdd, Nat.reduceSub, Nat.reduceLT, Nat.reduceLeDiff, Nat.reduceEqDiff, ↓reduceIte]
    exact fin (by rw [hR, if_pos this])
  have k1x := of_decide_eq_false k1
  have k1' : decide (30 < (l.kn.length : Int)) = false := decide_eq_false (by omega)
  rw [if_neg k1x] at hR
  simp (maxSteps := 4000000) -implicitDefEqProofs only [go_sem, k1', Option.some.injEq, forall_eq', and_true, true_and, Bool.not_true, Bool.not_false, decide_true, Nat.reduceAdd, Nat.reduceSub, Nat.reduceLT, Nat.reduceLeDiff, Nat.reduceEqDiff, ↓reduceIte]
  refine eloop (S := Nat) (fun i => mkE 172 [(1, .ptr 0 0), (3, .d (.int .i64 i))]) (fun i => [lH l]) (fun i => i ≤ l.kn.length ∧ ∀ (a b : Nat) (x y : Kn), l.kn[a]? = some x → l.kn[b]? = some y → a < b → b < i → x.ch ≠ y.ch) (fun i => l.kn.length - i) 0 ⟨by omega, by omega⟩ (Wk.sub (by (simp only [go_sem]) <;> trivial)) ?_
  rintro i ⟨hi, hj⟩
  rcases Nat.lt_or_ge i l.kn.length with h2 | h2
  case inl =>
    have f1 : decide ((i : Int) < l.kn.length) = true := by simp; omega
    obtain ⟨x, hx⟩ : ∃ x, l.kn[i]? = some x := ⟨l.kn[i]'h2, List.getElem?_eq_getElem _⟩
    have n1 : (0 ≤ (i : Int) ∧ (i : Int) < l.kn.length) = True := eq_true (by omega)
    have n2 : (i < l.kn.length) = True := eq_true (by omega)
    have w1 : IntKind.i64.wrap ((i : Int) + 1) = ((i + 1 : Nat) : Int) := by rw [i64_in _ (by omega)]; simp
    simp (maxSteps := 4000000) -implicitDefEqProofs only [go_sem, f1, Option.some.injEq, forall_eq', and_true, true_and, Bool.not_true, Bool.not_false, decide_true, Nat.reduceAdd, Nat.reduceSub, Nat.reduceLT, Nat.reduceLeDiff, Nat.reduceEqDiff, ↓reduceIte]
    refine eloop (S := Nat) (fun k => mkE 172 [(1, .ptr 0 0), (3, .d (.int .i64 i)), (4, .d (.int .i64 k))]) (fun k => [lH l]) (fun k => k ≤ i ∧ ∀ (a : Nat) (z : Kn), l.kn[a]? = some z → a < k → z.ch ≠ x.ch) (fun k => i - k) 0 ⟨by omega, by omega⟩ (Wk.sub (by (simp only [go_sem]) <;> trivial)) ?_
    rintro k ⟨hk2, hjk⟩
    rcases Nat.lt_or_ge k i with h3 | h3
    case inr =>
      have f2 : decide ((k : Int) < i) = false := by simp; omega
      simp (maxSteps := 4000000) -implicitDefEqProofs only [go_sem, f2, w1, Option.some.injEq, forall_eq', and_true, true_and, Bool.not_true, Bool.not_false, decide_true, Nat.reduceAdd, Nat.reduceSub, Nat.reduceLT, Nat.reduceLeDiff, Nat.reduceEqDiff, ↓reduceIte]
      refine .mk (i + 1) ⟨by omega, fun a b p q hp hq h4 h5 => ?_⟩ (by omega) (Wk.sub (by (simp only [go_sem]) <;> trivial))
      rcases Nat.lt_or_ge b i with h6 | h6
      · exact hj a b p q hp hq h4 h6
      · have : b = i := by omega
        subst this
        rw [hx] at hq; cases hq
        exact hjk a p hp (by omega)
    have f2 : decide ((k : Int) < i) = true := by simp; omega
    obtain ⟨z, hz⟩ : ∃ x, l.kn[k]? = some x := ⟨l.kn[k]'(by omega), List.getElem?_eq_getElem _⟩
    have n3 : (0 ≤ (k : Int) ∧ (k : Int) < l.kn.length) = True := eq_true (by omega)
    have n4 : (k < l.kn.length) = True := eq_true (by omega)
    have w2 : IntKind.i64.wrap ((k : Int) + 1) = ((k + 1 : Nat) : Int) := by rw [i64_in _ (by omega)]; simp
    by_cases h4 : z.ch = x.ch
    · have f3 : decide (z.ch = x.ch) = true := decide_eq_true h4
      have hnd := nd_no hz hx h3 h4
      have cl := (cls_len (l := l))
      have : (clsM l.kn).length < l.kn.length := by
        have := cl.1
        have : (clsM l.kn).length ≠ l.kn.length := fun e => hnd (cl.2.2 e)
        omega
      simp (maxSteps := 4000000) -implicitDefEqProofs only [go_sem, f2, Option.some.injEq, forall_eq', and_true, true_and, Bool.not_true, Bool.not_false, decide_true, Nat.reduceAdd, Nat.reduceSub, Nat.reduceLT, Nat.reduceLeDiff, Nat.reduceEqDiff, ↓reduceIte]
      refine DX.plain (.take 0 false (.take 1 false (.take 2 false (.take 3 false (.take 4 false (.take 5 false (.take 6 false (.take 7 false (.take 8 false (.take 9 false (.take 10 false (.take 11 false (.take 12 false .done))))))))))))) (by kernel_rfl) (by kernel_rfl) Ty.mixed ?_
      simp (maxSteps := 4000000) -implicitDefEqProofs only [go_sem, n1, n2, n3, n4, hx, hz, f3, Option.some.injEq, forall_eq', and_true, true_and, Bool.not_true, Bool.not_false, decide_true, Nat.reduceAdd, Nat.reduceSub, Nat.reduceLT, Nat.reduceLeDiff, Nat.reduceEqDiff, ↓reduceIte]
      exact fin (by rw [hR, if_pos this])
    · have f3 : decide (z.ch = x.ch) = false := decide_eq_false h4
      simp (maxSteps := 4000000) -implicitDefEqProofs only [go_sem, f2, Option.some.injEq, forall_eq', and_true, true_and, Bool.not_true, Bool.not_false, decide_true, Nat.reduceAdd, Nat.reduceSub, Nat.reduceLT, Nat.reduceLeDiff, Nat.reduceEqDiff, ↓reduceIte]
      refine DX.plain (.take 0 false (.take 1 false (.take 2 false (.take 3 false (.take 4 false (.take 5 false (.take 6 false (.take 7 false (.take 8 false (.take 9 false (.take 10 false (.take 11 false (.take 12 false .done))))))))))))) (by kernel_rfl) (by kernel_rfl) Ty.mixed ?_
      simp (maxSteps := 4000000) -implicitDefEqProofs only [go_sem, n1, n2, n3, n4, hx, hz, f3, w2, Option.some.injEq, forall_eq', and_true, true_and, Bool.not_true, Bool.not_false, decide_true, Nat.reduceAdd, Nat.reduceSub, Nat.reduceLT, Nat.reduceLeDiff, Nat.reduceEqDiff, ↓reduceIte]
      refine .mk (k + 1) ⟨by omega, fun a p hp hlt => ?_⟩ (by omega) (Wk.sub (by (simp only [go_sem]) <;> trivial))
      rcases Nat.lt_or_ge a k with h6 | h6
      · exact hjk a p hp h6
      · have : a = k := by omega
        subst this
        rw [hz] at hp; cases hp
        exact h4
  have f1 : decide ((i : Int) < l.kn.length) = false := by simp; omega
  have nd : Nd l := nd_of fun a b x y hx hy hlt => hj a b x y hx hy hlt (by have := some_lt hy; omega)
  rw [if_neg (by rw [cls_len.2.1 nd]; omega)] at hR
  simp (maxSteps := 4000000) -implicitDefEqProofs only [go_sem, f1, Option.some.injEq, forall_eq', and_true, true_and, Bool.not_true, Bool.not_false, decide_true, Nat.reduceAdd, Nat.reduceSub, Nat.reduceLT, Nat.reduceLeDiff, Nat.reduceEqDiff, ↓reduceIte]
  clear hj hi h2 f1
  refine eloop (S := Nat) (fun i => mkE 172 [(1, .ptr 0 0), (5, .d (.int .i64 i))]) (fun i => [lH l]) (fun i => i ≤ l.kn.length ∧ ∀ j y, l.kn[j]? = some y → j < i → badK y = false) (fun i => l.kn.length - i) 0 ⟨by omega, by omega⟩ (Wk.sub (by (simp only [go_sem]) <;> trivial)) ?_
  rintro i ⟨hi, hj⟩
  rcases Nat.lt_or_ge i l.kn.length with h2 | h2
  case inl =>
    have f1 : decide ((i : Int) < l.kn.length) = true := by simp; omega
    obtain ⟨k, hkk⟩ : ∃ x, l.kn[i]? = some x := ⟨l.kn[i]'h2, List.getElem?_eq_getElem _⟩
    have n1 : (0 ≤ (i : Int) ∧ (i : Int) < l.kn.length) = True := eq_true (by omega)
    have n2 : (i < l.kn.length) = True := eq_true (by omega)
    have w1 : IntKind.i64.wrap ((i : Int) + 1) = ((i + 1 : Nat) : Int) := by rw [i64_in _ (by omega)]; simp
    have nx : badK k = false → ∀ j y, l.kn[j]? = some y → j < i + 1 → badK y = false := fun hb j y hy hlt => by
      rcases Nat.lt_or_ge j i with q | q
      · exact hj j y hy q
      · have : j = i := by omega
        subst this; rw [hkk] at hy; cases hy; exact hb
    simp (maxSteps := 4000000) -implicitDefEqProofs only [go_sem, f1, n1, n2, hkk, Option.some.injEq, forall_eq', and_true, true_and, Bool.not_true, Bool.not_false, decide_true, Nat.reduceAdd, Nat.reduceSub, Nat.reduceLT, Nat.reduceLeDiff, Nat.reduceEqDiff, ↓reduceIte]
    refine ecall0 _ (name_ref k.ch) (by simp only [go_sem]) (by simp only [go_sem]) ?_
    cases g1 : isNm k.ch
    case false =>
      simp (maxSteps := 4000000) -implicitDefEqProofs only [go_sem, n1, n2, hkk, Option.some.injEq, forall_eq', and_true, true_and, Bool.not_true, Bool.not_false, decide_true, Nat.reduceAdd, Nat.reduceSub, Nat.reduceLT, Nat.reduceLeDiff, Nat.reduceEqDiff, ↓reduceIte]
      exact fin (by rw [hR, if_pos (any_t hkk (by simp [badK, g1]))])
    cases g2 : decide (k.cl < 0)
    case true =>
      simp (maxSteps := 4000000) -implicitDefEqProofs only [go_sem, n1, n2, hkk, g2, Option.some.injEq, forall_eq', and_true, true_and, Bool.not_true, Bool.not_false, decide_true, Nat.reduceAdd, Nat.reduceSub, Nat.reduceLT, Nat.reduceLeDiff, Nat.reduceEqDiff, ↓reduceIte]
      exact fin (by rw [hR, if_pos (any_t hkk (by simp [badK, g2]))])
    cases g3 : decide (30 ≤ k.cl)
    case true =>
      simp (maxSteps := 4000000) -implicitDefEqProofs only [go_sem, n1, n2, hkk, g2, g3, Option.some.injEq, forall_eq', and_true, true_and, Bool.not_true, Bool.not_false, decide_true, Nat.reduceAdd, Nat.reduceSub, Nat.reduceLT, Nat.reduceLeDiff, Nat.reduceEqDiff, ↓reduceIte]
      exact fin (by rw [hR, if_pos (any_t hkk (by simp [badK, g3]))])
    simp (maxSteps := 4000000) -implicitDefEqProofs only [go_sem, n1, n2, hkk, g2, g3, w1, Option.some.injEq, forall_eq', and_true, true_and, Bool.not_true, Bool.not_false, decide_true, Nat.reduceAdd, Nat.reduceSub, Nat.reduceLT, Nat.reduceLeDiff, Nat.reduceEqDiff, ↓reduceIte]
    exact .mk (i + 1) ⟨by omega, nx (by simp only [badK, g1, g2, g3]; rfl)⟩ (by omega) (Wk.sub (by (simp only [go_sem]) <;> trivial))
  have f1 : decide ((i : Int) < l.kn.length) = false := by simp; omega
  have nk : l.kn.any badK = false := any_f fun j y hy => hj j y hy (by have := some_lt hy; omega)
  rw [nk] at hR
  simp only [Bool.false_eq_true, if_false] at hR
  simp (maxSteps := 4000000) -implicitDefEqProofs only [go_sem, f1, Option.some.injEq, forall_eq', and_true, true_and, Bool.not_true, Bool.not_false, decide_true, Nat.reduceAdd, Nat.reduceSub, Nat.reduceLT, Nat.reduceLeDiff, Nat.reduceEqDiff, ↓reduceIte]
  clear hj hi h2 f1
  refine ecall0 _ c3 (by simp only [go_sem]) (by simp only [go_sem]) ?_
  cases k3 : (check l.br != 0)
  case true =>
    have : check l.br ≠ 0 := by simpa using k3
    simp (maxSteps := 4000000) -implicitDefEqProofs only [go_sem, k3, Option.some.injEq, forall_eq', and_true, true_and, Bool.not_true, Bool.not_false, decide_true, Nat.reduceAdd, Nat.reduceSub, Nat.reduceLT, Nat.reduceLeDiff, Nat.reduceEqDiff, ↓reduceIte]
    exact fin (by rw [hR, if_pos this])
  have k3x : check l.br = 0 := by simpa using k3
  rw [if_neg (by omega)] at hR
  by_cases k4 : l.ev.length = l.br.length
  case neg =>
    have k4' : ((l.ev.length : Int) != l.br.length) = true := by simp; omega
    simp (maxSteps := 4000000) -implicitDefEqProofs only [go_sem, k3, k4', Option.some.injEq, forall_eq', and_true, true_and, Bool.not_true, Bool.not_false, decide_true, Nat.reduceAdd, Nat.reduceSub, Nat.reduceLT, Nat.reduceLeDiff, Nat.reduceEqDiff, ↓reduceIte]
    exact fin (by rw [hR, if_pos k4])
  have k4' : ((l.ev.length : Int) != l.br.length) = false := by simp [k4]
  rw [if_neg (by omega)] at hR
  simp (maxSteps := 4000000) -implicitDefEqProofs only [go_sem, k3, k4', Option.some.injEq, forall_eq', and_true, true_and, Bool.not_true, Bool.not_false, decide_true, Nat.reduceAdd, Nat.reduceSub, Nat.reduceLT, Nat.reduceLeDiff, Nat.reduceEqDiff, ↓reduceIte]
  refine eloop (S := Nat) (fun i => mkE 172 [(1, .ptr 0 0), (7, .d (.int .i64 i))]) (fun i => [lH l]) (fun i => i ≤ l.ev.length ∧ ∀ j y, l.ev[j]? = some y → j < i → many y = false) (fun i => l.ev.length - i) 0 ⟨by omega, by omega⟩ (Wk.sub (by (simp only [go_sem]) <;> trivial)) ?_
  rintro i ⟨hi, hj⟩
  rcases Nat.lt_or_ge i l.ev.length with h2 | h2
  case inl =>
    have f1 : decide ((i : Int) < l.ev.length) = true := by simp; omega
    obtain ⟨s, hs⟩ : ∃ x, l.ev[i]? = some x := ⟨l.ev[i]'h2, List.getElem?_eq_getElem _⟩
    have n1 : (0 ≤ (i : Int) ∧ (i : Int) < l.ev.length) = True := eq_true (by omega)
    have n2 : (i < l.ev.length) = True := eq_true (by omega)
    have w1 : IntKind.i64.wrap ((i : Int) + 1) = ((i + 1 : Nat) : Int) := by rw [i64_in _ (by omega)]; simp
    cases g1 : decide (40 < (s.length : Int))
    case true =>
      have := of_decide_eq_true g1
      simp (maxSteps := 4000000) -implicitDefEqProofs only [go_sem, f1, n1, n2, hs, g1, Option.some.injEq, forall_eq', and_true, true_and, Bool.not_true, Bool.not_false, decide_true, Nat.reduceAdd, Nat.reduceSub, Nat.reduceLT, Nat.reduceLeDiff, Nat.reduceEqDiff, ↓reduceIte]
      exact fin (by rw [hR, if_pos (any_t hs (by simp [many]; omega))])
    have := of_decide_eq_false g1
    simp (maxSteps := 4000000) -implicitDefEqProofs only [go_sem, f1, n1, n2, hs, g1, w1, Option.some.injEq, forall_eq', and_true, true_and, Bool.not_true, Bool.not_false, decide_true, Nat.reduceAdd, Nat.reduceSub, Nat.reduceLT, Nat.reduceLeDiff, Nat.reduceEqDiff, ↓reduceIte]
    refine .mk (i + 1) ⟨by omega, fun j y hy hlt => ?_⟩ (by omega) (Wk.sub (by (simp only [go_sem]) <;> trivial))
    rcases Nat.lt_or_ge j i with q | q
    · exact hj j y hy q
    · have : j = i := by omega
      subst this; rw [hs] at hy; cases hy; simp [many]; omega
  have f1 : decide ((i : Int) < l.ev.length) = false := by simp; omega
  have k5 : l.ev.any many = false := any_f fun j y hy => hj j y hy (by have := some_lt hy; omega)
  rw [k5] at hR
  simp only [Bool.false_eq_true, if_false] at hR
  simp (maxSteps := 4000000) -implicitDefEqProofs only [go_sem, f1, Option.some.injEq, forall_eq', and_true, true_and, Bool.not_true, Bool.not_false, decide_true, Nat.reduceAdd, Nat.reduceSub, Nat.reduceLT, Nat.reduceLeDiff, Nat.reduceEqDiff, ↓reduceIte]
  clear hj hi h2 f1
  refine DX.plain (.take 0 false (.take 1 false (.take 2 false (.take 3 false (.take 4 false (.take 5 false .done)))))) (by kernel_rfl) (by kernel_rfl) Ty.mixed ?_
  simp (maxSteps := 4000000) -implicitDefEqProofs only [go_sem, k5, Option.some.injEq, forall_eq', and_true, true_and, Bool.not_true, Bool.not_false, decide_true, Nat.reduceAdd, Nat.reduceSub, Nat.reduceLT, Nat.reduceLeDiff, Nat.reduceEqDiff, ↓reduceIte]
  refine ⟨_, _, c2.lift0 _ (by simp only [go_sem]) (by simp only [go_sem]), rfl, ?_⟩
  refine ⟨_, _, c4.lift0 _ (by simp only [go_sem]) (by simp only [go_sem]), rfl, ?_⟩
  simp (maxSteps := 4000000) -implicitDefEqProofs only [go_sem, Nat.reduceAdd, Nat.reduceSub, Nat.reduceLT, Nat.reduceLeDiff, Nat.reduceEqDiff, ↓reduceIte]
  cases k6 : (fits l.br (cntL l) != 0)
  case true =>
    have : fits l.br (cntL l) ≠ 0 := by simpa using k6
    simp (maxSteps := 4000000) -implicitDefEqProofs only [go_sem, k6, Option.some.injEq, forall_eq', and_true, true_and, Bool.not_true, Bool.not_false, decide_true, Nat.reduceAdd, Nat.reduceSub, Nat.reduceLT, Nat.reduceLeDiff, Nat.reduceEqDiff, ↓reduceIte]
    exact fin (by rw [hR, if_pos this])
  have k6x : fits l.br (cntL l) = 0 := by simpa using k6
  rw [if_neg (by omega)] at hR
  have t : Tab l := ⟨good_of k6x, k6x⟩
  simp (maxSteps := 4000000) -implicitDefEqProofs only [go_sem, k6, Option.some.injEq, forall_eq', and_true, true_and, Bool.not_true, Bool.not_false, decide_true, Nat.reduceAdd, Nat.reduceSub, Nat.reduceLT, Nat.reduceLeDiff, Nat.reduceEqDiff, ↓reduceIte]
  have kv : Kv l := fun k hk => by
    have := List.any_eq_false.1 nk k hk
    simp only [badK, Bool.or_eq_true, Bool.not_eq_true', decide_eq_true_eq, not_or] at this
    omega
  refine eloop (S := Nat) (fun i => mkE 172 [(1, .ptr 0 0), (9, .d (.int .i64 i))]) (fun i => [lH l]) (fun i => i ≤ l.ev.length ∧ ∀ j, j < i → badB l j = false) (fun i => l.ev.length - i) 0 ⟨by omega, by omega⟩ (Wk.sub (by (simp only [go_sem]) <;> trivial)) ?_
  rintro i ⟨hi, hj⟩
  rcases Nat.lt_or_ge i l.ev.length with h2 | h2
  case inr =>
    have f1 : decide ((i : Int) < l.br.length) = false := by simp; omega
    simp (maxSteps := 4000000) -implicitDefEqProofs only [go_sem, f1, Option.some.injEq, forall_eq', and_true, true_and, Bool.not_true, Bool.not_false, decide_true, Nat.reduceAdd, Nat.reduceSub, Nat.reduceLT, Nat.reduceLeDiff, Nat.reduceEqDiff, ↓reduceIte]
    refine fin ?_
    rw [hR, if_neg]
    simp only [List.any_eq_true, List.mem_range, not_exists, not_and]
    intro j hj2
    rw [hj j (by omega)]; simp
  have f1 : decide ((i : Int) < l.br.length) = true := by simp; omega
  obtain ⟨x, s, v, a⟩ := at_of t (i := i) (by omega)
  have hs := a.hs
  have hx := a.hx
  have n1 : (0 ≤ (i : Int) ∧ (i : Int) < l.ev.length) = True := eq_true (by omega)
  have n2 : (i < l.ev.length) = True := eq_true (by omega)
  have m1 : (0 ≤ (i : Int) ∧ (i : Int) < l.br.length) = True := eq_true (by omega)
  have m2 : (i < l.br.length) = True := eq_true (by omega)
  have w1 : IntKind.i64.wrap ((i : Int) + 1) = ((i + 1 : Nat) : Int) := by rw [i64_in _ (by omega)]; simp
  have hsl : s.length ≤ 40 := by
    have := List.any_eq_false.1 k5 s (List.mem_of_getElem? hs)
    simp only [many, decide_eq_true_eq] at this
    omega
  have hat := (t.g.ok.good i x a.hx).2.2
  have alen := a.len
  have aat := a.at0
  have hbB : badB l i = badL l (preE l i) s := by rw [badB, hs]; rfl
  obtain ⟨pre, hpre⟩ : ∃ p, p = preE l i := ⟨_, rfl⟩
  obtain ⟨E, hE⟩ : ∃ p, p = seenL l v := ⟨_, rfl⟩
  obtain ⟨n0, hn0⟩ : ∃ p, p = x.at'.toNat := ⟨_, rfl⟩
  have pl : pre.length = n0 := by rw [hpre, hn0]; exact a.prel
  have Epre : E = pre ++ s := by rw [hE, hpre]; exact a.seen
  have El : E.length = n0 + s.length := by rw [Epre, List.length_append, pl]
  have vl : v.length = n0 + s.length := by omega
  have vr := View_refD l t a
  have sr := seen_ref l v v.length a.inr (by omega) (by omega) rfl
  simp only [lA] at sr
  rw [← hpre] at hbB
  rw [← hE] at sr
  have w0 : IntKind.i64.wrap ((v.length : Int) - s.length) = (n0 : Int) := by rw [i64_in _ (by omega)]; omega
  simp (maxSteps := 4000000) -implicitDefEqProofs only [go_sem, f1, Option.some.injEq, forall_eq', and_true, true_and, Bool.not_true, Bool.not_false, decide_true, Nat.reduceAdd, Nat.reduceSub, Nat.reduceLT, Nat.reduceLeDiff, Nat.reduceEqDiff, ↓reduceIte]
  refine DX.plain (.take 0 false (.take 1 false (.take 2 false (.take 3 false (.take 4 false (.take 5 false (.take 6 false (.take 7 false (.take 8 false (.take 9 false (.take 10 false (.take 11 false (.take 12 false (.take 13 false (.take 14 false (.take 15 false .done)))))))))))))))) (by kernel_rfl) (by kernel_rfl) Ty.mixed ?_
  simp (maxSteps := 4000000) -implicitDefEqProofs only [go_sem, m1, m2, hx, Option.some.injEq, forall_eq', and_true, true_and, Bool.not_true, Bool.not_false, decide_true, Nat.reduceAdd, Nat.reduceSub, Nat.reduceLT, Nat.reduceLeDiff, Nat.reduceEqDiff, ↓reduceIte]
  refine ⟨_, _, c2.lift0 _ (by simp only [go_sem]) (by simp only [go_sem]), rfl, ?_⟩
  refine ⟨_, _, vr.lift0 _ (by simp only [go_sem]) (by simp only [go_sem]), rfl, ?_⟩
  simp (maxSteps := 4000000) -implicitDefEqProofs only [go_sem, Nat.reduceAdd, Nat.reduceSub, Nat.reduceLT, Nat.reduceLeDiff, Nat.reduceEqDiff, ↓reduceIte]
  refine ecall0 _ sr (by simp only [go_sem]) (by simp only [go_sem]) ?_
  simp (maxSteps := 4000000) -implicitDefEqProofs only [go_sem, n1, n2, hs, w0, Option.some.injEq, forall_eq', and_true, true_and, Bool.not_true, Bool.not_false, decide_true, Nat.reduceAdd, Nat.reduceSub, Nat.reduceLT, Nat.reduceLeDiff, Nat.reduceEqDiff, ↓reduceIte]
  refine eloop (S := Nat) (fun k => mkE 172 [(1, .ptr 0 0), (9, .d (.int .i64 i)), (10, .d (.sl (v.map mkD))), (12, .d (.sl (E.map eD))), (13, .d (.int .i64 ((n0 + k : Nat) : Int)))]) (fun k => [lH l]) (fun k => k ≤ s.length ∧ badL l pre s = badL l (pre ++ s.take k) (s.drop k)) (fun k => s.length - k) 0 ⟨by omega, by simp⟩ (Wk.sub (by (simp only [go_sem]) <;> trivial)) ?_
  rintro k ⟨hk2, hbl⟩
  rcases Nat.lt_or_ge k s.length with h3 | h3
  case inr =>
    have f2 : decide (((n0 + k : Nat) : Int) < v.length) = false := by simp; omega
    have hb0 : badB l i = false := by
      rw [hbB, hbl, List.drop_eq_nil_of_le h3]; rfl
    simp (maxSteps := 4000000) -implicitDefEqProofs only [go_sem, f2, w1, Option.some.injEq, forall_eq', and_true, true_and, Bool.not_true, Bool.not_false, decide_true, Nat.reduceAdd, Nat.reduceSub, Nat.reduceLT, Nat.reduceLeDiff, Nat.reduceEqDiff, ↓reduceIte]
    refine .mk (i + 1) ⟨by omega, fun j hj2 => ?_⟩ (by omega) (Wk.sub (by (simp only [go_sem]) <;> trivial))
    rcases Nat.lt_or_ge j i with q | q
    · exact hj j q
    · have : j = i := by omega
      subst this; exact hb0
  have f2 : decide (((n0 + k : Nat) : Int) < v.length) = true := by simp; omega
  obtain ⟨y, hy⟩ : ∃ x, s[k]? = some x := ⟨s[k]'h3, List.getElem?_eq_getElem _⟩
  have hE2 : E[n0 + k]? = some y := by rw [Epre, List.getElem?_append_right (by omega), pl, Nat.add_sub_cancel_left]; exact hy
  have tk : E.take (n0 + k) = pre ++ s.take k := by rw [Epre, List.take_append, pl, Nat.add_sub_cancel_left, List.take_of_length_le (by omega)]
  obtain ⟨n, hn⟩ : ∃ n, n = n0 + k := ⟨_, rfl⟩
  rw [← hn] at hE2 tk f2 ⊢
  have n3 : (0 ≤ (n : Int) ∧ (n : Int) < E.length) = True := eq_true (by omega)
  have n4 : (n < E.length) = True := eq_true (by omega)
  have n5 : (0 ≤ (0 : Int) ∧ (0 : Int) ≤ (n : Int) ∧ (n : Int) ≤ E.length) = True := eq_true ⟨by omega, by omega, by omega⟩
  have w2 : IntKind.i64.wrap ((n : Int) + 1) = ((n0 + (k + 1) : Nat) : Int) := by rw [i64_in _ (by omega)]; omega
  rw [badL_drop hy] at hbl
  have out : badX l (pre ++ s.take k) y = true → R = 8 := fun hx => by
    rw [hR, if_pos]
    refine List.any_eq_true.2 ⟨i, by simpa using h2, ?_⟩
    rw [hbB, hbl, hx]; rfl
  have cr := class_ref l y.ch (by unfold Sm; omega)
  have ar := allowed_ref l (E.take n) y (by unfold Sm; omega) (by unfold Sm; rw [List.length_take]; omega)
  simp only [lA] at cr ar
  obtain ⟨kd, ch⟩ := y
  simp only at cr ar
  cases g1 : decide (classR l ch < 0)
  case true =>
    have : classN l ch = none := by
      cases q : classN l ch with
      | none => rfl
      | some c =>
        have := classN_range kv q
        have e := classR_of q
        have := of_decide_eq_true g1
        omega
    simp (maxSteps := 4000000) -implicitDefEqProofs only [go_sem, f2, Option.some.injEq, forall_eq', and_true, true_and, Bool.not_true, Bool.not_false, decide_true, Nat.reduceAdd, Nat.reduceSub, Nat.reduceLT, Nat.reduceLeDiff, Nat.reduceEqDiff, ↓reduceIte]
    refine DX.plain (.take 0 false (.take 1 false (.take 2 false (.take 3 false (.take 4 false (.take 5 false (.take 6 false (.take 7 false (.take 8 false (.take 9 false (.take 10 false (.take 11 false (.take 12 false (.take 13 false (.take 14 false (.take 15 false (.take 16 false (.take 17 false (.take 18 false (.take 19 false .done)))))))))))))))))))) (by kernel_rfl) (by kernel_rfl) Ty.mixed ?_
    simp (maxSteps := 4000000) -implicitDefEqProofs only [go_sem, n3, n4, n5, hE2, g1, Option.some.injEq, forall_eq', and_true, true_and, Bool.not_true, Bool.not_false, decide_true, Nat.reduceAdd, Nat.reduceSub, Nat.reduceLT, Nat.reduceLeDiff, Nat.reduceEqDiff, ↓reduceIte]
    refine ⟨_, _, cr.lift0 _ (by simp only [go_sem]) (by simp only [go_sem]), rfl, ?_⟩
    simp (maxSteps := 4000000) -implicitDefEqProofs only [go_sem, n3, n4, n5, hE2, g1, Option.some.injEq, forall_eq', and_true, true_and, Bool.not_true, Bool.not_false, decide_true, Nat.reduceAdd, Nat.reduceSub, Nat.reduceLT, Nat.reduceLeDiff, Nat.reduceEqDiff, ↓reduceIte]
    exact fin (out (by simp [badX, this])).symm
  have g1n : classN l ch ≠ none := fun q => by
    have := of_decide_eq_false g1
    rw [classR, q] at this; simp at this
  rw [tk] at ar
  cases g2 : (allR l (pre ++ s.take k) ⟨kd, ch⟩ != 0)
  all_goals
    simp (maxSteps := 4000000) -implicitDefEqProofs only [go_sem, f2, Option.some.injEq, forall_eq', and_true, true_and, Bool.not_true, Bool.not_false, decide_true, Nat.reduceAdd, Nat.reduceSub, Nat.reduceLT, Nat.reduceLeDiff, Nat.reduceEqDiff, ↓reduceIte]
    refine DX.plain (.take 0 false (.take 1 false (.take 2 false (.take 3 false (.take 4 false (.take 5 false (.take 6 false (.take 7 false (.take 8 false (.take 9 false (.take 10 false (.take 11 false (.take 12 false (.take 13 false (.take 14 false (.take 15 false (.take 16 false (.take 17 false (.take 18 false (.take 19 false .done)))))))))))))))))))) (by kernel_rfl) (by kernel_rfl) Ty.mixed ?_
    simp (maxSteps := 4000000) -implicitDefEqProofs only [go_sem, n3, n4, n5, hE2, g1, Option.some.injEq, forall_eq', and_true, true_and, Bool.not_true, Bool.not_false, decide_true, Nat.reduceAdd, Nat.reduceSub, Nat.reduceLT, Nat.reduceLeDiff, Nat.reduceEqDiff, ↓reduceIte]
    refine ⟨_, _, cr.lift0 _ (by simp only [go_sem]) (by simp only [go_sem]), rfl, ?_⟩
    simp (maxSteps := 4000000) -implicitDefEqProofs only [go_sem, n3, n4, n5, hE2, g1, Option.some.injEq, forall_eq', and_true, true_and, Bool.not_true, Bool.not_false, decide_true, Nat.reduceAdd, Nat.reduceSub, Nat.reduceLT, Nat.reduceLeDiff, Nat.reduceEqDiff, ↓reduceIte]
    rw [tk]
    refine ⟨_, _, ar.lift0 _ (by simp only [go_sem]) (by simp only [go_sem]), rfl, ?_⟩
    simp (maxSteps := 4000000) -implicitDefEqProofs only [go_sem, g2, w2, Option.some.injEq, forall_eq', and_true, true_and, Bool.not_true, Bool.not_false, decide_true, Nat.reduceAdd, Nat.reduceSub, Nat.reduceLT, Nat.reduceLeDiff, Nat.reduceEqDiff, ↓reduceIte]
  · have g2x : allR l (pre ++ s.take k) ⟨kd, ch⟩ = 0 := by simpa using g2
    refine .mk (k + 1) ⟨by omega, ?_⟩ (by omega) (Wk.sub (by (simp only [go_sem]) <;> trivial))
    rw [hbl]
    simp [badX, g1n, g2x]
  · have g2x : allR l (pre ++ s.take k) ⟨kd, ch⟩ ≠ 0 := by simpa using g2
    exact fin (out (by simp [badX, g2x])).symm
end Go.AX.Lg
namespace Go.AX.Lg
open Go.Proofs Go.RowKit Go.IntWalk Go.AX.Br
structure LOk (l : Lg) : Prop where
  chk : lcheck l = 0
  nd : Nd l
  kv : Kv l
  kl : l.kn.length ≤ 30
  tab : Tab l
  own : ∀ (i : Nat) (s : List Ev), l.ev[i]? = some s → s.length ≤ 40
  good : ∀ i, i < l.ev.length → badB l i = false
theorem lok_of {l : Lg} (h : lcheck l = 0) : LOk l := by
  have h0 := h
  unfold lcheck at h
  split at h
  · cases h
  next k1 =>
  split at h
  · cases h
  next k2 =>
  split at h
  · cases h
  next k3 =>
  split at h
  · next q => exact absurd h q
  next k4 =>
  split at h
  · cases h
  next k5 =>
  split at h
  · cases h
  next k6 =>
  split at h
  · next q => exact absurd h q
  next k7 =>
  split at h
  · cases h
  next k8 =>
  have k7' : fits l.br (cntL l) = 0 := by omega
  refine ⟨h0, cls_len.2.2 (by have := (cls_len (l := l)).1; omega), fun k hk => ?_, by omega, ⟨good_of k7', k7'⟩, fun i s hs => ?_, fun i hi => ?_⟩
  · have := List.any_eq_false.1 (by simpa using k3) k hk
    simp only [badK, Bool.or_eq_true, Bool.not_eq_true', decide_eq_true_eq, not_or] at this
    omega
  · have := List.any_eq_false.1 (by simpa using k6) s (List.mem_of_getElem? hs)
    simp only [many, decide_eq_true_eq] at this
    omega
  · cases q : badB l i
    · rfl
    · exact absurd (List.any_eq_true.2 ⟨i, by simpa using hi, q⟩) k8
def lview (l : Lg) (nm : ByteArray) : List Mk × Int := if lcheck l ≠ 0 then ([], lcheck l) else viewR l.br (cntL l) nm
theorem lview_ok {l : Lg} {nm : ByteArray} (h : (lview l nm).2 = 0) : LOk l ∧ ∃ (i : Nat) (x : Br) (s : List Ev) (v : List Mk), At l i x s v ∧ x.name = nm ∧ lview l nm = (v, 0) ∧ idx (has nm) l.br = i := by
  unfold lview at h
  split at h
  · next q => exact absurd h q
  next q =>
  have hc : lcheck l = 0 := by omega
  have lo := lok_of hc
  refine ⟨lo, ?_⟩
  have hf := lo.tab.fits
  unfold viewR at h
  rw [if_neg (by omega)] at h
  split at h
  · cases h
  next q2 =>
  obtain ⟨i, x, h1, h2, h3⟩ := idx_get (p := has nm) (l := l.br) (by omega)
  obtain ⟨y, s, v, a⟩ := at_of lo.tab (some_lt h2)
  have : y = x := by have := a.hx; rw [h2] at this; cases this; rfl
  subst this
  have hn : y.name = nm := by simpa [has] using h3
  refine ⟨i, y, s, v, a, hn, ?_, h1⟩
  unfold lview
  rw [if_neg (by omega), ← hn]
  exact vname lo.tab a
theorem At.known {l : Lg} {i : Nat} {x : Br} {s : List Ev} {v : List Mk} (lo : LOk l) (a : At l i x s v) : Known l (preE l i ++ s) := by
  have hi := some_lt a.hs
  intro y hy
  rcases List.mem_append.1 hy with q | q
  · exact pre_known a (fun j hj => lo.good j (by omega)) y q
  · exact badB_known a (lo.good i hi) y q
theorem view_lown (l : Lg) (nm : ByteArray) (hk : l.kn.length ≤ 1000) (hb : l.br.length ≤ 1000) (he : l.ev.length ≤ 1000) : Spec Tryz.prog 44 [lA l, .d (.str nm)] [] (.tup [.d (.sl ((lview l nm).1.map mkD)), .d (.int .i64 (lview l nm).2)]) [] := by
  have c1 := lcheck_own l hk hb he
  have c2 := counts_dat l he
  have c3 := View_dat l.br (cntL l) nm (by unfold Sm; omega) (by unfold Sm; rw [cnt_len]; omega)
  simp only [lA] at c1 c2
  obtain ⟨R, hR⟩ : ∃ R, R = lview l nm := ⟨_, rfl⟩
  rw [← hR]
  unfold lview at hR
  refine spec_of_ev (fn := Tryz.f44) DX_ok 3000 Tryz.func44 rfl rfl (Nat.le_of_ble_eq_true rfl) ?_
  simp (maxSteps := 4000000) -implicitDefEqProofs only [Tryz.f44, go_sem, lA]
  refine ecall0 _ c1 (by simp only [go_sem]) (by simp only [go_sem]) ?_
  cases k1 : (lcheck l != 0)
  case true =>
    have : lcheck l ≠ 0 := by simpa using k1
    simp (maxSteps := 4000000) -implicitDefEqProofs only [go_sem, k1, Option.some.injEq, forall_eq', and_true, true_and, Bool.not_true, Bool.not_false, decide_true, Nat.reduceAdd, Nat.reduceSub, Nat.reduceLT, Nat.reduceLeDiff, Nat.reduceEqDiff, ↓reduceIte]
    rw [hR, if_pos this]
    exact wk_dat (r' := .tup [.d (.sl []), .d (.int .i64 (lcheck l))]) (by simp only [go_sem]; rfl) rfl (by simp only [go_sem])
  have k1x : lcheck l = 0 := by simpa using k1
  rw [if_neg (by omega)] at hR
  simp (maxSteps := 4000000) -implicitDefEqProofs only [go_sem, k1, Option.some.injEq, forall_eq', and_true, true_and, Bool.not_true, Bool.not_false, decide_true, Nat.reduceAdd, Nat.reduceSub, Nat.reduceLT, Nat.reduceLeDiff, Nat.reduceEqDiff, ↓reduceIte]
  refine DX.plain (.take 0 false (.take 1 false (.take 2 false (.take 3 false (.take 4 false (.take 5 false (.take 6 false (.take 7 false (.take 8 false (.take 9 false .done)))))))))) (by kernel_rfl) (by kernel_rfl) Ty.mixed ?_
  simp (maxSteps := 4000000) -implicitDefEqProofs only [go_sem, k1, Option.some.injEq, forall_eq', and_true, true_and, Bool.not_true, Bool.not_false, decide_true, Nat.reduceAdd, Nat.reduceSub, Nat.reduceLT, Nat.reduceLeDiff, Nat.reduceEqDiff, ↓reduceIte]
  refine ⟨_, _, c2.lift0 _ (by simp only [go_sem]) (by simp only [go_sem]), rfl, ?_⟩
  refine ⟨_, _, c3.lift0 _ (by simp only [go_sem]) (by simp only [go_sem]), rfl, ?_⟩
  simp (maxSteps := 4000000) -implicitDefEqProofs only [go_sem, Nat.reduceAdd, Nat.reduceSub, Nat.reduceLT, Nat.reduceLeDiff, Nat.reduceEqDiff, ↓reduceIte]
  rw [hR]
  exact (Wk.forget (by (simp only [go_sem]) <;> trivial) (by simp only [go_sem]))
end Go.AX.Lg
namespace Go.AX.Lg
open Go.Proofs Go.RowKit Go.IntWalk Go.AX.Br
def effN (l : Lg) (s : List Ev) (n : Nat) : List Int := ((List.range n).filter fun (c : Nat) => inR l s c).map Int.ofNat
def effL (l : Lg) (s : List Ev) : List Int := effN l s 30
def effR (l : Lg) (nm : ByteArray) : List Int × Int := if (lview l nm).2 ≠ 0 then ([], (lview l nm).2) else (effL l (seenL l (lview l nm).1), 0)
def aftR (l : Lg) (nm : ByteArray) (n : Int) : List Int × Int :=
  if (lview l nm).2 ≠ 0 then ([], (lview l nm).2) else if n < 0 ∨ ((lview l nm).1.length : Int) < n then ([], 2) else (effL l ((seenL l (lview l nm).1).take n.toNat), 0)
theorem effN_yes {l : Lg} {s : List Ev} {n : Nat} (h : inR l s n = true) : effN l s (n + 1) = effN l s n ++ [(n : Int)] := by
  simp [effN, List.range_succ, List.filter_append, h]
theorem effN_no {l : Lg} {s : List Ev} {n : Nat} (h : inR l s n = false) : effN l s (n + 1) = effN l s n := by
  simp [effN, List.range_succ, List.filter_append, h]
theorem effN_len (l : Lg) (s : List Ev) (n : Nat) : (effN l s n).length ≤ n := by
  unfold effN
  rw [List.length_map]
  have := List.length_filter_le (fun (c : Nat) => inR l s c) (List.range n)
  simpa using this
theorem Effect_own (l : Lg) (nm : ByteArray) (hk : l.kn.length ≤ 1000) (hb : l.br.length ≤ 1000) (he : l.ev.length ≤ 1000) : Spec Tryz.prog 16 [lA l, .d (.str nm)] [] (.tup [.d (.sl ((effR l nm).1.map iD)), .d (.int .i64 (effR l nm).2)]) [] := by
  have c1 := view_lown l nm hk hb he
  have vk := lview_ok (l := l) (nm := nm)
  obtain ⟨V, hV⟩ : ∃ V, V = lview l nm := ⟨_, rfl⟩
  unfold effR
  rw [← hV] at c1 vk ⊢
  simp only [lA] at c1
  refine spec_of_ev (fn := Tryz.f16) DX_ok 3000 Tryz.func16 rfl rfl (Nat.le_of_ble_eq_true rfl) ?_
  simp (maxSteps := 4000000) -implicitDefEqProofs only [Tryz.f16, go_sem, lA]
  refine ecall0 _ c1 (by simp only [go_sem]) (by simp only [go_sem]) ?_
  cases k1 : (V.2 != 0)
  case true =>
    have : V.2 ≠ 0 := by simpa using k1
    simp (maxSteps := 4000000) -implicitDefEqProofs only [go_sem, k1, Option.some.injEq, forall_eq', and_true, true_and, Bool.not_true, Bool.not_false, decide_true, Nat.reduceAdd, Nat.reduceSub, Nat.reduceLT, Nat.reduceLeDiff, Nat.reduceEqDiff, ↓reduceIte]
    rw [if_pos this]
    exact wk_dat (r' := .tup [.d (.sl []), .d (.int .i64 V.2)]) (by simp only [go_sem]; rfl) rfl (by simp only [go_sem])
  have k1x : V.2 = 0 := by simpa using k1
  obtain ⟨lo, i, x, s, v, a, hn, hv, hi⟩ := vk k1x
  have alen := a.len
  have h40 := lo.own i s a.hs
  have h320 := (lo.tab.g.ok.good i x a.hx).2.2
  have fo := folded_own l v lo.kv lo.kl a.inr (by omega) he
  have hkn : Known l (seenL l v) := by rw [a.seen]; exact a.known lo
  rw [foldS_foldE a.inr] at fo
  have lr := list_own _ (foldE_ok l (seenL l v))
  rw [list_ref lo.nd lo.kv hkn] at lr
  obtain ⟨Z, hZ⟩ : ∃ Z, Z = ((List.range 30).filter fun (c : Nat) => inR l (seenL l v) c).map Int.ofNat := ⟨_, rfl⟩
  rw [← hZ] at lr
  have hZ' : effL l (seenL l v) = Z := hZ.symm
  obtain ⟨S, hS⟩ : ∃ S, S = foldE l (seenL l v) := ⟨_, rfl⟩
  rw [← hS] at fo lr
  simp only [lA] at fo
  rw [hv] at k1 ⊢
  simp (maxSteps := 4000000) -implicitDefEqProofs only [go_sem, k1, Option.some.injEq, forall_eq', and_true, true_and, Bool.not_true, Bool.not_false, decide_true, Nat.reduceAdd, Nat.reduceSub, Nat.reduceLT, Nat.reduceLeDiff, Nat.reduceEqDiff, ↓reduceIte]
  refine ecallN _ _ fo (by simp only [go_sem]) ?_
  simp (maxSteps := 4000000) -implicitDefEqProofs only [go_sem, Nat.reduceAdd, Nat.reduceSub, Nat.reduceLT, Nat.reduceLeDiff, Nat.reduceEqDiff, ↓reduceIte]
  refine .mk [1] [.ptr 0 0] [.cells (stC S)] _ _ rfl (by simp [bds, bd]) (by simp) (by simp) (by simp only [obs, mapO, go_sem]) (by simp only [go_sem]) lr ?_
  simp (maxSteps := 4000000) -implicitDefEqProofs only [go_sem, Nat.reduceAdd, Nat.reduceSub, Nat.reduceLT, Nat.reduceLeDiff, Nat.reduceEqDiff, ↓reduceIte]
  simp only [ne_eq, not_true_eq_false, if_false, hZ']
  exact wk_dat (r' := .tup [.d (.sl (Z.map iD)), .d (.int .i64 0)]) (by simp only [go_sem]; rfl) rfl (by simp only [go_sem])
end Go.AX.Lg
namespace Go.AX.Lg
open Go.Proofs Go.RowKit Go.IntWalk Go.AX.Br
def onlyN (p q : Nat → Bool) (n : Nat) : List Int := ((List.range n).filter fun (c : Nat) => p c && !q c).map Int.ofNat
def inF (l : Lg) (s : List Ev) (c : Nat) : Bool := inR l s c
def onlyL (l : Lg) (s t : List Ev) : List Int := onlyN (inF l s) (inF l t) 30
def difR (l : Lg) (a b : ByteArray) : List Int × List Int × Int :=
  if (lview l a).2 ≠ 0 then ([], [], (lview l a).2) else if (lview l b).2 ≠ 0 then ([], [], (lview l b).2)
  else (onlyL l (seenL l (lview l a).1) (seenL l (lview l b).1), onlyL l (seenL l (lview l b).1) (seenL l (lview l a).1), 0)
end Go.AX.Lg
namespace Go.AX.Br
open Go.Proofs Go.RowKit Go.IntWalk
instance : DecidableEq Br := fun a b => decidable_of_iff (a.name = b.name ∧ a.frm = b.frm ∧ a.at' = b.at') (by cases a; cases b; simp)
theorem clone_br (l : List Br) (hl : l.length ≤ 1000) : Spec Tryz.prog 74 [.d (.sl (l.map bD))] [] (.own 0) [.row 3 (l.map bD)] := by
  refine spec_of_ev (fn := Tryz.f74) DX_ok 3000 Tryz.func74 rfl rfl (Nat.le_of_ble_eq_true rfl) ?_
  simp (maxSteps := 4000000) -implicitDefEqProofs only [Tryz.f74, go_sem]
  intro b hb
  cases b with
  | true =>
    simp (maxSteps := 4000000) -implicitDefEqProofs only [go_sem, Nat.reduceAdd, Nat.reduceSub, Nat.reduceLT, Nat.reduceLeDiff, Nat.reduceEqDiff, ↓reduceIte]
    rw [hb rfl]
    refine Wk.trans (Wk.nil 0 3 rfl) ?_
    exact (Wk.sub (by (simp only [go_sem]) <;> trivial))
  | false =>
    simp (maxSteps := 4000000) -implicitDefEqProofs only [go_sem, Nat.reduceAdd, Nat.reduceSub, Nat.reduceLT, Nat.reduceLeDiff, Nat.reduceEqDiff, ↓reduceIte]
    exact ⟨by omega, ⟨by omega, by omega⟩, (Wk.via [1] (by (simp only [go_sem, ↓reduceIte]) <;> trivial) (by first | (simp (maxSteps := 4000000) -implicitDefEqProofs only [go_sem, Nat.reduceAdd, Nat.reduceSub, Nat.reduceLT, Nat.reduceLeDiff, Nat.reduceEqDiff, ↓reduceIte]; done) | ((simp (maxSteps := 4000000) -implicitDefEqProofs only [go_sem, Nat.reduceAdd, Nat.reduceSub, Nat.reduceLT, Nat.reduceLeDiff, Nat.reduceEqDiff, ↓reduceIte]) <;> omega)) (by simp) (by first | (simp; done) | (simp [so]; done)) (by (simp (maxSteps := 4000000) -implicitDefEqProofs only [go_sem, Nat.reduceAdd, Nat.reduceSub, Nat.reduceLT, Nat.reduceLeDiff, Nat.reduceEqDiff, ↓reduceIte]) <;> trivial) (by first | (simp only [go_sem]; done) | ((simp (maxSteps := 4000000) -implicitDefEqProofs only [go_sem, Nat.reduceAdd, Nat.reduceSub, Nat.reduceLT, Nat.reduceLeDiff, Nat.reduceEqDiff, ↓reduceIte]) <;> omega)) (Nat.zero_le _) (fun i h => absurd h (Nat.not_lt_zero i)))⟩
def cutR (l : List Br) (cs : List Int) (frm nm : ByteArray) (at' : Int) : List Br × Int :=
  if (viewR l cs frm).2 ≠ 0 then ([], (viewR l cs frm).2) else if at' < 0 ∨ ((viewR l cs frm).1.length : Int) < at' then ([], 2)
  else if check (l ++ [⟨nm, frm, at'⟩]) ≠ 0 then ([], check (l ++ [⟨nm, frm, at'⟩])) else (l ++ [⟨nm, frm, at'⟩], 0)
end Go.AX.Br
namespace Go.AX.Lg
open Go.Proofs Go.RowKit Go.IntWalk Go.AX.Br
theorem intEq (x y : Int) : (x == y) = decide (x = y) := by rw [Bool.eq_iff_iff]; simp
theorem bneI (a b : Int) : (a != b) = !(a == b) := rfl
theorem sameInts_ref (a b : List Int) (ha : Sm a.length) : Spec Tryz.prog 18 [.d (.sl (a.map iD)), .d (.sl (b.map iD))] [] (.d (.bool (decide (a = b)))) [] := by
  unfold Sm at ha
  refine spec_of_ev (fn := Tryz.f18) DX_ok 3000 Tryz.func18 rfl rfl (Nat.le_of_ble_eq_true rfl) ?_
  simp (maxSteps := 4000000) -implicitDefEqProofs only [Tryz.f18, go_sem]
  by_cases h1 : a.length = b.length
  · have d1 : ((a.length : Int) != b.length) = false := by simp [h1]
    simp (maxSteps := 4000000) -implicitDefEqProofs only [go_sem, d1, Option.some.injEq, forall_eq', and_true, true_and, Bool.not_true, Bool.not_false, decide_true, Nat.reduceAdd, Nat.reduceSub, Nat.reduceLT, Nat.reduceLeDiff, Nat.reduceEqDiff, ↓reduceIte]
    refine eloop (S := Nat) (fun i => mkE 26 [(0, .d (.sl (a.map iD))), (1, .d (.sl (b.map iD))), (5, .d (.int .i64 i))]) (fun i => []) (fun i => i ≤ a.length ∧ ∀ j x, a[j]? = some x → j < i → b[j]? = some x) (fun i => a.length - i) 0 ⟨by omega, by omega⟩ (Wk.sub (by (simp only [go_sem]) <;> trivial)) ?_
    rintro i ⟨hi, hj⟩
    rcases Nat.lt_or_ge i a.length with h2 | h2
    · have d2 : decide ((i : Int) < a.length) = true := by simp; omega
      obtain ⟨x, hx⟩ : ∃ x, a[i]? = some x := ⟨a[i]'(by omega), List.getElem?_eq_getElem _⟩
      obtain ⟨y, hy⟩ : ∃ x, b[i]? = some x := ⟨b[i]'(by omega), List.getElem?_eq_getElem _⟩
      have n1 : (0 ≤ (i : Int) ∧ (i : Int) < a.length) = True := eq_true (by omega)
      have n2 : (0 ≤ (i : Int) ∧ (i : Int) < b.length) = True := eq_true (by omega)
      have n3 : (i < a.length) = True := eq_true (by omega)
      have n4 : (i < b.length) = True := eq_true (by omega)
      have w1 : IntKind.i64.wrap ((i : Int) + 1) = i + 1 := i64_in _ (by omega)
      by_cases h3 : x = y
      · have hxy := (intEq x y).trans (decide_eq_true h3)
        simp (maxSteps := 4000000) -implicitDefEqProofs only [go_sem, d2, Option.some.injEq, forall_eq', and_true, true_and, Bool.not_true, Bool.not_false, decide_true, Nat.reduceAdd, Nat.reduceSub, Nat.reduceLT, Nat.reduceLeDiff, Nat.reduceEqDiff, ↓reduceIte]
        refine DX.plain (.take 0 false (.take 1 false (.take 2 false (.take 3 false (.take 4 false (.take 5 false (.take 6 false (.take 7 false (.take 8 false .done))))))))) (by kernel_rfl) (by kernel_rfl) Ty.mixed ?_
        simp (maxSteps := 4000000) -implicitDefEqProofs only [go_sem, n1, n2, n3, n4, hx, hy, hxy, w1, bneI, Option.some.injEq, forall_eq', and_true, true_and, Bool.not_true, Bool.not_false, decide_true, Nat.reduceAdd, Nat.reduceSub, Nat.reduceLT, Nat.reduceLeDiff, Nat.reduceEqDiff, ↓reduceIte]
        exact .mk (i + 1) ⟨by omega, upto_succ hx (by rw [h3]; exact hy) hj⟩ (by omega) (Wk.sub (by (simp only [go_sem]) <;> trivial))
      · have hxy := (intEq x y).trans (decide_eq_false h3)
        simp (maxSteps := 4000000) -implicitDefEqProofs only [go_sem, d2, Option.some.injEq, forall_eq', and_true, true_and, Bool.not_true, Bool.not_false, decide_true, Nat.reduceAdd, Nat.reduceSub, Nat.reduceLT, Nat.reduceLeDiff, Nat.reduceEqDiff, ↓reduceIte]
        refine DX.plain (.take 0 false (.take 1 false (.take 2 false (.take 3 false (.take 4 false (.take 5 false (.take 6 false (.take 7 false (.take 8 false .done))))))))) (by kernel_rfl) (by kernel_rfl) Ty.mixed ?_
        simp (maxSteps := 4000000) -implicitDefEqProofs only [go_sem, n1, n2, n3, n4, hx, hy, hxy, bneI, Option.some.injEq, forall_eq', and_true, true_and, Bool.not_true, Bool.not_false, decide_true, Nat.reduceAdd, Nat.reduceSub, Nat.reduceLT, Nat.reduceLeDiff, Nat.reduceEqDiff, ↓reduceIte]
        refine wk_bool (decide_eq_false fun e => h3 ?_).symm
        subst e; rw [hx] at hy; exact Option.some.inj hy
    · have d2 : decide ((i : Int) < a.length) = false := by simp; omega
      simp (maxSteps := 4000000) -implicitDefEqProofs only [go_sem, d2, Option.some.injEq, forall_eq', and_true, true_and, Bool.not_true, Bool.not_false, decide_true, Nat.reduceAdd, Nat.reduceSub, Nat.reduceLT, Nat.reduceLeDiff, Nat.reduceEqDiff, ↓reduceIte]
      refine wk_bool (decide_eq_true ?_).symm
      refine List.ext_getElem? fun j => ?_
      rcases Nat.lt_or_ge j a.length with q | q
      · have hx := List.getElem?_eq_getElem q
        rw [hx]; exact (hj j _ hx (by omega)).symm
      · rw [List.getElem?_eq_none q, List.getElem?_eq_none (by omega)]
  · have d1 : ((a.length : Int) != b.length) = true := by simp; omega
    simp (maxSteps := 4000000) -implicitDefEqProofs only [go_sem, d1, Option.some.injEq, forall_eq', and_true, true_and, Bool.not_true, Bool.not_false, decide_true, Nat.reduceAdd, Nat.reduceSub, Nat.reduceLT, Nat.reduceLeDiff, Nat.reduceEqDiff, ↓reduceIte]
    exact wk_bool (decide_eq_false fun e => h1 (by rw [e])).symm
theorem clone_kn (l : List Kn) (hl : l.length ≤ 1000) : Spec Tryz.prog 73 [.d (.sl (l.map kD))] [] (.own 0) [.row 2 (l.map kD)] := by
  refine spec_of_ev (fn := Tryz.f73) DX_ok 3000 Tryz.func73 rfl rfl (Nat.le_of_ble_eq_true rfl) ?_
  simp (maxSteps := 4000000) -implicitDefEqProofs only [Tryz.f73, go_sem]
  intro b hb
  cases b with
  | true =>
    simp (maxSteps := 4000000) -implicitDefEqProofs only [go_sem, Nat.reduceAdd, Nat.reduceSub, Nat.reduceLT, Nat.reduceLeDiff, Nat.reduceEqDiff, ↓reduceIte]
    rw [hb rfl]
    refine Wk.trans (Wk.nil 0 2 rfl) ?_
    exact (Wk.sub (by (simp only [go_sem]) <;> trivial))
  | false =>
    simp (maxSteps := 4000000) -implicitDefEqProofs only [go_sem, Nat.reduceAdd, Nat.reduceSub, Nat.reduceLT, Nat.reduceLeDiff, Nat.reduceEqDiff, ↓reduceIte]
    exact ⟨by omega, ⟨by omega, by omega⟩, (Wk.via [1] (by (simp only [go_sem, ↓reduceIte]) <;> trivial) (by first | (simp (maxSteps := 4000000) -implicitDefEqProofs only [go_sem, Nat.reduceAdd, Nat.reduceSub, Nat.reduceLT, Nat.reduceLeDiff, Nat.reduceEqDiff, ↓reduceIte]; done) | ((simp (maxSteps := 4000000) -implicitDefEqProofs only [go_sem, Nat.reduceAdd, Nat.reduceSub, Nat.reduceLT, Nat.reduceLeDiff, Nat.reduceEqDiff, ↓reduceIte]) <;> omega)) (by simp) (by first | (simp; done) | (simp [so]; done)) (by (simp (maxSteps := 4000000) -implicitDefEqProofs only [go_sem, Nat.reduceAdd, Nat.reduceSub, Nat.reduceLT, Nat.reduceLeDiff, Nat.reduceEqDiff, ↓reduceIte]) <;> trivial) (by first | (simp only [go_sem]; done) | ((simp (maxSteps := 4000000) -implicitDefEqProofs only [go_sem, Nat.reduceAdd, Nat.reduceSub, Nat.reduceLT, Nat.reduceLeDiff, Nat.reduceEqDiff, ↓reduceIte]) <;> omega)) (Nat.zero_le _) (fun i h => absurd h (Nat.not_lt_zero i)))⟩
theorem clone_ev (l : List Ev) (hl : l.length ≤ 1000) : Spec Tryz.prog 76 [.d (.sl (l.map eD))] [] (.own 0) [.row 2 (l.map eD)] := by
  refine spec_of_ev (fn := Tryz.f76) DX_ok 3000 Tryz.func76 rfl rfl (Nat.le_of_ble_eq_true rfl) ?_
  simp (maxSteps := 4000000) -implicitDefEqProofs only [Tryz.f76, go_sem]
  intro b hb
  cases b with
  | true =>
    simp (maxSteps := 4000000) -implicitDefEqProofs only [go_sem, Nat.reduceAdd, Nat.reduceSub, Nat.reduceLT, Nat.reduceLeDiff, Nat.reduceEqDiff, ↓reduceIte]
    rw [hb rfl]
    refine Wk.trans (Wk.nil 0 2 rfl) ?_
    exact (Wk.sub (by (simp only [go_sem]) <;> trivial))
  | false =>
    simp (maxSteps := 4000000) -implicitDefEqProofs only [go_sem, Nat.reduceAdd, Nat.reduceSub, Nat.reduceLT, Nat.reduceLeDiff, Nat.reduceEqDiff, ↓reduceIte]
    exact ⟨by omega, ⟨by omega, by omega⟩, (Wk.via [1] (by (simp only [go_sem, ↓reduceIte]) <;> trivial) (by first | (simp (maxSteps := 4000000) -implicitDefEqProofs only [go_sem, Nat.reduceAdd, Nat.reduceSub, Nat.reduceLT, Nat.reduceLeDiff, Nat.reduceEqDiff, ↓reduceIte]; done) | ((simp (maxSteps := 4000000) -implicitDefEqProofs only [go_sem, Nat.reduceAdd, Nat.reduceSub, Nat.reduceLT, Nat.reduceLeDiff, Nat.reduceEqDiff, ↓reduceIte]) <;> omega)) (by simp) (by first | (simp; done) | (simp [so]; done)) (by (simp (maxSteps := 4000000) -implicitDefEqProofs only [go_sem, Nat.reduceAdd, Nat.reduceSub, Nat.reduceLT, Nat.reduceLeDiff, Nat.reduceEqDiff, ↓reduceIte]) <;> trivial) (by first | (simp only [go_sem]; done) | ((simp (maxSteps := 4000000) -implicitDefEqProofs only [go_sem, Nat.reduceAdd, Nat.reduceSub, Nat.reduceLT, Nat.reduceLeDiff, Nat.reduceEqDiff, ↓reduceIte]) <;> omega)) (Nat.zero_le _) (fun i h => absurd h (Nat.not_lt_zero i)))⟩
theorem clone_evV (l : List Ev) (hl : l.length ≤ 1000) : Spec Tryz.prog 76 [.d (.sl (l.map eD))] [] (.own 0) [.vec 2 (upD (l.map eD))] :=
  (clone_ev l hl).wk (Wk.rowv 0 rfl)
end Go.AX.Lg

/- Trains: what they are; keys that were put into a map; what is checked, by the program. -/
import Derived.Test.YtknofchgacbamaaK7
set_option maxHeartbeats 8000000
set_option linter.unusedVariables false
set_option linter.unusedSimpArgs false
set_option maxRecDepth 20000
namespace Go.AX.Tr
open Go.Proofs Go.RowKit Go.IntWalk Go.AX.Br Go.AX.Lg Go.AX.Qu Go.AX.Wn
instance memDec (b : ByteArray) (l : List ByteArray) : Decidable (b ∈ l) := @List.instDecidableMemOfLawfulBEq ByteArray instBEqOfDecidableEq inferInstance b l
structure Cl where
  br : ByteArray
  ch : ByteArray
instance : DecidableEq Cl := fun a b => decidable_of_iff (a.br = b.br ∧ a.ch = b.ch) (by cases a; cases b; simp)
def clD (c : Cl) : List D := [.str c.br, .str c.ch]
theorem clD_len {l : List Cl} : (∀ e ∈ l.map clD, e.length = 2) = True := eq_true (map_len (g := clD) fun _ => rfl)
attribute [go_sem] clD clD_len
theorem clD_eq (a b : Cl) : deqs (clD a) (clD b) = decide (a = b) := by
  cases a; cases b
  simp only [clD, deqs, deq, ba_beq, Bool.and_true]
  rw [Bool.eq_iff_iff]; simp
theorem clD_kind (s : Cl) : kindOk true [.str, .str] (clD s) := ⟨rfl, fun h => by cases h⟩
structure Tr where
  lg : Lg
  q : List Rq
  hs : List Hd
  cl : List Cl
def tC (t : Tr) : List AV := [.d (.sl (t.lg.kn.map kD)), .d (.sl (t.lg.br.map bD)), .d (.sl (t.lg.ev.map esD)), .d (.sl (t.q.map rD)), .d (.sl (t.hs.map hD)), .d (.sl (t.cl.map clD))]
def tA (t : Tr) : AV := .agg (tC t)
def tH (t : Tr) : AObj := .cells (tC t)
attribute [go_sem] tH tC
/-! ### keys put into a map -/
section
variable {κ : Type} [DecidableEq κ]
def keysM (l : List κ) : List (κ × Bool) := l.foldl (fun m k => mput k true m) []
theorem keys_snoc (l : List κ) (k : κ) : keysM (l ++ [k]) = mput k true (keysM l) := by simp [keysM]
theorem keys_take {l : List κ} {i : Nat} {k : κ} (h : l[i]? = some k) : keysM (l.take (i + 1)) = mput k true (keysM (l.take i)) := by
  rw [List.take_add_one, h, Option.toList_some, keys_snoc]
theorem mput_length {ν : Type} (k : κ) (v : ν) : ∀ m : List (κ × ν), (mput k v m).length = if (look k m).isSome then m.length else m.length + 1
  | [] => rfl
  | (a, b) :: m => by
    simp only [mput, look]
    by_cases e : k = a
    · simp [e]
    · simp only [if_neg e, List.length_cons, mput_length k v m]
      split <;> rfl
theorem look_keys (k : κ) : ∀ l : List κ, look k (keysM l) = if k ∈ l then some true else none := by
  intro l
  induction hx : l.length generalizing l with
  | zero => rw [List.length_eq_zero_iff.1 hx]; rfl
  | succ n ih =>
    obtain ⟨t, x, rfl⟩ : ∃ t x, l = t ++ [x] := ⟨l.dropLast, l.getLast (by intro e; rw [e] at hx; simp at hx), (List.dropLast_concat_getLast _).symm⟩
    rw [keys_snoc, look_put, ih t (by simpa using hx)]
    by_cases e : k = x
    · rw [if_pos e, if_pos (by simp [e])]
    · rw [if_neg e]; simp [e]
theorem keys_len : ∀ l : List κ, (keysM l).length ≤ l.length ∧ ((keysM l).length = l.length ↔ l.Nodup) := by
  intro l
  induction hx : l.length generalizing l with
  | zero => rw [List.length_eq_zero_iff.1 hx]; simp [keysM]
  | succ n ih =>
    obtain ⟨t, x, rfl⟩ : ∃ t x, l = t ++ [x] := ⟨l.dropLast, l.getLast (by intro e; rw [e] at hx; simp at hx), (List.dropLast_concat_getLast _).symm⟩
    have hl : t.length = n := by simpa using hx
    obtain ⟨i1, i2⟩ := ih t hl
    rw [keys_snoc, mput_length, look_keys]
    rw [List.nodup_append]
    by_cases e : x ∈ t
    · rw [if_pos e]
      simp only [Option.isSome_some, if_true]
      refine ⟨by omega, ⟨fun h => by omega, fun h => ?_⟩⟩
      exact absurd rfl (h.2.2 x e x (by simp))
    · rw [if_neg e]
      simp only [Option.isSome_none, Bool.false_eq_true, if_false]
      refine ⟨by omega, ⟨fun h => ⟨i2.1 (by omega), by simp, fun a ha b hb => ?_⟩, fun h => by have := i2.2 h.1; omega⟩⟩
      simp at hb; subst hb
      exact fun q => e (q ▸ ha)
end
def known (l : Lg) (b c : ByteArray) : Bool := decide (0 ≤ idx (has b) l.br) && decide (0 ≤ classR l c)
def badQ (l : Lg) (r : Rq) : Bool := !known l r.br r.ch
def badC (l : Lg) (c : Cl) : Bool := !known l c.br c.ch
def tcheck (t : Tr) : Int :=
  if lcheck t.lg ≠ 0 then lcheck t.lg else if qcheck t.q ≠ 0 then qcheck t.q else if wcheck t.hs ≠ 0 then wcheck t.hs
  else if 30 < t.cl.length then 4 else if t.q.any (badQ t.lg) then 6 else if t.cl.any (badC t.lg) then 6 else if t.cl.Nodup then 0 else 14
def nms (l : List Br) : List ByteArray := l.map fun b => b.name
def chs (l : List Kn) : List ByteArray := l.map fun k => k.ch
theorem idx_name {l : List Br} (b : ByteArray) : decide (0 ≤ idx (has b) l) = decide (b ∈ nms l) := by
  refine decide_eq_decide.2 ⟨fun h => ?_, fun h => ?_⟩
  · obtain ⟨i, x, h1, h2, h3⟩ := idx_get h
    simp only [has, decide_eq_true_eq] at h3
    exact List.mem_map.2 ⟨x, List.mem_of_getElem? h2, h3⟩
  · obtain ⟨x, hx, e⟩ := List.mem_map.1 h
    obtain ⟨i, hi⟩ := List.getElem?_of_mem hx
    exact (idx_le hi (p := has b) (by simp [has, e])).1
theorem class_mem {l : Lg} (hk : Kv l) (c : ByteArray) : decide (0 ≤ classR l c) = decide (c ∈ chs l.kn) := by
  refine decide_eq_decide.2 ⟨fun h => ?_, fun h => ?_⟩
  · unfold classR classN at h
    cases q : l.kn.find? (hasC c) with
    | none => rw [q] at h; simp at h
    | some k =>
      have h1 := List.find?_some q
      have h2 := List.mem_of_find?_eq_some q
      simp only [hasC, decide_eq_true_eq] at h1
      exact List.mem_map.2 ⟨k, h2, h1⟩
  · obtain ⟨x, hx, e⟩ := List.mem_map.1 h
    cases q : l.kn.find? (hasC c) with
    | none =>
      have := List.find?_eq_none.1 q x hx
      simp [hasC, e] at this
    | some k =>
      have h2 := List.mem_of_find?_eq_some q
      have := hk k h2
      simp only [classR, classN, q, Option.map_some, Option.getD_some]
      omega
theorem known_eq {l : Lg} (hk : Kv l) (b c : ByteArray) : known l b c = (decide (b ∈ nms l.br) && decide (c ∈ chs l.kn)) := by
  rw [known, idx_name, class_mem hk]
/-! ### the program -/
def orR : List Int → Int
  | [] => 0
  | x :: l => if x ≠ 0 then x else orR l
theorem orR_skip {l : List Int} {i : Nat} (h : ∀ j y, l[j]? = some y → j < i → y = 0) : orR l = orR (l.drop i) := by
  induction i generalizing l with
  | zero => rfl
  | succ i ih =>
    cases l with
    | nil => rfl
    | cons x l =>
      have := h 0 x rfl (by omega)
      rw [orR, if_neg (by omega), List.drop_succ_cons]
      exact ih fun j y hy hlt => h (j + 1) y hy (by omega)
theorem or_own (l : List Int) (hl : Sm l.length) : Spec Try.prog 40 [.d (.sl (l.map iD))] [] (.d (.int .i64 (orR l))) [] := by
  unfold Sm at hl
  obtain ⟨R, hR⟩ : ∃ R, R = orR l := ⟨_, rfl⟩
  rw [← hR]
  refine spec_of_ev (fn := Try.f40) DX_ok 3000 Try.func40 rfl rfl (Nat.le_of_ble_eq_true rfl) ?_
  simp (maxSteps := 4000000) -implicitDefEqProofs only [Try.f40, go_sem]
  refine eloop (S := Nat) (fun i => mkE 18 [(3, .d (.int .i64 0)), (6, .d (.sl (l.map iD))), (7, .d (.int .i64 l.length)), (8, .d (.int .i64 i))]) (fun i => []) (fun i => i ≤ l.length ∧ ∀ j y, l[j]? = some y → j < i → y = 0) (fun i => l.length - i) 0 ⟨by omega, by omega⟩ (Wk.sub (by (simp only [go_sem]) <;> trivial)) ?_
  rintro i ⟨hi, hj⟩
  rcases Nat.lt_or_ge i l.length with h2 | h2
  · have d2 : decide ((i : Int) < l.length) = true := by simp; omega
    obtain ⟨x, hx⟩ : ∃ x, l[i]? = some x := ⟨l[i]'(by omega), List.getElem?_eq_getElem _⟩
    have n1 : (0 ≤ (i : Int) ∧ (i : Int) < l.length) = True := eq_true (by omega)
    have n3 : (i < l.length) = True := eq_true (by omega)
    have w1 : IntKind.i64.wrap ((i : Int) + 1) = i + 1 := i64_in _ (by omega)
    by_cases h3 : x = 0
    · have z : (x != 0) = false := by simp [h3]
      simp (maxSteps := 4000000) -implicitDefEqProofs only [go_sem, d2, n1, n3, hx, z, w1, Option.some.injEq, forall_eq', and_true, true_and, Bool.not_true, Bool.not_false, decide_true, Nat.reduceAdd, Nat.reduceSub, Nat.reduceLT, Nat.reduceLeDiff, Nat.reduceEqDiff, ↓reduceIte]
      exact .mk (i + 1) ⟨by omega, upto_succ (p := fun _ y => y = 0) hx h3 hj⟩ (by omega) (Wk.sub (by (simp only [go_sem]) <;> trivial))
    · have z : (x != 0) = true := by simp [h3]
      have e : orR l = x := by
        rw [orR_skip hj, List.drop_eq_getElem_cons h2, (List.getElem?_eq_some_iff.1 hx).2, orR, if_pos h3]
      simp (maxSteps := 4000000) -implicitDefEqProofs only [go_sem, d2, n1, n3, hx, z, Option.some.injEq, forall_eq', and_true, true_and, Bool.not_true, Bool.not_false, decide_true, Nat.reduceAdd, Nat.reduceSub, Nat.reduceLT, Nat.reduceLeDiff, Nat.reduceEqDiff, ↓reduceIte]
      exact wk_int (by rw [hR, e])
  · have d2 : decide ((i : Int) < l.length) = false := by simp; omega
    have e : orR l = 0 := by rw [orR_skip hj, List.drop_eq_nil_of_le h2]; rfl
    simp (maxSteps := 4000000) -implicitDefEqProofs only [go_sem, d2, Option.some.injEq, forall_eq', and_true, true_and, Bool.not_true, Bool.not_false, decide_true, Nat.reduceAdd, Nat.reduceSub, Nat.reduceLT, Nat.reduceLeDiff, Nat.reduceEqDiff, ↓reduceIte]
    exact wk_int (by rw [hR, e])
end Go.AX.Tr
/- Trains: Check, both sides. -/
set_option maxHeartbeats 8000000
set_option linter.unusedVariables false
set_option linter.unusedSimpArgs false
set_option maxRecDepth 20000
namespace Go.AX.Tr
open Go.Proofs Go.RowKit Go.IntWalk Go.AX.Br Go.AX.Lg Go.AX.Qu Go.AX.Wn
theorem tcheck_own (t : Tr) (hk : t.lg.kn.length ≤ 1000) (hb : t.lg.br.length ≤ 1000) (he : t.lg.ev.length ≤ 1000) (hq : t.q.length ≤ 1000) (hh : t.hs.length ≤ 1000) (hc : t.cl.length ≤ 1000) :
    Spec Try.prog 14 [tA t] [] (.d (.int .i64 (tcheck t))) [] := by
  have c1 := lcheck_own t.lg hk hb he
  have c2 := qcheck_own t.q (by unfold Sm; omega)
  have c3 := wcheck_own t.hs (by unfold Sm; omega)
  have c4 := or_own [lcheck t.lg, qcheck t.q, wcheck t.hs] (by unfold Sm; simp)
  obtain ⟨O, hO⟩ : ∃ O, O = orR [lcheck t.lg, qcheck t.q, wcheck t.hs] := ⟨_, rfl⟩
  rw [← hO] at c4
  simp only [lA] at c1
  obtain ⟨R, hR⟩ : ∃ R, R = tcheck t := ⟨_, rfl⟩
  rw [← hR]
  have ko : O ≠ 0 → R = O := fun h => by
    rw [hR, hO]; rw [hO] at h
    by_cases h1 : lcheck t.lg = 0 <;> by_cases h2 : qcheck t.q = 0 <;> by_cases h3 : wcheck t.hs = 0 <;> simp_all [tcheck, orR]
  have ok : O = 0 → lcheck t.lg = 0 ∧ qcheck t.q = 0 ∧ wcheck t.hs = 0 := fun h => by
    rw [hO] at h
    by_cases h1 : lcheck t.lg = 0 <;> by_cases h2 : qcheck t.q = 0 <;> by_cases h3 : wcheck t.hs = 0 <;> simp_all [orR]
  have fin : ∀ {x y : Int} {σ : List AObj}, x = y → Wk 0 [.d (.int .i64 x)] σ [.d (.int .i64 y)] [] := fun e => by subst e; exact Wk.forget (by simp only [go_sem]) (by simp only [go_sem])
  obtain ⟨ns, hns⟩ : ∃ ns, ns = nms t.lg.br := ⟨_, rfl⟩
  obtain ⟨cs, hcs⟩ : ∃ ns, ns = chs t.lg.kn := ⟨_, rfl⟩
  have nl : ns.length = t.lg.br.length := by rw [hns, nms, List.length_map]
  have cl : cs.length = t.lg.kn.length := by rw [hcs, chs, List.length_map]
  have nd : ∀ (c : ByteArray) (M : List (ByteArray × Bool)), (∃ ks, KeyT Try.prog 9 false ks ∧ kindOk false ks [D.str c] ∧ ∀ y ∈ mD sD boD M, kindOk false ks y.1) = True := fun c M => mneed (kD := sD) (vD := boD) Ty.keyT_9 sD_kind c M
  have up : ∀ (c : ByteArray) (M : List (ByteArray × Bool)), upM [D.str c] [.bool true] (mD sD boD M) = mD sD boD (mput c true M) := fun c M => upM_mD (kD := sD) (vD := boD) sD_eq c true M
  have gd : ∀ (c : ByteArray) (l : List ByteArray), (lkM [D.str c] (mD sD boD (keysM l))).getD [D.bool false] = [D.bool (decide (c ∈ l))] := fun c l => by
    have := lkM_mD (kD := sD) (vD := boD) sD_eq c (keysM l)
    rw [show [D.str c] = sD c from rfl, this, look_keys]
    by_cases h : c ∈ l
    · rw [if_pos h, decide_eq_true h]; rfl
    · rw [if_neg h, decide_eq_false h]; rfl
  have nk : ∀ (c : Cl) (M : List (Cl × Bool)), (∃ ks, KeyT Try.prog 55 true ks ∧ kindOk true ks [D.str c.br, D.str c.ch] ∧ ∀ y ∈ mD clD boD M, kindOk true ks y.1) = True := fun c M => mneed (kD := clD) (vD := boD) Ty.keyT_55 clD_kind c M
  have uk : ∀ (c : Cl) (M : List (Cl × Bool)), upM [D.str c.br, D.str c.ch] [.bool true] (mD clD boD M) = mD clD boD (mput c true M) := fun c M => upM_mD (kD := clD) (vD := boD) clD_eq c true M
  refine spec_of_ev (fn := Try.f14) DX_ok 3000 Try.func14 rfl rfl (Nat.le_of_ble_eq_true rfl) ?_
  simp (maxSteps := 4000000) -implicitDefEqProofs only [Try.f14, go_sem, tA]
  refine DX.plain (.take 0 false (.take 1 false (.take 2 false (.take 3 false (.take 4 false (.take 5 false (.take 6 false (.take 7 false (.take 8 false (.runV [9] (fun _ => []) fun _ => (.take 10 false (.take 11 false .done)))))))))))) (by kernel_rfl) (by kernel_rfl) Ty.mixed ?_
  simp (maxSteps := 4000000) -implicitDefEqProofs only [go_sem, hk, Option.some.injEq, forall_eq', and_true, true_and, Bool.not_true, Bool.not_false, decide_true, Nat.reduceAdd, Nat.reduceSub, Nat.reduceLT, Nat.reduceLeDiff, Nat.reduceEqDiff, ↓reduceIte]
  refine ⟨_, _, c1.lift0 _ (by simp only [go_sem]) (by simp only [go_sem]), rfl, ?_⟩
  refine ⟨_, _, c2.lift0 _ (by simp only [go_sem]) (by simp only [go_sem]), rfl, ?_⟩
  refine ⟨_, _, c3.lift0 _ (by simp only [go_sem]) (by simp only [go_sem]), rfl, ?_⟩
  simp (maxSteps := 4000000) -implicitDefEqProofs only [go_sem, Nat.reduceAdd, Nat.reduceSub, Nat.reduceLT, Nat.reduceLeDiff, Nat.reduceEqDiff, ↓reduceIte]
  refine ⟨_, _, Wk.frz 1 rfl, ?_⟩
  simp (maxSteps := 4000000) -implicitDefEqProofs only [go_sem, Nat.reduceAdd, Nat.reduceSub, Nat.reduceLT, Nat.reduceLeDiff, Nat.reduceEqDiff, ↓reduceIte]
  refine ⟨_, _, c4.lift0 _ (by simp only [go_sem]) (by simp only [go_sem]), rfl, ?_⟩
  cases k1 : (O != 0)
  case true =>
    simp (maxSteps := 4000000) -implicitDefEqProofs only [go_sem, k1, Option.some.injEq, forall_eq', and_true, true_and, Bool.not_true, Bool.not_false, decide_true, Nat.reduceAdd, Nat.reduceSub, Nat.reduceLT, Nat.reduceLeDiff, Nat.reduceEqDiff, ↓reduceIte]
    exact fin (ko (by simpa using k1)).symm
  have k1x : O = 0 := by simpa using k1
  obtain ⟨p1, p2, p3⟩ := ok k1x
  have lo := lok_of p1
  have hR2 : R = if 30 < t.cl.length then 4 else if t.q.any (badQ t.lg) then 6 else if t.cl.any (badC t.lg) then 6 else if t.cl.Nodup then 0 else 14 := by
    rw [hR, tcheck, if_neg (by omega), if_neg (by omega), if_neg (by omega)]
  have kn : ∀ b c, known t.lg b c = (decide (b ∈ ns) && decide (c ∈ cs)) := fun b c => by rw [hns, hcs]; exact known_eq lo.kv b c
  cases k2 : decide (30 < t.cl.length)
  case true =>
    have k2' : decide (30 < (t.cl.length : Int)) = true := by simp only [decide_eq_true_eq] at k2 ⊢; omega
    simp (maxSteps := 4000000) -implicitDefEqProofs only [go_sem, k1, k2', Option.some.injEq, forall_eq', and_true, true_and, Bool.not_true, Bool.not_false, decide_true, Nat.reduceAdd, Nat.reduceSub, Nat.reduceLT, Nat.reduceLeDiff, Nat.reduceEqDiff, ↓reduceIte]
    exact fin (by rw [hR2, if_pos (of_decide_eq_true k2)])
  have k2' : decide (30 < (t.cl.length : Int)) = false := by simp only [decide_eq_false_iff_not] at k2 ⊢; omega
  rw [if_neg (of_decide_eq_false k2)] at hR2
  simp (maxSteps := 4000000) -implicitDefEqProofs only [go_sem, k1, k2', Option.some.injEq, forall_eq', and_true, true_and, Bool.not_true, Bool.not_false, decide_true, Nat.reduceAdd, Nat.reduceSub, Nat.reduceLT, Nat.reduceLeDiff, Nat.reduceEqDiff, ↓reduceIte]
  clear c1 c2 c3 c4 ko ok hO hR
  refine eloop (S := Nat) (fun i => mkE 108 [(1, .ptr 0 0), (4, .mp 1), (5, .mp 2), (37, .d (.sl (t.lg.br.map bD))), (38, .d (.int .i64 t.lg.br.length)), (39, .d (.int .i64 i))]) (fun i => [tH t, .map false false (mD sD boD (keysM (ns.take i))), .map false false []]) (fun i => i ≤ t.lg.br.length) (fun i => t.lg.br.length - i) 0 (by omega) (Wk.via [0, 2, 3] (by (simp only [go_sem, ↓reduceIte]) <;> trivial) (by first | (simp (maxSteps := 4000000) -implicitDefEqProofs only [go_sem, Nat.reduceAdd, Nat.reduceSub, Nat.reduceLT, Nat.reduceLeDiff, Nat.reduceEqDiff, ↓reduceIte]; done) | ((simp (maxSteps := 4000000) -implicitDefEqProofs only [go_sem, Nat.reduceAdd, Nat.reduceSub, Nat.reduceLT, Nat.reduceLeDiff, Nat.reduceEqDiff, ↓reduceIte]) <;> omega)) (by simp) (by first | (simp; done) | (simp [so]; done)) (by (simp (maxSteps := 4000000) -implicitDefEqProofs only [go_sem, Nat.reduceAdd, Nat.reduceSub, Nat.reduceLT, Nat.reduceLeDiff, Nat.reduceEqDiff, ↓reduceIte]) <;> trivial) (by first | (simp only [go_sem]; done) | ((simp (maxSteps := 4000000) -implicitDefEqProofs only [go_sem, Nat.reduceAdd, Nat.reduceSub, Nat.reduceLT, Nat.reduceLeDiff, Nat.reduceEqDiff, ↓reduceIte]) <;> omega)) (Nat.zero_le _) (fun i h => absurd h (Nat.not_lt_zero i))) ?_
  intro i hi
  rcases Nat.lt_or_ge i t.lg.br.length with h2 | h2
  case inl =>
    have f1 : decide ((i : Int) < t.lg.br.length) = true := by simp; omega
    obtain ⟨x, hx⟩ : ∃ x, t.lg.br[i]? = some x := ⟨t.lg.br[i]'h2, List.getElem?_eq_getElem _⟩
    have n1 : (0 ≤ (i : Int) ∧ (i : Int) < t.lg.br.length) = True := eq_true (by omega)
    have n2 : (i < t.lg.br.length) = True := eq_true (by omega)
    have w1 : IntKind.i64.wrap ((i : Int) + 1) = ((i + 1 : Nat) : Int) := by rw [i64_in _ (by omega)]; simp
    have e := keys_take (l := ns) (i := i) (k := x.name) (by rw [hns, nms, List.getElem?_map, hx]; rfl)
    obtain ⟨m, hm⟩ : ∃ m, m = keysM (ns.take i) := ⟨_, rfl⟩
    rw [← hm] at e ⊢
    have nd1 := nd x.name m
    have up1 := up x.name m
    simp (maxSteps := 4000000) -implicitDefEqProofs only [go_sem, f1, n1, n2, hx, nd1, up1, w1, Option.some.injEq, forall_eq', and_true, true_and, Bool.not_true, Bool.not_false, decide_true, Nat.reduceAdd, Nat.reduceSub, Nat.reduceLT, Nat.reduceLeDiff, Nat.reduceEqDiff, ↓reduceIte]
    exact .mk (i + 1) (by omega) (by omega) (by rw [e]; exact (Wk.via [0, 1, 2] (by (simp only [go_sem, ↓reduceIte]) <;> trivial) (by first | (simp (maxSteps := 4000000) -implicitDefEqProofs only [go_sem, Nat.reduceAdd, Nat.reduceSub, Nat.reduceLT, Nat.reduceLeDiff, Nat.reduceEqDiff, ↓reduceIte]; done) | ((simp (maxSteps := 4000000) -implicitDefEqProofs only [go_sem, Nat.reduceAdd, Nat.reduceSub, Nat.reduceLT, Nat.reduceLeDiff, Nat.reduceEqDiff, ↓reduceIte]) <;> omega)) (by simp) (by first | (simp; done) | (simp [so]; done)) (by (simp (maxSteps := 4000000) -implicitDefEqProofs only [go_sem, Nat.reduceAdd, Nat.reduceSub, Nat.reduceLT, Nat.reduceLeDiff, Nat.reduceEqDiff, ↓reduceIte]) <;> trivial) (by first | (simp only [go_sem]; done) | ((simp (maxSteps := 4000000) -implicitDefEqProofs only [go_sem, Nat.reduceAdd, Nat.reduceSub, Nat.reduceLT, Nat.reduceLeDiff, Nat.reduceEqDiff, ↓reduceIte]) <;> omega)) (Nat.zero_le _) (fun i h => absurd h (Nat.not_lt_zero i))))
  have f1 : decide ((i : Int) < t.lg.br.length) = false := by simp; omega
  rw [List.take_of_length_le (by omega : ns.length ≤ i)]
  simp (maxSteps := 4000000) -implicitDefEqProofs only [go_sem, f1, Option.some.injEq, forall_eq', and_true, true_and, Bool.not_true, Bool.not_false, decide_true, Nat.reduceAdd, Nat.reduceSub, Nat.reduceLT, Nat.reduceLeDiff, Nat.reduceEqDiff, ↓reduceIte]
  clear hi h2 f1
  refine eloop (S := Nat) (fun i => mkE 108 [(1, .ptr 0 0), (4, .mp 1), (5, .mp 2), (49, .d (.sl (t.lg.kn.map kD))), (50, .d (.int .i64 t.lg.kn.length)), (51, .d (.int .i64 i))]) (fun i => [tH t, .map false false (mD sD boD (keysM ns)), .map false false (mD sD boD (keysM (cs.take i)))]) (fun i => i ≤ t.lg.kn.length) (fun i => t.lg.kn.length - i) 0 (by omega) (Wk.via [0, 1, 2] (by (simp only [go_sem, ↓reduceIte]) <;> trivial) (by first | (simp (maxSteps := 4000000) -implicitDefEqProofs only [go_sem, Nat.reduceAdd, Nat.reduceSub, Nat.reduceLT, Nat.reduceLeDiff, Nat.reduceEqDiff, ↓reduceIte]; done) | ((simp (maxSteps := 4000000) -implicitDefEqProofs only [go_sem, Nat.reduceAdd, Nat.reduceSub, Nat.reduceLT, Nat.reduceLeDiff, Nat.reduceEqDiff, ↓reduceIte]) <;> omega)) (by simp) (by first | (simp; done) | (simp [so]; done)) (by (simp (maxSteps := 4000000) -implicitDefEqProofs only [go_sem, Nat.reduceAdd, Nat.reduceSub, Nat.reduceLT, Nat.reduceLeDiff, Nat.reduceEqDiff, ↓reduceIte]) <;> trivial) (by first | (simp only [go_sem]; done) | ((simp (maxSteps := 4000000) -implicitDefEqProofs only [go_sem, Nat.reduceAdd, Nat.reduceSub, Nat.reduceLT, Nat.reduceLeDiff, Nat.reduceEqDiff, ↓reduceIte]) <;> omega)) (Nat.zero_le _) (fun i h => absurd h (Nat.not_lt_zero i))) ?_
  intro i hi
  rcases Nat.lt_or_ge i t.lg.kn.length with h2 | h2
  case inl =>
    have f1 : decide ((i : Int) < t.lg.kn.length) = true := by simp; omega
    obtain ⟨x, hx⟩ : ∃ x, t.lg.kn[i]? = some x := ⟨t.lg.kn[i]'h2, List.getElem?_eq_getElem _⟩
    have n1 : (0 ≤ (i : Int) ∧ (i : Int) < t.lg.kn.length) = True := eq_true (by omega)
    have n2 : (i < t.lg.kn.length) = True := eq_true (by omega)
    have w1 : IntKind.i64.wrap ((i : Int) + 1) = ((i + 1 : Nat) : Int) := by rw [i64_in _ (by omega)]; simp
    have e := keys_take (l := cs) (i := i) (k := x.ch) (by rw [hcs, chs, List.getElem?_map, hx]; rfl)
    obtain ⟨m, hm⟩ : ∃ m, m = keysM (cs.take i) := ⟨_, rfl⟩
    rw [← hm] at e ⊢
    have nd1 := nd x.ch m
    have up1 := up x.ch m
    simp (maxSteps := 4000000) -implicitDefEqProofs only [go_sem, f1, n1, n2, hx, nd1, up1, w1, Option.some.injEq, forall_eq', and_true, true_and, Bool.not_true, Bool.not_false, decide_true, Nat.reduceAdd, Nat.reduceSub, Nat.reduceLT, Nat.reduceLeDiff, Nat.reduceEqDiff, ↓reduceIte]
    exact .mk (i + 1) (by omega) (by omega) (by rw [e]; exact (Wk.via [0, 1, 2] (by (simp only [go_sem, ↓reduceIte]) <;> trivial) (by first | (simp (maxSteps := 4000000) -implicitDefEqProofs only [go_sem, Nat.reduceAdd, Nat.reduceSub, Nat.reduceLT, Nat.reduceLeDiff, Nat.reduceEqDiff, ↓reduceIte]; done) | ((simp (maxSteps := 4000000) -implicitDefEqProofs only [go_sem, Nat.reduceAdd, Nat.reduceSub, Nat.reduceLT, Nat.reduceLeDiff, Nat.reduceEqDiff, ↓reduceIte]) <;> omega)) (by simp) (by first | (simp; done) | (simp [so]; done)) (by (simp (maxSteps := 4000000) -implicitDefEqProofs only [go_sem, Nat.reduceAdd, Nat.reduceSub, Nat.reduceLT, Nat.reduceLeDiff, Nat.reduceEqDiff, ↓reduceIte]) <;> trivial) (by first | (simp only [go_sem]; done) | ((simp (maxSteps := 4000000) -implicitDefEqProofs only [go_sem, Nat.reduceAdd, Nat.reduceSub, Nat.reduceLT, Nat.reduceLeDiff, Nat.reduceEqDiff, ↓reduceIte]) <;> omega)) (Nat.zero_le _) (fun i h => absurd h (Nat.not_lt_zero i))))
  have f1 : decide ((i : Int) < t.lg.kn.length) = false := by simp; omega
  rw [List.take_of_length_le (by omega : cs.length ≤ i)]
  simp (maxSteps := 4000000) -implicitDefEqProofs only [go_sem, f1, Option.some.injEq, forall_eq', and_true, true_and, Bool.not_true, Bool.not_false, decide_true, Nat.reduceAdd, Nat.reduceSub, Nat.reduceLT, Nat.reduceLeDiff, Nat.reduceEqDiff, ↓reduceIte]
  clear hi h2 f1
  refine eloop (S := Nat) (fun i => mkE 108 [(1, .ptr 0 0), (4, .mp 1), (5, .mp 2), (60, .d (.sl (t.q.map rD))), (61, .d (.int .i64 t.q.length)), (62, .d (.int .i64 i))]) (fun i => [tH t, .map false false (mD sD boD (keysM ns)), .map false false (mD sD boD (keysM cs))]) (fun i => i ≤ t.q.length ∧ ∀ j y, t.q[j]? = some y → j < i → badQ t.lg y = false) (fun i => t.q.length - i) 0 ⟨by omega, by omega⟩ (Wk.via [0, 1, 2] (by (simp only [go_sem, ↓reduceIte]) <;> trivial) (by first | (simp (maxSteps := 4000000) -implicitDefEqProofs only [go_sem, Nat.reduceAdd, Nat.reduceSub, Nat.reduceLT, Nat.reduceLeDiff, Nat.reduceEqDiff, ↓reduceIte]; done) | ((simp (maxSteps := 4000000) -implicitDefEqProofs only [go_sem, Nat.reduceAdd, Nat.reduceSub, Nat.reduceLT, Nat.reduceLeDiff, Nat.reduceEqDiff, ↓reduceIte]) <;> omega)) (by simp) (by first | (simp; done) | (simp [so]; done)) (by (simp (maxSteps := 4000000) -implicitDefEqProofs only [go_sem, Nat.reduceAdd, Nat.reduceSub, Nat.reduceLT, Nat.reduceLeDiff, Nat.reduceEqDiff, ↓reduceIte]) <;> trivial) (by first | (simp only [go_sem]; done) | ((simp (maxSteps := 4000000) -implicitDefEqProofs only [go_sem, Nat.reduceAdd, Nat.reduceSub, Nat.reduceLT, Nat.reduceLeDiff, Nat.reduceEqDiff, ↓reduceIte]) <;> omega)) (Nat.zero_le _) (fun i h => absurd h (Nat.not_lt_zero i))) ?_
  rintro i ⟨hi, hj⟩
  rcases Nat.lt_or_ge i t.q.length with h2 | h2
  case inl =>
    have f1 : decide ((i : Int) < t.q.length) = true := by simp; omega
    obtain ⟨x, hx⟩ : ∃ x, t.q[i]? = some x := ⟨t.q[i]'h2, List.getElem?_eq_getElem _⟩
    have n1 : (0 ≤ (i : Int) ∧ (i : Int) < t.q.length) = True := eq_true (by omega)
    have n2 : (i < t.q.length) = True := eq_true (by omega)
    have w1 : IntKind.i64.wrap ((i : Int) + 1) = ((i + 1 : Nat) : Int) := by rw [i64_in _ (by omega)]; simp
    have nd1 := nd x.br (keysM ns)
    have nd2 := nd x.ch (keysM cs)
    have gd1 := gd x.br ns
    have gd2 := gd x.ch cs
    have bq : badQ t.lg x = !(decide (x.br ∈ ns) && decide (x.ch ∈ cs)) := by rw [badQ, kn]
    have b1 : (!true) = false := rfl
    have b2 : (!false) = true := rfl
    have out : badQ t.lg x = true → R = 6 := fun h => by rw [hR2, if_pos (any_t hx h)]
    cases g1 : decide (x.br ∈ ns)
    case false =>
      rw [g1] at gd1 bq
      simp (maxSteps := 4000000) -implicitDefEqProofs only [go_sem, f1, n1, n2, hx, nd1, gd1, b2, Option.some.injEq, forall_eq', and_true, true_and, Bool.not_true, Bool.not_false, decide_true, Nat.reduceAdd, Nat.reduceSub, Nat.reduceLT, Nat.reduceLeDiff, Nat.reduceEqDiff, ↓reduceIte]
      exact fin (out (by rw [bq]; rfl)).symm
    cases g2 : decide (x.ch ∈ cs)
    case false =>
      rw [g1] at gd1 bq
      rw [g2] at gd2 bq
      simp (maxSteps := 4000000) -implicitDefEqProofs only [go_sem, f1, n1, n2, hx, nd1, gd1, nd2, gd2, b1, b2, Option.some.injEq, forall_eq', and_true, true_and, Bool.not_true, Bool.not_false, decide_true, Nat.reduceAdd, Nat.reduceSub, Nat.reduceLT, Nat.reduceLeDiff, Nat.reduceEqDiff, ↓reduceIte]
      exact fin (out (by rw [bq]; rfl)).symm
    rw [g1] at gd1 bq
    rw [g2] at gd2 bq
    simp (maxSteps := 4000000) -implicitDefEqProofs only [go_sem, f1, n1, n2, hx, nd1, gd1, nd2, gd2, b1, b2, w1, Option.some.injEq, forall_eq', and_true, true_and, Bool.not_true, Bool.not_false, decide_true, Nat.reduceAdd, Nat.reduceSub, Nat.reduceLT, Nat.reduceLeDiff, Nat.reduceEqDiff, ↓reduceIte]
    exact .mk (i + 1) ⟨by omega, upto_succ hx (by rw [bq]; rfl) hj⟩ (by omega) (Wk.via [0, 1, 2] (by (simp only [go_sem, ↓reduceIte]) <;> trivial) (by first | (simp (maxSteps := 4000000) -implicitDefEqProofs only [go_sem, Nat.reduceAdd, Nat.reduceSub, Nat.reduceLT, Nat.reduceLeDiff, Nat.reduceEqDiff, ↓reduceIte]; done) | ((simp (maxSteps := 4000000) -implicitDefEqProofs only [go_sem, Nat.reduceAdd, Nat.reduceSub, Nat.reduceLT, Nat.reduceLeDiff, Nat.reduceEqDiff, ↓reduceIte]) <;> omega)) (by simp) (by first | (simp; done) | (simp [so]; done)) (by (simp (maxSteps := 4000000) -implicitDefEqProofs only [go_sem, Nat.reduceAdd, Nat.reduceSub, Nat.reduceLT, Nat.reduceLeDiff, Nat.reduceEqDiff, ↓reduceIte]) <;> trivial) (by first | (simp only [go_sem]; done) | ((simp (maxSteps := 4000000) -implicitDefEqProofs only [go_sem, Nat.reduceAdd, Nat.reduceSub, Nat.reduceLT, Nat.reduceLeDiff, Nat.reduceEqDiff, ↓reduceIte]) <;> omega)) (Nat.zero_le _) (fun i h => absurd h (Nat.not_lt_zero i)))
  have f1 : decide ((i : Int) < t.q.length) = false := by simp; omega
  rw [any_f fun j y hy => hj j y hy (by have := some_lt hy; omega)] at hR2
  simp only [Bool.false_eq_true, if_false] at hR2
  simp (maxSteps := 4000000) -implicitDefEqProofs only [go_sem, f1, Option.some.injEq, forall_eq', and_true, true_and, Bool.not_true, Bool.not_false, decide_true, Nat.reduceAdd, Nat.reduceSub, Nat.reduceLT, Nat.reduceLeDiff, Nat.reduceEqDiff, ↓reduceIte]
  clear hj hi h2 f1
  refine eloop (S := Nat) (fun i => mkE 108 [(1, .ptr 0 0), (4, .mp 1), (5, .mp 2), (12, .mp 3), (81, .d (.sl (t.cl.map clD))), (82, .d (.int .i64 t.cl.length)), (83, .d (.int .i64 i))]) (fun i => [tH t, .map false false (mD sD boD (keysM ns)), .map false false (mD sD boD (keysM cs)), .map true false (mD clD boD (keysM (t.cl.take i)))]) (fun i => i ≤ t.cl.length ∧ ∀ j y, t.cl[j]? = some y → j < i → badC t.lg y = false) (fun i => t.cl.length - i) 0 ⟨by omega, by omega⟩ (Wk.via [0, 1, 2, 3] (by (simp only [go_sem, ↓reduceIte]) <;> trivial) (by first | (simp (maxSteps := 4000000) -implicitDefEqProofs only [go_sem, Nat.reduceAdd, Nat.reduceSub, Nat.reduceLT, Nat.reduceLeDiff, Nat.reduceEqDiff, ↓reduceIte]; done) | ((simp (maxSteps := 4000000) -implicitDefEqProofs only [go_sem, Nat.reduceAdd, Nat.reduceSub, Nat.reduceLT, Nat.reduceLeDiff, Nat.reduceEqDiff, ↓reduceIte]) <;> omega)) (by simp) (by first | (simp; done) | (simp [so]; done)) (by (simp (maxSteps := 4000000) -implicitDefEqProofs only [go_sem, Nat.reduceAdd, Nat.reduceSub, Nat.reduceLT, Nat.reduceLeDiff, Nat.reduceEqDiff, ↓reduceIte]) <;> trivial) (by first | (simp only [go_sem]; done) | ((simp (maxSteps := 4000000) -implicitDefEqProofs only [go_sem, Nat.reduceAdd, Nat.reduceSub, Nat.reduceLT, Nat.reduceLeDiff, Nat.reduceEqDiff, ↓reduceIte]) <;> omega)) (Nat.zero_le _) (fun i h => absurd h (Nat.not_lt_zero i))) ?_
  rintro i ⟨hi, hj⟩
  rcases Nat.lt_or_ge i t.cl.length with h2 | h2
  case inl =>
    have f1 : decide ((i : Int) < t.cl.length) = true := by simp; omega
    obtain ⟨x, hx⟩ : ∃ x, t.cl[i]? = some x := ⟨t.cl[i]'h2, List.getElem?_eq_getElem _⟩
    have n1 : (0 ≤ (i : Int) ∧ (i : Int) < t.cl.length) = True := eq_true (by omega)
    have n2 : (i < t.cl.length) = True := eq_true (by omega)
    have w1 : IntKind.i64.wrap ((i : Int) + 1) = ((i + 1 : Nat) : Int) := by rw [i64_in _ (by omega)]; simp
    have nd1 := nd x.br (keysM ns)
    have nd2 := nd x.ch (keysM cs)
    have gd1 := gd x.br ns
    have gd2 := gd x.ch cs
    have e := keys_take hx
    obtain ⟨m, hm⟩ : ∃ m, m = keysM (t.cl.take i) := ⟨_, rfl⟩
    rw [← hm] at e ⊢
    have nk1 := nk x m
    have uk1 := uk x m
    have bq : badC t.lg x = !(decide (x.br ∈ ns) && decide (x.ch ∈ cs)) := by rw [badC, kn]
    have b1 : (!true) = false := rfl
    have b2 : (!false) = true := rfl
    have out : badC t.lg x = true → R = 6 := fun h => by rw [hR2, if_pos (any_t hx h)]
    cases g1 : decide (x.br ∈ ns)
    case false =>
      rw [g1] at gd1 bq
      simp (maxSteps := 4000000) -implicitDefEqProofs only [go_sem, f1, n1, n2, hx, nd1, gd1, b2, Option.some.injEq, forall_eq', and_true, true_and, Bool.not_true, Bool.not_false, decide_true, Nat.reduceAdd, Nat.reduceSub, Nat.reduceLT, Nat.reduceLeDiff, Nat.reduceEqDiff, ↓reduceIte]
      exact fin (out (by rw [bq]; rfl)).symm
    cases g2 : decide (x.ch ∈ cs)
    case false =>
      rw [g1] at gd1 bq
      rw [g2] at gd2 bq
      simp (maxSteps := 4000000) -implicitDefEqProofs only [go_sem, f1, n1, n2, hx, nd1, gd1, nd2, gd2, b1, b2, Option.some.injEq, forall_eq', and_true, true_and, Bool.not_true, Bool.not_false, decide_true, Nat.reduceAdd, Nat.reduceSub, Nat.reduceLT, Nat.reduceLeDiff, Nat.reduceEqDiff, ↓reduceIte]
      exact fin (out (by rw [bq]; rfl)).symm
    rw [g1] at gd1 bq
    rw [g2] at gd2 bq
    simp (maxSteps := 4000000) -implicitDefEqProofs only [go_sem, f1, n1, n2, hx, nd1, gd1, nd2, gd2, nk1, uk1, b1, b2, w1, Option.some.injEq, forall_eq', and_true, true_and, Bool.not_true, Bool.not_false, decide_true, Nat.reduceAdd, Nat.reduceSub, Nat.reduceLT, Nat.reduceLeDiff, Nat.reduceEqDiff, ↓reduceIte]
    exact .mk (i + 1) ⟨by omega, upto_succ hx (by rw [bq]; rfl) hj⟩ (by omega) (by rw [e]; exact (Wk.via [0, 1, 2, 3] (by (simp only [go_sem, ↓reduceIte]) <;> trivial) (by first | (simp (maxSteps := 4000000) -implicitDefEqProofs only [go_sem, Nat.reduceAdd, Nat.reduceSub, Nat.reduceLT, Nat.reduceLeDiff, Nat.reduceEqDiff, ↓reduceIte]; done) | ((simp (maxSteps := 4000000) -implicitDefEqProofs only [go_sem, Nat.reduceAdd, Nat.reduceSub, Nat.reduceLT, Nat.reduceLeDiff, Nat.reduceEqDiff, ↓reduceIte]) <;> omega)) (by simp) (by first | (simp; done) | (simp [so]; done)) (by (simp (maxSteps := 4000000) -implicitDefEqProofs only [go_sem, Nat.reduceAdd, Nat.reduceSub, Nat.reduceLT, Nat.reduceLeDiff, Nat.reduceEqDiff, ↓reduceIte]) <;> trivial) (by first | (simp only [go_sem]; done) | ((simp (maxSteps := 4000000) -implicitDefEqProofs only [go_sem, Nat.reduceAdd, Nat.reduceSub, Nat.reduceLT, Nat.reduceLeDiff, Nat.reduceEqDiff, ↓reduceIte]) <;> omega)) (Nat.zero_le _) (fun i h => absurd h (Nat.not_lt_zero i))))
  have f1 : decide ((i : Int) < t.cl.length) = false := by simp; omega
  rw [any_f fun j y hy => hj j y hy (by have := some_lt hy; omega)] at hR2
  simp only [Bool.false_eq_true, if_false] at hR2
  rw [List.take_of_length_le h2]
  obtain ⟨q1, q2⟩ := keys_len t.cl
  have ml : (mD clD boD (keysM t.cl)).length = (keysM t.cl).length := by simp [mD]
  by_cases h3 : t.cl.Nodup
  · have := q2.2 h3
    have d3 : decide (((keysM t.cl).length : Int) < t.cl.length) = false := by simp; omega
    simp (maxSteps := 4000000) -implicitDefEqProofs only [go_sem, f1, ml, d3, Option.some.injEq, forall_eq', and_true, true_and, Bool.not_true, Bool.not_false, decide_true, Nat.reduceAdd, Nat.reduceSub, Nat.reduceLT, Nat.reduceLeDiff, Nat.reduceEqDiff, ↓reduceIte]
    exact fin (by rw [hR2, if_pos h3])
  · have : (keysM t.cl).length ≠ t.cl.length := fun h => h3 (q2.1 h)
    have d3 : decide (((keysM t.cl).length : Int) < t.cl.length) = true := by simp; omega
    simp (maxSteps := 4000000) -implicitDefEqProofs only [go_sem, f1, ml, d3, Option.some.injEq, forall_eq', and_true, true_and, Bool.not_true, Bool.not_false, decide_true, Nat.reduceAdd, Nat.reduceSub, Nat.reduceLT, Nat.reduceLeDiff, Nat.reduceEqDiff, ↓reduceIte]
    exact fin (by rw [hR2, if_neg h3])
end Go.AX.Tr
/- Trains: Check of the reference; outcomes, both sides. -/
set_option maxHeartbeats 8000000
set_option linter.unusedVariables false
set_option linter.unusedSimpArgs false
set_option maxRecDepth 20000
namespace Go.AX.Tr
open Go.Proofs Go.RowKit Go.IntWalk Go.AX.Br Go.AX.Lg Go.AX.Qu Go.AX.Wn
theorem known_ref (l : Lg) (b c : ByteArray) (hk : Sm l.kn.length) (hb : Sm l.br.length) : Spec Try.prog 48 [lA l, .d (.str b), .d (.str c)] [] (.d (.bool (known l b c))) [] := by
  have c1 := Br.index_ref l.br b hb
  have c2 := class_ref l c hk
  simp only [lA] at c2
  unfold known
  refine spec_of_ev (fn := Try.f48) DX_ok 3000 Try.func48 rfl rfl (Nat.le_of_ble_eq_true rfl) ?_
  simp (maxSteps := 4000000) -implicitDefEqProofs only [Try.f48, go_sem, lA]
  refine ecall0 _ c1 (by simp only [go_sem]) (by simp only [go_sem]) ?_
  cases k1 : decide (0 ≤ idx (has b) l.br)
  case false =>
    simp (maxSteps := 4000000) -implicitDefEqProofs only [go_sem, k1, Option.some.injEq, forall_eq', and_true, true_and, Bool.not_true, Bool.not_false, decide_true, Nat.reduceAdd, Nat.reduceSub, Nat.reduceLT, Nat.reduceLeDiff, Nat.reduceEqDiff, ↓reduceIte]
    exact wk_bool rfl
  simp (maxSteps := 4000000) -implicitDefEqProofs only [go_sem, k1, Option.some.injEq, forall_eq', and_true, true_and, Bool.not_true, Bool.not_false, decide_true, Nat.reduceAdd, Nat.reduceSub, Nat.reduceLT, Nat.reduceLeDiff, Nat.reduceEqDiff, ↓reduceIte]
  refine ecall0 _ c2 (by simp only [go_sem]) (by simp only [go_sem]) ?_
  simp (maxSteps := 4000000) -implicitDefEqProofs only [go_sem, Nat.reduceAdd, Nat.reduceSub, Nat.reduceLT, Nat.reduceLeDiff, Nat.reduceEqDiff, ↓reduceIte]
  exact wk_bool rfl
/-- two that are the same, one before the other -/
def dupN (l : List Cl) (i : Nat) : Prop := ∀ a b x, b < i → a < b → l[a]? = some x → l[b]? ≠ some x
theorem dupN_nodup {l : List Cl} (h : dupN l l.length) : l.Nodup := by
  unfold List.Nodup
  rw [List.pairwise_iff_getElem]
  intro i j hi hj hij e
  exact h i j l[i] hj hij (List.getElem?_eq_getElem hi) (by rw [e]; exact List.getElem?_eq_getElem hj)
theorem dup_not {l : List Cl} {a b : Nat} {x : Cl} (hab : a < b) (h1 : l[a]? = some x) (h2 : l[b]? = some x) : ¬ l.Nodup := fun h => by
  unfold List.Nodup at h
  rw [List.pairwise_iff_getElem] at h
  obtain ⟨ha, e1⟩ := List.getElem?_eq_some_iff.1 h1
  obtain ⟨hb, e2⟩ := List.getElem?_eq_some_iff.1 h2
  exact h a b ha hb hab (by rw [e1, e2])
theorem clEq (x y : Cl) : (decide (x.br = y.br) && decide (x.ch = y.ch)) = decide (x = y) := by
  cases x; cases y
  rw [Bool.eq_iff_iff]; simp
theorem tcheck_ref (t : Tr) (hk : t.lg.kn.length ≤ 1000) (hb : t.lg.br.length ≤ 1000) (he : t.lg.ev.length ≤ 1000) (hq : t.q.length ≤ 1000) (hh : t.hs.length ≤ 1000) (hc : t.cl.length ≤ 1000) :
    Spec Try.prog 25 [tA t] [] (.d (.int .i64 (tcheck t))) [] := by
  have c1 := lcheck_ref t.lg hk hb he
  have c2 := qcheck_ref t.q (by unfold Sm; omega)
  have c3 := wcheck_ref t.hs (by unfold Sm; omega)
  have c4 := fun b c => known_ref t.lg b c (by unfold Sm; omega) (by unfold Sm; omega)
  simp only [lA] at c1 c4
  obtain ⟨R, hR⟩ : ∃ R, R = tcheck t := ⟨_, rfl⟩
  rw [← hR]
  unfold tcheck at hR
  have fin : ∀ {x y : Int} {σ : List AObj}, x = y → Wk 0 [.d (.int .i64 x)] σ [.d (.int .i64 y)] [] := fun e => by subst e; exact Wk.forget (by simp only [go_sem]) (by simp only [go_sem])
  refine spec_of_ev (fn := Try.f25) DX_ok 3000 Try.func25 rfl rfl (Nat.le_of_ble_eq_true rfl) ?_
  simp (maxSteps := 4000000) -implicitDefEqProofs only [Try.f25, go_sem, tA]
  refine ecall0 _ c1 (by simp only [go_sem]) (by simp only [go_sem]) ?_
  cases k1 : (lcheck t.lg != 0)
  case true =>
    simp (maxSteps := 4000000) -implicitDefEqProofs only [go_sem, k1, Option.some.injEq, forall_eq', and_true, true_and, Bool.not_true, Bool.not_false, decide_true, Nat.reduceAdd, Nat.reduceSub, Nat.reduceLT, Nat.reduceLeDiff, Nat.reduceEqDiff, ↓reduceIte]
    exact fin (by rw [hR, if_pos (by simpa using k1)])
  rw [if_neg (by simpa using k1)] at hR
  simp (maxSteps := 4000000) -implicitDefEqProofs only [go_sem, k1, Option.some.injEq, forall_eq', and_true, true_and, Bool.not_true, Bool.not_false, decide_true, Nat.reduceAdd, Nat.reduceSub, Nat.reduceLT, Nat.reduceLeDiff, Nat.reduceEqDiff, ↓reduceIte]
  refine ecall0 _ c2 (by simp only [go_sem]) (by simp only [go_sem]) ?_
  cases k2 : (qcheck t.q != 0)
  case true =>
    simp (maxSteps := 4000000) -implicitDefEqProofs only [go_sem, k2, Option.some.injEq, forall_eq', and_true, true_and, Bool.not_true, Bool.not_false, decide_true, Nat.reduceAdd, Nat.reduceSub, Nat.reduceLT, Nat.reduceLeDiff, Nat.reduceEqDiff, ↓reduceIte]
    exact fin (by rw [hR, if_pos (by simpa using k2)])
  rw [if_neg (by simpa using k2)] at hR
  simp (maxSteps := 4000000) -implicitDefEqProofs only [go_sem, k2, Option.some.injEq, forall_eq', and_true, true_and, Bool.not_true, Bool.not_false, decide_true, Nat.reduceAdd, Nat.reduceSub, Nat.reduceLT, Nat.reduceLeDiff, Nat.reduceEqDiff, ↓reduceIte]
  refine ecall0 _ c3 (by simp only [go_sem]) (by simp only [go_sem]) ?_
  cases k3 : (wcheck t.hs != 0)
  case true =>
    simp (maxSteps := 4000000) -implicitDefEqProofs only [go_sem, k3, Option.some.injEq, forall_eq', and_true, true_and, Bool.not_true, Bool.not_false, decide_true, Nat.reduceAdd, Nat.reduceSub, Nat.reduceLT, Nat.reduceLeDiff, Nat.reduceEqDiff, ↓reduceIte]
    exact fin (by rw [hR, if_pos (by simpa using k3)])
  rw [if_neg (by simpa using k3)] at hR
  cases k4 : decide (30 < t.cl.length)
  case true =>
    have k4' : decide (30 < (t.cl.length : Int)) = true := by simp only [decide_eq_true_eq] at k4 ⊢; omega
    simp (maxSteps := 4000000) -implicitDefEqProofs only [go_sem, k3, k4', Option.some.injEq, forall_eq', and_true, true_and, Bool.not_true, Bool.not_false, decide_true, Nat.reduceAdd, Nat.reduceSub, Nat.reduceLT, Nat.reduceLeDiff, Nat.reduceEqDiff, ↓reduceIte]
    exact fin (by rw [hR, if_pos (of_decide_eq_true k4)])
  have k4' : decide (30 < (t.cl.length : Int)) = false := by simp only [decide_eq_false_iff_not] at k4 ⊢; omega
  rw [if_neg (of_decide_eq_false k4)] at hR
  simp (maxSteps := 4000000) -implicitDefEqProofs only [go_sem, k3, k4', Option.some.injEq, forall_eq', and_true, true_and, Bool.not_true, Bool.not_false, decide_true, Nat.reduceAdd, Nat.reduceSub, Nat.reduceLT, Nat.reduceLeDiff, Nat.reduceEqDiff, ↓reduceIte]
  clear c1 c2 c3
  have b1 : (!true) = false := rfl
  have b2 : (!false) = true := rfl
  refine eloop (S := Nat) (fun i => mkE 101 [(1, .ptr 0 0), (6, .d (.int .i64 i))]) (fun i => [tH t]) (fun i => i ≤ t.q.length ∧ ∀ j y, t.q[j]? = some y → j < i → badQ t.lg y = false) (fun i => t.q.length - i) 0 ⟨by omega, by omega⟩ (Wk.via [0] (by (simp only [go_sem, ↓reduceIte]) <;> trivial) (by first | (simp (maxSteps := 4000000) -implicitDefEqProofs only [go_sem, Nat.reduceAdd, Nat.reduceSub, Nat.reduceLT, Nat.reduceLeDiff, Nat.reduceEqDiff, ↓reduceIte]; done) | ((simp (maxSteps := 4000000) -implicitDefEqProofs only [go_sem, Nat.reduceAdd, Nat.reduceSub, Nat.reduceLT, Nat.reduceLeDiff, Nat.reduceEqDiff, ↓reduceIte]) <;> omega)) (by simp) (by first | (simp; done) | (simp [so]; done)) (by (simp (maxSteps := 4000000) -implicitDefEqProofs only [go_sem, Nat.reduceAdd, Nat.reduceSub, Nat.reduceLT, Nat.reduceLeDiff, Nat.reduceEqDiff, ↓reduceIte]) <;> trivial) (by first | (simp only [go_sem]; done) | ((simp (maxSteps := 4000000) -implicitDefEqProofs only [go_sem, Nat.reduceAdd, Nat.reduceSub, Nat.reduceLT, Nat.reduceLeDiff, Nat.reduceEqDiff, ↓reduceIte]) <;> omega)) (Nat.zero_le _) (fun i h => absurd h (Nat.not_lt_zero i))) ?_
  rintro i ⟨hi, hj⟩
  rcases Nat.lt_or_ge i t.q.length with h2 | h2
  case inl =>
    have f1 : decide ((i : Int) < t.q.length) = true := by simp; omega
    obtain ⟨x, hx⟩ : ∃ x, t.q[i]? = some x := ⟨t.q[i]'h2, List.getElem?_eq_getElem _⟩
    have n1 : (0 ≤ (i : Int) ∧ (i : Int) < t.q.length) = True := eq_true (by omega)
    have n2 : (i < t.q.length) = True := eq_true (by omega)
    have w1 : IntKind.i64.wrap ((i : Int) + 1) = ((i + 1 : Nat) : Int) := by rw [i64_in _ (by omega)]; simp
    have d1 := c4 x.br x.ch
    cases g : known t.lg x.br x.ch
    · rw [g] at d1
      simp (maxSteps := 4000000) -implicitDefEqProofs only [go_sem, f1, Option.some.injEq, forall_eq', and_true, true_and, Bool.not_true, Bool.not_false, decide_true, Nat.reduceAdd, Nat.reduceSub, Nat.reduceLT, Nat.reduceLeDiff, Nat.reduceEqDiff, ↓reduceIte]
      refine DX.plain (.take 0 false (.take 1 false (.take 2 false (.take 3 false (.take 4 false (.take 5 false (.take 6 false (.take 7 false (.take 8 false (.take 9 false (.take 10 false (.take 11 false (.take 12 false (.take 13 false (.take 14 false (.take 15 false .done)))))))))))))))) (by kernel_rfl) (by kernel_rfl) Ty.mixed ?_
      simp (maxSteps := 4000000) -implicitDefEqProofs only [go_sem, n1, n2, hx, Option.some.injEq, forall_eq', and_true, true_and, Bool.not_true, Bool.not_false, decide_true, Nat.reduceAdd, Nat.reduceSub, Nat.reduceLT, Nat.reduceLeDiff, Nat.reduceEqDiff, ↓reduceIte]
      refine ⟨_, _, d1.lift0 _ (by simp only [go_sem]) (by simp only [go_sem]), rfl, ?_⟩
      simp (maxSteps := 4000000) -implicitDefEqProofs only [go_sem, b2, Option.some.injEq, forall_eq', and_true, true_and, Bool.not_true, Bool.not_false, decide_true, Nat.reduceAdd, Nat.reduceSub, Nat.reduceLT, Nat.reduceLeDiff, Nat.reduceEqDiff, ↓reduceIte]
      exact fin (by rw [hR, if_pos (any_t hx (by simp [badQ, g]))])
    · rw [g] at d1
      simp (maxSteps := 4000000) -implicitDefEqProofs only [go_sem, f1, Option.some.injEq, forall_eq', and_true, true_and, Bool.not_true, Bool.not_false, decide_true, Nat.reduceAdd, Nat.reduceSub, Nat.reduceLT, Nat.reduceLeDiff, Nat.reduceEqDiff, ↓reduceIte]
      refine DX.plain (.take 0 false (.take 1 false (.take 2 false (.take 3 false (.take 4 false (.take 5 false (.take 6 false (.take 7 false (.take 8 false (.take 9 false (.take 10 false (.take 11 false (.take 12 false (.take 13 false (.take 14 false (.take 15 false .done)))))))))))))))) (by kernel_rfl) (by kernel_rfl) Ty.mixed ?_
      simp (maxSteps := 4000000) -implicitDefEqProofs only [go_sem, n1, n2, hx, Option.some.injEq, forall_eq', and_true, true_and, Bool.not_true, Bool.not_false, decide_true, Nat.reduceAdd, Nat.reduceSub, Nat.reduceLT, Nat.reduceLeDiff, Nat.reduceEqDiff, ↓reduceIte]
      refine ⟨_, _, d1.lift0 _ (by simp only [go_sem]) (by simp only [go_sem]), rfl, ?_⟩
      simp (maxSteps := 4000000) -implicitDefEqProofs only [go_sem, b1, w1, Option.some.injEq, forall_eq', and_true, true_and, Bool.not_true, Bool.not_false, decide_true, Nat.reduceAdd, Nat.reduceSub, Nat.reduceLT, Nat.reduceLeDiff, Nat.reduceEqDiff, ↓reduceIte]
      exact .mk (i + 1) ⟨by omega, upto_succ hx (by simp [badQ, g]) hj⟩ (by omega) (Wk.via [0] (by (simp only [go_sem, ↓reduceIte]) <;> trivial) (by first | (simp (maxSteps := 4000000) -implicitDefEqProofs only [go_sem, Nat.reduceAdd, Nat.reduceSub, Nat.reduceLT, Nat.reduceLeDiff, Nat.reduceEqDiff, ↓reduceIte]; done) | ((simp (maxSteps := 4000000) -implicitDefEqProofs only [go_sem, Nat.reduceAdd, Nat.reduceSub, Nat.reduceLT, Nat.reduceLeDiff, Nat.reduceEqDiff, ↓reduceIte]) <;> omega)) (by simp) (by first | (simp; done) | (simp [so]; done)) (by (simp (maxSteps := 4000000) -implicitDefEqProofs only [go_sem, Nat.reduceAdd, Nat.reduceSub, Nat.reduceLT, Nat.reduceLeDiff, Nat.reduceEqDiff, ↓reduceIte]) <;> trivial) (by first | (simp only [go_sem]; done) | ((simp (maxSteps := 4000000) -implicitDefEqProofs only [go_sem, Nat.reduceAdd, Nat.reduceSub, Nat.reduceLT, Nat.reduceLeDiff, Nat.reduceEqDiff, ↓reduceIte]) <;> omega)) (Nat.zero_le _) (fun i h => absurd h (Nat.not_lt_zero i)))
  have f1 : decide ((i : Int) < t.q.length) = false := by simp; omega
  rw [any_f fun j y hy => hj j y hy (by have := some_lt hy; omega)] at hR
  simp only [Bool.false_eq_true, if_false] at hR
  simp (maxSteps := 4000000) -implicitDefEqProofs only [go_sem, f1, Option.some.injEq, forall_eq', and_true, true_and, Bool.not_true, Bool.not_false, decide_true, Nat.reduceAdd, Nat.reduceSub, Nat.reduceLT, Nat.reduceLeDiff, Nat.reduceEqDiff, ↓reduceIte]
  clear hj hi h2 f1
  refine eloop (S := Nat) (fun i => mkE 101 [(1, .ptr 0 0), (7, .d (.int .i64 i))]) (fun i => [tH t]) (fun i => i ≤ t.cl.length ∧ ∀ j y, t.cl[j]? = some y → j < i → badC t.lg y = false) (fun i => t.cl.length - i) 0 ⟨by omega, by omega⟩ (Wk.via [0] (by (simp only [go_sem, ↓reduceIte]) <;> trivial) (by first | (simp (maxSteps := 4000000) -implicitDefEqProofs only [go_sem, Nat.reduceAdd, Nat.reduceSub, Nat.reduceLT, Nat.reduceLeDiff, Nat.reduceEqDiff, ↓reduceIte]; done) | ((simp (maxSteps := 4000000) -implicitDefEqProofs only [go_sem, Nat.reduceAdd, Nat.reduceSub, Nat.reduceLT, Nat.reduceLeDiff, Nat.reduceEqDiff, ↓reduceIte]) <;> omega)) (by simp) (by first | (simp; done) | (simp [so]; done)) (by (simp (maxSteps := 4000000) -implicitDefEqProofs only [go_sem, Nat.reduceAdd, Nat.reduceSub, Nat.reduceLT, Nat.reduceLeDiff, Nat.reduceEqDiff, ↓reduceIte]) <;> trivial) (by first | (simp only [go_sem]; done) | ((simp (maxSteps := 4000000) -implicitDefEqProofs only [go_sem, Nat.reduceAdd, Nat.reduceSub, Nat.reduceLT, Nat.reduceLeDiff, Nat.reduceEqDiff, ↓reduceIte]) <;> omega)) (Nat.zero_le _) (fun i h => absurd h (Nat.not_lt_zero i))) ?_
  rintro i ⟨hi, hj⟩
  rcases Nat.lt_or_ge i t.cl.length with h2 | h2
  case inl =>
    have f1 : decide ((i : Int) < t.cl.length) = true := by simp; omega
    obtain ⟨x, hx⟩ : ∃ x, t.cl[i]? = some x := ⟨t.cl[i]'h2, List.getElem?_eq_getElem _⟩
    have n1 : (0 ≤ (i : Int) ∧ (i : Int) < t.cl.length) = True := eq_true (by omega)
    have n2 : (i < t.cl.length) = True := eq_true (by omega)
    have w1 : IntKind.i64.wrap ((i : Int) + 1) = ((i + 1 : Nat) : Int) := by rw [i64_in _ (by omega)]; simp
    have d1 := c4 x.br x.ch
    cases g : known t.lg x.br x.ch
    · rw [g] at d1
      simp (maxSteps := 4000000) -implicitDefEqProofs only [go_sem, f1, Option.some.injEq, forall_eq', and_true, true_and, Bool.not_true, Bool.not_false, decide_true, Nat.reduceAdd, Nat.reduceSub, Nat.reduceLT, Nat.reduceLeDiff, Nat.reduceEqDiff, ↓reduceIte]
      refine DX.plain (.take 0 false (.take 1 false (.take 2 false (.take 3 false (.take 4 false (.take 5 false (.take 6 false (.take 7 false (.take 8 false (.take 9 false (.take 10 false (.take 11 false (.take 12 false (.take 13 false (.take 14 false (.take 15 false .done)))))))))))))))) (by kernel_rfl) (by kernel_rfl) Ty.mixed ?_
      simp (maxSteps := 4000000) -implicitDefEqProofs only [go_sem, n1, n2, hx, Option.some.injEq, forall_eq', and_true, true_and, Bool.not_true, Bool.not_false, decide_true, Nat.reduceAdd, Nat.reduceSub, Nat.reduceLT, Nat.reduceLeDiff, Nat.reduceEqDiff, ↓reduceIte]
      refine ⟨_, _, d1.lift0 _ (by simp only [go_sem]) (by simp only [go_sem]), rfl, ?_⟩
      simp (maxSteps := 4000000) -implicitDefEqProofs only [go_sem, b2, Option.some.injEq, forall_eq', and_true, true_and, Bool.not_true, Bool.not_false, decide_true, Nat.reduceAdd, Nat.reduceSub, Nat.reduceLT, Nat.reduceLeDiff, Nat.reduceEqDiff, ↓reduceIte]
      exact fin (by rw [hR, if_pos (any_t hx (by simp [badC, g]))])
    · rw [g] at d1
      simp (maxSteps := 4000000) -implicitDefEqProofs only [go_sem, f1, Option.some.injEq, forall_eq', and_true, true_and, Bool.not_true, Bool.not_false, decide_true, Nat.reduceAdd, Nat.reduceSub, Nat.reduceLT, Nat.reduceLeDiff, Nat.reduceEqDiff, ↓reduceIte]
      refine DX.plain (.take 0 false (.take 1 false (.take 2 false (.take 3 false (.take 4 false (.take 5 false (.take 6 false (.take 7 false (.take 8 false (.take 9 false (.take 10 false (.take 11 false (.take 12 false (.take 13 false (.take 14 false (.take 15 false .done)))))))))))))))) (by kernel_rfl) (by kernel_rfl) Ty.mixed ?_
      simp (maxSteps := 4000000) -implicitDefEqProofs only [go_sem, n1, n2, hx, Option.some.injEq, forall_eq', and_true, true_and, Bool.not_true, Bool.not_false, decide_true, Nat.reduceAdd, Nat.reduceSub, Nat.reduceLT, Nat.reduceLeDiff, Nat.reduceEqDiff, ↓reduceIte]
      refine ⟨_, _, d1.lift0 _ (by simp only [go_sem]) (by simp only [go_sem]), rfl, ?_⟩
      simp (maxSteps := 4000000) -implicitDefEqProofs only [go_sem, b1, w1, Option.some.injEq, forall_eq', and_true, true_and, Bool.not_true, Bool.not_false, decide_true, Nat.reduceAdd, Nat.reduceSub, Nat.reduceLT, Nat.reduceLeDiff, Nat.reduceEqDiff, ↓reduceIte]
      exact .mk (i + 1) ⟨by omega, upto_succ hx (by simp [badC, g]) hj⟩ (by omega) (Wk.via [0] (by (simp only [go_sem, ↓reduceIte]) <;> trivial) (by first | (simp (maxSteps := 4000000) -implicitDefEqProofs only [go_sem, Nat.reduceAdd, Nat.reduceSub, Nat.reduceLT, Nat.reduceLeDiff, Nat.reduceEqDiff, ↓reduceIte]; done) | ((simp (maxSteps := 4000000) -implicitDefEqProofs only [go_sem, Nat.reduceAdd, Nat.reduceSub, Nat.reduceLT, Nat.reduceLeDiff, Nat.reduceEqDiff, ↓reduceIte]) <;> omega)) (by simp) (by first | (simp; done) | (simp [so]; done)) (by (simp (maxSteps := 4000000) -implicitDefEqProofs only [go_sem, Nat.reduceAdd, Nat.reduceSub, Nat.reduceLT, Nat.reduceLeDiff, Nat.reduceEqDiff, ↓reduceIte]) <;> trivial) (by first | (simp only [go_sem]; done) | ((simp (maxSteps := 4000000) -implicitDefEqProofs only [go_sem, Nat.reduceAdd, Nat.reduceSub, Nat.reduceLT, Nat.reduceLeDiff, Nat.reduceEqDiff, ↓reduceIte]) <;> omega)) (Nat.zero_le _) (fun i h => absurd h (Nat.not_lt_zero i)))
  have f1 : decide ((i : Int) < t.cl.length) = false := by simp; omega
  rw [any_f fun j y hy => hj j y hy (by have := some_lt hy; omega)] at hR
  simp only [Bool.false_eq_true, if_false] at hR
  simp (maxSteps := 4000000) -implicitDefEqProofs only [go_sem, f1, Option.some.injEq, forall_eq', and_true, true_and, Bool.not_true, Bool.not_false, decide_true, Nat.reduceAdd, Nat.reduceSub, Nat.reduceLT, Nat.reduceLeDiff, Nat.reduceEqDiff, ↓reduceIte]
  clear hj hi h2 f1
  refine eloop (S := Nat) (fun i => mkE 101 [(1, .ptr 0 0), (8, .d (.int .i64 i))]) (fun i => [tH t]) (fun i => i ≤ t.cl.length ∧ dupN t.cl i) (fun i => t.cl.length - i) 0 ⟨by omega, fun a b x h => by omega⟩ (Wk.via [0] (by (simp only [go_sem, ↓reduceIte]) <;> trivial) (by first | (simp (maxSteps := 4000000) -implicitDefEqProofs only [go_sem, Nat.reduceAdd, Nat.reduceSub, Nat.reduceLT, Nat.reduceLeDiff, Nat.reduceEqDiff, ↓reduceIte]; done) | ((simp (maxSteps := 4000000) -implicitDefEqProofs only [go_sem, Nat.reduceAdd, Nat.reduceSub, Nat.reduceLT, Nat.reduceLeDiff, Nat.reduceEqDiff, ↓reduceIte]) <;> omega)) (by simp) (by first | (simp; done) | (simp [so]; done)) (by (simp (maxSteps := 4000000) -implicitDefEqProofs only [go_sem, Nat.reduceAdd, Nat.reduceSub, Nat.reduceLT, Nat.reduceLeDiff, Nat.reduceEqDiff, ↓reduceIte]) <;> trivial) (by first | (simp only [go_sem]; done) | ((simp (maxSteps := 4000000) -implicitDefEqProofs only [go_sem, Nat.reduceAdd, Nat.reduceSub, Nat.reduceLT, Nat.reduceLeDiff, Nat.reduceEqDiff, ↓reduceIte]) <;> omega)) (Nat.zero_le _) (fun i h => absurd h (Nat.not_lt_zero i))) ?_
  rintro i ⟨hi, hj⟩
  rcases Nat.lt_or_ge i t.cl.length with h2 | h2
  case inr =>
    have hii : i = t.cl.length := by omega
    subst hii
    have f1 : decide ((t.cl.length : Int) < t.cl.length) = false := by simp
    simp (maxSteps := 4000000) -implicitDefEqProofs only [go_sem, f1, Option.some.injEq, forall_eq', and_true, true_and, Bool.not_true, Bool.not_false, decide_true, Nat.reduceAdd, Nat.reduceSub, Nat.reduceLT, Nat.reduceLeDiff, Nat.reduceEqDiff, ↓reduceIte]
    exact fin (by rw [hR, if_pos (dupN_nodup hj)])
  have f1 : decide ((i : Int) < t.cl.length) = true := by simp; omega
  obtain ⟨x, hx⟩ : ∃ x, t.cl[i]? = some x := ⟨t.cl[i]'h2, List.getElem?_eq_getElem _⟩
  have n1 : (0 ≤ (i : Int) ∧ (i : Int) < t.cl.length) = True := eq_true (by omega)
  have n2 : (i < t.cl.length) = True := eq_true (by omega)
  have w1 : IntKind.i64.wrap ((i : Int) + 1) = ((i + 1 : Nat) : Int) := by rw [i64_in _ (by omega)]; simp
  simp (maxSteps := 4000000) -implicitDefEqProofs only [go_sem, f1, Option.some.injEq, forall_eq', and_true, true_and, Bool.not_true, Bool.not_false, decide_true, Nat.reduceAdd, Nat.reduceSub, Nat.reduceLT, Nat.reduceLeDiff, Nat.reduceEqDiff, ↓reduceIte]
  refine eloop (S := Nat) (fun k => mkE 101 [(1, .ptr 0 0), (8, .d (.int .i64 i)), (9, .d (.int .i64 k))]) (fun k => [tH t]) (fun k => k ≤ i ∧ ∀ j y, t.cl[j]? = some y → j < k → y ≠ x) (fun k => i - k) 0 ⟨by omega, by omega⟩ (Wk.via [0] (by (simp only [go_sem, ↓reduceIte]) <;> trivial) (by first | (simp (maxSteps := 4000000) -implicitDefEqProofs only [go_sem, Nat.reduceAdd, Nat.reduceSub, Nat.reduceLT, Nat.reduceLeDiff, Nat.reduceEqDiff, ↓reduceIte]; done) | ((simp (maxSteps := 4000000) -implicitDefEqProofs only [go_sem, Nat.reduceAdd, Nat.reduceSub, Nat.reduceLT, Nat.reduceLeDiff, Nat.reduceEqDiff, ↓reduceIte]) <;> omega)) (by simp) (by first | (simp; done) | (simp [so]; done)) (by (simp (maxSteps := 4000000) -implicitDefEqProofs only [go_sem, Nat.reduceAdd, Nat.reduceSub, Nat.reduceLT, Nat.reduceLeDiff, Nat.reduceEqDiff, ↓reduceIte]) <;> trivial) (by first | (simp only [go_sem]; done) | ((simp (maxSteps := 4000000) -implicitDefEqProofs only [go_sem, Nat.reduceAdd, Nat.reduceSub, Nat.reduceLT, Nat.reduceLeDiff, Nat.reduceEqDiff, ↓reduceIte]) <;> omega)) (Nat.zero_le _) (fun i h => absurd h (Nat.not_lt_zero i))) ?_
  rintro k ⟨hk2, hjk⟩
  rcases Nat.lt_or_ge k i with h3 | h3
  case inr =>
    have f2 : decide ((k : Int) < i) = false := by simp; omega
    simp (maxSteps := 4000000) -implicitDefEqProofs only [go_sem, f2, w1, Option.some.injEq, forall_eq', and_true, true_and, Bool.not_true, Bool.not_false, decide_true, Nat.reduceAdd, Nat.reduceSub, Nat.reduceLT, Nat.reduceLeDiff, Nat.reduceEqDiff, ↓reduceIte]
    refine .mk (i + 1) ⟨by omega, fun a b y hb hab ha e => ?_⟩ (by omega) (Wk.via [0] (by (simp only [go_sem, ↓reduceIte]) <;> trivial) (by first | (simp (maxSteps := 4000000) -implicitDefEqProofs only [go_sem, Nat.reduceAdd, Nat.reduceSub, Nat.reduceLT, Nat.reduceLeDiff, Nat.reduceEqDiff, ↓reduceIte]; done) | ((simp (maxSteps := 4000000) -implicitDefEqProofs only [go_sem, Nat.reduceAdd, Nat.reduceSub, Nat.reduceLT, Nat.reduceLeDiff, Nat.reduceEqDiff, ↓reduceIte]) <;> omega)) (by simp) (by first | (simp; done) | (simp [so]; done)) (by (simp (maxSteps := 4000000) -implicitDefEqProofs only [go_sem, Nat.reduceAdd, Nat.reduceSub, Nat.reduceLT, Nat.reduceLeDiff, Nat.reduceEqDiff, ↓reduceIte]) <;> trivial) (by first | (simp only [go_sem]; done) | ((simp (maxSteps := 4000000) -implicitDefEqProofs only [go_sem, Nat.reduceAdd, Nat.reduceSub, Nat.reduceLT, Nat.reduceLeDiff, Nat.reduceEqDiff, ↓reduceIte]) <;> omega)) (Nat.zero_le _) (fun i h => absurd h (Nat.not_lt_zero i)))
    rcases Nat.lt_or_ge b i with q | q
    · exact hj a b y q hab ha e
    · have : b = i := by omega
      subst this
      rw [hx] at e; cases e
      exact hjk a x ha (by omega) rfl
  have f2 : decide ((k : Int) < i) = true := by simp; omega
  obtain ⟨y, hy⟩ : ∃ x, t.cl[k]? = some x := ⟨t.cl[k]'(by omega), List.getElem?_eq_getElem _⟩
  have n3 : (0 ≤ (k : Int) ∧ (k : Int) < t.cl.length) = True := eq_true (by omega)
  have n4 : (k < t.cl.length) = True := eq_true (by omega)
  have w2 : IntKind.i64.wrap ((k : Int) + 1) = ((k + 1 : Nat) : Int) := by rw [i64_in _ (by omega)]; simp
  have hxy := clEq y x
  by_cases h4 : y = x
  · rw [decide_eq_true h4] at hxy
    simp (maxSteps := 4000000) -implicitDefEqProofs only [go_sem, f2, Option.some.injEq, forall_eq', and_true, true_and, Bool.not_true, Bool.not_false, decide_true, Nat.reduceAdd, Nat.reduceSub, Nat.reduceLT, Nat.reduceLeDiff, Nat.reduceEqDiff, ↓reduceIte]
    refine DX.plain (.take 0 false (.take 1 false (.take 2 false (.take 3 false (.take 4 false (.take 5 false (.take 6 false (.take 7 false (.take 8 false (.take 9 false (.take 10 false .done))))))))))) (by kernel_rfl) (by kernel_rfl) Ty.mixed ?_
    simp (maxSteps := 4000000) -implicitDefEqProofs only [go_sem, n1, n2, hx, n3, n4, hy, hxy, Option.some.injEq, forall_eq', and_true, true_and, Bool.not_true, Bool.not_false, decide_true, Nat.reduceAdd, Nat.reduceSub, Nat.reduceLT, Nat.reduceLeDiff, Nat.reduceEqDiff, ↓reduceIte]
    exact fin (by rw [hR, if_neg (dup_not h3 (h4 ▸ hy) hx)])
  · rw [decide_eq_false h4] at hxy
    simp (maxSteps := 4000000) -implicitDefEqProofs only [go_sem, f2, Option.some.injEq, forall_eq', and_true, true_and, Bool.not_true, Bool.not_false, decide_true, Nat.reduceAdd, Nat.reduceSub, Nat.reduceLT, Nat.reduceLeDiff, Nat.reduceEqDiff, ↓reduceIte]
    refine DX.plain (.take 0 false (.take 1 false (.take 2 false (.take 3 false (.take 4 false (.take 5 false (.take 6 false (.take 7 false (.take 8 false (.take 9 false (.take 10 false .done))))))))))) (by kernel_rfl) (by kernel_rfl) Ty.mixed ?_
    simp (maxSteps := 4000000) -implicitDefEqProofs only [go_sem, n1, n2, hx, n3, n4, hy, hxy, w2, Option.some.injEq, forall_eq', and_true, true_and, Bool.not_true, Bool.not_false, decide_true, Nat.reduceAdd, Nat.reduceSub, Nat.reduceLT, Nat.reduceLeDiff, Nat.reduceEqDiff, ↓reduceIte]
    exact .mk (k + 1) ⟨by omega, upto_succ (p := fun _ z => z ≠ x) hy h4 hjk⟩ (by omega) (Wk.via [0] (by (simp only [go_sem, ↓reduceIte]) <;> trivial) (by first | (simp (maxSteps := 4000000) -implicitDefEqProofs only [go_sem, Nat.reduceAdd, Nat.reduceSub, Nat.reduceLT, Nat.reduceLeDiff, Nat.reduceEqDiff, ↓reduceIte]; done) | ((simp (maxSteps := 4000000) -implicitDefEqProofs only [go_sem, Nat.reduceAdd, Nat.reduceSub, Nat.reduceLT, Nat.reduceLeDiff, Nat.reduceEqDiff, ↓reduceIte]) <;> omega)) (by simp) (by first | (simp; done) | (simp [so]; done)) (by (simp (maxSteps := 4000000) -implicitDefEqProofs only [go_sem, Nat.reduceAdd, Nat.reduceSub, Nat.reduceLT, Nat.reduceLeDiff, Nat.reduceEqDiff, ↓reduceIte]) <;> trivial) (by first | (simp only [go_sem]; done) | ((simp (maxSteps := 4000000) -implicitDefEqProofs only [go_sem, Nat.reduceAdd, Nat.reduceSub, Nat.reduceLT, Nat.reduceLeDiff, Nat.reduceEqDiff, ↓reduceIte]) <;> omega)) (Nat.zero_le _) (fun i h => absurd h (Nat.not_lt_zero i)))
def inI (l : List Int) (n : Int) : Bool := l.any fun x => x == n
def isCl (r : Rq) (c : Cl) : Bool := decide (c.br = r.br) && decide (c.ch = r.ch)
def outR (t : Tr) (r : Rq) : Int := if inI (effR t.lg r.br).1 (classR t.lg r.ch) then 6 else if t.cl.any (isCl r) then 7 else 5
end Go.AX.Tr
/- Trains: copies; outcomes of the program; where a step begins. -/
set_option maxHeartbeats 8000000
set_option linter.unusedVariables false
set_option linter.unusedSimpArgs false
set_option maxRecDepth 20000
namespace Go.AX.Tr
open Go.Proofs Go.RowKit Go.IntWalk Go.AX.Br Go.AX.Lg Go.AX.Qu Go.AX.Wn
def zT : AObj := .cells [.nil, .nil, .nil, .nil, .nil, .nil]
attribute [go_sem] zT
end Go.AX.Tr
/- Trains: outcomes of the program. -/
set_option maxHeartbeats 8000000
set_option linter.unusedVariables false
set_option linter.unusedSimpArgs false
set_option maxRecDepth 20000
namespace Go.AX.Tr
open Go.Proofs Go.RowKit Go.IntWalk Go.AX.Br Go.AX.Lg Go.AX.Qu Go.AX.Wn
def clA (c : Cl) : AV := .agg [.d (.str c.br), .d (.str c.ch)]
def knA (k : Kn) : AV := .agg [.d (.str k.ch), .d (.int .i64 k.cl)]
attribute [go_sem] clA knA
/-- a pick of a known change, on a known branch -/
structure Pick (l : Lg) (b ch : ByteArray) (i : Nat) (x : Br) (s : List Ev) (v : List Mk) (c j : Nat) (kn : Kn) : Prop where
  a : At l i x s v
  nm : x.name = b
  hi : idx (has b) l.br = i
  hv : lview l b = (v, 0)
  hc : classN l ch = some (c : Int)
  hc30 : c < 30
  hcr : classR l ch = c
  hj : idx (hasC ch) l.kn = j
  hk : l.kn[j]? = some kn
  hkc : kn.cl = c
  heff : (effR l b).1 = effL l (preE l i ++ s)
  hin : inI (effR l b).1 c = inR l (preE l i ++ s) c
  happ : appR l b ⟨2, ch⟩ = if s.length = 40 then (lg0, 4) else if inR l (preE l i ++ s) c = true then (lg0, 30) else (addE l i ⟨2, ch⟩, 0)
end Go.AX.Tr
/- Trains: where a step begins, what is held; Outcome and Wait, both sides. -/
set_option maxHeartbeats 8000000
set_option linter.unusedVariables false
set_option linter.unusedSimpArgs false
set_option maxRecDepth 20000
namespace Go.AX.Tr
open Go.Proofs Go.RowKit Go.IntWalk Go.AX.Br Go.AX.Lg Go.AX.Qu Go.AX.Wn
structure TFit (t : Tr) : Prop where
  k : t.lg.kn.length ≤ 1000
  b : t.lg.br.length ≤ 1000
  e : t.lg.ev.length ≤ 1000
  s : ∀ s ∈ t.lg.ev, s.length ≤ 1000
  q : t.q.length ≤ 1000
  h : t.hs.length ≤ 1000
  c : t.cl.length ≤ 1000
/-- all that holds of a train that is valid -/
structure TOk (t : Tr) : Prop where
  chk : tcheck t = 0
  lo : LOk t.lg
  q0 : qcheck t.q = 0
  w0 : wcheck t.hs = 0
  ql : t.q.length ≤ 30
  hl : t.hs.length ≤ 16
  cl : t.cl.length ≤ 30
  qk : ∀ r ∈ t.q, known t.lg r.br r.ch = true
  ck : ∀ c ∈ t.cl, known t.lg c.br c.ch = true
  nd : t.cl.Nodup
def beginR (t : Tr) (b : ByteArray) (tk : Int) : Int × Int :=
  if tcheck t ≠ 0 then (0, tcheck t) else if idx (has b) t.lg.br < 0 ∨ idx (isHead b) t.q < 0 then (0, 6) else if tk < 0 ∨ 1000000 < tk then (0, 2) else (idx (isHead b) t.q, 0)
def heldH (t : Tr) (r : Rq) (tk : Int) : Bool := held t.hs r.br tk && !r.ov
/-! ### Outcome -/
def outcR (t : Tr) (i : Int) : Int × Int :=
  if tcheck t ≠ 0 then (0, tcheck t) else if i < 0 ∨ (t.q.length : Int) ≤ i then (0, 2) else (((t.q[i.toNat]?).map (outR t)).getD 0, 0)
/-! ### Wait -/
def waitR (t : Tr) (b : ByteArray) (tk : Int) : Int × Int :=
  if (beginR t b tk).2 ≠ 0 then (0, (beginR t b tk).2) else match t.q[(idx (isHead b) t.q).toNat]? with
  | none => (0, 0)
  | some r => if heldH t r tk then fitRR t.hs b tk 1 else (tk, 0)
end Go.AX.Tr
/- Trains: copies of the program. -/
set_option maxHeartbeats 8000000
set_option linter.unusedVariables false
set_option linter.unusedSimpArgs false
set_option maxRecDepth 20000
namespace Go.AX.Tr
open Go.Proofs Go.RowKit Go.IntWalk Go.AX.Br Go.AX.Lg Go.AX.Qu Go.AX.Wn
end Go.AX.Tr
/- Trains: Step, both sides. -/
set_option maxHeartbeats 8000000
set_option linter.unusedVariables false
set_option linter.unusedSimpArgs false
set_option maxRecDepth 20000
namespace Go.AX.Tr
open Go.Proofs Go.RowKit Go.IntWalk Go.AX.Br Go.AX.Lg Go.AX.Qu Go.AX.Wn
def t0 : Tr := ⟨lg0, [], [], []⟩
def stQ (t : Tr) (i : Nat) (s : Int) : List Rq := t.q.modify i fun r => setSt r s
def stepR (t : Tr) (b : ByteArray) (tk : Int) : Tr × Int × Int :=
  if (beginR t b tk).2 ≠ 0 then (t0, 0, (beginR t b tk).2) else
  match t.q[(idx (isHead b) t.q).toNat]? with
  | none => (t0, 0, 0)
  | some r =>
    if heldH t r tk then (t0, 0, 28)
    else if outR t r = 5 then
      if (appR t.lg b ⟨2, r.ch⟩).2 ≠ 0 then (t0, 0, (appR t.lg b ⟨2, r.ch⟩).2)
      else (⟨(appR t.lg b ⟨2, r.ch⟩).1, stQ t (idx (isHead b) t.q).toNat 5, t.hs, t.cl⟩, 5, 0)
    else (⟨t.lg, stQ t (idx (isHead b) t.q).toNat (outR t r), t.hs, t.cl⟩, outR t r, 0)
end Go.AX.Tr
/- Trains: Same, Great, runs: what a step leaves. -/
set_option maxHeartbeats 8000000
set_option linter.unusedVariables false
set_option linter.unusedSimpArgs false
set_option maxRecDepth 20000
namespace Go.AX.Tr
open Go.Proofs Go.RowKit Go.IntWalk Go.AX.Br Go.AX.Lg Go.AX.Qu Go.AX.Wn
def uD (n : Int) : List D := [.int .u8 n]
attribute [go_sem] uD
theorem uD_len {l : List Int} : (∀ e ∈ l.map uD, e.length = 1) = True := eq_true (map_len (g := uD) fun _ => rfl)
attribute [go_sem] uD_len
def bigC (c : Cl) : Bool := decide (100 < c.br.size) || decide (100 < c.ch.size)
def tgreat (t : Tr) : Bool := t.cl.any bigC || (greatL t.lg || wgreat t.hs || qgreat t.q || decide (40 < t.cl.length))
/-- lengths that a program's int can count -/
structure TSm (t : Tr) : Prop where
  k : Sm t.lg.kn.length
  b : Sm t.lg.br.length
  e : Sm t.lg.ev.length
  s : ∀ s ∈ t.lg.ev, Sm s.length
  q : Sm t.q.length
  h : Sm t.hs.length
  c : Sm t.cl.length
theorem tgreat_ref (t : Tr) (f : TSm t) : Spec Try.prog 5 [tA t] [] (.d (.bool (tgreat t))) [] := by
  have fc := f.c
  have c1 := great_lref t.lg f.k f.b f.e f.s
  have c2 := Qu.great_ref t.q f.q
  have c3 := Wn.great_ref t.hs f.h
  unfold Sm at fc
  obtain ⟨R, hR⟩ : ∃ R, R = tgreat t := ⟨_, rfl⟩
  rw [← hR]
  unfold tgreat at hR
  simp only [lA] at c1
  refine spec_of_ev (fn := Try.f5) DX_ok 3000 Try.func5 rfl rfl (Nat.le_of_ble_eq_true rfl) ?_
  simp (maxSteps := 4000000) -implicitDefEqProofs only [Try.f5, go_sem, tA]
  refine eloop (S := Nat) (fun i => mkE 48 [(1, .ptr 0 0), (3, .d (.int .i64 i))]) (fun i => [tH t]) (fun i => i ≤ t.cl.length ∧ ∀ j y, t.cl[j]? = some y → j < i → bigC y = false) (fun i => t.cl.length - i) 0 ⟨by omega, by omega⟩ (Wk.via [0] (by (simp only [go_sem, ↓reduceIte]) <;> trivial) (by first | (simp (maxSteps := 4000000) -implicitDefEqProofs only [go_sem, Nat.reduceAdd, Nat.reduceSub, Nat.reduceLT, Nat.reduceLeDiff, Nat.reduceEqDiff, ↓reduceIte]; done) | ((simp (maxSteps := 4000000) -implicitDefEqProofs only [go_sem, Nat.reduceAdd, Nat.reduceSub, Nat.reduceLT, Nat.reduceLeDiff, Nat.reduceEqDiff, ↓reduceIte]) <;> omega)) (by simp) (by first | (simp; done) | (simp [so]; done)) (by (simp (maxSteps := 4000000) -implicitDefEqProofs only [go_sem, Nat.reduceAdd, Nat.reduceSub, Nat.reduceLT, Nat.reduceLeDiff, Nat.reduceEqDiff, ↓reduceIte]) <;> trivial) (by first | (simp only [go_sem]; done) | ((simp (maxSteps := 4000000) -implicitDefEqProofs only [go_sem, Nat.reduceAdd, Nat.reduceSub, Nat.reduceLT, Nat.reduceLeDiff, Nat.reduceEqDiff, ↓reduceIte]) <;> omega)) (Nat.zero_le _) (fun i h => absurd h (Nat.not_lt_zero i))) ?_
  rintro i ⟨hi, hj⟩
  rcases Nat.lt_or_ge i t.cl.length with h2 | h2
  case inl =>
    have f1 : decide ((i : Int) < t.cl.length) = true := by simp; omega
    obtain ⟨x, hx⟩ : ∃ x, t.cl[i]? = some x := ⟨t.cl[i]'h2, List.getElem?_eq_getElem _⟩
    have n1 : (0 ≤ (i : Int) ∧ (i : Int) < t.cl.length) = True := eq_true (by omega)
    have n2 : (i < t.cl.length) = True := eq_true (by omega)
    have w1 : IntKind.i64.wrap ((i : Int) + 1) = ((i + 1 : Nat) : Int) := by rw [i64_in _ (by omega)]; simp
    have g1' : decide ((100 : Int) < x.br.size) = decide (100 < x.br.size) := by rw [decide_eq_decide]; omega
    have g2' : decide ((100 : Int) < x.ch.size) = decide (100 < x.ch.size) := by rw [decide_eq_decide]; omega
    cases g1 : decide (100 < x.br.size)
    case true =>
      rw [g1] at g1'
      simp (maxSteps := 4000000) -implicitDefEqProofs only [go_sem, f1, n1, n2, hx, g1', Option.some.injEq, forall_eq', and_true, true_and, Bool.not_true, Bool.not_false, decide_true, Nat.reduceAdd, Nat.reduceSub, Nat.reduceLT, Nat.reduceLeDiff, Nat.reduceEqDiff, ↓reduceIte]
      exact wk_bool (by rw [hR, any_t hx (by rw [bigC, g1]; rfl)]; rfl)
    rw [g1] at g1'
    cases g2 : decide (100 < x.ch.size)
    case true =>
      rw [g2] at g2'
      simp (maxSteps := 4000000) -implicitDefEqProofs only [go_sem, f1, n1, n2, hx, g1', g2', Option.some.injEq, forall_eq', and_true, true_and, Bool.not_true, Bool.not_false, decide_true, Nat.reduceAdd, Nat.reduceSub, Nat.reduceLT, Nat.reduceLeDiff, Nat.reduceEqDiff, ↓reduceIte]
      exact wk_bool (by rw [hR, any_t hx (by rw [bigC, g1, g2]; rfl)]; rfl)
    rw [g2] at g2'
    simp (maxSteps := 4000000) -implicitDefEqProofs only [go_sem, f1, n1, n2, hx, g1', g2', w1, Option.some.injEq, forall_eq', and_true, true_and, Bool.not_true, Bool.not_false, decide_true, Nat.reduceAdd, Nat.reduceSub, Nat.reduceLT, Nat.reduceLeDiff, Nat.reduceEqDiff, ↓reduceIte]
    exact .mk (i + 1) ⟨by omega, upto_succ hx (by rw [bigC, g1, g2]; rfl) hj⟩ (by omega) (Wk.via [0] (by (simp only [go_sem, ↓reduceIte]) <;> trivial) (by first | (simp (maxSteps := 4000000) -implicitDefEqProofs only [go_sem, Nat.reduceAdd, Nat.reduceSub, Nat.reduceLT, Nat.reduceLeDiff, Nat.reduceEqDiff, ↓reduceIte]; done) | ((simp (maxSteps := 4000000) -implicitDefEqProofs only [go_sem, Nat.reduceAdd, Nat.reduceSub, Nat.reduceLT, Nat.reduceLeDiff, Nat.reduceEqDiff, ↓reduceIte]) <;> omega)) (by simp) (by first | (simp; done) | (simp [so]; done)) (by (simp (maxSteps := 4000000) -implicitDefEqProofs only [go_sem, Nat.reduceAdd, Nat.reduceSub, Nat.reduceLT, Nat.reduceLeDiff, Nat.reduceEqDiff, ↓reduceIte]) <;> trivial) (by first | (simp only [go_sem]; done) | ((simp (maxSteps := 4000000) -implicitDefEqProofs only [go_sem, Nat.reduceAdd, Nat.reduceSub, Nat.reduceLT, Nat.reduceLeDiff, Nat.reduceEqDiff, ↓reduceIte]) <;> omega)) (Nat.zero_le _) (fun i h => absurd h (Nat.not_lt_zero i)))
  have f1 : decide ((i : Int) < t.cl.length) = false := by simp; omega
  rw [any_f fun j y hy => hj j y hy (by have := some_lt hy; omega), Bool.false_or] at hR
  simp (maxSteps := 4000000) -implicitDefEqProofs only [go_sem, f1, Option.some.injEq, forall_eq', and_true, true_and, Bool.not_true, Bool.not_false, decide_true, Nat.reduceAdd, Nat.reduceSub, Nat.reduceLT, Nat.reduceLeDiff, Nat.reduceEqDiff, ↓reduceIte]
  refine ecall0 _ c1 (by simp only [go_sem]) (by simp only [go_sem]) ?_
  cases g1 : greatL t.lg
  case true =>
    rw [g1] at hR
    simp (maxSteps := 4000000) -implicitDefEqProofs only [go_sem, Nat.reduceAdd, Nat.reduceSub, Nat.reduceLT, Nat.reduceLeDiff, Nat.reduceEqDiff, ↓reduceIte]
    exact wk_bool (by rw [hR]; rfl)
  simp (maxSteps := 4000000) -implicitDefEqProofs only [go_sem, Nat.reduceAdd, Nat.reduceSub, Nat.reduceLT, Nat.reduceLeDiff, Nat.reduceEqDiff, ↓reduceIte]
  refine ecall0 _ c3 (by simp only [go_sem]) (by simp only [go_sem]) ?_
  cases g2 : wgreat t.hs
  case true =>
    rw [g1, g2] at hR
    simp (maxSteps := 4000000) -implicitDefEqProofs only [go_sem, Nat.reduceAdd, Nat.reduceSub, Nat.reduceLT, Nat.reduceLeDiff, Nat.reduceEqDiff, ↓reduceIte]
    exact wk_bool (by rw [hR]; rfl)
  simp (maxSteps := 4000000) -implicitDefEqProofs only [go_sem, Nat.reduceAdd, Nat.reduceSub, Nat.reduceLT, Nat.reduceLeDiff, Nat.reduceEqDiff, ↓reduceIte]
  refine ecall0 _ c2 (by simp only [go_sem]) (by simp only [go_sem]) ?_
  cases g3 : qgreat t.q
  case true =>
    rw [g1, g2, g3] at hR
    simp (maxSteps := 4000000) -implicitDefEqProofs only [go_sem, Nat.reduceAdd, Nat.reduceSub, Nat.reduceLT, Nat.reduceLeDiff, Nat.reduceEqDiff, ↓reduceIte]
    exact wk_bool (by rw [hR]; rfl)
  rw [g1, g2, g3] at hR
  simp (maxSteps := 4000000) -implicitDefEqProofs only [go_sem, Nat.reduceAdd, Nat.reduceSub, Nat.reduceLT, Nat.reduceLeDiff, Nat.reduceEqDiff, ↓reduceIte]
  refine wk_bool ?_
  rw [hR]
  simp only [Bool.false_or]
  rw [decide_eq_decide]; omega
/-! ### what a step leaves -/
end Go.AX.Tr
/- Trains: Run, both sides. -/
set_option maxHeartbeats 8000000
set_option linter.unusedVariables false
set_option linter.unusedSimpArgs false
set_option maxRecDepth 20000
namespace Go.AX.Tr
open Go.Proofs Go.RowKit Go.IntWalk Go.AX.Br Go.AX.Lg Go.AX.Qu Go.AX.Wn
def itR (t : Tr) (b : ByteArray) (tk : Int) : Nat → Tr × List Int
  | 0 => (t, [])
  | k + 1 => ((stepR (itR t b tk k).1 b tk).1, (itR t b tk k).2 ++ [(stepR (itR t b tk k).1 b tk).2.1])
def runF (t : Tr) (b : ByteArray) (tk : Int) : Nat → Nat → Tr × List Int × Int
  | 0, k => ((itR t b tk k).1, (itR t b tk k).2, 0)
  | n + 1, k =>
    if (stepR (itR t b tk k).1 b tk).2.2 = 4 then ((itR t b tk k).1, (itR t b tk k).2, 4)
    else if (stepR (itR t b tk k).1 b tk).2.2 ≠ 0 then ((itR t b tk k).1, (itR t b tk k).2, 0) else runF t b tk n (k + 1)
def runR (t : Tr) (b : ByteArray) (tk n : Int) : Tr × List Int × Int :=
  if tcheck t ≠ 0 then (t0, [], tcheck t) else if idx (has b) t.lg.br < 0 then (t0, [], 6)
  else if tk < 0 ∨ 1000000 < tk ∨ n < 0 ∨ 30 < n then (t0, [], 2) else runF t b tk n.toNat 0
end Go.AX.Tr

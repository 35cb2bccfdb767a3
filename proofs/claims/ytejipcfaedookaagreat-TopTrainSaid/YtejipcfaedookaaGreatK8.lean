/- Trains: what they are; keys that were put into a map; what is checked, by the program. -/
import Derived.Test.YtejipcfaedookaaGreatK7
set_option maxHeartbeats 8000000
set_option linter.unusedVariables false
set_option linter.unusedSimpArgs false
set_option maxRecDepth 20000
namespace Go.AX.Tr
open Go.Proofs Go.RowKit Go.IntWalk Go.AX.Br Go.AX.Lg Go.AX.Qu Go.AX.Wn
instance memDec (b : ByteArray) (l : List ByteArray) : Decidable (b ∈ l) := @List.instDecidableMemOfLawfulBEq ByteArray instBEqOfDecidableEq inferInstance b l
structure Cl where
  br : ByteArray
  ch : ByteArray
instance : DecidableEq Cl := fun a b => decidable_of_iff (a.br = b.br ∧ a.ch = b.ch) (by cases a; cases b; simp)
def clD (c : Cl) : List D := [.str c.br, .str c.ch]
theorem clD_len {l : List Cl} : (∀ e ∈ l.map clD, e.length = 2) = True := eq_true (map_len (g := clD) fun _ => rfl)
attribute [go_sem] clD clD_len
theorem clD_eq (a b : Cl) : deqs (clD a) (clD b) = decide (a = b) := by
  cases a; cases b
  simp only [clD, deqs, deq, ba_beq, Bool.and_true]
  rw [Bool.eq_iff_iff]; simp
theorem clD_kind (s : Cl) : kindOk true [.str, .str] (clD s) := ⟨rfl, fun h => by cases h⟩
structure Tr where
  lg : Lg
  q : List Rq
  hs : List Hd
  cl : List Cl
def tC (t : Tr) : List AV := [.d (.sl (t.lg.kn.map kD)), .d (.sl (t.lg.br.map bD)), .d (.sl (t.lg.ev.map esD)), .d (.sl (t.q.map rD)), .d (.sl (t.hs.map hD)), .d (.sl (t.cl.map clD))]
def tA (t : Tr) : AV := .agg (tC t)
def tH (t : Tr) : AObj := .cells (tC t)
attribute [go_sem] tH tC
section
variable {κ : Type} [DecidableEq κ]
def keysM (l : List κ) : List (κ × Bool) := l.foldl (fun m k => mput k true m) []
theorem keys_snoc (l : List κ) (k : κ) : keysM (l ++ [k]) = mput k true (keysM l) := by simp [keysM]
theorem keys_take {l : List κ} {i : Nat} {k : κ} (h : l[i]? = some k) : keysM (l.take (i + 1)) = mput k true (keysM (l.take i)) := by
  rw [List.take_add_one, h, Option.toList_some, keys_snoc]
theorem mput_length {ν : Type} (k : κ) (v : ν) : ∀ m : List (κ × ν), (mput k v m).length = if (look k m).isSome then m.length else m.length + 1
  | [] => rfl
  | (a, b) :: m => by
    simp only [mput, look]
    by_cases e : k = a
    · simp [e]
    · simp only [if_neg e, List.length_cons, mput_length k v m]
      split <;> rfl
theorem look_keys (k : κ) : ∀ l : List κ, look k (keysM l) = if k ∈ l then some true else none := by
  intro l
  induction hx : l.length generalizing l with
  | zero => rw [List.length_eq_zero_iff.1 hx]; rfl
  | succ n ih =>
    obtain ⟨t, x, rfl⟩ : ∃ t x, l = t ++ [x] := ⟨l.dropLast, l.getLast (by intro e; rw [e] at hx; simp at hx), (List.dropLast_concat_getLast _).symm⟩
    rw [keys_snoc, look_put, ih t (by simpa using hx)]
    by_cases e : k = x
    · rw [if_pos e, if_pos (by simp [e])]
    · rw [if_neg e]; simp [e]
theorem keys_len : ∀ l : List κ, (keysM l).length ≤ l.length ∧ ((keysM l).length = l.length ↔ l.Nodup) := by
  intro l
  induction hx : l.length generalizing l with
  | zero => rw [List.length_eq_zero_iff.1 hx]; simp [keysM]
  | succ n ih =>
    obtain ⟨t, x, rfl⟩ : ∃ t x, l = t ++ [x] := ⟨l.dropLast, l.getLast (by intro e; rw [e] at hx; simp at hx), (List.dropLast_concat_getLast _).symm⟩
    have hl : t.length = n := by simpa using hx
    obtain ⟨i1, i2⟩ := ih t hl
    rw [keys_snoc, mput_length, look_keys]
    rw [List.nodup_append]
    by_cases e : x ∈ t
    · rw [if_pos e]
      simp only [Option.isSome_some, if_true]
      refine ⟨by omega, ⟨fun h => by omega, fun h => ?_⟩⟩
      exact absurd rfl (h.2.2 x e x (by simp))
    · rw [if_neg e]
      simp only [Option.isSome_none, Bool.false_eq_true, if_false]
      refine ⟨by omega, ⟨fun h => ⟨i2.1 (by omega), by simp, fun a ha b hb => ?_⟩, fun h => by have := i2.2 h.1; omega⟩⟩
      simp at hb; subst hb
      exact fun q => e (q ▸ ha)
end
def known (l : Lg) (b c : ByteArray) : Bool := decide (0 ≤ idx (has b) l.br) && decide (0 ≤ classR l c)
def badQ (l : Lg) (r : Rq) : Bool := !known l r.br r.ch
def badC (l : Lg) (c : Cl) : Bool := !known l c.br c.ch
def tcheck (t : Tr) : Int :=
  if lcheck t.lg ≠ 0 then lcheck t.lg else if qcheck t.q ≠ 0 then qcheck t.q else if wcheck t.hs ≠ 0 then wcheck t.hs
  else if 30 < t.cl.length then 4 else if t.q.any (badQ t.lg) then 6 else if t.cl.any (badC t.lg) then 6 else if t.cl.Nodup then 0 else 14
def nms (l : List Br) : List ByteArray := l.map fun b => b.name
def chs (l : List Kn) : List ByteArray := l.map fun k => k.ch
theorem idx_name {l : List Br} (b : ByteArray) : decide (0 ≤ idx (has b) l) = decide (b ∈ nms l) := by
  refine decide_eq_decide.2 ⟨fun h => ?_, fun h => ?_⟩
  · obtain ⟨i, x, h1, h2, h3⟩ := idx_get h
    simp only [has, decide_eq_true_eq] at h3
    exact List.mem_map.2 ⟨x, List.mem_of_getElem? h2, h3⟩
  · obtain ⟨x, hx, e⟩ := List.mem_map.1 h
    obtain ⟨i, hi⟩ := List.getElem?_of_mem hx
    exact (idx_le hi (p := has b) (by simp [has, e])).1
theorem class_mem {l : Lg} (hk : Kv l) (c : ByteArray) : decide (0 ≤ classR l c) = decide (c ∈ chs l.kn) := by
  refine decide_eq_decide.2 ⟨fun h => ?_, fun h => ?_⟩
  · unfold classR classN at h
    cases q : l.kn.find? (hasC c) with
    | none => rw [q] at h; simp at h
    | some k =>
      have h1 := List.find?_some q
      have h2 := List.mem_of_find?_eq_some q
      simp only [hasC, decide_eq_true_eq] at h1
      exact List.mem_map.2 ⟨k, h2, h1⟩
  · obtain ⟨x, hx, e⟩ := List.mem_map.1 h
    cases q : l.kn.find? (hasC c) with
    | none =>
      have := List.find?_eq_none.1 q x hx
      simp [hasC, e] at this
    | some k =>
      have h2 := List.mem_of_find?_eq_some q
      have := hk k h2
      simp only [classR, classN, q, Option.map_some, Option.getD_some]
      omega
theorem known_eq {l : Lg} (hk : Kv l) (b c : ByteArray) : known l b c = (decide (b ∈ nms l.br) && decide (c ∈ chs l.kn)) := by
  rw [known, idx_name, class_mem hk]
def orR : List Int → Int
  | [] => 0
  | x :: l => if x ≠ 0 then x else orR l
theorem orR_skip {l : List Int} {i : Nat} (h : ∀ j y, l[j]? = some y → j < i → y = 0) : orR l = orR (l.drop i) := by
  induction i generalizing l with
  | zero => rfl
  | succ i ih =>
    cases l with
    | nil => rfl
    | cons x l =>
      have := h 0 x rfl (by omega)
      rw [orR, if_neg (by omega), List.drop_succ_cons]
      exact ih fun j y hy hlt => h (j + 1) y hy (by omega)
theorem or_own (l : List Int) (hl : Sm l.length) : Spec Tryz.prog 69 [.d (.sl (l.map iD))] [] (.d (.int .i64 (orR l))) [] := by
  unfold Sm at hl
  obtain ⟨R, hR⟩ : ∃ R, R = orR l := ⟨_, rfl⟩
  rw [← hR]
  refine spec_of_ev (fn := Tryz.f69) DX_ok 3000 Tryz.func69 rfl rfl (Nat.le_of_ble_eq_true rfl) ?_
  simp (maxSteps := 4000000) -implicitDefEqProofs only [Tryz.f69, go_sem]
  refine eloop (S := Nat) (fun i => mkE 18 [(3, .d (.int .i64 0)), (6, .d (.sl (l.map iD))), (7, .d (.int .i64 l.length)), (8, .d (.int .i64 i))]) (fun i => []) (fun i => i ≤ l.length ∧ ∀ j y, l[j]? = some y → j < i → y = 0) (fun i => l.length - i) 0 ⟨by omega, by omega⟩ (Wk.sub (by (simp only [go_sem]) <;> trivial)) ?_
  rintro i ⟨hi, hj⟩
  rcases Nat.lt_or_ge i l.length with h2 | h2
  · have d2 : decide ((i : Int) < l.length) = true := by simp; omega
    obtain ⟨x, hx⟩ : ∃ x, l[i]? = some x := ⟨l[i]'(by omega), List.getElem?_eq_getElem _⟩
    have n1 : (0 ≤ (i : Int) ∧ (i : Int) < l.length) = True := eq_true (by omega)
    have n3 : (i < l.length) = True := eq_true (by omega)
    have w1 : IntKind.i64.wrap ((i : Int) + 1) = i + 1 := i64_in _ (by omega)
    by_cases h3 : x = 0
    · have z : (x != 0) = false := by simp [h3]
      simp (maxSteps := 4000000) -implicitDefEqProofs only [go_sem, d2, n1, n3, hx, z, w1, Option.some.injEq, forall_eq', and_true, true_and, Bool.not_true, Bool.not_false, decide_true, Nat.reduceAdd, Nat.reduceSub, Nat.reduceLT, Nat.reduceLeDiff, Nat.reduceEqDiff, ↓reduceIte]
      exact .mk (i + 1) ⟨by omega, upto_succ (p := fun _ y => y = 0) hx h3 hj⟩ (by omega) (Wk.sub (by (simp only [go_sem]) <;> trivial))
    · have z : (x != 0) = true := by simp [h3]
      have e : orR l = x := by
        rw [orR_skip hj, List.drop_eq_getElem_cons h2, (List.getElem?_eq_some_iff.1 hx).2, orR, if_pos h3]
      simp (maxSteps := 4000000) -implicitDefEqProofs only [go_sem, d2, n1, n3, hx, z, Option.some.injEq, forall_eq', and_true, true_and, Bool.not_true, Bool.not_false, decide_true, Nat.reduceAdd, Nat.reduceSub, Nat.reduceLT, Nat.reduceLeDiff, Nat.reduceEqDiff, ↓reduceIte]
      exact wk_int (by rw [hR, e])
  · have d2 : decide ((i : Int) < l.length) = false := by simp; omega
    have e : orR l = 0 := by rw [orR_skip hj, List.drop_eq_nil_of_le h2]; rfl
    simp (maxSteps := 4000000) -implicitDefEqProofs only [go_sem, d2, Option.some.injEq, forall_eq', and_true, true_and, Bool.not_true, Bool.not_false, decide_true, Nat.reduceAdd, Nat.reduceSub, Nat.reduceLT, Nat.reduceLeDiff, Nat.reduceEqDiff, ↓reduceIte]
    exact wk_int (by rw [hR, e])
end Go.AX.Tr
namespace Go.AX.Tr
open Go.Proofs Go.RowKit Go.IntWalk Go.AX.Br Go.AX.Lg Go.AX.Qu Go.AX.Wn
theorem tcheck_own (t : Tr) (hk : t.lg.kn.length ≤ 1000) (hb : t.lg.br.length ≤ 1000) (he : t.lg.ev.length ≤ 1000) (hq : t.q.length ≤ 1000) (hh : t.hs.length ≤ 1000) (hc : t.cl.length ≤ 1000) :
    Spec Tryz.prog 33 [tA t] [] (.d (.int .i64 (tcheck t))) [] := by
  have c1 := lcheck_own t.lg hk hb he
  have c2 := qcheck_own t.q (by unfold Sm; omega)
  have c3 := wcheck_own t.hs (by unfold Sm; omega)
  have c4 := or_own [lcheck t.lg, qcheck t.q, wcheck t.hs] (by unfold Sm; simp)
  obtain ⟨O, hO⟩ : ∃ O, O = orR [lcheck t.lg, qcheck t.q, wcheck t.hs] := ⟨_, rfl⟩
  rw [← hO] at c4
  simp only [lA] at c1
  obtain ⟨R, hR⟩ : ∃ R, R = tcheck t := ⟨_, rfl⟩
  rw [← hR]
  have ko : O ≠ 0 → R = O := fun h => by
    rw [hR, hO]; rw [hO] at h
    by_cases h1 : lcheck t.lg = 0 <;> by_cases h2 : qcheck t.q = 0 <;> by_cases h3 : wcheck t.hs = 0 <;> simp_all [tcheck, orR]
  have ok : O = 0 → lcheck t.lg = 0 ∧ qcheck t.q = 0 ∧ wcheck t.hs = 0 := fun h => by
    rw [hO] at h
    by_cases h1 : lcheck t.lg = 0 <;> by_cases h2 : qcheck t.q = 0 <;> by_cases h3 : wcheck t.hs = 0 <;> simp_all [orR]
  have fin : ∀ {x y : Int} {σ : List AObj}, x = y → Wk 0 [.d (.int .i64 x)] σ [.d (.int .i64 y)] [] := fun e => by subst e; exact Wk.forget (by simp only [go_sem]) (by simp only [go_sem])
  obtain ⟨ns, hns⟩ : ∃ ns, ns = nms t.lg.br := ⟨_, rfl⟩
  obtain ⟨cs, hcs⟩ : ∃ ns, ns = chs t.lg.kn := ⟨_, rfl⟩
  have nl : ns.length = t.lg.br.length := by rw [hns, nms, List.length_map]
  have cl : cs.length = t.lg.kn.length := by rw [hcs, chs, List.length_map]
  have nd : ∀ (c : ByteArray) (M : List (ByteArray × Bool)), (∃ ks, KeyT Tryz.prog 9 false ks ∧ kindOk false ks [D.str c] ∧ ∀ y ∈ mD sD boD M, kindOk false ks y.1) = True := fun c M => mneed (kD := sD) (vD := boD) Ty.keyT_9 sD_kind c M
  have up : ∀ (c : ByteArray) (M : List (ByteArray × Bool)), upM [D.str c] [.bool true] (mD sD boD M) = mD sD boD (mput c true M) := fun c M => upM_mD (kD := sD) (vD := boD) sD_eq c true M
  have gd : ∀ (c : ByteArray) (l : List ByteArray), (lkM [D.str c] (mD sD boD (keysM l))).getD [D.bool false] = [D.bool (decide (c ∈ l))] := fun c l => by
    have := lkM_mD (kD := sD) (vD := boD) sD_eq c (keysM l)
    rw [show [D.str c] = sD c from rfl, this, look_keys]
    by_cases h : c ∈ l
    · rw [if_pos h, decide_eq_true h]; rfl
    · rw [if_neg h, decide_eq_false h]; rfl
  have nk : ∀ (c : Cl) (M : List (Cl × Bool)), (∃ ks, KeyT Tryz.prog 62 true ks ∧ kindOk true ks [D.str c.br, D.str c.ch] ∧ ∀ y ∈ mD clD boD M, kindOk true ks y.1) = True := fun c M => mneed (kD := clD) (vD := boD) Ty.keyT_62 clD_kind c M
  have uk : ∀ (c : Cl) (M : List (Cl × Bool)), upM [D.str c.br, D.str c.ch] [.bool true] (mD clD boD M) = mD clD boD (mput c true M) := fun c M => upM_mD (kD := clD) (vD := boD) clD_eq c true M
  refine spec_of_ev (fn := Tryz.f33) DX_ok 3000 Tryz.func33 rfl rfl (Nat.le_of_ble_eq_true rfl) ?_
  simp (maxSteps := 4000000) -implicitDefEqProofs only [Tryz.f33, go_sem, tA]
  refine DX.plain (.take 0 false (.take 1 false (.take 2 false (.take 3 false (.take 4 false (.take 5 false (.take 6 false (.take 7 false (.take 8 false (.runV [9] (fun _ => []) fun _ => (.take 10 false (.take 11 false .done)))))))))))) (by kernel_rfl) (by kernel_rfl) Ty.mixed ?_
  simp (maxSteps := 4000000) -implicitDefEqProofs only [go_sem, hk, Option.some.injEq, forall_eq', and_true, true_and, Bool.not_true, Bool.not_false, decide_true, Nat.reduceAdd, Nat.reduceSub, Nat.reduceLT, Nat.reduceLeDiff, Nat.reduceEqDiff, ↓reduceIte]
  refine ⟨_, _, c1.lift0 _ (by simp only [go_sem]) (by simp only [go_sem]), rfl, ?_⟩
  refine ⟨_, _, c2.lift0 _ (by simp only [go_sem]) (by simp only [go_sem]), rfl, ?_⟩
  refine ⟨_, _, c3.lift0 _ (by simp only [go_sem]) (by simp only [go_sem]), rfl, ?_⟩
  simp (maxSteps := 4000000) -implicitDefEqProofs only [go_sem, Nat.reduceAdd, Nat.reduceSub, Nat.reduceLT, Nat.reduceLeDiff, Nat.reduceEqDiff, ↓reduceIte]
  refine ⟨_, _, Wk.frz 1 rfl, ?_⟩
  simp (maxSteps := 4000000) -implicitDefEqProofs only [go_sem, Nat.reduceAdd, Nat.reduceSub, Nat.reduceLT, Nat.reduceLeDiff, Nat.reduceEqDiff, ↓reduceIte]
  refine ⟨_, _, c4.lift0 _ (by simp only [go_sem]) (by simp only [go_sem]), rfl, ?_⟩
  cases k1 : (O != 0)
  case true =>
    simp (maxSteps := 4000000) -implicitDefEqProofs only [go_sem, k1, Option.some.injEq, forall_eq', and_true, true_and, Bool.not_true, Bool.not_false, decide_true, Nat.reduceAdd, Nat.reduceSub, Nat.reduceLT, Nat.reduceLeDiff, Nat.reduceEqDiff, ↓reduceIte]
    exact fin (ko (by simpa using k1)).symm
  have k1x : O = 0 := by simpa using k1
  obtain ⟨p1, p2, p3⟩ := ok k1x
  have lo := lok_of p1
  have hR2 : R = if 30 < t.cl.length then 4 else if t.q.any (badQ t.lg) then 6 else if t.cl.any (badC t.lg) then 6 else if t.cl.Nodup then 0 else 14 := by
    rw [hR, tcheck, if_neg (by omega), if_neg (by omega), if_neg (by omega)]
  have kn : ∀ b c, known t.lg b c = (decide (b ∈ ns) && decide (c ∈ cs)) := fun b c => by rw [hns, hcs]; exact known_eq lo.kv b c
  cases k2 : decide (30 < t.cl.length)
  case true =>
    have k2' : decide (30 < (t.cl.length : Int)) = true := by simp only [decide_eq_true_eq] at k2 ⊢; omega
    simp (maxSteps := 4000000) -implicitDefEqProofs only [go_sem, k1, k2', Option.some.injEq, forall_eq', and_true, true_and, Bool.not_true, Bool.not_false, decide_true, Nat.reduceAdd, Nat.reduceSub, Nat.reduceLT, Nat.reduceLeDiff, Nat.reduceEqDiff, ↓reduceIte]
    exact fin (by rw [hR2, if_pos (of_decide_eq_true k2)])
  have k2' : decide (30 < (t.cl.length : Int)) = false := by simp only [decide_eq_false_iff_not] at k2 ⊢; omega
  rw [if_neg (of_decide_eq_false k2)] at hR2
  simp (maxSteps := 4000000) -implicitDefEqProofs only [go_sem, k1, k2', Option.some.injEq, forall_eq', and_true, true_and, Bool.not_true, Bool.not_false, decide_true, Nat.reduceAdd, Nat.reduceSub, Nat.reduceLT, Nat.reduceLeDiff, Nat.reduceEqDiff, ↓reduceIte]
  clear c1 c2 c3 c4 ko ok hO hR
  refine eloop (S := Nat) (fun i => mkE 108 [(1, .ptr 0 0), (4, .mp 1), (5, .mp 2), (37, .d (.sl (t.lg.br.map bD))), (38, .d (.int .i64 t.lg.br.length)), (39, .d (.int .i64 i))]) (fun i => [tH t, .map false false (mD sD boD (keysM (ns.take i))), .map false false []]) (fun i => i ≤ t.lg.br.length) (fun i => t.lg.br.length - i) 0 (by omega) (Wk.via [0, 2, 3] (by (simp only [go_sem, ↓reduceIte]) <;> trivial) (by first | (simp (maxSteps := 4000000) -implicitDefEqProofs only [go_sem, Nat.reduceAdd, Nat.reduceSub, Nat.reduceLT, Nat.reduceLeDiff, Nat.reduceEqDiff, ↓reduceIte]; done) | ((simp (maxSteps := 4000000) -implicitDefEqProofs only [go_sem, Nat.reduceAdd, Nat.reduceSub, Nat.reduceLT, Nat.reduceLeDiff, Nat.reduceEqDiff, ↓reduceIte]) <;> omega)) (by simp) (by first | (simp; done) | (simp [so]; done)) (by (simp (maxSteps := 4000000) -implicitDefEqProofs only [go_sem, Nat.reduceAdd, Nat.reduceSub, Nat.reduceLT, Nat.reduceLeDiff, Nat.reduceEqDiff, ↓reduceIte]) <;> trivial) (by first | (simp only [go_sem]; done) | ((simp (maxSteps := 4000000) -implicitDefEqProofs only [go_sem, Nat.reduceAdd, Nat.reduceSub, Nat.reduceLT, Nat.reduceLeDiff, Nat.reduceEqDiff, ↓reduceIte]) <;> omega)) (Nat.zero_le _) (fun i h => absurd h (Nat.not_lt_zero i))) ?_
  intro i hi
  rcases Nat.lt_or_ge i t.lg.br.length with h2 | h2
  case inl =>
    have f1 : decide ((i : Int) < t.lg.br.length) = true := by simp; omega
    obtain ⟨x, hx⟩ : ∃ x, t.lg.br[i]? = some x := ⟨t.lg.br[i]'h2, List.getElem?_eq_getElem _⟩
    have n1 : (0 ≤ (i : Int) ∧ (i : Int) < t.lg.br.length) = True := eq_true (by omega)
    have n2 : (i < t.lg.br.length) = True := eq_true (by omega)
    have w1 : IntKind.i64.wrap ((i : Int) + 1) = ((i + 1 : Nat) : Int) := by rw [i64_in _ (by omega)]; simp
    have e := keys_take (l := ns) (i := i) (k := x.name) (by rw [hns, nms, List.getElem?_map, hx]; rfl)
    obtain ⟨m, hm⟩ : ∃ m, m = keysM (ns.take i) := ⟨_, rfl⟩
    rw [← hm] at e ⊢
    have nd1 := nd x.name m
    have up1 := up x.name m
    simp (maxSteps := 4000000) -implicitDefEqProofs only [go_sem, f1, n1, n2, hx, nd1, up1, w1, Option.some.injEq, forall_eq', and_true, true_and, Bool.not_true, Bool.not_false, decide_true, Nat.reduceAdd, Nat.reduceSub, Nat.reduceLT, Nat.reduceLeDiff, Nat.reduceEqDiff, ↓reduceIte]
    exact .mk (i + 1) (by omega) (by omega) (by rw [e]; exact (Wk.via [0, 1, 2] (by (simp only [go_sem, ↓reduceIte]) <;> trivial) (by first | (simp (maxSteps := 4000000) -implicitDefEqProofs only [go_sem, Nat.reduceAdd, Nat.reduceSub, Nat.reduceLT, Nat.reduceLeDiff, Nat.reduceEqDiff, ↓reduceIte]; done) | ((simp (maxSteps := 4000000) -implicitDefEqProofs only [go_sem, Nat.reduceAdd, Nat.reduceSub, Nat.reduceLT, Nat.reduceLeDiff, Nat.reduceEqDiff, ↓reduceIte]) <;> omega)) (by simp) (by first | (simp; done) | (simp [so]; done)) (by (simp (maxSteps := 4000000) -implicitDefEqProofs only [go_sem, Nat.reduceAdd, Nat.reduceSub, Nat.reduceLT, Nat.reduceLeDiff, Nat.reduceEqDiff, ↓reduceIte]) <;> trivial) (by first | (simp only [go_sem]; done) | ((simp (maxSteps := 4000000) -implicitDefEqProofs only [go_sem, Nat.reduceAdd, Nat.reduceSub, Nat.reduceLT, Nat.reduceLeDiff, Nat.reduceEqDiff, ↓reduceIte]) <;> omega)) (Nat.zero_le _) (fun i h => absurd h (Nat.not_lt_zero i))))
  have f1 : decide ((i : Int) < t.lg.br.length) = false := by simp; omega
  rw [List.take_of_length_le (by omega : ns.length ≤ i)]
  simp (maxSteps := 4000000) -implicitDefEqProofs only [go_sem, f1, Option.some.injEq, forall_eq', and_true, true_and, Bool.not_true, Bool.not_false, decide_true, Nat.reduceAdd, Nat.reduceSub, Nat.reduceLT, Nat.reduceLeDiff, Nat.reduceEqDiff, ↓reduceIte]
  clear hi h2 f1
  refine eloop (S := Nat) (fun i => mkE 108 [(1, .ptr 0 0), (4, .mp 1), (5, .mp 2), (49, .d (.sl (t.lg.kn.map kD))), (50, .d (.int .i64 t.lg.kn.length)), (51, .d (.int .i64 i))]) (fun i => [tH t, .map false false (mD sD boD (keysM ns)), .map false false (mD sD boD (keysM (cs.take i)))]) (fun i => i ≤ t.lg.kn.length) (fun i => t.lg.kn.length - i) 0 (by omega) (Wk.via [0, 1, 2] (by (simp only [go_sem, ↓reduceIte]) <;> trivial) (by first | (simp (maxSteps := 4000000) -implicitDefEqProofs only [go_sem, Nat.reduceAdd, Nat.reduceSub, Nat.reduceLT, Nat.reduceLeDiff, Nat.reduceEqDiff, ↓reduceIte]; done) | ((simp (maxSteps := 4000000) -implicitDefEqProofs only [go_sem, Nat.reduceAdd, Nat.reduceSub, Nat.reduceLT, Nat.reduceLeDiff, Nat.reduceEqDiff, ↓reduceIte]) <;> omega)) (by simp) (by first | (simp; done) | (simp [so]; done)) (by (simp (maxSteps := 4000000) -implicitDefEqProofs only [go_sem, Nat.reduceAdd, Nat.reduceSub, Nat.reduceLT, Nat.reduceLeDiff, Nat.reduceEqDiff, ↓reduceIte]) <;> trivial) (by first | (simp only [go_sem]; done) | ((simp (maxSteps := 4000000) -implicitDefEqProofs only [go_sem, Nat.reduceAdd, Nat.reduceSub, Nat.reduceLT, Nat.reduceLeDiff, Nat.reduceEqDiff, ↓reduceIte]) <;> omega)) (Nat.zero_le _) (fun i h => absurd h (Nat.not_lt_zero i))) ?_
  intro i hi
  rcases Nat.lt_or_ge i t.lg.kn.length with h2 | h2
  case inl =>
    have f1 : decide ((i : Int) < t.lg.kn.length) = true := by simp; omega
    obtain ⟨x, hx⟩ : ∃ x, t.lg.kn[i]? = some x := ⟨t.lg.kn[i]'h2, List.getElem?_eq_getElem _⟩
    have n1 : (0 ≤ (i : Int) ∧ (i : Int) < t.lg.kn.length) = True := eq_true (by omega)
    have n2 : (i < t.lg.kn.length) = True := eq_true (by omega)
    have w1 : IntKind.i64.wrap ((i : Int) + 1) = ((i + 1 : Nat) : Int) := by rw [i64_in _ (by omega)]; simp
    have e := keys_take (l := cs) (i := i) (k := x.ch) (by rw [hcs, chs, List.getElem?_map, hx]; rfl)
    obtain ⟨m, hm⟩ : ∃ m, m = keysM (cs.take i) := ⟨_, rfl⟩
    rw [← hm] at e ⊢
    have nd1 := nd x.ch m
    have up1 := up x.ch m
    simp (maxSteps := 4000000) -implicitDefEqProofs only [go_sem, f1, n1, n2, hx, nd1, up1, w1, Option.some.injEq, forall_eq', and_true, true_and, Bool.not_true, Bool.not_false, decide_true, Nat.reduceAdd, Nat.reduceSub, Nat.reduceLT, Nat.reduceLeDiff, Nat.reduceEqDiff, ↓reduceIte]
    exact .mk (i + 1) (by omega) (by omega) (by rw [e]; exact (Wk.via [0, 1, 2] (by (simp only [go_sem, ↓reduceIte]) <;> trivial) (by first | (simp (maxSteps := 4000000) -implicitDefEqProofs only [go_sem, Nat.reduceAdd, Nat.reduceSub, Nat.reduceLT, Nat.reduceLeDiff, Nat.reduceEqDiff, ↓reduceIte]; done) | ((simp (maxSteps := 4000000) -implicitDefEqProofs only [go_sem, Nat.reduceAdd, Nat.reduceSub, Nat.reduceLT, Nat.reduceLeDiff, Nat.reduceEqDiff, ↓reduceIte]) <;> omega)) (by simp) (by first | (simp; done) | (simp [so]; done)) (by (simp (maxSteps := 4000000) -implicitDefEqProofs only [go_sem, Nat.reduceAdd, Nat.reduceSub, Nat.reduceLT, Nat.reduceLeDiff, Nat.reduceEqDiff, ↓reduceIte]) <;> trivial) (by first | (simp only [go_sem]; done) | ((simp (maxSteps := 4000000) -implicitDefEqProofs only [go_sem, Nat.reduceAdd, Nat.reduceSub, Nat.reduceLT, Nat.reduceLeDiff, Nat.reduceEqDiff, ↓reduceIte]) <;> omega)) (Nat.zero_le _) (fun i h => absurd h (Nat.not_lt_zero i))))
  have f1 : decide ((i : Int) < t.lg.kn.length) = false := by simp; omega
  rw [List.take_of_length_le (by omega : cs.length ≤ i)]
  simp (maxSteps := 4000000) -implicitDefEqProofs only [go_sem, f1, Option.some.injEq, forall_eq', and_true, true_and, Bool.not_true, Bool.not_false, decide_true, Nat.reduceAdd, Nat.reduceSub, Nat.reduceLT, Nat.reduceLeDiff, Nat.reduceEqDiff, ↓reduceIte]
  clear hi h2 f1
  refine eloop (S := Nat) (fun i => mkE 108 [(1, .ptr 0 0), (4, .mp 1), (5, .mp 2), (60, .d (.sl (t.q.map rD))), (61, .d (.int .i64 t.q.length)), (62, .d (.int .i64 i))]) (fun i => [tH t, .map false false (mD sD boD (keysM ns)), .map false false (mD sD boD (keysM cs))]) (fun i => i ≤ t.q.length ∧ ∀ j y, t.q[j]? = some y → j < i → badQ t.lg y = false) (fun i => t.q.length - i) 0 ⟨by omega, by omega⟩ (Wk.via [0, 1, 2] (by (simp only [go_sem, ↓reduceIte]) <;> trivial) (by first | (simp (maxSteps := 4000000) -implicitDefEqProofs only [go_sem, Nat.reduceAdd, Nat.reduceSub, Nat.reduceLT, Nat.reduceLeDiff, Nat.reduceEqDiff, ↓reduceIte]; done) | ((simp (maxSteps := 4000000) -implicitDefEqProofs only [go_sem, Nat.reduceAdd, Nat.reduceSub, Nat.reduceLT, Nat.reduceLeDiff, Nat.reduceEqDiff, ↓reduceIte]) <;> omega)) (by simp) (by first | (simp; done) | (simp [so]; done)) (by (simp (maxSteps := 4000000) -implicitDefEqProofs only [go_sem, Nat.reduceAdd, Nat.reduceSub, Nat.reduceLT, Nat.reduceLeDiff, Nat.reduceEqDiff, ↓reduceIte]) <;> trivial) (by first | (simp only [go_sem]; done) | ((simp (maxSteps := 4000000) -implicitDefEqProofs only [go_sem, Nat.reduceAdd, Nat.reduceSub, Nat.reduceLT, Nat.reduceLeDiff, Nat.reduceEqDiff, ↓reduceIte]) <;> omega)) (Nat.zero_le _) (fun i h => absurd h (Nat.not_lt_zero i))) ?_
  rintro i ⟨hi, hj⟩
  rcases Nat.lt_or_ge i t.q.length with h2 | h2
  case inl =>
    have f1 : decide ((i : Int) < t.q.length) = true := by simp; omega
    obtain ⟨x, hx⟩ : ∃ x, t.q[i]? = some x := ⟨t.q[i]'h2, List.getElem?_eq_getElem _⟩
    have n1 : (0 ≤ (i : Int) ∧ (i : Int) < t.q.length) = True := eq_true (by omega)
    have n2 : (i < t.q.length) = True := eq_true (by omega)
    have w1 : IntKind.i64.wrap ((i : Int) + 1) = ((i + 1 : Nat) : Int) := by rw [i64_in _ (by omega)]; simp
    have nd1 := nd x.br (keysM ns)
    have nd2 := nd x.ch (keysM cs)
    have gd1 := gd x.br ns
    have gd2 := gd x.ch cs
    have bq : badQ t.lg x = !(decide (x.br ∈ ns) && decide (x.ch ∈ cs)) := by rw [badQ, kn]
    have b1 : (!true) = false := rfl
    have b2 : (!false) = true := rfl
    have out : badQ t.lg x = true → R = 6 := fun h => by rw [hR2, if_pos (any_t hx h)]
    cases g1 : decide (x.br ∈ ns)
    case false =>
      rw [g1] at gd1 bq
      simp (maxSteps := 4000000) -implicitDefEqProofs only [go_sem, f1, n1, n2, hx, nd1, gd1, b2, Option.some.injEq, forall_eq', and_true, true_and, Bool.not_true, Bool.not_false, decide_true, Nat.reduceAdd, Nat.reduceSub, Nat.reduceLT, Nat.reduceLeDiff, Nat.reduceEqDiff, ↓reduceIte]
      exact fin (out (by rw [bq]; rfl)).symm
    cases g2 : decide (x.ch ∈ cs)
    case false =>
      rw [g1] at gd1 bq
      rw [g2] at gd2 bq
      simp (maxSteps := 4000000) -implicitDefEqProofs only [go_sem, f1, n1, n2, hx, nd1, gd1, nd2, gd2, b1, b2, Option.some.injEq, forall_eq', and_true, true_and, Bool.not_true, Bool.not_false, decide_true, Nat.reduceAdd, Nat.reduceSub, Nat.reduceLT, Nat.reduceLeDiff, Nat.reduceEqDiff, ↓reduceIte]
      exact fin (out (by rw [bq]; rfl)).symm
    rw [g1] at gd1 bq
    rw [g2] at gd2 bq
    simp (maxSteps := 4000000) -implicitDefEqProofs only [go_sem, f1, n1, n2, hx, nd1, gd1, nd2, gd2, b1, b2, w1, Option.some.injEq, forall_eq', and_true, true_and, Bool.not_true, Bool.not_false, decide_true, Nat.reduceAdd, Nat.reduceSub, Nat.reduceLT, Nat.reduceLeDiff, Nat.reduceEqDiff, ↓reduceIte]
    exact .mk (i + 1) ⟨by omega, upto_succ hx (by rw [bq]; rfl) hj⟩ (by omega) (Wk.via [0, 1, 2] (by (simp only [go_sem, ↓reduceIte]) <;> trivial) (by first | (simp (maxSteps := 4000000) -implicitDefEqProofs only [go_sem, Nat.reduceAdd, Nat.reduceSub, Nat.reduceLT, Nat.reduceLeDiff, Nat.reduceEqDiff, ↓reduceIte]; done) | ((simp (maxSteps := 4000000) -implicitDefEqProofs only [go_sem, Nat.reduceAdd, Nat.reduceSub, Nat.reduceLT, Nat.reduceLeDiff, Nat.reduceEqDiff, ↓reduceIte]) <;> omega)) (by simp) (by first | (simp; done) | (simp [so]; done)) (by (simp (maxSteps := 4000000) -implicitDefEqProofs only [go_sem, Nat.reduceAdd, Nat.reduceSub, Nat.reduceLT, Nat.reduceLeDiff, Nat.reduceEqDiff, ↓reduceIte]) <;> trivial) (by first | (simp only [go_sem]; done) | ((simp (maxSteps := 4000000) -implicitDefEqProofs only [go_sem, Nat.reduceAdd, Nat.reduceSub, Nat.reduceLT, Nat.reduceLeDiff, Nat.reduceEqDiff, ↓reduceIte]) <;> omega)) (Nat.zero_le _) (fun i h => absurd h (Nat.not_lt_zero i)))
  have f1 : decide ((i : Int) < t.q.length) = false := by simp; omega
  rw [any_f fun j y hy => hj j y hy (by have := some_lt hy; omega)] at hR2
  simp only [Bool.false_eq_true, if_false] at hR2
  simp (maxSteps := 4000000) -implicitDefEqProofs only [go_sem, f1, Option.some.injEq, forall_eq', and_true, true_and, Bool.not_true, Bool.not_false, decide_true, Nat.reduceAdd, Nat.reduceSub, Nat.reduceLT, Nat.reduceLeDiff, Nat.reduceEqDiff, ↓reduceIte]
  clear hj hi h2 f1
  refine eloop (S := Nat) (fun i => mkE 108 [(1, .ptr 0 0), (4, .mp 1), (5, .mp 2), (12, .mp 3), (81, .d (.sl (t.cl.map clD))), (82, .d (.int .i64 t.cl.length)), (83, .d (.int .i64 i))]) (fun i => [tH t, .map false false (mD sD boD (keysM ns)), .map false false (mD sD boD (keysM cs)), .map true false (mD clD boD (keysM (t.cl.take i)))]) (fun i => i ≤ t.cl.length ∧ ∀ j y, t.cl[j]? = some y → j < i → badC t.lg y = false) (fun i => t.cl.length - i) 0 ⟨by omega, by omega⟩ (Wk.via [0, 1, 2, 3] (by (simp only [go_sem, ↓reduceIte]) <;> trivial) (by first | (simp (maxSteps := 4000000) -implicitDefEqProofs only [go_sem, Nat.reduceAdd, Nat.reduceSub, Nat.reduceLT, Nat.reduceLeDiff, Nat.reduceEqDiff, ↓reduceIte]; done) | ((simp (maxSteps := 4000000) -implicitDefEqProofs only [go_sem, Nat.reduceAdd, Nat.reduceSub, Nat.reduceLT, Nat.reduceLeDiff, Nat.reduceEqDiff, ↓reduceIte]) <;> omega)) (by simp) (by first | (simp; done) | (simp [so]; done)) (by (simp (maxSteps := 4000000) -implicitDefEqProofs only [go_sem, Nat.reduceAdd, Nat.reduceSub, Nat.reduceLT, Nat.reduceLeDiff, Nat.reduceEqDiff, ↓reduceIte]) <;> trivial) (by first | (simp only [go_sem]; done) | ((simp (maxSteps := 4000000) -implicitDefEqProofs only [go_sem, Nat.reduceAdd, Nat.reduceSub, Nat.reduceLT, Nat.reduceLeDiff, Nat.reduceEqDiff, ↓reduceIte]) <;> omega)) (Nat.zero_le _) (fun i h => absurd h (Nat.not_lt_zero i))) ?_
  rintro i ⟨hi, hj⟩
  rcases Nat.lt_or_ge i t.cl.length with h2 | h2
  case inl =>
    have f1 : decide ((i : Int) < t.cl.length) = true := by simp; omega
    obtain ⟨x, hx⟩ : ∃ x, t.cl[i]? = some x := ⟨t.cl[i]'h2, List.getElem?_eq_getElem _⟩
    have n1 : (0 ≤ (i : Int) ∧ (i : Int) < t.cl.length) = True := eq_true (by omega)
    have n2 : (i < t.cl.length) = True := eq_true (by omega)
    have w1 : IntKind.i64.wrap ((i : Int) + 1) = ((i + 1 : Nat) : Int) := by rw [i64_in _ (by omega)]; simp
    have nd1 := nd x.br (keysM ns)
    have nd2 := nd x.ch (keysM cs)
    have gd1 := gd x.br ns
    have gd2 := gd x.ch cs
    have e := keys_take hx
    obtain ⟨m, hm⟩ : ∃ m, m = keysM (t.cl.take i) := ⟨_, rfl⟩
    rw [← hm] at e ⊢
    have nk1 := nk x m
    have uk1 := uk x m
    have bq : badC t.lg x = !(decide (x.br ∈ ns) && decide (x.ch ∈ cs)) := by rw [badC, kn]
    have b1 : (!true) = false := rfl
    have b2 : (!false) = true := rfl
    have out : badC t.lg x = true → R = 6 := fun h => by rw [hR2, if_pos (any_t hx h)]
    cases g1 : decide (x.br ∈ ns)
    case false =>
      rw [g1] at gd1 bq
      simp (maxSteps := 4000000) -implicitDefEqProofs only [go_sem, f1, n1, n2, hx, nd1, gd1, b2, Option.some.injEq, forall_eq', and_true, true_and, Bool.not_true, Bool.not_false, decide_true, Nat.reduceAdd, Nat.reduceSub, Nat.reduceLT, Nat.reduceLeDiff, Nat.reduceEqDiff, ↓reduceIte]
      exact fin (out (by rw [bq]; rfl)).symm
    cases g2 : decide (x.ch ∈ cs)
    case false =>
      rw [g1] at gd1 bq
      rw [g2] at gd2 bq
      simp (maxSteps := 4000000) -implicitDefEqProofs only [go_sem, f1, n1, n2, hx, nd1, gd1, nd2, gd2, b1, b2, Option.some.injEq, forall_eq', and_true, true_and, Bool.not_true, Bool.not_false, decide_true, Nat.reduceAdd, Nat.reduceSub, Nat.reduceLT, Nat.reduceLeDiff, Nat.reduceEqDiff, ↓reduceIte]
      exact fin (out (by rw [bq]; rfl)).symm
    rw [g1] at gd1 bq
    rw [g2] at gd2 bq
    simp (maxSteps := 4000000) -implicitDefEqProofs only [go_sem, f1, n1, n2, hx, nd1, gd1, nd2, gd2, nk1, uk1, b1, b2, w1, Option.some.injEq, forall_eq', and_true, true_and, Bool.not_true, Bool.not_false, decide_true, Nat.reduceAdd, Nat.reduceSub, Nat.reduceLT, Nat.reduceLeDiff, Nat.reduceEqDiff, ↓reduceIte]
    exact .mk (i + 1) ⟨by omega, upto_succ hx (by rw [bq]; rfl) hj⟩ (by omega) (by rw [e]; exact (Wk.via [0, 1, 2, 3] (by (simp only [go_sem, ↓reduceIte]) <;> trivial) (by first | (simp (maxSteps := 4000000) -implicitDefEqProofs only [go_sem, Nat.reduceAdd, Nat.reduceSub, Nat.reduceLT, Nat.reduceLeDiff, Nat.reduceEqDiff, ↓reduceIte]; done) | ((simp (maxSteps := 4000000) -implicitDefEqProofs only [go_sem, Nat.reduceAdd, Nat.reduceSub, Nat.reduceLT, Nat.reduceLeDiff, Nat.reduceEqDiff, ↓reduceIte]) <;> omega)) (by simp) (by first | (simp; done) | (simp [so]; done)) (by (simp (maxSteps := 4000000) -implicitDefEqProofs only [go_sem, Nat.reduceAdd, Nat.reduceSub, Nat.reduceLT, Nat.reduceLeDiff, Nat.reduceEqDiff, ↓reduceIte]) <;> trivial) (by first | (simp only [go_sem]; done) | ((simp (maxSteps := 4000000) -implicitDefEqProofs only [go_sem, Nat.reduceAdd, Nat.reduceSub, Nat.reduceLT, Nat.reduceLeDiff, Nat.reduceEqDiff, ↓reduceIte]) <;> omega)) (Nat.zero_le _) (fun i h => absurd h (Nat.not_lt_zero i))))
  have f1 : decide ((i : Int) < t.cl.length) = false := by simp; omega
  rw [any_f fun j y hy => hj j y hy (by have := some_lt hy; omega)] at hR2
  simp only [Bool.false_eq_true, if_false] at hR2
  rw [List.take_of_length_le h2]
  obtain ⟨q1, q2⟩ := keys_len t.cl
  have ml : (mD clD boD (keysM t.cl)).length = (keysM t.cl).length := by simp [mD]
  by_cases h3 : t.cl.Nodup
  · have := q2.2 h3
    have d3 : decide (((keysM t.cl).length : Int) < t.cl.length) = false := by simp; omega
    simp (maxSteps := 4000000) -implicitDefEqProofs only [go_sem, f1, ml, d3, Option.some.injEq, forall_eq', and_true, true_and, Bool.not_true, Bool.not_false, decide_true, Nat.reduceAdd, Nat.reduceSub, Nat.reduceLT, Nat.reduceLeDiff, Nat.reduceEqDiff, ↓reduceIte]
    exact fin (by rw [hR2, if_pos h3])
  · have : (keysM t.cl).length ≠ t.cl.length := fun h => h3 (q2.1 h)
    have d3 : decide (((keysM t.cl).length : Int) < t.cl.length) = true := by simp; omega
    simp (maxSteps := 4000000) -implicitDefEqProofs only [go_sem, f1, ml, d3, Option.some.injEq, forall_eq', and_true, true_and, Bool.not_true, Bool.not_false, decide_true, Nat.reduceAdd, Nat.reduceSub, Nat.reduceLT, Nat.reduceLeDiff, Nat.reduceEqDiff, ↓reduceIte]
    exact fin (by rw [hR2, if_neg h3])
end Go.AX.Tr
namespace Go.AX.Tr
open Go.Proofs Go.RowKit Go.IntWalk Go.AX.Br Go.AX.Lg Go.AX.Qu Go.AX.Wn
theorem known_ref (l : Lg) (b c : ByteArray) (hk : Sm l.kn.length) (hb : Sm l.br.length) : Spec Tryz.prog 25 [lA l, .d (.str b), .d (.str c)] [] (.d (.bool (known l b c))) [] := by
  have c1 := Br.index_ref l.br b hb
  have c2 := class_ref l c hk
  simp only [lA] at c2
  unfold known
  refine spec_of_ev (fn := Tryz.f25) DX_ok 3000 Tryz.func25 rfl rfl (Nat.le_of_ble_eq_true rfl) ?_
  simp (maxSteps := 4000000) -implicitDefEqProofs only [Tryz.f25, go_sem, lA]
  refine ecall0 _ c1 (by simp only [go_sem]) (by simp only [go_sem]) ?_
  cases k1 : decide (0 ≤ idx (has b) l.br)
  case false =>
    simp (maxSteps := 4000000) -implicitDefEqProofs only [go_sem, k1, Option.some.injEq, forall_eq', and_true, true_and, Bool.not_true, Bool.not_false, decide_true, Nat.reduceAdd, Nat.reduceSub, Nat.reduceLT, Nat.reduceLeDiff, Nat.reduceEqDiff, ↓reduceIte]
    exact wk_bool rfl
  simp (maxSteps := 4000000) -implicitDefEqProofs only [go_sem, k1, Option.some.injEq, forall_eq', and_true, true_and, Bool.not_true, Bool.not_false, decide_true, Nat.reduceAdd, Nat.reduceSub, Nat.reduceLT, Nat.reduceLeDiff, Nat.reduceEqDiff, ↓reduceIte]
  refine ecall0 _ c2 (by simp only [go_sem]) (by simp only [go_sem]) ?_
  simp (maxSteps := 4000000) -implicitDefEqProofs only [go_sem, Nat.reduceAdd, Nat.reduceSub, Nat.reduceLT, Nat.reduceLeDiff, Nat.reduceEqDiff, ↓reduceIte]
  exact wk_bool rfl
def dupN (l : List Cl) (i : Nat) : Prop := ∀ a b x, b < i → a < b → l[a]? = some x → l[b]? ≠ some x
theorem dupN_nodup {l : List Cl} (h : dupN l l.length) : l.Nodup := by
  unfold List.Nodup
  rw [List.pairwise_iff_getElem]
  intro i j hi hj hij e
  exact h i j l[i] hj hij (List.getElem?_eq_getElem hi) (by rw [e]; exact List.getElem?_eq_getElem hj)
theorem dup_not {l : List Cl} {a b : Nat} {x : Cl} (hab : a < b) (h1 : l[a]? = some x) (h2 : l[b]? = some x) : ¬ l.Nodup := fun h => by
  unfold List.Nodup at h
  rw [List.pairwise_iff_getElem] at h
  obtain ⟨ha, e1⟩ := List.getElem?_eq_some_iff.1 h1
  obtain ⟨hb, e2⟩ := List.getElem?_eq_some_iff.1 h2
  exact h a b ha hb hab (by rw [e1, e2])
theorem clEq (x y : Cl) : (decide (x.br = y.br) && decide (x.ch = y.ch)) = decide (x = y) := by
  cases x; cases y
  rw [Bool.eq_iff_iff]; simp
theorem tcheck_ref (t : Tr) (hk : t.lg.kn.length ≤ 1000) (hb : t.lg.br.length ≤ 1000) (he : t.lg.ev.length ≤ 1000) (hq : t.q.length ≤ 1000) (hh : t.hs.length ≤ 1000) (hc : t.cl.length ≤ 1000) :
    Spec Tryz.prog 6 [tA t] [] (.d (.int .i64 (tcheck t))) [] := by
  have c1 := lcheck_ref t.lg hk hb he
  have c2 := qcheck_ref t.q (by unfold Sm; omega)
  have c3 := wcheck_ref t.hs (by unfold Sm; omega)
  have c4 := fun b c => known_ref t.lg b c (by unfold Sm; omega) (by unfold Sm; omega)
  simp only [lA] at c1 c4
  obtain ⟨R, hR⟩ : ∃ R, R = tcheck t := ⟨_, rfl⟩
  rw [← hR]
  unfold tcheck at hR
  have fin : ∀ {x y : Int} {σ : List AObj}, x = y → Wk 0 [.d (.int .i64 x)] σ [.d (.int .i64 y)] [] := fun e => by subst e; exact Wk.forget (by simp only [go_sem]) (by simp only [go_sem])
  refine spec_of_ev (fn := Tryz.f6) DX_ok 3000 Tryz.func6 rfl rfl (Nat.le_of_ble_eq_true rfl) ?_
  simp (maxSteps := 4000000) -implicitDefEqProofs only [Tryz.f6, go_sem, tA]
  refine ecall0 _ c1 (by simp only [go_sem]) (by simp only [go_sem]) ?_
  cases k1 : (lcheck t.lg != 0)
  case true =>
    simp (maxSteps := 4000000) -implicitDefEqProofs only [go_sem, k1, Option.some.injEq, forall_eq', and_true, true_and, Bool.not_true, Bool.not_false, decide_true, Nat.reduceAdd, Nat.reduceSub, Nat.reduceLT, Nat.reduceLeDiff, Nat.reduceEqDiff, ↓reduceIte]
    exact fin (by rw [hR, if_pos (by simpa using k1)])
  rw [if_neg (by simpa using k1)] at hR
  simp (maxSteps := 4000000) -implicitDefEqProofs only [go_sem, k1, Option.some.injEq, forall_eq', and_true, true_and, Bool.not_true, Bool.not_false, decide_true, Nat.reduceAdd, Nat.reduceSub, Nat.reduceLT, Nat.reduceLeDiff, Nat.reduceEqDiff, ↓reduceIte]
  refine ecall0 _ c2 (by simp only [go_sem]) (by simp only [go_sem]) ?_
  cases k2 : (qcheck t.q != 0)
  case true =>
    simp (maxSteps := 4000000) -implicitDefEqProofs only [go_sem, k2, Option.some.injEq, forall_eq', and_true, true_and, Bool.not_true, Bool.not_false, decide_true, Nat.reduceAdd, Nat.reduceSub, Nat.reduceLT, Nat.reduceLeDiff, Nat.reduceEqDiff, ↓reduceIte]
    exact fin (by rw [hR, if_pos (by simpa using k2)])
  rw [if_neg (by simpa using k2)] at hR
  simp (maxSteps := 4000000) -implicitDefEqProofs only [go_sem, k2, Option.some.injEq, forall_eq', and_true, true_and, Bool.not_true, Bool.not_false, decide_true, Nat.reduceAdd, Nat.reduceSub, Nat.reduceLT, Nat.reduceLeDiff, Nat.reduceEqDiff, ↓reduceIte]
  refine ecall0 _ c3 (by simp only [go_sem]) (by simp only [go_sem]) ?_
  cases k3 : (wcheck t.hs != 0)
  case true =>
    simp (maxSteps := 4000000) -implicitDefEqProofs only [go_sem, k3, Option.some.injEq, forall_eq', and_true, true_and, Bool.not_true, Bool.not_false, decide_true, Nat.reduceAdd, Nat.reduceSub, Nat.reduceLT, Nat.reduceLeDiff, Nat.reduceEqDiff, ↓reduceIte]
    exact fin (by rw [hR, if_pos (by simpa using k3)])
  rw [if_neg (by simpa using k3)] at hR
  cases k4 : decide (30 < t.cl.length)
  case true =>
    have k4' : decide (30 < (t.cl.length : Int)) = true := by simp only [decide_eq_true_eq] at k4 ⊢; omega
    simp (maxSteps := 4000000) -implicitDefEqProofs only [go_sem, k3, k4', Option.some.injEq, forall_eq', and_true, true_and, Bool.not_true, Bool.not_false, decide_true, Nat.reduceAdd, Nat.reduceSub, Nat.reduceLT, Nat.reduceLeDiff, Nat.reduceEqDiff, ↓reduceIte]
    exact fin (by rw [hR, if_pos (of_decide_eq_true k4)])
  have k4' : decide (30 < (t.cl.length : Int)) = false := by simp only [decide_eq_false_iff_not] at k4 ⊢; omega
  rw [if_neg (of_decide_eq_false k4)] at hR
  simp (maxSteps := 4000000) -implicitDefEqProofs only [go_sem, k3, k4', Option.some.injEq, forall_eq', and_true, true_and, Bool.not_true, Bool.not_false, decide_true, Nat.reduceAdd, Nat.reduceSub, Nat.reduceLT, Nat.reduceLeDiff, Nat.reduceEqDiff, ↓reduceIte]
  clear c1 c2 c3
  have b1 : (!true) = false := rfl
  have b2 : (!false) = true := rfl
  refine eloop (S := Nat) (fun i => mkE 101 [(1, .ptr 0 0), (6, .d (.int .i64 i))]) (fun i => [tH t]) (fun i => i ≤ t.q.length ∧ ∀ j y, t.q[j]? = some y → j < i → badQ t.lg y = false) (fun i => t.q.length - i) 0 ⟨by omega, by omega⟩ (Wk.via [0] (by (simp only [go_sem, ↓reduceIte]) <;> trivial) (by first | (simp (maxSteps := 4000000) -implicitDefEqProofs only [go_sem, Nat.reduceAdd, Nat.reduceSub, Nat.reduceLT, Nat.reduceLeDiff, Nat.reduceEqDiff, ↓reduceIte]; done) | ((simp (maxSteps := 4000000) -implicitDefEqProofs only [go_sem, Nat.reduceAdd, Nat.reduceSub, Nat.reduceLT, Nat.reduceLeDiff, Nat.reduceEqDiff, ↓reduceIte]) <;> omega)) (by simp) (by first | (simp; done) | (simp [so]; done)) (by (simp (maxSteps := 4000000) -implicitDefEqProofs only [go_sem, Nat.reduceAdd, Nat.reduceSub, Nat.reduceLT, Nat.reduceLeDiff, Nat.reduceEqDiff, ↓reduceIte]) <;> trivial) (by first | (simp only [go_sem]; done) | ((simp (maxSteps := 4000000) -implicitDefEqProofs only [go_sem, Nat.reduceAdd, Nat.reduceSub, Nat.reduceLT, Nat.reduceLeDiff, Nat.reduceEqDiff, ↓reduceIte]) <;> omega)) (Nat.zero_le _) (fun i h => absurd h (Nat.not_lt_zero i))) ?_
  rintro i ⟨hi, hj⟩
  rcases Nat.lt_or_ge i t.q.length with h2 | h2
  case inl =>
    have f1 : decide ((i : Int) < t.q.length) = true := by simp; omega
    obtain ⟨x, hx⟩ : ∃ x, t.q[i]? = some x := ⟨t.q[i]'h2, List.getElem?_eq_getElem _⟩
    have n1 : (0 ≤ (i : Int) ∧ (i : Int) < t.q.length) = True := eq_true (by omega)
    have n2 : (i < t.q.length) = True := eq_true (by omega)
    have w1 : IntKind.i64.wrap ((i : Int) + 1) = ((i + 1 : Nat) : Int) := by rw [i64_in _ (by omega)]; simp
    have d1 := c4 x.br x.ch
    cases g : known t.lg x.br x.ch
    · rw [g] at d1
      simp (maxSteps := 4000000) -implicitDefEqProofs only [go_sem, f1, Option.some.injEq, forall_eq', and_true, true_and, Bool.not_true, Bool.not_false, decide_true, Nat.reduceAdd, Nat.reduceSub, Nat.reduceLT, Nat.reduceLeDiff, Nat.reduceEqDiff, ↓reduceIte]
      refine DX.plain (.take 0 false (.take 1 false (.take 2 false (.take 3 false (.take 4 false (.take 5 false (.take 6 false (.take 7 false (.take 8 false (.take 9 false (.take 10 false (.take 11 false (.take 12 false (.take 13 false (.take 14 false (.take 15 false .done)))))))))))))))) (by kernel_rfl) (by kernel_rfl) Ty.mixed ?_
      simp (maxSteps := 4000000) -implicitDefEqProofs only [go_sem, n1, n2, hx, Option.some.injEq, forall_eq', and_true, true_and, Bool.not_true, Bool.not_false, decide_true, Nat.reduceAdd, Nat.reduceSub, Nat.reduceLT, Nat.reduceLeDiff, Nat.reduceEqDiff, ↓reduceIte]
      refine ⟨_, _, d1.lift0 _ (by simp only [go_sem]) (by simp only [go_sem]), rfl, ?_⟩
      simp (maxSteps := 4000000) -implicitDefEqProofs only [go_sem, b2, Option.some.injEq, forall_eq', and_true, true_and, Bool.not_true, Bool.not_false, decide_true, Nat.reduceAdd, Nat.reduceSub, Nat.reduceLT, Nat.reduceLeDiff, Nat.reduceEqDiff, ↓reduceIte]
      exact fin (by rw [hR, if_pos (any_t hx (by simp [badQ, g]))])
    · rw [g] at d1
      simp (maxSteps := 4000000) -implicitDefEqProofs only [go_sem, f1, Option.some.injEq, forall_eq', and_true, true_and, Bool.not_true, Bool.not_false, decide_true, Nat.reduceAdd, Nat.reduceSub, Nat.reduceLT, Nat.reduceLeDiff, Nat.reduceEqDiff, ↓reduceIte]
      refine DX.plain (.take 0 false (.take 1 false (.take 2 false (.take 3 false (.take 4 false (.take 5 false (.take 6 false (.take 7 false (.take 8 false (.take 9 false (.take 10 false (.take 11 false (.take 12 false (.take 13 false (.take 14 false (.take 15 false .done)))))))))))))))) (by kernel_rfl) (by kernel_rfl) Ty.mixed ?_
      simp (maxSteps := 4000000) -implicitDefEqProofs only [go_sem, n1, n2, hx, Option.some.injEq, forall_eq', and_true, true_and, Bool.not_true, Bool.not_false, decide_true, Nat.reduceAdd, Nat.reduceSub, Nat.reduceLT, Nat.reduceLeDiff, Nat.reduceEqDiff, ↓reduceIte]
      refine ⟨_, _, d1.lift0 _ (by simp only [go_sem]) (by simp only [go_sem]), rfl, ?_⟩
      simp (maxSteps := 4000000) -implicitDefEqProofs only [go_sem, b1, w1, Option.some.injEq, forall_eq', and_true, true_and, Bool.not_true, Bool.not_false, decide_true, Nat.reduceAdd, Nat.reduceSub, Nat.reduceLT, Nat.reduceLeDiff, Nat.reduceEqDiff, ↓reduceIte]
      exact .mk (i + 1) ⟨by omega, upto_succ hx (by simp [badQ, g]) hj⟩ (by omega) (Wk.via [0] (by (simp only [go_sem, ↓reduceIte]) <;> trivial) (by first | (simp (maxSteps := 4000000) -implicitDefEqProofs only [go_sem, Nat.reduceAdd, Nat.reduceSub, Nat.reduceLT, Nat.reduceLeDiff, Nat.reduceEqDiff, ↓reduceIte]; done) | ((simp (maxSteps := 4000000) -implicitDefEqProofs only [go_sem, Nat.reduceAdd, Nat.reduceSub, Nat.reduceLT, Nat.reduceLeDiff, Nat.reduceEqDiff, ↓reduceIte]) <;> omega)) (by simp) (by first | (simp; done) | (simp [so]; done)) (by (simp (maxSteps := 4000000) -implicitDefEqProofs only [go_sem, Nat.reduceAdd, Nat.reduceSub, Nat.reduceLT, Nat.reduceLeDiff, Nat.reduceEqDiff, ↓reduceIte]) <;> trivial) (by first | (simp only [go_sem]; done) | ((simp (maxSteps := 4000000) -implicitDefEqProofs only [go_sem, Nat.reduceAdd, Nat.reduceSub, Nat.reduceLT, Nat.reduceLeDiff, Nat.reduceEqDiff, ↓reduceIte]) <;> omega)) (Nat.zero_le _) (fun i h => absurd h (Nat.not_lt_zero i)))
  have f1 : decide ((i : Int) < t.q.length) = false := by simp; omega
  rw [any_f fun j y hy => hj j y hy (by have := some_lt hy; omega)] at hR
  simp only [Bool.false_eq_true, if_false] at hR
  simp (maxSteps := 4000000) -implicitDefEqProofs only [go_sem, f1, Option.some.injEq, forall_eq', and_true, true_and, Bool.not_true, Bool.not_false, decide_true, Nat.reduceAdd, Nat.reduceSub, Nat.reduceLT, Nat.reduceLeDiff, Nat.reduceEqDiff, ↓reduceIte]
  clear hj hi h2 f1
  refine eloop (S := Nat) (fun i => mkE 101 [(1, .ptr 0 0), (7, .d (.int .i64 i))]) (fun i => [tH t]) (fun i => i ≤ t.cl.length ∧ ∀ j y, t.cl[j]? = some y → j < i → badC t.lg y = false) (fun i => t.cl.length - i) 0 ⟨by omega, by omega⟩ (Wk.via [0] (by (simp only [go_sem, ↓reduceIte]) <;> trivial) (by first | (simp (maxSteps := 4000000) -implicitDefEqProofs only [go_sem, Nat.reduceAdd, Nat.reduceSub, Nat.reduceLT, Nat.reduceLeDiff, Nat.reduceEqDiff, ↓reduceIte]; done) | ((simp (maxSteps := 4000000) -implicitDefEqProofs only [go_sem, Nat.reduceAdd, Nat.reduceSub, Nat.reduceLT, Nat.reduceLeDiff, Nat.reduceEqDiff, ↓reduceIte]) <;> omega)) (by simp) (by first | (simp; done) | (simp [so]; done)) (by (simp (maxSteps := 4000000) -implicitDefEqProofs only [go_sem, Nat.reduceAdd, Nat.reduceSub, Nat.reduceLT, Nat.reduceLeDiff, Nat.reduceEqDiff, ↓reduceIte]) <;> trivial) (by first | (simp only [go_sem]; done) | ((simp (maxSteps := 4000000) -implicitDefEqProofs only [go_sem, Nat.reduceAdd, Nat.reduceSub, Nat.reduceLT, Nat.reduceLeDiff, Nat.reduceEqDiff, ↓reduceIte]) <;> omega)) (Nat.zero_le _) (fun i h => absurd h (Nat.not_lt_zero i))) ?_
  rintro i ⟨hi, hj⟩
  rcases Nat.lt_or_ge i t.cl.length with h2 | h2
  case inl =>
    have f1 : decide ((i : Int) < t.cl.length) = true := by simp; omega
    obtain ⟨x, hx⟩ : ∃ x, t.cl[i]? = some x := ⟨t.cl[i]'h2, List.getElem?_eq_getElem _⟩
    have n1 : (0 ≤ (i : Int) ∧ (i : Int) < t.cl.length) = True := eq_true (by omega)
    have n2 : (i < t.cl.length) = True := eq_true (by omega)
    have w1 : IntKind.i64.wrap ((i : Int) + 1) = ((i + 1 : Nat) : Int) := by rw [i64_in _ (by omega)]; simp
    have d1 := c4 x.br x.ch
    cases g : known t.lg x.br x.ch
    · rw [g] at d1
      simp (maxSteps := 4000000) -implicitDefEqProofs only [go_sem, f1, Option.some.injEq, forall_eq', and_true, true_and, Bool.not_true, Bool.not_false, decide_true, Nat.reduceAdd, Nat.reduceSub, Nat.reduceLT, Nat.reduceLeDiff, Nat.reduceEqDiff, ↓reduceIte]
      refine DX.plain (.take 0 false (.take 1 false (.take 2 false (.take 3 false (.take 4 false (.take 5 false (.take 6 false (.take 7 false (.take 8 false (.take 9 false (.take 10 false (.take 11 false (.take 12 false (.take 13 false (.take 14 false (.take 15 false .done)))))))))))))))) (by kernel_rfl) (by kernel_rfl) Ty.mixed ?_
      simp (maxSteps := 4000000) -implicitDefEqProofs only [go_sem, n1, n2, hx, Option.some.injEq, forall_eq', and_true, true_and, Bool.not_true, Bool.not_false, decide_true, Nat.reduceAdd, Nat.reduceSub, Nat.reduceLT, Nat.reduceLeDiff, Nat.reduceEqDiff, ↓reduceIte]
      refine ⟨_, _, d1.lift0 _ (by simp only [go_sem]) (by simp only [go_sem]), rfl, ?_⟩
      simp (maxSteps := 4000000) -implicitDefEqProofs only [go_sem, b2, Option.some.injEq, forall_eq', and_true, true_and, Bool.not_true, Bool.not_false, decide_true, Nat.reduceAdd, Nat.reduceSub, Nat.reduceLT, Nat.reduceLeDiff, Nat.reduceEqDiff, ↓reduceIte]
      exact fin (by rw [hR, if_pos (any_t hx (by simp [badC, g]))])
    · rw [g] at d1
      simp (maxSteps := 4000000) -implicitDefEqProofs only [go_sem, f1, Option.some.injEq, forall_eq', and_true, true_and, Bool.not_true, Bool.not_false, decide_true, Nat.reduceAdd, Nat.reduceSub, Nat.reduceLT, Nat.reduceLeDiff, Nat.reduceEqDiff, ↓reduceIte]
      refine DX.plain (.take 0 false (.take 1 false (.take 2 false (.take 3 false (.take 4 false (.take 5 false (.take 6 false (.take 7 false (.take 8 false (.take 9 false (.take 10 false (.take 11 false (.take 12 false (.take 13 false (.take 14 false (.take 15 false .done)))))))))))))))) (by kernel_rfl) (by kernel_rfl) Ty.mixed ?_
      simp (maxSteps := 4000000) -implicitDefEqProofs only [go_sem, n1, n2, hx, Option.some.injEq, forall_eq', and_true, true_and, Bool.not_true, Bool.not_false, decide_true, Nat.reduceAdd, Nat.reduceSub, Nat.reduceLT, Nat.reduceLeDiff, Nat.reduceEqDiff, ↓reduceIte]
      refine ⟨_, _, d1.lift0 _ (by simp only [go_sem]) (by simp only [go_sem]), rfl, ?_⟩
      simp (maxSteps := 4000000) -implicitDefEqProofs only [go_sem, b1, w1, Option.some.injEq, forall_eq', and_true, true_and, Bool.not_true, Bool.not_false, decide_true, Nat.reduceAdd, Nat.reduceSub, Nat.reduceLT, Nat.reduceLeDiff, Nat.reduceEqDiff, ↓reduceIte]
      exact .mk (i + 1) ⟨by omega, upto_succ hx (by simp [badC, g]) hj⟩ (by omega) (Wk.via [0] (by (simp only [go_sem, ↓reduceIte]) <;> trivial) (by first | (simp (maxSteps := 4000000) -implicitDefEqProofs only [go_sem, Nat.reduceAdd, Nat.reduceSub, Nat.reduceLT, Nat.reduceLeDiff, Nat.reduceEqDiff, ↓reduceIte]; done) | ((simp (maxSteps := 4000000) -implicitDefEqProofs only [go_sem, Nat.reduceAdd, Nat.reduceSub, Nat.reduceLT, Nat.reduceLeDiff, Nat.reduceEqDiff, ↓reduceIte]) <;> omega)) (by simp) (by first | (simp; done) | (simp [so]; done)) (by (simp (maxSteps := 4000000) -implicitDefEqProofs only [go_sem, Nat.reduceAdd, Nat.reduceSub, Nat.reduceLT, Nat.reduceLeDiff, Nat.reduceEqDiff, ↓reduceIte]) <;> trivial) (by first | (simp only [go_sem]; done) | ((simp (maxSteps := 4000000) -implicitDefEqProofs only [go_sem, Nat.reduceAdd, Nat.reduceSub, Nat.reduceLT, Nat.reduceLeDiff, Nat.reduceEqDiff, ↓reduceIte]) <;> omega)) (Nat.zero_le _) (fun i h => absurd h (Nat.not_lt_zero i)))
  have f1 : decide ((i : Int) < t.cl.length) = false := by simp; omega
  rw [any_f fun j y hy => hj j y hy (by have := some_lt hy; omega)] at hR
  simp only [Bool.false_eq_true, if_false] at hR
  simp (maxSteps := 4000000) -implicitDefEqProofs only [go_sem, f1, Option.some.injEq, forall_eq', and_true, true_and, Bool.not_true, Bool.not_false, decide_true, Nat.reduceAdd, Nat.reduceSub, Nat.reduceLT, Nat.reduceLeDiff, Nat.reduceEqDiff, ↓reduceIte]
  clear hj hi h2 f1
  refine eloop (S := Nat) (fun i => mkE 101 [(1, .ptr 0 0), (8, .d (.int .i64 i))]) (fun i => [tH t]) (fun i => i ≤ t.cl.length ∧ dupN t.cl i) (fun i => t.cl.length - i) 0 ⟨by omega, fun a b x h => by omega⟩ (Wk.via [0] (by (simp only [go_sem, ↓reduceIte]) <;> trivial) (by first | (simp (maxSteps := 4000000) -implicitDefEqProofs only [go_sem, Nat.reduceAdd, Nat.reduceSub, Nat.reduceLT, Nat.reduceLeDiff, Nat.reduceEqDiff, ↓reduceIte]; done) | ((simp (maxSteps := 4000000) -implicitDefEqProofs only [go_sem, Nat.reduceAdd, Nat.reduceSub, Nat.reduceLT, Nat.reduceLeDiff, Nat.reduceEqDiff, ↓reduceIte]) <;> omega)) (by simp) (by first | (simp; done) | (simp [so]; done)) (by (simp (maxSteps := 4000000) -implicitDefEqProofs only [go_sem, Nat.reduceAdd, Nat.reduceSub, Nat.reduceLT, Nat.reduceLeDiff, Nat.reduceEqDiff, ↓reduceIte]) <;> trivial) (by first | (simp only [go_sem]; done) | ((simp (maxSteps := 4000000) -implicitDefEqProofs only [go_sem, Nat.reduceAdd, Nat.reduceSub, Nat.reduceLT, Nat.reduceLeDiff, Nat.reduceEqDiff, ↓reduceIte]) <;> omega)) (Nat.zero_le _) (fun i h => absurd h (Nat.not_lt_zero i))) ?_
  rintro i ⟨hi, hj⟩
  rcases Nat.lt_or_ge i t.cl.length with h2 | h2
  case inr =>
    have hii : i = t.cl.length := by omega
    subst hii
    have f1 : decide ((t.cl.length : Int) < t.cl.length) = false := by simp
    simp (maxSteps := 4000000) -implicitDefEqProofs only [go_sem, f1, Option.some.injEq, forall_eq', and_true, true_and, Bool.not_true, Bool.not_false, decide_true, Nat.reduceAdd, Nat.reduceSub, Nat.reduceLT, Nat.reduceLeDiff, Nat.reduceEqDiff, ↓reduceIte]
    exact fin (by rw [hR, if_pos (dupN_nodup hj)])
  have f1 : decide ((i : Int) < t.cl.length) = true := by simp; omega
  obtain ⟨x, hx⟩ : ∃ x, t.cl[i]? = some x := ⟨t.cl[i]'h2, List.getElem?_eq_getElem _⟩
  have n1 : (0 ≤ (i : Int) ∧ (i : Int) < t.cl.length) = True := eq_true (by omega)
  have n2 : (i < t.cl.length) = True := eq_true (by omega)
  have w1 : IntKind.i64.wrap ((i : Int) + 1) = ((i + 1 : Nat) : Int) := by rw [i64_in _ (by omega)]; simp
  simp (maxSteps := 4000000) -implicitDefEqProofs only [go_sem, f1, Option.some.injEq, forall_eq', and_true, true_and, Bool.not_true, Bool.not_false, decide_true, Nat.reduceAdd, Nat.reduceSub, Nat.reduceLT, Nat.reduceLeDiff, Nat.reduceEqDiff, ↓reduceIte]
  refine eloop (S := Nat) (fun k => mkE 101 [(1, .ptr 0 0), (8, .d (.int .i64 i)), (9, .d (.int .i64 k))]) (fun k => [tH t]) (fun k => k ≤ i ∧ ∀ j y, t.cl[j]? = some y → j < k → y ≠ x) (fun k => i - k) 0 ⟨by omega, by omega⟩ (Wk.via [0] (by (simp only [go_sem, ↓reduceIte]) <;> trivial) (by first | (simp (maxSteps := 4000000) -implicitDefEqProofs only [go_sem, Nat.reduceAdd, Nat.reduceSub, Nat.reduceLT, Nat.reduceLeDiff, Nat.reduceEqDiff, ↓reduceIte]; done) | ((simp (maxSteps := 4000000) -implicitDefEqProofs only [go_sem, Nat.reduceAdd, Nat.reduceSub, Nat.reduceLT, Nat.reduceLeDiff, Nat.reduceEqDiff, ↓reduceIte]) <;> omega)) (by simp) (by first | (simp; done) | (simp [so]; done)) (by (simp (maxSteps := 4000000) -implicitDefEqProofs only [go_sem, Nat.reduceAdd, Nat.reduceSub, Nat.reduceLT, Nat.reduceLeDiff, Nat.reduceEqDiff, ↓reduceIte]) <;> trivial) (by first | (simp only [go_sem]; done) | ((simp (maxSteps := 4000000) -implicitDefEqProofs only [go_sem, Nat.reduceAdd, Nat.reduceSub, Nat.reduceLT, Nat.reduceLeDiff, Nat.reduceEqDiff, ↓reduceIte]) <;> omega)) (Nat.zero_le _) (fun i h => absurd h (Nat.not_lt_zero i))) ?_
  rintro k ⟨hk2, hjk⟩
  rcases Nat.lt_or_ge k i with h3 | h3
  case inr =>
    have f2 : decide ((k : Int) < i) = false := by simp; omega
    simp (maxSteps := 4000000) -implicitDefEqProofs only [go_sem, f2, w1, Option.some.injEq, forall_eq', and_true, true_and, Bool.not_true, Bool.not_false, decide_true, Nat.reduceAdd, Nat.reduceSub, Nat.reduceLT, Nat.reduceLeDiff, Nat.reduceEqDiff, ↓reduceIte]
    refine .mk (i + 1) ⟨by omega, fun a b y hb hab ha e => ?_⟩ (by omega) (Wk.via [0] (by (simp only [go_sem, ↓reduceIte]) <;> trivial) (by first | (simp (maxSteps := 4000000) -implicitDefEqProofs only [go_sem, Nat.reduceAdd, Nat.reduceSub, Nat.reduceLT, Nat.reduceLeDiff, Nat.reduceEqDiff, ↓reduceIte]; done) | ((simp (maxSteps := 4000000) -implicitDefEqProofs only [go_sem, Nat.reduceAdd, Nat.reduceSub, Nat.reduceLT, Nat.reduceLeDiff, Nat.reduceEqDiff, ↓reduceIte]) <;> omega)) (by simp) (by first | (simp; done) | (simp [so]; done)) (by (simp (maxSteps := 4000000) -implicitDefEqProofs only [go_sem, Nat.reduceAdd, Nat.reduceSub, Nat.reduceLT, Nat.reduceLeDiff, Nat.reduceEqDiff, ↓reduceIte]) <;> trivial) (by first | (simp only [go_sem]; done) | ((simp (maxSteps := 4000000) -implicitDefEqProofs only [go_sem, Nat.reduceAdd, Nat.reduceSub, Nat.reduceLT, Nat.reduceLeDiff, Nat.reduceEqDiff, ↓reduceIte]) <;> omega)) (Nat.zero_le _) (fun i h => absurd h (Nat.not_lt_zero i)))
    rcases Nat.lt_or_ge b i with q | q
    · exact hj a b y q hab ha e
    · have : b = i := by omega
      subst this
      rw [hx] at e; cases e
      exact hjk a x ha (by omega) rfl
  have f2 : decide ((k : Int) < i) = true := by simp; omega
  obtain ⟨y, hy⟩ : ∃ x, t.cl[k]? = some x := ⟨t.cl[k]'(by omega), List.getElem?_eq_getElem _⟩
  have n3 : (0 ≤ (k : Int) ∧ (k : Int) < t.cl.length) = True := eq_true (by omega)
  have n4 : (k < t.cl.length) = True := eq_true (by omega)
  have w2 : IntKind.i64.wrap ((k : Int) + 1) = ((k + 1 : Nat) : Int) := by rw [i64_in _ (by omega)]; simp
  have hxy := clEq y x
  by_cases h4 : y = x
  · rw [decide_eq_true h4] at hxy
    simp (maxSteps := 4000000) -implicitDefEqProofs only [go_sem, f2, Option.some.injEq, forall_eq', and_true, true_and, Bool.not_true, Bool.not_false, decide_true, Nat.reduceAdd, Nat.reduceSub, Nat.reduceLT, Nat.reduceLeDiff, Nat.reduceEqDiff, ↓reduceIte]
    refine DX.plain (.take 0 false (.take 1 false (.take 2 false (.take 3 false (.take 4 false (.take 5 false (.take 6 false (.take 7 false (.take 8 false (.take 9 false (.take 10 false .done))))))))))) (by kernel_rfl) (by kernel_rfl) Ty.mixed ?_
    simp (maxSteps := 4000000) -implicitDefEqProofs only [go_sem, n1, n2, hx, n3, n4, hy, hxy, Option.some.injEq, forall_eq', and_true, true_and, Bool.not_true, Bool.not_false, decide_true, Nat.reduceAdd, Nat.reduceSub, Nat.reduceLT, Nat.reduceLeDiff, Nat.reduceEqDiff, ↓reduceIte]
    exact fin (by rw [hR, if_neg (dup_not h3 (h4 ▸ hy) hx)])
  · rw [decide_eq_false h4] at hxy
    simp (maxSteps := 4000000) -implicitDefEqProofs only [go_sem, f2, Option.some.injEq, forall_eq', and_true, true_and, Bool.not_true, Bool.not_false, decide_true, Nat.reduceAdd, Nat.reduceSub, Nat.reduceLT, Nat.reduceLeDiff, Nat.reduceEqDiff, ↓reduceIte]
    refine DX.plain (.take 0 false (.take 1 false (.take 2 false (.take 3 false (.take 4 false (.take 5 false (.take 6 false (.take 7 false (.take 8 false (.take 9 false (.take 10 false .done))))))))))) (by kernel_rfl) (by kernel_rfl) Ty.mixed ?_
    simp (maxSteps := 4000000) -implicitDefEqProofs only [go_sem, n1, n2, hx, n3, n4, hy, hxy, w2, Option.some.injEq, forall_eq', and_true, true_and, Bool.not_true, Bool.not_false, decide_true, Nat.reduceAdd, Nat.reduceSub, Nat.reduceLT, Nat.reduceLeDiff, Nat.reduceEqDiff, ↓reduceIte]
    exact .mk (k + 1) ⟨by omega, upto_succ (p := fun _ z => z ≠ x) hy h4 hjk⟩ (by omega) (Wk.via [0] (by (simp only [go_sem, ↓reduceIte]) <;> trivial) (by first | (simp (maxSteps := 4000000) -implicitDefEqProofs only [go_sem, Nat.reduceAdd, Nat.reduceSub, Nat.reduceLT, Nat.reduceLeDiff, Nat.reduceEqDiff, ↓reduceIte]; done) | ((simp (maxSteps := 4000000) -implicitDefEqProofs only [go_sem, Nat.reduceAdd, Nat.reduceSub, Nat.reduceLT, Nat.reduceLeDiff, Nat.reduceEqDiff, ↓reduceIte]) <;> omega)) (by simp) (by first | (simp; done) | (simp [so]; done)) (by (simp (maxSteps := 4000000) -implicitDefEqProofs only [go_sem, Nat.reduceAdd, Nat.reduceSub, Nat.reduceLT, Nat.reduceLeDiff, Nat.reduceEqDiff, ↓reduceIte]) <;> trivial) (by first | (simp only [go_sem]; done) | ((simp (maxSteps := 4000000) -implicitDefEqProofs only [go_sem, Nat.reduceAdd, Nat.reduceSub, Nat.reduceLT, Nat.reduceLeDiff, Nat.reduceEqDiff, ↓reduceIte]) <;> omega)) (Nat.zero_le _) (fun i h => absurd h (Nat.not_lt_zero i)))
def inI (l : List Int) (n : Int) : Bool := l.any fun x => x == n
def isCl (r : Rq) (c : Cl) : Bool := decide (c.br = r.br) && decide (c.ch = r.ch)
def outR (t : Tr) (r : Rq) : Int := if inI (effR t.lg r.br).1 (classR t.lg r.ch) then 6 else if t.cl.any (isCl r) then 7 else 5
theorem eff_len (l : Lg) (nm : ByteArray) : (effR l nm).1.length ≤ 30 := by
  unfold effR
  split
  · simp
  · exact effN_len _ _ _
end Go.AX.Tr
namespace Go.AX.Tr
open Go.Proofs Go.RowKit Go.IntWalk Go.AX.Br Go.AX.Lg Go.AX.Qu Go.AX.Wn
def zT : AObj := .cells [.nil, .nil, .nil, .nil, .nil, .nil]
attribute [go_sem] zT
end Go.AX.Tr
namespace Go.AX.Tr
open Go.Proofs Go.RowKit Go.IntWalk Go.AX.Br Go.AX.Lg Go.AX.Qu Go.AX.Wn
def clA (c : Cl) : AV := .agg [.d (.str c.br), .d (.str c.ch)]
def knA (k : Kn) : AV := .agg [.d (.str k.ch), .d (.int .i64 k.cl)]
attribute [go_sem] clA knA
theorem kn_indexFunc (l : List Kn) (p : Kn → Bool) (f : FuncId) (caps : List AV) (τ : List AObj) (hl : Sm l.length) (h : ∀ x ∈ l, Spec Tryz.prog f (knA x :: caps) τ (.d (.bool (p x))) τ) :
    Spec Tryz.prog 107 [.d (.sl (l.map kD)), .fn f caps] τ (.d (.int .i64 (idx p l))) τ := by
  unfold Sm at hl
  refine spec_of_ev (fn := Tryz.f107) DX_ok 3000 Tryz.func107 rfl rfl (Nat.le_of_ble_eq_true rfl) ?_
  simp (maxSteps := 4000000) -implicitDefEqProofs only [Tryz.f107, go_sem]
  refine eloop (S := Nat) (fun i => mkE 19 [(0, .d (.sl (l.map kD))), (1, .fn f caps), (6, .d (.sl (l.map kD))), (7, .d (.int .i64 l.length)), (8, .d (.int .i64 i))]) (fun i => τ) (fun i => i ≤ l.length ∧ ∀ j x, l[j]? = some x → j < i → p x = false) (fun i => l.length - i) 0 ⟨by omega, by omega⟩ (Wk.sub (by (simp only [go_sem]) <;> trivial)) ?_
  rintro i ⟨hi, hj⟩
  simp (maxSteps := 4000000) -implicitDefEqProofs only [go_sem, Nat.reduceAdd, Nat.reduceSub, Nat.reduceLT, Nat.reduceLeDiff, Nat.reduceEqDiff, ↓reduceIte]
  refine cbs (fun h1 => ?_) (fun h1 => ?_)
  · simp only [go_sem, decide_eq_true_eq] at h1 ⊢
    refine ⟨by omega, fun x hx => .all _ _ (h x (List.mem_of_getElem? hx)) ?_⟩
    simp (maxSteps := 4000000) -implicitDefEqProofs only [go_sem, Nat.reduceAdd, Nat.reduceSub, Nat.reduceLT, Nat.reduceLeDiff, Nat.reduceEqDiff, ↓reduceIte]
    refine cbs (fun h2 => ?_) (fun h2 => ?_)
    · simp (maxSteps := 4000000) -implicitDefEqProofs only [go_sem, Nat.reduceAdd, Nat.reduceSub, Nat.reduceLT, Nat.reduceLeDiff, Nat.reduceEqDiff, ↓reduceIte]
      rw [idx_found hx h2 hj]
      exact Wk.refl _ _ _
    · simp (maxSteps := 4000000) -implicitDefEqProofs only [go_sem, Nat.reduceAdd, Nat.reduceSub, Nat.reduceLT, Nat.reduceLeDiff, Nat.reduceEqDiff, ↓reduceIte]
      rw [i64_in _ (by omega)]
      refine .mk (i + 1) ⟨by omega, fun j y hy hlt => ?_⟩ (by omega) (Wk.sub (by (simp only [go_sem]) <;> trivial))
      rcases Nat.lt_or_ge j i with q | q
      · exact hj j y hy q
      · have : j = i := by omega
        subst this; rw [hx] at hy; cases hy; exact h2
  · simp only [go_sem, decide_eq_false_iff_not] at h1 ⊢
    rw [idx_none fun j y hy => hj j y hy (by have := some_lt hy; omega)]
    exact Wk.refl _ _ _
theorem knHas_own (k : Kn) (r : Rq) : Spec Tryz.prog 108 [knA k, .ptr 0 0] [.cells [.d (.str r.br), .d (.str r.ch), .d (.int .u8 r.st), .d (.bool r.ov), .d (.int .i64 r.tr)]] (.d (.bool (hasC r.ch k))) [.cells [.d (.str r.br), .d (.str r.ch), .d (.int .u8 r.st), .d (.bool r.ov), .d (.int .i64 r.tr)]] := by
  unfold knA
  refine spec_of_ev (fn := Tryz.f108) DX_ok 3000 Tryz.func108 rfl rfl (Nat.le_of_ble_eq_true rfl) ?_
  simp (maxSteps := 4000000) -implicitDefEqProofs only [Tryz.f108, go_sem]
  exact Wk.keep (σ := [_]) (τ := [_]) (by simp only [go_sem]) (by simp only [go_sem])
theorem indexInt (v : List Int) (m : Int) (hl : Sm v.length) : Spec Tryz.prog 123 [.d (.sl (v.map iD)), .d (.int .i64 m)] [] (.d (.int .i64 (idx (fun x => x == m) v))) [] := by
  unfold Sm at hl
  refine spec_of_ev (fn := Tryz.f123) DX_ok 3000 Tryz.func123 rfl rfl (Nat.le_of_ble_eq_true rfl) ?_
  simp (maxSteps := 4000000) -implicitDefEqProofs only [Tryz.f123, go_sem]
  refine eloop (S := Nat) (fun i => mkE 19 [(0, .d (.sl (v.map iD))), (1, .d (.int .i64 m)), (7, .d (.int .i64 v.length)), (8, .d (.int .i64 i))]) (fun i => []) (fun i => i ≤ v.length ∧ ∀ j x, v[j]? = some x → j < i → (x == m) = false) (fun i => v.length - i) 0 ⟨by omega, by omega⟩ (Wk.sub (by (simp only [go_sem]) <;> trivial)) ?_
  rintro i ⟨hi, hj⟩
  rcases Nat.lt_or_ge i v.length with h2 | h2
  · have d2 : decide ((i : Int) < v.length) = true := by simp; omega
    obtain ⟨x, hx⟩ : ∃ x, v[i]? = some x := ⟨v[i]'(by omega), List.getElem?_eq_getElem _⟩
    have n1 : (0 ≤ (i : Int) ∧ (i : Int) < v.length) = True := eq_true (by omega)
    have n3 : (i < v.length) = True := eq_true (by omega)
    have hxy : (m == x) = (x == m) := by rw [Bool.eq_iff_iff, beq_iff_eq, beq_iff_eq]; exact eq_comm
    have w1 : IntKind.i64.wrap ((i : Int) + 1) = i + 1 := i64_in _ (by omega)
    cases h3 : x == m
    · rw [h3] at hxy
      simp (maxSteps := 4000000) -implicitDefEqProofs only [go_sem, d2, n1, n3, hx, hxy, w1, Option.some.injEq, forall_eq', and_true, true_and, Bool.not_true, Bool.not_false, decide_true, Nat.reduceAdd, Nat.reduceSub, Nat.reduceLT, Nat.reduceLeDiff, Nat.reduceEqDiff, ↓reduceIte]
      exact .mk (i + 1) ⟨by omega, upto_succ hx h3 hj⟩ (by omega) (Wk.sub (by (simp only [go_sem]) <;> trivial))
    · rw [h3] at hxy
      simp (maxSteps := 4000000) -implicitDefEqProofs only [go_sem, d2, n1, n3, hx, hxy, w1, Option.some.injEq, forall_eq', and_true, true_and, Bool.not_true, Bool.not_false, decide_true, Nat.reduceAdd, Nat.reduceSub, Nat.reduceLT, Nat.reduceLeDiff, Nat.reduceEqDiff, ↓reduceIte]
      exact wk_int (idx_found (p := fun x => x == m) hx h3 hj).symm
  · have d2 : decide ((i : Int) < v.length) = false := by simp; omega
    simp (maxSteps := 4000000) -implicitDefEqProofs only [go_sem, d2, Option.some.injEq, forall_eq', and_true, true_and, Bool.not_true, Bool.not_false, decide_true, Nat.reduceAdd, Nat.reduceSub, Nat.reduceLT, Nat.reduceLeDiff, Nat.reduceEqDiff, ↓reduceIte]
    exact wk_int (idx_none (p := fun x => x == m) fun j x hx => hj j x hx (by have := some_lt hx; omega)).symm
theorem containsInt (v : List Int) (m : Int) (hl : Sm v.length) : Spec Tryz.prog 109 [.d (.sl (v.map iD)), .d (.int .i64 m)] [] (.d (.bool (inI v m))) [] := by
  refine spec_of_ev (fn := Tryz.f109) DX_ok 3000 Tryz.func109 rfl rfl (Nat.le_of_ble_eq_true rfl) ?_
  simp (maxSteps := 4000000) -implicitDefEqProofs only [Tryz.f109, go_sem]
  refine ecall0 _ (indexInt v m hl) (by simp only [go_sem]) (by simp only [go_sem]) ?_
  simp (maxSteps := 4000000) -implicitDefEqProofs only [go_sem, Nat.reduceAdd, Nat.reduceSub, Nat.reduceLT, Nat.reduceLeDiff, Nat.reduceEqDiff, ↓reduceIte]
  refine wk_bool ?_
  rw [idx_any]; rfl
theorem indexCl (v : List Cl) (m : Cl) (hl : Sm v.length) : Spec Tryz.prog 124 [.d (.sl (v.map clD)), clA m] [] (.d (.int .i64 (idx (fun x => decide (m = x)) v))) [] := by
  unfold Sm at hl
  refine spec_of_ev (fn := Tryz.f124) DX_ok 3000 Tryz.func124 rfl rfl (Nat.le_of_ble_eq_true rfl) ?_
  simp (maxSteps := 4000000) -implicitDefEqProofs only [Tryz.f124, go_sem, clA]
  refine eloop (S := Nat) (fun i => mkE 19 [(0, .d (.sl (v.map clD))), (3, .ptr 0 0), (7, .d (.int .i64 v.length)), (8, .d (.int .i64 i))]) (fun i => [.cells [.d (.str m.br), .d (.str m.ch)]]) (fun i => i ≤ v.length ∧ ∀ j x, v[j]? = some x → j < i → decide (m = x) = false) (fun i => v.length - i) 0 ⟨by omega, by omega⟩ (Wk.sub (by (simp only [go_sem]) <;> trivial)) ?_
  rintro i ⟨hi, hj⟩
  rcases Nat.lt_or_ge i v.length with h2 | h2
  · have d2 : decide ((i : Int) < v.length) = true := by simp; omega
    obtain ⟨x, hx⟩ : ∃ x, v[i]? = some x := ⟨v[i]'(by omega), List.getElem?_eq_getElem _⟩
    have n1 : (0 ≤ (i : Int) ∧ (i : Int) < v.length) = True := eq_true (by omega)
    have n3 : (i < v.length) = True := eq_true (by omega)
    have hxy := clEq m x
    have w1 : IntKind.i64.wrap ((i : Int) + 1) = i + 1 := i64_in _ (by omega)
    cases h3 : decide (m = x)
    · rw [h3] at hxy
      simp (maxSteps := 4000000) -implicitDefEqProofs only [go_sem, d2, Option.some.injEq, forall_eq', and_true, true_and, Bool.not_true, Bool.not_false, decide_true, Nat.reduceAdd, Nat.reduceSub, Nat.reduceLT, Nat.reduceLeDiff, Nat.reduceEqDiff, ↓reduceIte]
      refine DX.plain (.take 0 false (.take 1 false (.take 2 false (.take 3 false (.take 4 false (.take 5 false .done)))))) (by kernel_rfl) (by kernel_rfl) Ty.mixed ?_
      simp (maxSteps := 4000000) -implicitDefEqProofs only [go_sem, n1, n3, hx, hxy, w1, Option.some.injEq, forall_eq', and_true, true_and, Bool.not_true, Bool.not_false, decide_true, Nat.reduceAdd, Nat.reduceSub, Nat.reduceLT, Nat.reduceLeDiff, Nat.reduceEqDiff, ↓reduceIte]
      exact .mk (i + 1) ⟨by omega, upto_succ hx h3 hj⟩ (by omega) (Wk.sub (by (simp only [go_sem]) <;> trivial))
    · rw [h3] at hxy
      simp (maxSteps := 4000000) -implicitDefEqProofs only [go_sem, d2, Option.some.injEq, forall_eq', and_true, true_and, Bool.not_true, Bool.not_false, decide_true, Nat.reduceAdd, Nat.reduceSub, Nat.reduceLT, Nat.reduceLeDiff, Nat.reduceEqDiff, ↓reduceIte]
      refine DX.plain (.take 0 false (.take 1 false (.take 2 false (.take 3 false (.take 4 false (.take 5 false .done)))))) (by kernel_rfl) (by kernel_rfl) Ty.mixed ?_
      simp (maxSteps := 4000000) -implicitDefEqProofs only [go_sem, n1, n3, hx, hxy, w1, Option.some.injEq, forall_eq', and_true, true_and, Bool.not_true, Bool.not_false, decide_true, Nat.reduceAdd, Nat.reduceSub, Nat.reduceLT, Nat.reduceLeDiff, Nat.reduceEqDiff, ↓reduceIte]
      exact wk_int (idx_found (p := fun x => decide (m = x)) hx h3 hj).symm
  · have d2 : decide ((i : Int) < v.length) = false := by simp; omega
    simp (maxSteps := 4000000) -implicitDefEqProofs only [go_sem, d2, Option.some.injEq, forall_eq', and_true, true_and, Bool.not_true, Bool.not_false, decide_true, Nat.reduceAdd, Nat.reduceSub, Nat.reduceLT, Nat.reduceLeDiff, Nat.reduceEqDiff, ↓reduceIte]
    exact wk_int (idx_none (p := fun x => decide (m = x)) fun j x hx => hj j x hx (by have := some_lt hx; omega)).symm
theorem containsCl (v : List Cl) (m : Cl) (hl : Sm v.length) : Spec Tryz.prog 110 [.d (.sl (v.map clD)), clA m] [] (.d (.bool (v.any fun x => decide (m = x)))) [] := by
  have c1 := indexCl v m hl
  simp only [clA] at c1
  refine spec_of_ev (fn := Tryz.f110) DX_ok 3000 Tryz.func110 rfl rfl (Nat.le_of_ble_eq_true rfl) ?_
  simp (maxSteps := 4000000) -implicitDefEqProofs only [Tryz.f110, go_sem, clA]
  refine ecall0 _ c1 (by simp only [go_sem]) (by simp only [go_sem]) ?_
  simp (maxSteps := 4000000) -implicitDefEqProofs only [go_sem, Nat.reduceAdd, Nat.reduceSub, Nat.reduceLT, Nat.reduceLeDiff, Nat.reduceEqDiff, ↓reduceIte]
  refine wk_bool ?_
  rw [idx_any]
theorem isCl_eq (t : List Cl) (r : Rq) : (t.any fun x => decide ((⟨r.br, r.ch⟩ : Cl) = x)) = t.any (isCl r) := by
  congr 1
  funext x
  cases x
  simp only [isCl]
  rw [Bool.eq_iff_iff, Bool.and_eq_true, decide_eq_true_eq, decide_eq_true_eq, decide_eq_true_eq, Cl.mk.injEq]
  exact ⟨fun h => ⟨h.1.symm, h.2.symm⟩, fun h => ⟨h.1.symm, h.2.symm⟩⟩
theorem effL_in {l : Lg} {s : List Ev} {c : Nat} (h : c < 30) : inI (effL l s) c = inR l s c := by
  unfold inI effL effN
  rw [Bool.eq_iff_iff, List.any_eq_true]
  constructor
  · rintro ⟨y, hy, e⟩
    obtain ⟨n, hn, rfl⟩ := List.mem_map.1 hy
    have := (List.mem_filter.1 hn).2
    have e2 : n = c := by have : (n : Int) = c := by simpa using e
                          omega
    rw [← e2]; exact this
  · intro q
    exact ⟨(c : Int), List.mem_map.2 ⟨c, List.mem_filter.2 ⟨by simpa using h, q⟩, rfl⟩, by simp⟩
structure Pick (l : Lg) (b ch : ByteArray) (i : Nat) (x : Br) (s : List Ev) (v : List Mk) (c j : Nat) (kn : Kn) : Prop where
  a : At l i x s v
  nm : x.name = b
  hi : idx (has b) l.br = i
  hv : lview l b = (v, 0)
  hc : classN l ch = some (c : Int)
  hc30 : c < 30
  hcr : classR l ch = c
  hj : idx (hasC ch) l.kn = j
  hk : l.kn[j]? = some kn
  hkc : kn.cl = c
  heff : (effR l b).1 = effL l (preE l i ++ s)
  hin : inI (effR l b).1 c = inR l (preE l i ++ s) c
  happ : appR l b ⟨2, ch⟩ = if s.length = 40 then (lg0, 4) else if inR l (preE l i ++ s) c = true then (lg0, 30) else (addE l i ⟨2, ch⟩, 0)
theorem pick_of {l : Lg} (lo : LOk l) {b ch : ByteArray} (h : known l b ch = true) : ∃ i x s v c j kn, Pick l b ch i x s v c j kn := by
  simp only [known, Bool.and_eq_true, decide_eq_true_eq] at h
  obtain ⟨i, x, h1, h2, h3⟩ := idx_get h.1
  obtain ⟨x', s, v, a⟩ := at_of lo.tab (some_lt h2)
  have : x' = x := by have := a.hx; rw [h2] at this; exact (Option.some.inj this).symm
  subst this
  have nm : x'.name = b := by simpa [has] using h3
  have hv : lview l b = (v, 0) := by
    unfold lview
    rw [if_neg (by simp [lo.chk]), ← nm]; exact vname lo.tab a
  cases q : l.kn.find? (hasC ch) with
  | none => have := h.2; simp [classR, classN, q] at this
  | some k =>
  have hcN : classN l ch = some k.cl := by simp [classN, q]
  have hr := classN_range lo.kv hcN
  obtain ⟨c, hcc⟩ : ∃ n : Nat, k.cl = n := ⟨k.cl.toNat, by omega⟩
  rw [hcc] at hcN hr
  obtain ⟨hp, j, hj, e, hno⟩ := List.find?_eq_some_iff_getElem.1 q
  have hx : l.kn[j]? = some k := by rw [List.getElem?_eq_getElem hj, e]
  have hidx : idx (hasC ch) l.kn = j := idx_found hx hp fun m y hy hlt => by
    have := hno m hlt
    have e2 : l.kn[m] = y := by
      rw [List.getElem?_eq_getElem (by omega)] at hy; exact Option.some.inj hy
    rw [e2] at this
    simpa using this
  have hcR : classR l ch = c := by simp [classR, hcN]
  have he : (effR l b).1 = effL l (preE l i ++ s) := by
    unfold effR
    rw [hv, if_neg (by simp), a.seen]
  have hgs : l.ev.getD i [] = s := by rw [List.getD_eq_getElem?_getD, a.hs]; rfl
  refine ⟨i, x', s, v, c, j, k, a, nm, h1, hv, hcN, by omega, hcR, hidx, hx, hcc, he, by rw [he]; exact effL_in (by omega), ?_⟩
  unfold appR
  rw [hv, if_neg (by simp), if_neg (by rw [show (⟨2, ch⟩ : Ev).ch = ch from rfl, hcN]; simp), h1, Int.toNat_natCast, hgs]
  by_cases h40 : s.length = 40
  · rw [if_pos h40, if_pos h40]
  rw [if_neg h40, if_neg h40, show seenL l (v, (0 : Int)).1 = preE l i ++ s from a.seen]
  have ha : allR l (preE l i ++ s) ⟨2, ch⟩ = if inR l (preE l i ++ s) c = true then 30 else 0 := by
    simp only [allR, hcR]
    cases inR l (preE l i ++ s) c <;> simp
  rw [ha]
  by_cases q : inR l (preE l i ++ s) c = true
  · simp only [q, if_true]; rfl
  · simp only [q]; rfl
theorem outR_pick {t : Tr} {r : Rq} {i : Nat} {x : Br} {s : List Ev} {v : List Mk} {c j : Nat} {kn : Kn} (p : Pick t.lg r.br r.ch i x s v c j kn) :
    outR t r = if inR t.lg (preE t.lg i ++ s) c = true then 6 else if t.cl.any (isCl r) then 7 else 5 := by
  unfold outR
  rw [p.hcr, p.hin]
theorem outcome_own (t : Tr) (r : Rq) (lo : LOk t.lg) (hkn : known t.lg r.br r.ch = true) (hk : t.lg.kn.length ≤ 1000) (hb : t.lg.br.length ≤ 1000) (he : t.lg.ev.length ≤ 1000) (hc : t.cl.length ≤ 1000) :
    Spec Tryz.prog 80 [tA t, rA r] [] (.d (.int .u8 (outR t r))) [] := by
  obtain ⟨i, x, s, v, c, j, k, p⟩ := pick_of lo hkn
  have c1 := append_lown t.lg r.br ⟨2, r.ch⟩ hk hb he
  have c2 := Effect_own t.lg r.br hk hb he
  have c3 := kn_indexFunc t.lg.kn (hasC r.ch) 108 [.ptr 0 0] [.cells [.d (.str r.br), .d (.str r.ch), .d (.int .u8 r.st), .d (.bool r.ov), .d (.int .i64 r.tr)]] (by unfold Sm; omega) fun y _ => knHas_own y r
  have c4 := containsInt (effR t.lg r.br).1 c (by unfold Sm; have := eff_len t.lg r.br; omega)
  have c5 := containsCl t.cl ⟨r.br, r.ch⟩ (by unfold Sm; omega)
  rw [isCl_eq] at c5
  rw [p.hin] at c4
  have hR := outR_pick p
  obtain ⟨R, hRe⟩ : ∃ R, R = outR t r := ⟨_, rfl⟩
  rw [← hRe] at hR ⊢
  have happ := p.happ
  obtain ⟨I, hI⟩ : ∃ I, I = inR t.lg (preE t.lg i ++ s) c := ⟨_, rfl⟩
  rw [← hI] at hR c4 happ
  obtain ⟨C, hC⟩ : ∃ I, I = t.cl.any (isCl r) := ⟨_, rfl⟩
  rw [← hC] at hR c5
  obtain ⟨A, hA⟩ : ∃ A, A = appR t.lg r.br ⟨2, r.ch⟩ := ⟨_, rfl⟩
  rw [← hA] at c1 happ
  obtain ⟨X, hX⟩ : ∃ X, X = effR t.lg r.br := ⟨_, rfl⟩
  rw [← hX] at c2 c4
  rw [p.hj] at c3
  have hx := p.hk
  have n1 : (0 ≤ (j : Int) ∧ (j : Int) < t.lg.kn.length) = True := eq_true (by have := some_lt hx; omega)
  have n2 : (j < t.lg.kn.length) = True := eq_true (by have := some_lt hx; omega)
  have hcl := p.hkc
  simp only [lA, clA] at c1 c2 c5
  have fin : ∀ {x y : Int} {σ : List AObj}, x = y → Wk 0 [.d (.int .u8 x)] σ [.d (.int .u8 y)] [] := fun e => by subst e; exact Wk.forget (by simp only [go_sem]) (by simp only [go_sem])
  refine spec_of_ev (fn := Tryz.f80) DX_ok 3000 Tryz.func80 rfl rfl (Nat.le_of_ble_eq_true rfl) ?_
  simp (maxSteps := 4000000) -implicitDefEqProofs only [Tryz.f80, go_sem, tA, rA]
  refine ecall0 _ c1 (by simp only [go_sem]) (by simp only [go_sem]) ?_
  by_cases h40 : s.length = 40
  · rw [if_pos h40] at happ
    have e1 : A.2 = 4 := by rw [happ]
    have z1 : ((4 : Int) == 4) = true := rfl
    have z2 : ((30 : Int) == 30) = true := rfl
    have z3 : ((4 : Int) == 30) = false := rfl
    simp (maxSteps := 4000000) -implicitDefEqProofs only [go_sem, e1, z1, Option.some.injEq, forall_eq', and_true, true_and, Bool.not_true, Bool.not_false, decide_true, Nat.reduceAdd, Nat.reduceSub, Nat.reduceLT, Nat.reduceLeDiff, Nat.reduceEqDiff, ↓reduceIte]
    refine ecall0 _ c2 (by simp only [go_sem]) (by simp only [go_sem]) ?_
    simp (maxSteps := 4000000) -implicitDefEqProofs only [go_sem, Nat.reduceAdd, Nat.reduceSub, Nat.reduceLT, Nat.reduceLeDiff, Nat.reduceEqDiff, ↓reduceIte]
    refine .mk [1] [.d (.sl (t.lg.kn.map kD)), .fn 108 [.ptr 0 0]] [.cells [.d (.str r.br), .d (.str r.ch), .d (.int .u8 r.st), .d (.bool r.ov), .d (.int .i64 r.tr)]] _ _ (by simp only [go_sem]) (by simp only [go_sem]; omega) (by simp) (by simp) (by simp only [go_sem]) (by simp only [go_sem]) c3 ?_
    simp (maxSteps := 4000000) -implicitDefEqProofs only [go_sem, n1, n2, hx, hcl, Option.some.injEq, forall_eq', and_true, true_and, Bool.not_true, Bool.not_false, decide_true, Nat.reduceAdd, Nat.reduceSub, Nat.reduceLT, Nat.reduceLeDiff, Nat.reduceEqDiff, ↓reduceIte]
    refine ecall0 _ c4 (by simp only [go_sem]) (by simp only [go_sem]) ?_
    cases I with
    | true =>
      simp (maxSteps := 4000000) -implicitDefEqProofs only [go_sem, z2, Option.some.injEq, forall_eq', and_true, true_and, Bool.not_true, Bool.not_false, decide_true, Nat.reduceAdd, Nat.reduceSub, Nat.reduceLT, Nat.reduceLeDiff, Nat.reduceEqDiff, ↓reduceIte]
      exact fin (by rw [hR, if_pos rfl])
    | false =>
      simp (maxSteps := 4000000) -implicitDefEqProofs only [go_sem, z3, Option.some.injEq, forall_eq', and_true, true_and, Bool.not_true, Bool.not_false, decide_true, Nat.reduceAdd, Nat.reduceSub, Nat.reduceLT, Nat.reduceLeDiff, Nat.reduceEqDiff, ↓reduceIte]
      refine ecall0 _ c5 (by simp only [go_sem]) (by simp only [go_sem]) ?_
      cases C with
      | true =>
        simp (maxSteps := 4000000) -implicitDefEqProofs only [go_sem, Nat.reduceAdd, Nat.reduceSub, Nat.reduceLT, Nat.reduceLeDiff, Nat.reduceEqDiff, ↓reduceIte]
        exact fin (by rw [hR]; rfl)
      | false =>
        simp (maxSteps := 4000000) -implicitDefEqProofs only [go_sem, Nat.reduceAdd, Nat.reduceSub, Nat.reduceLT, Nat.reduceLeDiff, Nat.reduceEqDiff, ↓reduceIte]
        exact fin (by rw [hR]; rfl)
  · rw [if_neg h40] at happ
    cases I with
    | true =>
      have e1 : A.2 = 30 := by rw [happ]; rfl
      have z1 : ((30 : Int) == 4) = false := rfl
      have z2 : ((30 : Int) == 30) = true := rfl
      simp (maxSteps := 4000000) -implicitDefEqProofs only [go_sem, e1, z1, z2, Option.some.injEq, forall_eq', and_true, true_and, Bool.not_true, Bool.not_false, decide_true, Nat.reduceAdd, Nat.reduceSub, Nat.reduceLT, Nat.reduceLeDiff, Nat.reduceEqDiff, ↓reduceIte]
      exact fin (by rw [hR, if_pos rfl])
    | false =>
      have e1 : A.2 = 0 := by rw [happ]; rfl
      have z1 : ((0 : Int) == 4) = false := rfl
      have z2 : ((0 : Int) == 30) = false := rfl
      simp (maxSteps := 4000000) -implicitDefEqProofs only [go_sem, e1, z1, z2, Option.some.injEq, forall_eq', and_true, true_and, Bool.not_true, Bool.not_false, decide_true, Nat.reduceAdd, Nat.reduceSub, Nat.reduceLT, Nat.reduceLeDiff, Nat.reduceEqDiff, ↓reduceIte]
      refine ecall0 _ c5 (by simp only [go_sem]) (by simp only [go_sem]) ?_
      cases C with
      | true =>
        simp (maxSteps := 4000000) -implicitDefEqProofs only [go_sem, Nat.reduceAdd, Nat.reduceSub, Nat.reduceLT, Nat.reduceLeDiff, Nat.reduceEqDiff, ↓reduceIte]
        exact fin (by rw [hR]; rfl)
      | false =>
        simp (maxSteps := 4000000) -implicitDefEqProofs only [go_sem, Nat.reduceAdd, Nat.reduceSub, Nat.reduceLT, Nat.reduceLeDiff, Nat.reduceEqDiff, ↓reduceIte]
        exact fin (by rw [hR]; rfl)
end Go.AX.Tr
namespace Go.AX.Tr
open Go.Proofs Go.RowKit Go.IntWalk Go.AX.Br Go.AX.Lg Go.AX.Qu Go.AX.Wn
structure TFit (t : Tr) : Prop where
  k : t.lg.kn.length ≤ 1000
  b : t.lg.br.length ≤ 1000
  e : t.lg.ev.length ≤ 1000
  s : ∀ s ∈ t.lg.ev, s.length ≤ 1000
  q : t.q.length ≤ 1000
  h : t.hs.length ≤ 1000
  c : t.cl.length ≤ 1000
structure TOk (t : Tr) : Prop where
  chk : tcheck t = 0
  lo : LOk t.lg
  q0 : qcheck t.q = 0
  w0 : wcheck t.hs = 0
  ql : t.q.length ≤ 30
  hl : t.hs.length ≤ 16
  cl : t.cl.length ≤ 30
  qk : ∀ r ∈ t.q, known t.lg r.br r.ch = true
  ck : ∀ c ∈ t.cl, known t.lg c.br c.ch = true
  nd : t.cl.Nodup
theorem tok_of {t : Tr} (h : tcheck t = 0) : TOk t := by
  have h0 := h
  unfold tcheck at h
  split at h
  · next q => exact absurd h q
  next k1 =>
  split at h
  · next q => exact absurd h q
  next k2 =>
  split at h
  · next q => exact absurd h q
  next k3 =>
  split at h
  · cases h
  next k4 =>
  split at h
  · cases h
  next k5 =>
  split at h
  · cases h
  next k6 =>
  split at h
  next k7 =>
    have k2' : qcheck t.q = 0 := by omega
    have k3' : wcheck t.hs = 0 := by omega
    refine ⟨h0, lok_of (by omega), k2', k3', qcheck_len k2', (okw ByteArray.empty k3').len, by omega, fun r hr => ?_, fun r hr => ?_, k7⟩
    · have := List.any_eq_false.1 (by simpa only [Bool.not_eq_true] using k5) r hr
      simpa [badQ] using this
    · have := List.any_eq_false.1 (by simpa only [Bool.not_eq_true] using k6) r hr
      simpa [badC] using this
  · cases h
def beginR (t : Tr) (b : ByteArray) (tk : Int) : Int × Int :=
  if tcheck t ≠ 0 then (0, tcheck t) else if idx (has b) t.lg.br < 0 ∨ idx (isHead b) t.q < 0 then (0, 6) else if tk < 0 ∨ 1000000 < tk then (0, 2) else (idx (isHead b) t.q, 0)
theorem begin_ok {t : Tr} {b : ByteArray} {tk : Int} (h : (beginR t b tk).2 = 0) : TOk t ∧ ∃ (i : Nat) (r : Rq), beginR t b tk = ((i : Int), 0) ∧ idx (isHead b) t.q = i ∧ t.q[i]? = some r ∧ r.br = b ∧ r.st = 2 ∧ known t.lg r.br r.ch = true ∧ 0 ≤ tk ∧ tk ≤ 1000000 := by
  unfold beginR at h ⊢
  split at h
  · next q => exact absurd h q
  next k1 =>
  split at h
  · cases h
  next k2 =>
  split at h
  · cases h
  next k3 =>
  have o := tok_of (t := t) (by omega)
  obtain ⟨i, r, h1, h2, h3⟩ := idx_get (p := isHead b) (l := t.q) (by omega)
  simp only [isHead, Bool.and_eq_true, decide_eq_true_eq, beq_iff_eq] at h3
  exact ⟨o, i, r, by rw [if_neg k1, if_neg k2, if_neg k3, h1], h1, h2, h3.1, h3.2, o.qk r (List.mem_of_getElem? h2), by omega, by omega⟩
theorem br_containsFunc (l : List Br) (p : Br → Bool) (f : FuncId) (caps : List AV) (τ : List AObj) (hl : Sm l.length) (h : ∀ x ∈ l, Spec Tryz.prog f (bA x :: caps) τ (.d (.bool (p x))) τ) :
    Spec Tryz.prog 71 [.d (.sl (l.map bD)), .fn f caps] τ (.d (.bool (l.any p))) τ := by
  refine spec_of_ev (fn := Tryz.f71) DX_ok 3000 Tryz.func71 rfl rfl (Nat.le_of_ble_eq_true rfl) ?_
  simp (maxSteps := 4000000) -implicitDefEqProofs only [Tryz.f71, go_sem]
  refine .all _ _ (br_indexFunc l p f caps τ hl h) ?_
  simp (maxSteps := 4000000) -implicitDefEqProofs only [go_sem, Nat.reduceAdd, Nat.reduceSub, Nat.reduceLT, Nat.reduceLeDiff, Nat.reduceEqDiff, ↓reduceIte]
  rw [idx_any]
  exact Wk.refl _ _ _
theorem isHas_own (b : Br) (nm : ByteArray) : Spec Tryz.prog 72 [bA b, .ptr 0 0] [.cells [.d (.str nm)]] (.d (.bool (has nm b))) [.cells [.d (.str nm)]] := by
  unfold bA
  refine spec_of_ev (fn := Tryz.f72) DX_ok 3000 Tryz.func72 rfl rfl (Nat.le_of_ble_eq_true rfl) ?_
  simp (maxSteps := 4000000) -implicitDefEqProofs only [Tryz.f72, go_sem]
  exact Wk.keep (σ := [_]) (τ := [_]) (by simp only [go_sem]) (by simp only [go_sem])
theorem isBranch_own (t : Tr) (b : ByteArray) (f : TFit t) : Spec Tryz.prog 34 [tA t, .d (.str b)] [] (.d (.bool (decide (0 ≤ idx (has b) t.lg.br)))) [] := by
  have fb := f.b
  have c1 := br_containsFunc t.lg.br (has b) 72 [.ptr 0 0] [.cells [.d (.str b)]] (by unfold Sm; omega) fun x _ => isHas_own x b
  rw [← idx_any] at c1
  refine spec_of_ev (fn := Tryz.f34) DX_ok 3000 Tryz.func34 rfl rfl (Nat.le_of_ble_eq_true rfl) ?_
  simp (maxSteps := 4000000) -implicitDefEqProofs only [Tryz.f34, go_sem, tA]
  refine .mk [1] [.d (.sl (t.lg.br.map bD)), .fn 72 [.ptr 0 0]] [.cells [.d (.str b)]] _ _ (by simp only [go_sem]) (by simp only [go_sem]; omega) (by simp) (by simp) (by simp only [go_sem]) (by simp only [go_sem]) c1 ?_
  simp (maxSteps := 4000000) -implicitDefEqProofs only [go_sem, Nat.reduceAdd, Nat.reduceSub, Nat.reduceLT, Nat.reduceLeDiff, Nat.reduceEqDiff, ↓reduceIte]
  exact Wk.forget (by simp only [go_sem]) (by simp only [go_sem])
theorem fin2 {a b c d : Int} {k : IntKind} {σ : List AObj} (h : (a, b) = (c, d)) : Wk 0 [.tup [.d (.int k a), .d (.int .i64 b)]] σ [.tup [.d (.int k c), .d (.int .i64 d)]] [] := by
  cases h; exact Wk.forget (by simp only [go_sem]) (by simp only [go_sem])
theorem begin_own (t : Tr) (b : ByteArray) (tk : Int) (f : TFit t) : Spec Tryz.prog 28 [tA t, .d (.str b), .d (.int .i64 tk)] [] (.tup [.d (.int .i64 (beginR t b tk).1), .d (.int .i64 (beginR t b tk).2)]) [] := by
  have fq := f.q
  have c1 := tcheck_own t f.k f.b f.e f.q f.h f.c
  have c2 := headR_own t.q b (by unfold Sm; omega)
  have c3 := isBranch_own t b f
  obtain ⟨R, hR⟩ : ∃ R, R = beginR t b tk := ⟨_, rfl⟩
  rw [← hR]
  unfold beginR at hR
  simp only [tA, tC] at c1 c3
  refine spec_of_ev (fn := Tryz.f28) DX_ok 3000 Tryz.func28 rfl rfl (Nat.le_of_ble_eq_true rfl) ?_
  simp (maxSteps := 4000000) -implicitDefEqProofs only [Tryz.f28, go_sem, tA]
  refine ecall0 _ c1 (by simp only [go_sem]) (by simp only [go_sem]) ?_
  cases k1 : (tcheck t != 0)
  case true =>
    rw [if_pos (by simpa using k1)] at hR
    simp (maxSteps := 4000000) -implicitDefEqProofs only [go_sem, k1, Option.some.injEq, forall_eq', and_true, true_and, Bool.not_true, Bool.not_false, decide_true, Nat.reduceAdd, Nat.reduceSub, Nat.reduceLT, Nat.reduceLeDiff, Nat.reduceEqDiff, ↓reduceIte]
    exact fin2 hR.symm
  have o := tok_of (t := t) (by simpa using k1)
  rw [if_neg (by simpa using k1)] at hR
  simp (maxSteps := 4000000) -implicitDefEqProofs only [go_sem, k1, Option.some.injEq, forall_eq', and_true, true_and, Bool.not_true, Bool.not_false, decide_true, Nat.reduceAdd, Nat.reduceSub, Nat.reduceLT, Nat.reduceLeDiff, Nat.reduceEqDiff, ↓reduceIte]
  refine ecall0 _ c2 (by simp only [go_sem]) (by simp only [go_sem]) ?_
  have e2 : headR t.q b = if idx (isHead b) t.q < 0 then (0, 6) else (idx (isHead b) t.q, 0) := by unfold headR; rw [if_neg (by simp [o.q0])]
  simp (maxSteps := 4000000) -implicitDefEqProofs only [go_sem, Nat.reduceAdd, Nat.reduceSub, Nat.reduceLT, Nat.reduceLeDiff, Nat.reduceEqDiff, ↓reduceIte]
  refine ecall0 _ c3 (by simp only [go_sem]) (by simp only [go_sem]) ?_
  have b1 : (!true) = false := rfl
  have b2 : (!false) = true := rfl
  cases k2 : decide (0 ≤ idx (has b) t.lg.br)
  case false =>
    rw [if_pos (.inl (by have := of_decide_eq_false k2; omega))] at hR
    simp (maxSteps := 4000000) -implicitDefEqProofs only [go_sem, b2, Option.some.injEq, forall_eq', and_true, true_and, Bool.not_true, Bool.not_false, decide_true, Nat.reduceAdd, Nat.reduceSub, Nat.reduceLT, Nat.reduceLeDiff, Nat.reduceEqDiff, ↓reduceIte]
    exact fin2 hR.symm
  have k2' := of_decide_eq_true k2
  by_cases k3 : idx (isHead b) t.q < 0
  · rw [if_pos (.inr k3)] at hR
    rw [if_pos k3] at e2
    have d3 : ((6 : Int) != 0) = true := rfl
    simp (maxSteps := 4000000) -implicitDefEqProofs only [go_sem, b1, e2, d3, Option.some.injEq, forall_eq', and_true, true_and, Bool.not_true, Bool.not_false, decide_true, Nat.reduceAdd, Nat.reduceSub, Nat.reduceLT, Nat.reduceLeDiff, Nat.reduceEqDiff, ↓reduceIte]
    exact fin2 hR.symm
  rw [if_neg (by omega)] at hR
  rw [if_neg k3] at e2
  have d3 : ((0 : Int) != 0) = false := rfl
  cases k4 : decide (tk < 0)
  case true =>
    rw [if_pos (.inl (of_decide_eq_true k4))] at hR
    simp (maxSteps := 4000000) -implicitDefEqProofs only [go_sem, b1, e2, d3, k4, Option.some.injEq, forall_eq', and_true, true_and, Bool.not_true, Bool.not_false, decide_true, Nat.reduceAdd, Nat.reduceSub, Nat.reduceLT, Nat.reduceLeDiff, Nat.reduceEqDiff, ↓reduceIte]
    exact fin2 hR.symm
  cases k5 : decide (1000000 < tk)
  case true =>
    rw [if_pos (.inr (of_decide_eq_true k5))] at hR
    simp (maxSteps := 4000000) -implicitDefEqProofs only [go_sem, b1, e2, d3, k4, k5, Option.some.injEq, forall_eq', and_true, true_and, Bool.not_true, Bool.not_false, decide_true, Nat.reduceAdd, Nat.reduceSub, Nat.reduceLT, Nat.reduceLeDiff, Nat.reduceEqDiff, ↓reduceIte]
    exact fin2 hR.symm
  rw [if_neg (by have := of_decide_eq_false k4; have := of_decide_eq_false k5; omega)] at hR
  simp (maxSteps := 4000000) -implicitDefEqProofs only [go_sem, b1, e2, d3, k4, k5, Option.some.injEq, forall_eq', and_true, true_and, Bool.not_true, Bool.not_false, decide_true, Nat.reduceAdd, Nat.reduceSub, Nat.reduceLT, Nat.reduceLeDiff, Nat.reduceEqDiff, ↓reduceIte]
  exact fin2 hR.symm
def heldH (t : Tr) (r : Rq) (tk : Int) : Bool := held t.hs r.br tk && !r.ov
def outcR (t : Tr) (i : Int) : Int × Int :=
  if tcheck t ≠ 0 then (0, tcheck t) else if i < 0 ∨ (t.q.length : Int) ≤ i then (0, 2) else (((t.q[i.toNat]?).map (outR t)).getD 0, 0)
theorem next_held {l : List Hd} {b : ByteArray} (h0 : wcheck l = 0) {tk : Int} (h1 : 0 ≤ tk) (h2 : tk ≤ 1000000) :
    ∃ N, fitRR l b tk 1 = (N, 0) ∧ ((held l b tk = false ∧ N = tk) ∨ (held l b tk = true ∧ tk < N ∧ N ≤ 1000000 ∧ held l b N = false)) := by
  have O := okw b h0
  have ha : asked l [tk] = 0 := by
    unfold asked
    rw [if_neg (by omega)]
    have : [tk].any badT = false := by
      simp only [List.any_cons, List.any_nil, badT, Bool.or_false, Bool.or_eq_false_iff, decide_eq_false_iff_not]; omega
    rw [this]; rfl
  refine ⟨nextW (winL l b) tk, by rw [fitRR, if_neg (by omega), if_neg (by omega), fit_one O ⟨h1, h2⟩], ?_⟩
  obtain ⟨N, hN⟩ : ∃ N, N = nextW (winL l b) tk := ⟨_, rfl⟩
  rw [← hN]
  unfold nextW at hN
  cases h : Wn.look (winL l b) tk with
  | none =>
    rw [h] at hN
    exact .inl ⟨(O.nheld tk).2 (none_cov h), hN⟩
  | some w =>
    rw [h] at hN
    obtain ⟨_, _, _, _, q, _, _, _, hm⟩ := look_some O.can h
    simp only at hN
    by_cases hw : w.fr ≤ tk
    · rw [if_pos hw] at hN
      have wb := O.bounds hm
      refine .inr ⟨(O.heldC tk).2 ((look_cov O.can h).2 hw), by omega, by omega, ?_⟩
      rw [hN]; exact (O.nheld _).2 (O.can.end_open hm)
    · rw [if_neg hw] at hN
      exact .inl ⟨(O.nheld tk).2 fun hc => hw ((look_cov O.can h).1 hc), hN⟩
def waitR (t : Tr) (b : ByteArray) (tk : Int) : Int × Int :=
  if (beginR t b tk).2 ≠ 0 then (0, (beginR t b tk).2) else match t.q[(idx (isHead b) t.q).toNat]? with
  | none => (0, 0)
  | some r => if heldH t r tk then fitRR t.hs b tk 1 else (tk, 0)
theorem Wait_own (t : Tr) (b : ByteArray) (tk : Int) (f : TFit t) : Spec Tryz.prog 9 [tA t, .d (.str b), .d (.int .i64 tk)] [] (.tup [.d (.int .i64 (waitR t b tk).1), .d (.int .i64 (waitR t b tk).2)]) [] := by
  have fh := f.h
  have c1 := begin_own t b tk f
  obtain ⟨R, hR⟩ : ∃ R, R = waitR t b tk := ⟨_, rfl⟩
  rw [← hR]
  unfold waitR at hR
  have bo := begin_ok (t := t) (b := b) (tk := tk)
  obtain ⟨B, hB⟩ : ∃ R, R = beginR t b tk := ⟨_, rfl⟩
  rw [← hB] at c1 hR bo
  simp only [tA, tC] at c1
  refine spec_of_ev (fn := Tryz.f9) DX_ok 3000 Tryz.func9 rfl rfl (Nat.le_of_ble_eq_true rfl) ?_
  simp (maxSteps := 4000000) -implicitDefEqProofs only [Tryz.f9, go_sem, tA]
  refine ecall0 _ c1 (by simp only [go_sem]) (by simp only [go_sem]) ?_
  cases k1 : (B.2 != 0)
  case true =>
    rw [if_pos (by simpa using k1)] at hR
    simp (maxSteps := 4000000) -implicitDefEqProofs only [go_sem, k1, Option.some.injEq, forall_eq', and_true, true_and, Bool.not_true, Bool.not_false, decide_true, Nat.reduceAdd, Nat.reduceSub, Nat.reduceLT, Nat.reduceLeDiff, Nat.reduceEqDiff, ↓reduceIte]
    exact fin2 hR.symm
  obtain ⟨o, i, r, e1, e2, hx, e3, e4, -, t1, t2⟩ := bo (by simpa using k1)
  rw [if_neg (by simpa using k1), e2, Int.toNat_natCast, hx] at hR
  simp only [heldH, e3] at hR
  rw [e1] at k1 ⊢
  have n1 : (0 ≤ (i : Int) ∧ (i : Int) < t.q.length) = True := eq_true (by have := some_lt hx; omega)
  have n2 : (i < t.q.length) = True := eq_true (by have := some_lt hx; omega)
  cases k2 : r.ov
  case true =>
    rw [k2] at hR
    simp (maxSteps := 4000000) -implicitDefEqProofs only [go_sem, k1, n1, n2, hx, k2, Option.some.injEq, forall_eq', and_true, true_and, Bool.not_true, Bool.not_false, decide_true, Nat.reduceAdd, Nat.reduceSub, Nat.reduceLT, Nat.reduceLeDiff, Nat.reduceEqDiff, ↓reduceIte]
    exact fin2 (by rw [hR]; simp)
  rw [k2] at hR
  have c2 := next_own t.hs b tk (by unfold Sm; omega)
  obtain ⟨N, hN, hh⟩ := next_held (b := b) o.w0 t1 t2
  rw [hN] at c2 hR
  simp (maxSteps := 4000000) -implicitDefEqProofs only [go_sem, k1, n1, n2, hx, k2, Option.some.injEq, forall_eq', and_true, true_and, Bool.not_true, Bool.not_false, decide_true, Nat.reduceAdd, Nat.reduceSub, Nat.reduceLT, Nat.reduceLeDiff, Nat.reduceEqDiff, ↓reduceIte]
  refine ecall0 _ c2 (by simp only [go_sem]) (by simp only [go_sem]) ?_
  simp (maxSteps := 4000000) -implicitDefEqProofs only [go_sem, Nat.reduceAdd, Nat.reduceSub, Nat.reduceLT, Nat.reduceLeDiff, Nat.reduceEqDiff, ↓reduceIte]
  refine fin2 ?_
  rcases hh with ⟨q1, q2⟩ | ⟨q1, -⟩
  · rw [hR, q1, q2]; rfl
  · rw [hR, q1]; rfl
end Go.AX.Tr
namespace Go.AX.Tr
open Go.Proofs Go.RowKit Go.IntWalk Go.AX.Br Go.AX.Lg Go.AX.Qu Go.AX.Wn
theorem clone_evs (l : List (List Ev)) (hl : l.length ≤ 1000) : Spec Tryz.prog 75 [.d (.sl (l.map esD))] [] (.own 0) [.row 1 (l.map esD)] := by
  refine spec_of_ev (fn := Tryz.f75) DX_ok 3000 Tryz.func75 rfl rfl (Nat.le_of_ble_eq_true rfl) ?_
  simp (maxSteps := 4000000) -implicitDefEqProofs only [Tryz.f75, go_sem]
  intro b hb
  cases b with
  | true =>
    simp (maxSteps := 4000000) -implicitDefEqProofs only [go_sem, Nat.reduceAdd, Nat.reduceSub, Nat.reduceLT, Nat.reduceLeDiff, Nat.reduceEqDiff, ↓reduceIte]
    rw [hb rfl]
    refine Wk.trans (Wk.nil 0 1 rfl) ?_
    exact (Wk.sub (by (simp only [go_sem]) <;> trivial))
  | false =>
    simp (maxSteps := 4000000) -implicitDefEqProofs only [go_sem, Nat.reduceAdd, Nat.reduceSub, Nat.reduceLT, Nat.reduceLeDiff, Nat.reduceEqDiff, ↓reduceIte]
    exact ⟨by omega, (Wk.via [1] (by (simp only [go_sem, ↓reduceIte]) <;> trivial) (by first | (simp (maxSteps := 4000000) -implicitDefEqProofs only [go_sem, Nat.reduceAdd, Nat.reduceSub, Nat.reduceLT, Nat.reduceLeDiff, Nat.reduceEqDiff, ↓reduceIte]; done) | ((simp (maxSteps := 4000000) -implicitDefEqProofs only [go_sem, Nat.reduceAdd, Nat.reduceSub, Nat.reduceLT, Nat.reduceLeDiff, Nat.reduceEqDiff, ↓reduceIte]) <;> omega)) (by simp) (by first | (simp; done) | (simp [so]; done)) (by (simp (maxSteps := 4000000) -implicitDefEqProofs only [go_sem, Nat.reduceAdd, Nat.reduceSub, Nat.reduceLT, Nat.reduceLeDiff, Nat.reduceEqDiff, ↓reduceIte]) <;> trivial) (by first | (simp only [go_sem]; done) | ((simp (maxSteps := 4000000) -implicitDefEqProofs only [go_sem, Nat.reduceAdd, Nat.reduceSub, Nat.reduceLT, Nat.reduceLeDiff, Nat.reduceEqDiff, ↓reduceIte]) <;> omega)) (Nat.zero_le _) (fun i h => absurd h (Nat.not_lt_zero i)))⟩
theorem clone_hs (l : List Hd) (hl : l.length ≤ 1000) : Spec Tryz.prog 78 [.d (.sl (l.map hD))] [] (.own 0) [.row 4 (l.map hD)] := by
  refine spec_of_ev (fn := Tryz.f78) DX_ok 3000 Tryz.func78 rfl rfl (Nat.le_of_ble_eq_true rfl) ?_
  simp (maxSteps := 4000000) -implicitDefEqProofs only [Tryz.f78, go_sem]
  intro b hb
  cases b with
  | true =>
    simp (maxSteps := 4000000) -implicitDefEqProofs only [go_sem, Nat.reduceAdd, Nat.reduceSub, Nat.reduceLT, Nat.reduceLeDiff, Nat.reduceEqDiff, ↓reduceIte]
    rw [hb rfl]
    refine Wk.trans (Wk.nil 0 4 rfl) ?_
    exact (Wk.sub (by (simp only [go_sem]) <;> trivial))
  | false =>
    simp (maxSteps := 4000000) -implicitDefEqProofs only [go_sem, Nat.reduceAdd, Nat.reduceSub, Nat.reduceLT, Nat.reduceLeDiff, Nat.reduceEqDiff, ↓reduceIte]
    exact ⟨by omega, ⟨by omega, by omega⟩, (Wk.via [1] (by (simp only [go_sem, ↓reduceIte]) <;> trivial) (by first | (simp (maxSteps := 4000000) -implicitDefEqProofs only [go_sem, Nat.reduceAdd, Nat.reduceSub, Nat.reduceLT, Nat.reduceLeDiff, Nat.reduceEqDiff, ↓reduceIte]; done) | ((simp (maxSteps := 4000000) -implicitDefEqProofs only [go_sem, Nat.reduceAdd, Nat.reduceSub, Nat.reduceLT, Nat.reduceLeDiff, Nat.reduceEqDiff, ↓reduceIte]) <;> omega)) (by simp) (by first | (simp; done) | (simp [so]; done)) (by (simp (maxSteps := 4000000) -implicitDefEqProofs only [go_sem, Nat.reduceAdd, Nat.reduceSub, Nat.reduceLT, Nat.reduceLeDiff, Nat.reduceEqDiff, ↓reduceIte]) <;> trivial) (by first | (simp only [go_sem]; done) | ((simp (maxSteps := 4000000) -implicitDefEqProofs only [go_sem, Nat.reduceAdd, Nat.reduceSub, Nat.reduceLT, Nat.reduceLeDiff, Nat.reduceEqDiff, ↓reduceIte]) <;> omega)) (Nat.zero_le _) (fun i h => absurd h (Nat.not_lt_zero i)))⟩
theorem clone_cl (l : List Cl) (hl : l.length ≤ 1000) : Spec Tryz.prog 79 [.d (.sl (l.map clD))] [] (.own 0) [.row 2 (l.map clD)] := by
  refine spec_of_ev (fn := Tryz.f79) DX_ok 3000 Tryz.func79 rfl rfl (Nat.le_of_ble_eq_true rfl) ?_
  simp (maxSteps := 4000000) -implicitDefEqProofs only [Tryz.f79, go_sem]
  intro b hb
  cases b with
  | true =>
    simp (maxSteps := 4000000) -implicitDefEqProofs only [go_sem, Nat.reduceAdd, Nat.reduceSub, Nat.reduceLT, Nat.reduceLeDiff, Nat.reduceEqDiff, ↓reduceIte]
    rw [hb rfl]
    refine Wk.trans (Wk.nil 0 2 rfl) ?_
    exact (Wk.sub (by (simp only [go_sem]) <;> trivial))
  | false =>
    simp (maxSteps := 4000000) -implicitDefEqProofs only [go_sem, Nat.reduceAdd, Nat.reduceSub, Nat.reduceLT, Nat.reduceLeDiff, Nat.reduceEqDiff, ↓reduceIte]
    exact ⟨by omega, ⟨by omega, by omega⟩, (Wk.via [1] (by (simp only [go_sem, ↓reduceIte]) <;> trivial) (by first | (simp (maxSteps := 4000000) -implicitDefEqProofs only [go_sem, Nat.reduceAdd, Nat.reduceSub, Nat.reduceLT, Nat.reduceLeDiff, Nat.reduceEqDiff, ↓reduceIte]; done) | ((simp (maxSteps := 4000000) -implicitDefEqProofs only [go_sem, Nat.reduceAdd, Nat.reduceSub, Nat.reduceLT, Nat.reduceLeDiff, Nat.reduceEqDiff, ↓reduceIte]) <;> omega)) (by simp) (by first | (simp; done) | (simp [so]; done)) (by (simp (maxSteps := 4000000) -implicitDefEqProofs only [go_sem, Nat.reduceAdd, Nat.reduceSub, Nat.reduceLT, Nat.reduceLeDiff, Nat.reduceEqDiff, ↓reduceIte]) <;> trivial) (by first | (simp only [go_sem]; done) | ((simp (maxSteps := 4000000) -implicitDefEqProofs only [go_sem, Nat.reduceAdd, Nat.reduceSub, Nat.reduceLT, Nat.reduceLeDiff, Nat.reduceEqDiff, ↓reduceIte]) <;> omega)) (Nat.zero_le _) (fun i h => absurd h (Nat.not_lt_zero i)))⟩
theorem row_dat {f : FuncId} {xs : List AV} {sz : Nat} {X : List (List D)} (h : Spec Tryz.prog f xs [] (.own 0) [.row sz X]) : Spec Tryz.prog f xs [] (.d (.sl X)) [] :=
  h.wk (wk_dat (r' := .d (.sl X)) (by simp only [go_sem]; rfl) rfl (by simp only [go_sem]))
theorem tclone_own (t : Tr) (f : TFit t) : Spec Tryz.prog 35 [tA t] [] (tA t) [] := by
  have fe := f.e
  have c1 := row_dat (clone_kn t.lg.kn f.k)
  have c2 := row_dat (clone_br t.lg.br f.b)
  have c3 := clone_evs t.lg.ev f.e
  have c4 := row_dat (clone_rq t.q f.q)
  have c5 := row_dat (clone_hs t.hs f.h)
  have c6 := row_dat (clone_cl t.cl f.c)
  refine spec_of_ev (fn := Tryz.f35) DX_ok 3000 Tryz.func35 rfl rfl (Nat.le_of_ble_eq_true rfl) ?_
  simp (maxSteps := 4000000) -implicitDefEqProofs only [Tryz.f35, go_sem, tA]
  refine ecall0 _ c1 (by simp only [go_sem]) (by simp only [go_sem]) ?_
  simp (maxSteps := 4000000) -implicitDefEqProofs only [go_sem, Nat.reduceAdd, Nat.reduceSub, Nat.reduceLT, Nat.reduceLeDiff, Nat.reduceEqDiff, ↓reduceIte]
  refine ecall0 _ c2 (by simp only [go_sem]) (by simp only [go_sem]) ?_
  simp (maxSteps := 4000000) -implicitDefEqProofs only [go_sem, Nat.reduceAdd, Nat.reduceSub, Nat.reduceLT, Nat.reduceLeDiff, Nat.reduceEqDiff, ↓reduceIte]
  refine ecallN _ _ c3 (by simp only [go_sem]) ?_
  simp (maxSteps := 4000000) -implicitDefEqProofs only [go_sem, Nat.reduceAdd, Nat.reduceSub, Nat.reduceLT, Nat.reduceLeDiff, Nat.reduceEqDiff, ↓reduceIte]
  refine eloop (S := Nat) (fun i => mkE 53 [(1, .ptr 0 0), (2, .ptr 1 0), (25, .own 2), (26, .d (.int .i64 t.lg.ev.length)), (27, .d (.int .i64 i))]) (fun i => [.cells [.d (.sl (t.lg.kn.map kD)), .d (.sl (t.lg.br.map bD)), .own 2, .d (.sl (t.q.map rD)), .d (.sl (t.hs.map hD)), .d (.sl (t.cl.map clD))], zT, .row 1 (t.lg.ev.map esD)]) (fun i => i ≤ t.lg.ev.length) (fun i => t.lg.ev.length - i) 0 (by omega) (Wk.via [0, 1, 2] (by (simp only [go_sem, ↓reduceIte]) <;> trivial) (by first | (simp (maxSteps := 4000000) -implicitDefEqProofs only [go_sem, Nat.reduceAdd, Nat.reduceSub, Nat.reduceLT, Nat.reduceLeDiff, Nat.reduceEqDiff, ↓reduceIte]; done) | ((simp (maxSteps := 4000000) -implicitDefEqProofs only [go_sem, Nat.reduceAdd, Nat.reduceSub, Nat.reduceLT, Nat.reduceLeDiff, Nat.reduceEqDiff, ↓reduceIte]) <;> omega)) (by simp) (by first | (simp; done) | (simp [so]; done)) (by (simp (maxSteps := 4000000) -implicitDefEqProofs only [go_sem, Nat.reduceAdd, Nat.reduceSub, Nat.reduceLT, Nat.reduceLeDiff, Nat.reduceEqDiff, ↓reduceIte]) <;> trivial) (by first | (simp only [go_sem]; done) | ((simp (maxSteps := 4000000) -implicitDefEqProofs only [go_sem, Nat.reduceAdd, Nat.reduceSub, Nat.reduceLT, Nat.reduceLeDiff, Nat.reduceEqDiff, ↓reduceIte]) <;> omega)) (Nat.zero_le _) (fun i h => absurd h (Nat.not_lt_zero i))) ?_
  intro i hi
  rcases Nat.lt_or_ge i t.lg.ev.length with h2 | h2
  case inr =>
    have f1 : decide ((i : Int) < t.lg.ev.length) = false := by simp; omega
    simp (maxSteps := 4000000) -implicitDefEqProofs only [go_sem, f1, Option.some.injEq, forall_eq', and_true, true_and, Bool.not_true, Bool.not_false, decide_true, Nat.reduceAdd, Nat.reduceSub, Nat.reduceLT, Nat.reduceLeDiff, Nat.reduceEqDiff, ↓reduceIte]
    refine DX.plain (.take 0 false (.take 1 false (.take 2 false (.take 3 false (.take 4 false (.take 5 false (.take 6 false (.take 7 false (.take 8 false (.take 9 false (.run [10] (fun _ => []) fun _ => (.take 11 false (.run [12] (fun _ => []) fun _ => (.take 13 false (.run [14] (fun _ => []) fun _ => .done))))))))))))))) (by kernel_rfl) (by kernel_rfl) Ty.mixed ?_
    simp (maxSteps := 4000000) -implicitDefEqProofs only [go_sem, f1, Option.some.injEq, forall_eq', and_true, true_and, Bool.not_true, Bool.not_false, decide_true, Nat.reduceAdd, Nat.reduceSub, Nat.reduceLT, Nat.reduceLeDiff, Nat.reduceEqDiff, ↓reduceIte]
    refine ⟨_, _, c4.lift0 _ (by simp only [go_sem]) (by simp only [go_sem]), rfl, ?_⟩
    simp (maxSteps := 4000000) -implicitDefEqProofs only [go_sem, Nat.reduceAdd, Nat.reduceSub, Nat.reduceLT, Nat.reduceLeDiff, Nat.reduceEqDiff, ↓reduceIte]
    refine ⟨_, _, c5.lift0 _ (by simp only [go_sem]) (by simp only [go_sem]), rfl, ?_⟩
    simp (maxSteps := 4000000) -implicitDefEqProofs only [go_sem, Nat.reduceAdd, Nat.reduceSub, Nat.reduceLT, Nat.reduceLeDiff, Nat.reduceEqDiff, ↓reduceIte]
    refine ⟨_, _, c6.lift0 _ (by simp only [go_sem]) (by simp only [go_sem]), rfl, ?_⟩
    simp (maxSteps := 4000000) -implicitDefEqProofs only [go_sem, Nat.reduceAdd, Nat.reduceSub, Nat.reduceLT, Nat.reduceLeDiff, Nat.reduceEqDiff, ↓reduceIte]
    exact wk_dat (r' := tA t) (by simp only [go_sem]; rfl) rfl (by simp only [tA, tC, go_sem])
  have f1 : decide ((i : Int) < t.lg.ev.length) = true := by simp; omega
  obtain ⟨s, hsi⟩ : ∃ x, t.lg.ev[i]? = some x := ⟨t.lg.ev[i]'h2, List.getElem?_eq_getElem _⟩
  have n1 : (0 ≤ (i : Int) ∧ (i : Int) < t.lg.ev.length) = True := eq_true (by omega)
  have n2 : (i < t.lg.ev.length) = True := eq_true (by omega)
  have w1 : IntKind.i64.wrap ((i : Int) + 1) = ((i + 1 : Nat) : Int) := by rw [i64_in _ (by omega)]; simp
  have c7 := row_dat (clone_ev s (f.s s (List.mem_of_getElem? hsi)))
  have es : (t.lg.ev.map esD).set i [.sl (s.map eD)] = t.lg.ev.map esD := by
    refine List.ext_getElem? fun j => ?_
    rw [List.getElem?_set]
    split
    · next e => subst e; rw [if_pos (by simpa using h2), List.getElem?_map, hsi]; rfl
    · rfl
  simp (maxSteps := 4000000) -implicitDefEqProofs only [go_sem, f1, n1, n2, hsi, Option.some.injEq, forall_eq', and_true, true_and, Bool.not_true, Bool.not_false, decide_true, Nat.reduceAdd, Nat.reduceSub, Nat.reduceLT, Nat.reduceLeDiff, Nat.reduceEqDiff, ↓reduceIte]
  refine DX.plain (.take 0 false (.take 1 false (.take 2 false (.take 3 false (.take 4 false (.take 5 false (.take 6 false (.run [7] (fun _ => []) fun _ => .done)))))))) (by kernel_rfl) (by kernel_rfl) Ty.mixed ?_
  simp (maxSteps := 4000000) -implicitDefEqProofs only [go_sem, n1, n2, Option.some.injEq, forall_eq', and_true, true_and, Bool.not_true, Bool.not_false, decide_true, Nat.reduceAdd, Nat.reduceSub, Nat.reduceLT, Nat.reduceLeDiff, Nat.reduceEqDiff, ↓reduceIte]
  refine ⟨_, _, c7.lift0 _ (by simp only [go_sem]) (by simp only [go_sem]), rfl, ?_⟩
  simp (maxSteps := 4000000) -implicitDefEqProofs only [go_sem, n1, n2, es, w1, Option.some.injEq, forall_eq', and_true, true_and, Bool.not_true, Bool.not_false, decide_true, Nat.reduceAdd, Nat.reduceSub, Nat.reduceLT, Nat.reduceLeDiff, Nat.reduceEqDiff, ↓reduceIte]
  intro _ _
  exact .mk (i + 1) (by omega) (by omega) (Wk.via [0, 1, 2] (by (simp only [go_sem, ↓reduceIte]) <;> trivial) (by first | (simp (maxSteps := 4000000) -implicitDefEqProofs only [go_sem, Nat.reduceAdd, Nat.reduceSub, Nat.reduceLT, Nat.reduceLeDiff, Nat.reduceEqDiff, ↓reduceIte]; done) | ((simp (maxSteps := 4000000) -implicitDefEqProofs only [go_sem, Nat.reduceAdd, Nat.reduceSub, Nat.reduceLT, Nat.reduceLeDiff, Nat.reduceEqDiff, ↓reduceIte]) <;> omega)) (by simp) (by first | (simp; done) | (simp [so]; done)) (by (simp (maxSteps := 4000000) -implicitDefEqProofs only [go_sem, Nat.reduceAdd, Nat.reduceSub, Nat.reduceLT, Nat.reduceLeDiff, Nat.reduceEqDiff, ↓reduceIte]) <;> trivial) (by first | (simp only [go_sem]; done) | ((simp (maxSteps := 4000000) -implicitDefEqProofs only [go_sem, Nat.reduceAdd, Nat.reduceSub, Nat.reduceLT, Nat.reduceLeDiff, Nat.reduceEqDiff, ↓reduceIte]) <;> omega)) (Nat.zero_le _) (fun i h => absurd h (Nat.not_lt_zero i)))
end Go.AX.Tr
namespace Go.AX.Tr
open Go.Proofs Go.RowKit Go.IntWalk Go.AX.Br Go.AX.Lg Go.AX.Qu Go.AX.Wn
def t0 : Tr := ⟨lg0, [], [], []⟩
def stQ (t : Tr) (i : Nat) (s : Int) : List Rq := t.q.modify i fun r => setSt r s
def stepR (t : Tr) (b : ByteArray) (tk : Int) : Tr × Int × Int :=
  if (beginR t b tk).2 ≠ 0 then (t0, 0, (beginR t b tk).2) else
  match t.q[(idx (isHead b) t.q).toNat]? with
  | none => (t0, 0, 0)
  | some r =>
    if heldH t r tk then (t0, 0, 28)
    else if outR t r = 5 then
      if (appR t.lg b ⟨2, r.ch⟩).2 ≠ 0 then (t0, 0, (appR t.lg b ⟨2, r.ch⟩).2)
      else (⟨(appR t.lg b ⟨2, r.ch⟩).1, stQ t (idx (isHead b) t.q).toNat 5, t.hs, t.cl⟩, 5, 0)
    else (⟨t.lg, stQ t (idx (isHead b) t.q).toNat (outR t r), t.hs, t.cl⟩, outR t r, 0)
theorem ask0 {l : List Hd} (h0 : wcheck l = 0) {tk : Int} (h1 : 0 ≤ tk) (h2 : tk ≤ 1000000) : asked l [tk] = 0 := by
  unfold asked
  rw [if_neg (by omega)]
  have : [tk].any badT = false := by
    simp only [List.any_cons, List.any_nil, badT, Bool.or_false, Bool.or_eq_false_iff, decide_eq_false_iff_not]; omega
  rw [this]; rfl
theorem outR_of {t : Tr} {r : Rq} : outR t r = 5 ∨ outR t r = 6 ∨ outR t r = 7 := by
  unfold outR
  split
  · exact .inr (.inl rfl)
  split
  · exact .inr (.inr rfl)
  · exact .inl rfl
theorem settle_of {t : Tr} {b : ByteArray} {s : Int} {i : Nat} (o : TOk t) (h1 : 5 ≤ s) (h2 : s ≤ 7) (hi : idx (isHead b) t.q = i) : settleR t.q b s = (stQ t i s, 0) := by
  unfold settleR
  rw [if_neg (by simp [o.q0]), if_neg (by omega), if_neg (by omega), hi, Int.toNat_natCast]; rfl
theorem Step_own (t : Tr) (b : ByteArray) (tk : Int) (f : TFit t) : Spec Tryz.prog 36 [tA t, .d (.str b), .d (.int .i64 tk)] [] (.tup [tA (stepR t b tk).1, .d (.int .u8 (stepR t b tk).2.1), .d (.int .i64 (stepR t b tk).2.2)]) [] := by
  have fh := f.h
  have fq := f.q
  have c1 := begin_own t b tk f
  obtain ⟨R, hR⟩ : ∃ R, R = stepR t b tk := ⟨_, rfl⟩
  rw [← hR]
  unfold stepR at hR
  have bo := begin_ok (t := t) (b := b) (tk := tk)
  obtain ⟨B, hB⟩ : ∃ R, R = beginR t b tk := ⟨_, rfl⟩
  rw [← hB] at c1 hR bo
  have zer : ∀ {e : Int} {σ : List AObj}, R = (t0, 0, e) → Wk 0 [.tup [.agg [.nil, .nil, .nil, .nil, .nil, .nil], .d (.int .u8 0), .d (.int .i64 e)]] σ [.tup [tA R.1, .d (.int .u8 R.2.1), .d (.int .i64 R.2.2)]] [] := fun {e σ} h => by
    rw [h]; exact wk_dat (r' := .tup [tA t0, .d (.int .u8 0), .d (.int .i64 e)]) (by simp only [go_sem]; rfl) rfl (by simp only [tA, tC, go_sem])
  simp only [tA, tC] at c1 ⊢
  simp only [tA, tC] at zer
  refine spec_of_ev (fn := Tryz.f36) DX_ok 3000 Tryz.func36 rfl rfl (Nat.le_of_ble_eq_true rfl) ?_
  simp (maxSteps := 4000000) -implicitDefEqProofs only [Tryz.f36, go_sem, tA]
  refine ecall0 _ c1 (by simp only [go_sem]) (by simp only [go_sem]) ?_
  cases k1 : (B.2 != 0)
  case true =>
    rw [if_pos (by simpa using k1)] at hR
    simp (maxSteps := 4000000) -implicitDefEqProofs only [go_sem, k1, Option.some.injEq, forall_eq', and_true, true_and, Bool.not_true, Bool.not_false, decide_true, Nat.reduceAdd, Nat.reduceSub, Nat.reduceLT, Nat.reduceLeDiff, Nat.reduceEqDiff, ↓reduceIte]
    exact zer hR
  obtain ⟨o, i, r, e1, e2, hx, e3, e4, kn, q1, q2⟩ := bo (by simpa using k1)
  rw [if_neg (by simpa using k1), e2, Int.toNat_natCast, hx] at hR
  simp only [heldH] at hR
  subst e3
  rw [e1] at k1 ⊢
  have n1 : (0 ≤ (i : Int) ∧ (i : Int) < t.q.length) = True := eq_true (by have := some_lt hx; omega)
  have n2 : (i < t.q.length) = True := eq_true (by have := some_lt hx; omega)
  have c2 := frozen_own t.hs r.br tk (by unfold Sm; omega)
  rw [show frozenR t.hs r.br tk = (held t.hs r.br tk, 0) by unfold frozenR; rw [if_neg (by simp [ask0 o.w0 q1 q2])]] at c2
  obtain ⟨H, hH⟩ : ∃ H, H = held t.hs r.br tk := ⟨_, rfl⟩
  simp only [← hH] at c2 hR
  have b1 : (!true) = false := rfl
  have b2 : (!false) = true := rfl
  have hcont : (H && !r.ov) = true ∨ (H && !r.ov) = false := by cases (H && !r.ov) <;> simp
  rcases hcont with hcont | hcont
  · rw [hcont] at hR
    obtain ⟨rfl, hov⟩ : H = true ∧ r.ov = false := by simpa using hcont
    simp (maxSteps := 4000000) -implicitDefEqProofs only [go_sem, k1, Option.some.injEq, forall_eq', and_true, true_and, Bool.not_true, Bool.not_false, decide_true, Nat.reduceAdd, Nat.reduceSub, Nat.reduceLT, Nat.reduceLeDiff, Nat.reduceEqDiff, ↓reduceIte]
    refine ecall0 _ c2 (by simp only [go_sem]) (by simp only [go_sem]) ?_
    simp (maxSteps := 4000000) -implicitDefEqProofs only [go_sem, n1, n2, hx, hov, b2, Option.some.injEq, forall_eq', and_true, true_and, Bool.not_true, Bool.not_false, decide_true, Nat.reduceAdd, Nat.reduceSub, Nat.reduceLT, Nat.reduceLeDiff, Nat.reduceEqDiff, ↓reduceIte]
    exact zer hR
  rw [hcont] at hR
  simp only [Bool.false_eq_true, if_false] at hR
  have c3 := outcome_own t r o.lo kn f.k f.b f.e f.c
  have c4 := tclone_own t f
  have orr := outR_of (t := t) (r := r)
  have c6 := fun s => settle_own t.q r.br s (by unfold Sm; omega)
  obtain ⟨s, hs⟩ : ∃ s, s = outR t r := ⟨_, rfl⟩
  rw [← hs] at c3 hR orr
  have c6 := c6 s
  rw [settle_of o (by omega) (by omega) e2] at c6
  have c5 := append_lown t.lg r.br ⟨2, r.ch⟩ f.k f.b f.e
  obtain ⟨A, hA⟩ : ∃ A, A = appR t.lg r.br ⟨2, r.ch⟩ := ⟨_, rfl⟩
  rw [← hA] at c5 hR
  simp only [tA, tC, rA] at c3 c4
  simp only [lA] at c5
  have tail : ∀ {σ : List AObj} (l : Lg), R = (⟨l, stQ t i s, t.hs, t.cl⟩, s, 0) → Wk 0 [.tup [.agg [.d (.sl (l.kn.map kD)), .d (.sl (l.br.map bD)), .d (.sl (l.ev.map esD)), .d (.sl ((stQ t i s).map rD)), .d (.sl (t.hs.map hD)), .d (.sl (t.cl.map clD))], .d (.int .u8 s), .d (.int .i64 0)]] σ [.tup [tA R.1, .d (.int .u8 R.2.1), .d (.int .i64 R.2.2)]] [] := fun l h => by
    rw [h]; exact wk_dat (r' := .tup [tA ⟨l, stQ t i s, t.hs, t.cl⟩, .d (.int .u8 s), .d (.int .i64 0)]) (by simp only [go_sem]; rfl) rfl (by simp only [tA, tC, go_sem])
  simp only [tA, tC] at tail
  have p1 : ∀ (H : Bool), (H && !r.ov) = false → H = false ∨ H = true ∧ r.ov = true := fun H h => by cases H <;> simp_all
  rcases p1 H hcont with hh | ⟨hh, hov⟩
  all_goals subst hh
  case' inl => have hov : (0 : Int) = 0 := rfl
  all_goals
    simp (maxSteps := 4000000) -implicitDefEqProofs only [go_sem, k1, Option.some.injEq, forall_eq', and_true, true_and, Bool.not_true, Bool.not_false, decide_true, Nat.reduceAdd, Nat.reduceSub, Nat.reduceLT, Nat.reduceLeDiff, Nat.reduceEqDiff, ↓reduceIte]
    refine ecall0 _ c2 (by simp only [go_sem]) (by simp only [go_sem]) ?_
    simp (maxSteps := 4000000) -implicitDefEqProofs only [go_sem, n1, n2, hx, hov, b1, Option.some.injEq, forall_eq', and_true, true_and, Bool.not_true, Bool.not_false, decide_true, Nat.reduceAdd, Nat.reduceSub, Nat.reduceLT, Nat.reduceLeDiff, Nat.reduceEqDiff, ↓reduceIte]
    refine DX.plain (.take 0 false (.take 1 false (.take 2 false (.take 3 false (.take 4 false (.take 5 false (.take 6 false (.take 7 false .done)))))))) (by kernel_rfl) (by kernel_rfl) Ty.mixed ?_
    simp (maxSteps := 4000000) -implicitDefEqProofs only [go_sem, n1, n2, hx, Option.some.injEq, forall_eq', and_true, true_and, Bool.not_true, Bool.not_false, decide_true, Nat.reduceAdd, Nat.reduceSub, Nat.reduceLT, Nat.reduceLeDiff, Nat.reduceEqDiff, ↓reduceIte]
    refine ⟨_, _, c3.lift0 _ (by simp only [go_sem]) (by simp only [go_sem]), rfl, ?_⟩
    refine ecall0 _ c4 (by simp only [go_sem]) (by simp only [go_sem]) ?_
    by_cases h5 : s = 5
    · have d5 : (s == 5) = true := by simp [h5]
      rw [if_pos h5] at hR
      simp (maxSteps := 4000000) -implicitDefEqProofs only [go_sem, d5, Option.some.injEq, forall_eq', and_true, true_and, Bool.not_true, Bool.not_false, decide_true, Nat.reduceAdd, Nat.reduceSub, Nat.reduceLT, Nat.reduceLeDiff, Nat.reduceEqDiff, ↓reduceIte]
      refine DX.plain (.take 0 false (.take 1 false (.take 2 false (.take 3 false (.take 4 false (.take 5 false (.take 6 false (.take 7 false (.take 8 false (.take 9 false (.take 10 false (.take 11 false (.take 12 false (.take 13 true (.take 14 false (.run [15] (fun _ => [true]) fun _ => (.take 16 false .done))))))))))))))))) (by kernel_rfl) (by kernel_rfl) Ty.mixed ?_
      simp (maxSteps := 4000000) -implicitDefEqProofs only [go_sem, n1, n2, hx, Option.some.injEq, forall_eq', and_true, true_and, Bool.not_true, Bool.not_false, decide_true, Nat.reduceAdd, Nat.reduceSub, Nat.reduceLT, Nat.reduceLeDiff, Nat.reduceEqDiff, ↓reduceIte]
      refine ⟨_, _, c5.lift0 _ (by simp only [go_sem]) (by simp only [go_sem]), rfl, ?_⟩
      cases k6 : (A.2 != 0)
      case true =>
        rw [if_pos (by simpa using k6)] at hR
        simp (maxSteps := 4000000) -implicitDefEqProofs only [go_sem, k6, Option.some.injEq, forall_eq', and_true, true_and, Bool.not_true, Bool.not_false, decide_true, Nat.reduceAdd, Nat.reduceSub, Nat.reduceLT, Nat.reduceLeDiff, Nat.reduceEqDiff, ↓reduceIte]
        exact zer hR
      rw [if_neg (by simpa using k6)] at hR
      simp (maxSteps := 4000000) -implicitDefEqProofs only [go_sem, k6, Option.some.injEq, forall_eq', and_true, true_and, Bool.not_true, Bool.not_false, decide_true, Nat.reduceAdd, Nat.reduceSub, Nat.reduceLT, Nat.reduceLeDiff, Nat.reduceEqDiff, ↓reduceIte]
      refine ecall0 _ c6 (by simp only [go_sem]) (by simp only [go_sem]) ?_
      simp (maxSteps := 4000000) -implicitDefEqProofs only [go_sem, Nat.reduceAdd, Nat.reduceSub, Nat.reduceLT, Nat.reduceLeDiff, Nat.reduceEqDiff, ↓reduceIte]
      exact tail _ (by rw [hR, h5])
    · have d5 : (s == 5) = false := by simp [h5]
      rw [if_neg h5] at hR
      simp (maxSteps := 4000000) -implicitDefEqProofs only [go_sem, d5, Option.some.injEq, forall_eq', and_true, true_and, Bool.not_true, Bool.not_false, decide_true, Nat.reduceAdd, Nat.reduceSub, Nat.reduceLT, Nat.reduceLeDiff, Nat.reduceEqDiff, ↓reduceIte]
      refine ecall0 _ c6 (by simp only [go_sem]) (by simp only [go_sem]) ?_
      simp (maxSteps := 4000000) -implicitDefEqProofs only [go_sem, Nat.reduceAdd, Nat.reduceSub, Nat.reduceLT, Nat.reduceLeDiff, Nat.reduceEqDiff, ↓reduceIte]
      exact tail _ hR
theorem app4 {t : Tr} {r : Rq} (o : TOk t) (kn : known t.lg r.br r.ch = true) (h5 : outR t r = 5) (h : (appR t.lg r.br ⟨2, r.ch⟩).2 ≠ 0) : appR t.lg r.br ⟨2, r.ch⟩ = (lg0, 4) := by
  obtain ⟨i, x, s, v, c, j, k, p⟩ := pick_of o.lo kn
  rw [outR_pick p] at h5
  rw [p.happ] at h ⊢
  by_cases q : inR t.lg (preE t.lg i ++ s) c = true
  · rw [if_pos q] at h5; omega
  by_cases q2 : s.length = 40
  · rw [if_pos q2]
  · rw [if_neg q2, if_neg q] at h; exact absurd rfl h
end Go.AX.Tr
namespace Go.AX.Tr
open Go.Proofs Go.RowKit Go.IntWalk Go.AX.Br Go.AX.Lg Go.AX.Qu Go.AX.Wn
def uD (n : Int) : List D := [.int .u8 n]
attribute [go_sem] uD
theorem uD_len {l : List Int} : (∀ e ∈ l.map uD, e.length = 1) = True := eq_true (map_len (g := uD) fun _ => rfl)
attribute [go_sem] uD_len
theorem iEq (x y : Int) : (x == y) = decide (x = y) := by rw [Bool.eq_iff_iff]; simp
theorem bneU (a b : Int) : (a != b) = !(a == b) := rfl
theorem sameStates_ref (a b : List Int) (ha : Sm a.length) : Spec Tryz.prog 17 [.d (.sl (a.map uD)), .d (.sl (b.map uD))] [] (.d (.bool (decide (a = b)))) [] := by
  unfold Sm at ha
  refine spec_of_ev (fn := Tryz.f17) DX_ok 3000 Tryz.func17 rfl rfl (Nat.le_of_ble_eq_true rfl) ?_
  simp (maxSteps := 4000000) -implicitDefEqProofs only [Tryz.f17, go_sem]
  by_cases h1 : a.length = b.length
  · have d1 : ((a.length : Int) != b.length) = false := by simp [h1]
    simp (maxSteps := 4000000) -implicitDefEqProofs only [go_sem, d1, Option.some.injEq, forall_eq', and_true, true_and, Bool.not_true, Bool.not_false, decide_true, Nat.reduceAdd, Nat.reduceSub, Nat.reduceLT, Nat.reduceLeDiff, Nat.reduceEqDiff, ↓reduceIte]
    refine eloop (S := Nat) (fun i => mkE 26 [(0, .d (.sl (a.map uD))), (1, .d (.sl (b.map uD))), (5, .d (.int .i64 i))]) (fun i => []) (fun i => i ≤ a.length ∧ ∀ j x, a[j]? = some x → j < i → b[j]? = some x) (fun i => a.length - i) 0 ⟨by omega, by omega⟩ (Wk.sub (by (simp only [go_sem]) <;> trivial)) ?_
    rintro i ⟨hi, hj⟩
    rcases Nat.lt_or_ge i a.length with h2 | h2
    · have d2 : decide ((i : Int) < a.length) = true := by simp; omega
      obtain ⟨x, hx⟩ : ∃ x, a[i]? = some x := ⟨a[i]'(by omega), List.getElem?_eq_getElem _⟩
      obtain ⟨y, hy⟩ : ∃ x, b[i]? = some x := ⟨b[i]'(by omega), List.getElem?_eq_getElem _⟩
      have n1 : (0 ≤ (i : Int) ∧ (i : Int) < a.length) = True := eq_true (by omega)
      have n2 : (0 ≤ (i : Int) ∧ (i : Int) < b.length) = True := eq_true (by omega)
      have n3 : (i < a.length) = True := eq_true (by omega)
      have n4 : (i < b.length) = True := eq_true (by omega)
      have w1 : IntKind.i64.wrap ((i : Int) + 1) = i + 1 := i64_in _ (by omega)
      by_cases h3 : x = y
      · have hxy := (iEq x y).trans (decide_eq_true h3)
        simp (maxSteps := 4000000) -implicitDefEqProofs only [go_sem, d2, Option.some.injEq, forall_eq', and_true, true_and, Bool.not_true, Bool.not_false, decide_true, Nat.reduceAdd, Nat.reduceSub, Nat.reduceLT, Nat.reduceLeDiff, Nat.reduceEqDiff, ↓reduceIte]
        refine DX.plain (.take 0 false (.take 1 false (.take 2 false (.take 3 false (.take 4 false (.take 5 false (.take 6 false (.take 7 false (.take 8 false .done))))))))) (by kernel_rfl) (by kernel_rfl) Ty.mixed ?_
        simp (maxSteps := 4000000) -implicitDefEqProofs only [go_sem, n1, n2, n3, n4, hx, hy, hxy, w1, bneU, Option.some.injEq, forall_eq', and_true, true_and, Bool.not_true, Bool.not_false, decide_true, Nat.reduceAdd, Nat.reduceSub, Nat.reduceLT, Nat.reduceLeDiff, Nat.reduceEqDiff, ↓reduceIte]
        exact .mk (i + 1) ⟨by omega, upto_succ hx (by rw [h3]; exact hy) hj⟩ (by omega) (Wk.sub (by (simp only [go_sem]) <;> trivial))
      · have hxy := (iEq x y).trans (decide_eq_false h3)
        simp (maxSteps := 4000000) -implicitDefEqProofs only [go_sem, d2, Option.some.injEq, forall_eq', and_true, true_and, Bool.not_true, Bool.not_false, decide_true, Nat.reduceAdd, Nat.reduceSub, Nat.reduceLT, Nat.reduceLeDiff, Nat.reduceEqDiff, ↓reduceIte]
        refine DX.plain (.take 0 false (.take 1 false (.take 2 false (.take 3 false (.take 4 false (.take 5 false (.take 6 false (.take 7 false (.take 8 false .done))))))))) (by kernel_rfl) (by kernel_rfl) Ty.mixed ?_
        simp (maxSteps := 4000000) -implicitDefEqProofs only [go_sem, n1, n2, n3, n4, hx, hy, hxy, bneU, Option.some.injEq, forall_eq', and_true, true_and, Bool.not_true, Bool.not_false, decide_true, Nat.reduceAdd, Nat.reduceSub, Nat.reduceLT, Nat.reduceLeDiff, Nat.reduceEqDiff, ↓reduceIte]
        refine wk_bool (decide_eq_false fun e => h3 ?_).symm
        subst e; rw [hx] at hy; exact Option.some.inj hy
    · have d2 : decide ((i : Int) < a.length) = false := by simp; omega
      simp (maxSteps := 4000000) -implicitDefEqProofs only [go_sem, d2, Option.some.injEq, forall_eq', and_true, true_and, Bool.not_true, Bool.not_false, decide_true, Nat.reduceAdd, Nat.reduceSub, Nat.reduceLT, Nat.reduceLeDiff, Nat.reduceEqDiff, ↓reduceIte]
      refine wk_bool (decide_eq_true ?_).symm
      refine List.ext_getElem? fun j => ?_
      rcases Nat.lt_or_ge j a.length with q | q
      · have hx := List.getElem?_eq_getElem q
        rw [hx]; exact (hj j _ hx (by omega)).symm
      · rw [List.getElem?_eq_none q, List.getElem?_eq_none (by omega)]
  · have d1 : ((a.length : Int) != b.length) = true := by simp; omega
    simp (maxSteps := 4000000) -implicitDefEqProofs only [go_sem, d1, Option.some.injEq, forall_eq', and_true, true_and, Bool.not_true, Bool.not_false, decide_true, Nat.reduceAdd, Nat.reduceSub, Nat.reduceLT, Nat.reduceLeDiff, Nat.reduceEqDiff, ↓reduceIte]
    exact wk_bool (decide_eq_false fun e => h1 (by rw [e])).symm
def bigC (c : Cl) : Bool := decide (100 < c.br.size) || decide (100 < c.ch.size)
def tgreat (t : Tr) : Bool := t.cl.any bigC || (greatL t.lg || wgreat t.hs || qgreat t.q || decide (40 < t.cl.length))
structure TSm (t : Tr) : Prop where
  k : Sm t.lg.kn.length
  b : Sm t.lg.br.length
  e : Sm t.lg.ev.length
  s : ∀ s ∈ t.lg.ev, Sm s.length
  q : Sm t.q.length
  h : Sm t.hs.length
  c : Sm t.cl.length
theorem tgreat_ref (t : Tr) (f : TSm t) : Spec Tryz.prog 5 [tA t] [] (.d (.bool (tgreat t))) [] := by
  have fc := f.c
  have c1 := great_lref t.lg f.k f.b f.e f.s
  have c2 := Qu.great_ref t.q f.q
  have c3 := Wn.great_ref t.hs f.h
  unfold Sm at fc
  obtain ⟨R, hR⟩ : ∃ R, R = tgreat t := ⟨_, rfl⟩
  rw [← hR]
  unfold tgreat at hR
  simp only [lA] at c1
  refine spec_of_ev (fn := Tryz.f5) DX_ok 3000 Tryz.func5 rfl rfl (Nat.le_of_ble_eq_true rfl) ?_
  simp (maxSteps := 4000000) -implicitDefEqProofs only [Tryz.f5, go_sem, tA]
  refine eloop (S := Nat) (fun i => mkE 48 [(1, .ptr 0 0), (3, .d (.int .i64 i))]) (fun i => [tH t]) (fun i => i ≤ t.cl.length ∧ ∀ j y, t.cl[j]? = some y → j < i → bigC y = false) (fun i => t.cl.length - i) 0 ⟨by omega, by omega⟩ (Wk.via [0] (by (simp only [go_sem, ↓reduceIte]) <;> trivial) (by first | (simp (maxSteps := 4000000) -implicitDefEqProofs only [go_sem, Nat.reduceAdd, Nat.reduceSub, Nat.reduceLT, Nat.reduceLeDiff, Nat.reduceEqDiff, ↓reduceIte]; done) | ((simp (maxSteps := 4000000) -implicitDefEqProofs only [go_sem, Nat.reduceAdd, Nat.reduceSub, Nat.reduceLT, Nat.reduceLeDiff, Nat.reduceEqDiff, ↓reduceIte]) <;> omega)) (by simp) (by first | (simp; done) | (simp [so]; done)) (by (simp (maxSteps := 4000000) -implicitDefEqProofs only [go_sem, Nat.reduceAdd, Nat.reduceSub, Nat.reduceLT, Nat.reduceLeDiff, Nat.reduceEqDiff, ↓reduceIte]) <;> trivial) (by first | (simp only [go_sem]; done) | ((simp (maxSteps := 4000000) -implicitDefEqProofs only [go_sem, Nat.reduceAdd, Nat.reduceSub, Nat.reduceLT, Nat.reduceLeDiff, Nat.reduceEqDiff, ↓reduceIte]) <;> omega)) (Nat.zero_le _) (fun i h => absurd h (Nat.not_lt_zero i))) ?_
  rintro i ⟨hi, hj⟩
  rcases Nat.lt_or_ge i t.cl.length with h2 | h2
  case inl =>
    have f1 : decide ((i : Int) < t.cl.length) = true := by simp; omega
    obtain ⟨x, hx⟩ : ∃ x, t.cl[i]? = some x := ⟨t.cl[i]'h2, List.getElem?_eq_getElem _⟩
    have n1 : (0 ≤ (i : Int) ∧ (i : Int) < t.cl.length) = True := eq_true (by omega)
    have n2 : (i < t.cl.length) = True := eq_true (by omega)
    have w1 : IntKind.i64.wrap ((i : Int) + 1) = ((i + 1 : Nat) : Int) := by rw [i64_in _ (by omega)]; simp
    have g1' : decide ((100 : Int) < x.br.size) = decide (100 < x.br.size) := by rw [decide_eq_decide]; omega
    have g2' : decide ((100 : Int) < x.ch.size) = decide (100 < x.ch.size) := by rw [decide_eq_decide]; omega
    cases g1 : decide (100 < x.br.size)
    case true =>
      rw [g1] at g1'
      simp (maxSteps := 4000000) -implicitDefEqProofs only [go_sem, f1, n1, n2, hx, g1', Option.some.injEq, forall_eq', and_true, true_and, Bool.not_true, Bool.not_false, decide_true, Nat.reduceAdd, Nat.reduceSub, Nat.reduceLT, Nat.reduceLeDiff, Nat.reduceEqDiff, ↓reduceIte]
      exact wk_bool (by rw [hR, any_t hx (by rw [bigC, g1]; rfl)]; rfl)
    rw [g1] at g1'
    cases g2 : decide (100 < x.ch.size)
    case true =>
      rw [g2] at g2'
      simp (maxSteps := 4000000) -implicitDefEqProofs only [go_sem, f1, n1, n2, hx, g1', g2', Option.some.injEq, forall_eq', and_true, true_and, Bool.not_true, Bool.not_false, decide_true, Nat.reduceAdd, Nat.reduceSub, Nat.reduceLT, Nat.reduceLeDiff, Nat.reduceEqDiff, ↓reduceIte]
      exact wk_bool (by rw [hR, any_t hx (by rw [bigC, g1, g2]; rfl)]; rfl)
    rw [g2] at g2'
    simp (maxSteps := 4000000) -implicitDefEqProofs only [go_sem, f1, n1, n2, hx, g1', g2', w1, Option.some.injEq, forall_eq', and_true, true_and, Bool.not_true, Bool.not_false, decide_true, Nat.reduceAdd, Nat.reduceSub, Nat.reduceLT, Nat.reduceLeDiff, Nat.reduceEqDiff, ↓reduceIte]
    exact .mk (i + 1) ⟨by omega, upto_succ hx (by rw [bigC, g1, g2]; rfl) hj⟩ (by omega) (Wk.via [0] (by (simp only [go_sem, ↓reduceIte]) <;> trivial) (by first | (simp (maxSteps := 4000000) -implicitDefEqProofs only [go_sem, Nat.reduceAdd, Nat.reduceSub, Nat.reduceLT, Nat.reduceLeDiff, Nat.reduceEqDiff, ↓reduceIte]; done) | ((simp (maxSteps := 4000000) -implicitDefEqProofs only [go_sem, Nat.reduceAdd, Nat.reduceSub, Nat.reduceLT, Nat.reduceLeDiff, Nat.reduceEqDiff, ↓reduceIte]) <;> omega)) (by simp) (by first | (simp; done) | (simp [so]; done)) (by (simp (maxSteps := 4000000) -implicitDefEqProofs only [go_sem, Nat.reduceAdd, Nat.reduceSub, Nat.reduceLT, Nat.reduceLeDiff, Nat.reduceEqDiff, ↓reduceIte]) <;> trivial) (by first | (simp only [go_sem]; done) | ((simp (maxSteps := 4000000) -implicitDefEqProofs only [go_sem, Nat.reduceAdd, Nat.reduceSub, Nat.reduceLT, Nat.reduceLeDiff, Nat.reduceEqDiff, ↓reduceIte]) <;> omega)) (Nat.zero_le _) (fun i h => absurd h (Nat.not_lt_zero i)))
  have f1 : decide ((i : Int) < t.cl.length) = false := by simp; omega
  rw [any_f fun j y hy => hj j y hy (by have := some_lt hy; omega), Bool.false_or] at hR
  simp (maxSteps := 4000000) -implicitDefEqProofs only [go_sem, f1, Option.some.injEq, forall_eq', and_true, true_and, Bool.not_true, Bool.not_false, decide_true, Nat.reduceAdd, Nat.reduceSub, Nat.reduceLT, Nat.reduceLeDiff, Nat.reduceEqDiff, ↓reduceIte]
  refine ecall0 _ c1 (by simp only [go_sem]) (by simp only [go_sem]) ?_
  cases g1 : greatL t.lg
  case true =>
    rw [g1] at hR
    simp (maxSteps := 4000000) -implicitDefEqProofs only [go_sem, Nat.reduceAdd, Nat.reduceSub, Nat.reduceLT, Nat.reduceLeDiff, Nat.reduceEqDiff, ↓reduceIte]
    exact wk_bool (by rw [hR]; rfl)
  simp (maxSteps := 4000000) -implicitDefEqProofs only [go_sem, Nat.reduceAdd, Nat.reduceSub, Nat.reduceLT, Nat.reduceLeDiff, Nat.reduceEqDiff, ↓reduceIte]
  refine ecall0 _ c3 (by simp only [go_sem]) (by simp only [go_sem]) ?_
  cases g2 : wgreat t.hs
  case true =>
    rw [g1, g2] at hR
    simp (maxSteps := 4000000) -implicitDefEqProofs only [go_sem, Nat.reduceAdd, Nat.reduceSub, Nat.reduceLT, Nat.reduceLeDiff, Nat.reduceEqDiff, ↓reduceIte]
    exact wk_bool (by rw [hR]; rfl)
  simp (maxSteps := 4000000) -implicitDefEqProofs only [go_sem, Nat.reduceAdd, Nat.reduceSub, Nat.reduceLT, Nat.reduceLeDiff, Nat.reduceEqDiff, ↓reduceIte]
  refine ecall0 _ c2 (by simp only [go_sem]) (by simp only [go_sem]) ?_
  cases g3 : qgreat t.q
  case true =>
    rw [g1, g2, g3] at hR
    simp (maxSteps := 4000000) -implicitDefEqProofs only [go_sem, Nat.reduceAdd, Nat.reduceSub, Nat.reduceLT, Nat.reduceLeDiff, Nat.reduceEqDiff, ↓reduceIte]
    exact wk_bool (by rw [hR]; rfl)
  rw [g1, g2, g3] at hR
  simp (maxSteps := 4000000) -implicitDefEqProofs only [go_sem, Nat.reduceAdd, Nat.reduceSub, Nat.reduceLT, Nat.reduceLeDiff, Nat.reduceEqDiff, ↓reduceIte]
  refine wk_bool ?_
  rw [hR]
  simp only [Bool.false_or]
  rw [decide_eq_decide]; omega
theorem step_ok {t : Tr} {b : ByteArray} {tk : Int} (h : (stepR t b tk).2.2 = 0) : TOk t ∧ ∃ (i : Nat) (r : Rq) (l' : Lg), idx (isHead b) t.q = i ∧ t.q[i]? = some r ∧ r.br = b ∧ r.st = 2 ∧ known t.lg r.br r.ch = true ∧ 0 ≤ tk ∧ tk ≤ 1000000 ∧ heldH t r tk = false ∧
    stepR t b tk = (⟨l', stQ t i (outR t r), t.hs, t.cl⟩, outR t r, 0) ∧ ((outR t r = 5 ∧ appR t.lg r.br ⟨2, r.ch⟩ = (l', 0)) ∨ (outR t r ≠ 5 ∧ l' = t.lg)) := by
  unfold stepR at h ⊢
  by_cases k1 : (beginR t b tk).2 = 0
  case neg => rw [if_pos k1] at h; exact absurd h k1
  obtain ⟨o, i, r, e1, e2, hx, e3, e4, kn, q1, q2⟩ := begin_ok k1
  subst e3
  rw [if_neg (by omega), e2, Int.toNat_natCast, hx] at h ⊢
  simp only at h ⊢
  cases k2 : heldH t r tk
  case true => rw [k2] at h; cases h
  rw [k2] at h
  simp only [Bool.false_eq_true, if_false] at h ⊢
  by_cases k3 : outR t r = 5
  · rw [if_pos k3] at h ⊢
    by_cases k4 : (appR t.lg r.br ⟨2, r.ch⟩).2 = 0
    · rw [if_neg (by omega)] at h ⊢
      exact ⟨o, i, r, (appR t.lg r.br ⟨2, r.ch⟩).1, rfl, hx, rfl, e4, kn, q1, q2, k2, by rw [k3], .inl ⟨k3, by rw [← k4]⟩⟩
    · rw [if_pos k4] at h; exact absurd h k4
  · rw [if_neg k3]
    exact ⟨o, i, r, t.lg, rfl, hx, rfl, e4, kn, q1, q2, k2, rfl, .inr ⟨k3, rfl⟩⟩
theorem app_ok {l : Lg} (lo : LOk l) {b ch : ByteArray} (kn : known l b ch = true) {l' : Lg} (h : appR l b ⟨2, ch⟩ = (l', 0)) :
    ∃ i x s v c j k, Pick l b ch i x s v c j k ∧ s.length ≠ 40 ∧ inR l (preE l i ++ s) c = false ∧ l' = addE l i ⟨2, ch⟩ := by
  obtain ⟨i, x, s, v, c, j, k, p⟩ := pick_of lo kn
  have hp := p.happ
  rw [h] at hp
  by_cases h40 : s.length = 40
  · rw [if_pos h40] at hp; cases hp
  rw [if_neg h40] at hp
  by_cases hin : inR l (preE l i ++ s) c = true
  · rw [if_pos hin] at hp; cases hp
  rw [if_neg hin] at hp
  exact ⟨i, x, s, v, c, j, k, p, h40, by simpa using hin, by cases hp; rfl⟩
theorem step_fit {t : Tr} {b : ByteArray} {tk : Int} (f : TFit t) (h : (stepR t b tk).2.2 = 0) : TFit (stepR t b tk).1 := by
  obtain ⟨o, i, r, l', e1, hx, e2, e3, kn, -, -, -, es, hl⟩ := step_ok h
  rw [es]
  have hq : (stQ t i (outR t r)).length ≤ 1000 := by simp only [stQ, List.length_modify]; exact f.q
  rcases hl with ⟨-, ha⟩ | ⟨-, rfl⟩
  · obtain ⟨j, x, s, v, c, m, k, p, h40, -, rfl⟩ := app_ok o.lo kn ha
    have hs := p.a.hs
    have hgs : t.lg.ev.getD j [] = s := by rw [List.getD_eq_getElem?_getD, hs]; rfl
    refine ⟨f.k, f.b, by simp only [addE, List.length_set]; exact f.e, fun u hu => ?_, hq, f.h, f.c⟩
    rcases List.mem_or_eq_of_mem_set hu with hu | rfl
    · exact f.s u hu
    · have := o.lo.own j s hs
      rw [hgs]; simp; omega
  · exact ⟨f.k, f.b, f.e, f.s, hq, f.h, f.c⟩
end Go.AX.Tr
namespace Go.AX.Tr
open Go.Proofs Go.RowKit Go.IntWalk Go.AX.Br Go.AX.Lg Go.AX.Qu Go.AX.Wn
def itR (t : Tr) (b : ByteArray) (tk : Int) : Nat → Tr × List Int
  | 0 => (t, [])
  | k + 1 => ((stepR (itR t b tk k).1 b tk).1, (itR t b tk k).2 ++ [(stepR (itR t b tk k).1 b tk).2.1])
def runF (t : Tr) (b : ByteArray) (tk : Int) : Nat → Nat → Tr × List Int × Int
  | 0, k => ((itR t b tk k).1, (itR t b tk k).2, 0)
  | n + 1, k =>
    if (stepR (itR t b tk k).1 b tk).2.2 = 4 then ((itR t b tk k).1, (itR t b tk k).2, 4)
    else if (stepR (itR t b tk k).1 b tk).2.2 ≠ 0 then ((itR t b tk k).1, (itR t b tk k).2, 0) else runF t b tk n (k + 1)
def runR (t : Tr) (b : ByteArray) (tk n : Int) : Tr × List Int × Int :=
  if tcheck t ≠ 0 then (t0, [], tcheck t) else if idx (has b) t.lg.br < 0 then (t0, [], 6)
  else if tk < 0 ∨ 1000000 < tk ∨ n < 0 ∨ 30 < n then (t0, [], 2) else runF t b tk n.toNat 0
theorem it_len (t : Tr) (b : ByteArray) (tk : Int) : ∀ k, (itR t b tk k).2.length = k
  | 0 => rfl
  | k + 1 => by simp only [itR, List.length_append, it_len t b tk k, List.length_singleton]
theorem Run_own (t : Tr) (b : ByteArray) (tk n : Int) (f : TFit t) : Spec Tryz.prog 12 [tA t, .d (.str b), .d (.int .i64 tk), .d (.int .i64 n)] [] (.tup [tA (runR t b tk n).1, .d (.sl ((runR t b tk n).2.1.map uD)), .d (.int .i64 (runR t b tk n).2.2)]) [] := by
  have c1 := tcheck_own t f.k f.b f.e f.q f.h f.c
  have c2 := isBranch_own t b f
  have c3 := tclone_own t f
  obtain ⟨R, hR⟩ : ∃ R, R = runR t b tk n := ⟨_, rfl⟩
  rw [← hR]
  unfold runR at hR
  have zer : ∀ {e : Int} {σ : List AObj}, R = (t0, [], e) → Wk 0 [.tup [.agg [.nil, .nil, .nil, .nil, .nil, .nil], .nil, .d (.int .i64 e)]] σ [.tup [tA R.1, .d (.sl (R.2.1.map uD)), .d (.int .i64 R.2.2)]] [] := fun {e σ} h => by
    rw [h]; exact wk_dat (r' := .tup [tA t0, .d (.sl []), .d (.int .i64 e)]) (by simp only [go_sem]; rfl) rfl (by simp only [tA, tC, go_sem])
  simp only [tA, tC] at c1 c2 c3 zer ⊢
  have b1 : (!true) = false := rfl
  have b2 : (!false) = true := rfl
  refine spec_of_ev (fn := Tryz.f12) DX_ok 3000 Tryz.func12 rfl rfl (Nat.le_of_ble_eq_true rfl) ?_
  simp (maxSteps := 4000000) -implicitDefEqProofs only [Tryz.f12, go_sem, tA]
  refine ecall0 _ c1 (by simp only [go_sem]) (by simp only [go_sem]) ?_
  cases k1 : (tcheck t != 0)
  case true =>
    rw [if_pos (by simpa using k1)] at hR
    simp (maxSteps := 4000000) -implicitDefEqProofs only [go_sem, k1, Option.some.injEq, forall_eq', and_true, true_and, Bool.not_true, Bool.not_false, decide_true, Nat.reduceAdd, Nat.reduceSub, Nat.reduceLT, Nat.reduceLeDiff, Nat.reduceEqDiff, ↓reduceIte]
    exact zer hR
  rw [if_neg (by simpa using k1)] at hR
  simp (maxSteps := 4000000) -implicitDefEqProofs only [go_sem, k1, Option.some.injEq, forall_eq', and_true, true_and, Bool.not_true, Bool.not_false, decide_true, Nat.reduceAdd, Nat.reduceSub, Nat.reduceLT, Nat.reduceLeDiff, Nat.reduceEqDiff, ↓reduceIte]
  refine ecall0 _ c2 (by simp only [go_sem]) (by simp only [go_sem]) ?_
  cases k2 : decide (0 ≤ idx (has b) t.lg.br)
  case false =>
    rw [if_pos (by have := of_decide_eq_false k2; omega)] at hR
    simp (maxSteps := 4000000) -implicitDefEqProofs only [go_sem, b2, Option.some.injEq, forall_eq', and_true, true_and, Bool.not_true, Bool.not_false, decide_true, Nat.reduceAdd, Nat.reduceSub, Nat.reduceLT, Nat.reduceLeDiff, Nat.reduceEqDiff, ↓reduceIte]
    exact zer hR
  rw [if_neg (by have := of_decide_eq_true k2; omega)] at hR
  cases k3 : decide (tk < 0)
  case true =>
    rw [if_pos (.inl (of_decide_eq_true k3))] at hR
    simp (maxSteps := 4000000) -implicitDefEqProofs only [go_sem, b1, k3, Option.some.injEq, forall_eq', and_true, true_and, Bool.not_true, Bool.not_false, decide_true, Nat.reduceAdd, Nat.reduceSub, Nat.reduceLT, Nat.reduceLeDiff, Nat.reduceEqDiff, ↓reduceIte]
    exact zer hR
  cases k4 : decide (1000000 < tk)
  case true =>
    rw [if_pos (.inr (.inl (of_decide_eq_true k4)))] at hR
    simp (maxSteps := 4000000) -implicitDefEqProofs only [go_sem, b1, k3, k4, Option.some.injEq, forall_eq', and_true, true_and, Bool.not_true, Bool.not_false, decide_true, Nat.reduceAdd, Nat.reduceSub, Nat.reduceLT, Nat.reduceLeDiff, Nat.reduceEqDiff, ↓reduceIte]
    exact zer hR
  cases k5 : decide (n < 0)
  case true =>
    rw [if_pos (.inr (.inr (.inl (of_decide_eq_true k5))))] at hR
    simp (maxSteps := 4000000) -implicitDefEqProofs only [go_sem, b1, k3, k4, k5, Option.some.injEq, forall_eq', and_true, true_and, Bool.not_true, Bool.not_false, decide_true, Nat.reduceAdd, Nat.reduceSub, Nat.reduceLT, Nat.reduceLeDiff, Nat.reduceEqDiff, ↓reduceIte]
    exact zer hR
  cases k6 : decide (30 < n)
  case true =>
    rw [if_pos (.inr (.inr (.inr (of_decide_eq_true k6))))] at hR
    simp (maxSteps := 4000000) -implicitDefEqProofs only [go_sem, b1, k3, k4, k5, k6, Option.some.injEq, forall_eq', and_true, true_and, Bool.not_true, Bool.not_false, decide_true, Nat.reduceAdd, Nat.reduceSub, Nat.reduceLT, Nat.reduceLeDiff, Nat.reduceEqDiff, ↓reduceIte]
    exact zer hR
  have k3' := of_decide_eq_false k3
  have k4' := of_decide_eq_false k4
  have k5' := of_decide_eq_false k5
  have k6' := of_decide_eq_false k6
  rw [if_neg (by omega)] at hR
  obtain ⟨n, rfl⟩ : ∃ m : Nat, n = m := ⟨n.toNat, by omega⟩
  rw [Int.toNat_natCast] at hR
  simp (maxSteps := 4000000) -implicitDefEqProofs only [go_sem, b1, k3, k4, k5, k6, Option.some.injEq, forall_eq', and_true, true_and, Bool.not_true, Bool.not_false, decide_true, Nat.reduceAdd, Nat.reduceSub, Nat.reduceLT, Nat.reduceLeDiff, Nat.reduceEqDiff, ↓reduceIte]
  refine ecall0 _ c3 (by simp only [go_sem]) (by simp only [go_sem]) ?_
  simp (maxSteps := 4000000) -implicitDefEqProofs only [go_sem, Nat.reduceAdd, Nat.reduceSub, Nat.reduceLT, Nat.reduceLeDiff, Nat.reduceEqDiff, ↓reduceIte]
  refine eloop (S := Nat) (fun i => mkE 70 [(1, .d (.str b)), (2, .d (.int .i64 tk)), (4, .ptr 0 0), (8, .ptr 1 0), (12, .own 2), (44, .d (.int .i64 n)), (45, .d (.int .i64 i))]) (fun i => [tH (itR t b tk i).1, zT, .row 1 ((itR t b tk i).2.map uD)]) (fun i => i ≤ n ∧ TFit (itR t b tk i).1 ∧ R = runF t b tk (n - i) i) (fun i => n - i) 0 ⟨by omega, f, hR⟩ (Wk.trans (Wk.nil 12 1 rfl) (Wk.via [0, 1, 2] (by (simp only [go_sem, ↓reduceIte]) <;> trivial) (by first | (simp (maxSteps := 4000000) -implicitDefEqProofs only [go_sem, Nat.reduceAdd, Nat.reduceSub, Nat.reduceLT, Nat.reduceLeDiff, Nat.reduceEqDiff, ↓reduceIte]; done) | ((simp (maxSteps := 4000000) -implicitDefEqProofs only [go_sem, Nat.reduceAdd, Nat.reduceSub, Nat.reduceLT, Nat.reduceLeDiff, Nat.reduceEqDiff, ↓reduceIte]) <;> omega)) (by simp) (by first | (simp; done) | (simp [so]; done)) (by (simp (maxSteps := 4000000) -implicitDefEqProofs only [go_sem, Nat.reduceAdd, Nat.reduceSub, Nat.reduceLT, Nat.reduceLeDiff, Nat.reduceEqDiff, ↓reduceIte]) <;> trivial) (by first | (simp only [go_sem]; done) | ((simp (maxSteps := 4000000) -implicitDefEqProofs only [go_sem, Nat.reduceAdd, Nat.reduceSub, Nat.reduceLT, Nat.reduceLeDiff, Nat.reduceEqDiff, ↓reduceIte]) <;> omega)) (Nat.zero_le _) (fun i h => absurd h (Nat.not_lt_zero i)))) ?_
  rintro i ⟨hi, hf, hRi⟩
  have ol := it_len t b tk i
  have fin : R = ((itR t b tk i).1, (itR t b tk i).2, 0) → ∀ {σ : List AObj}, ob σ 2 = .row 1 ((itR t b tk i).2.map uD) → Wk 0 [.tup [.agg (tC (itR t b tk i).1), .own 2, .d (.int .i64 0)]] σ [.tup [.agg (tC R.1), .d (.sl (R.2.1.map uD)), .d (.int .i64 R.2.2)]] [] := fun h σ hσ => by
    rw [h]; exact wk_dat (r' := .tup [tA (itR t b tk i).1, .d (.sl ((itR t b tk i).2.map uD)), .d (.int .i64 0)]) (by simp only [go_sem, hσ]; rfl) rfl (by simp only [tA, tC, go_sem])
  have fin4 : R = ((itR t b tk i).1, (itR t b tk i).2, 4) → ∀ {σ : List AObj}, ob σ 2 = .row 1 ((itR t b tk i).2.map uD) → Wk 0 [.tup [.agg (tC (itR t b tk i).1), .own 2, .d (.int .i64 4)]] σ [.tup [.agg (tC R.1), .d (.sl (R.2.1.map uD)), .d (.int .i64 R.2.2)]] [] := fun h σ hσ => by
    rw [h]; exact wk_dat (r' := .tup [tA (itR t b tk i).1, .d (.sl ((itR t b tk i).2.map uD)), .d (.int .i64 4)]) (by simp only [go_sem, hσ]; rfl) rfl (by simp only [tA, tC, go_sem])
  simp only [tC] at fin fin4
  rcases Nat.lt_or_ge i n with h2 | h2
  case inr =>
    have f1 : decide ((i : Int) < n) = false := by simp; omega
    rw [show n - i = 0 by omega] at hRi
    simp (maxSteps := 4000000) -implicitDefEqProofs only [go_sem, f1, Option.some.injEq, forall_eq', and_true, true_and, Bool.not_true, Bool.not_false, decide_true, Nat.reduceAdd, Nat.reduceSub, Nat.reduceLT, Nat.reduceLeDiff, Nat.reduceEqDiff, ↓reduceIte]
    exact fin hRi rfl
  have f1 : decide ((i : Int) < n) = true := by simp; omega
  obtain ⟨m, hm⟩ : ∃ m, n - i = m + 1 := ⟨n - i - 1, by omega⟩
  have hm2 : n - (i + 1) = m := by omega
  rw [hm, runF] at hRi
  have cs := Step_own (itR t b tk i).1 b tk hf
  have sf := step_fit (b := b) (tk := tk) hf
  have w1 : IntKind.i64.wrap ((i : Int) + 1) = ((i + 1 : Nat) : Int) := by rw [i64_in _ (by omega)]; simp
  have it1 : itR t b tk (i + 1) = ((stepR (itR t b tk i).1 b tk).1, (itR t b tk i).2 ++ [(stepR (itR t b tk i).1 b tk).2.1]) := rfl
  obtain ⟨S, hS⟩ : ∃ S, S = stepR (itR t b tk i).1 b tk := ⟨_, rfl⟩
  rw [← hS] at cs it1 sf
  simp only [← hS] at hRi
  simp only [tA, tC] at cs
  simp (maxSteps := 4000000) -implicitDefEqProofs only [go_sem, f1, Option.some.injEq, forall_eq', and_true, true_and, Bool.not_true, Bool.not_false, decide_true, Nat.reduceAdd, Nat.reduceSub, Nat.reduceLT, Nat.reduceLeDiff, Nat.reduceEqDiff, ↓reduceIte]
  refine ecall0 _ cs (by simp only [go_sem]) (by simp only [go_sem]) ?_
  by_cases e4 : S.2.2 = 4
  · have d4 : ((4 : Int) == 4) = true := rfl
    rw [if_pos e4] at hRi
    rw [e4]
    simp (maxSteps := 4000000) -implicitDefEqProofs only [go_sem, d4, Option.some.injEq, forall_eq', and_true, true_and, Bool.not_true, Bool.not_false, decide_true, Nat.reduceAdd, Nat.reduceSub, Nat.reduceLT, Nat.reduceLeDiff, Nat.reduceEqDiff, ↓reduceIte]
    exact fin4 hRi rfl
  have d4 : (S.2.2 == 4) = false := by simp [e4]
  rw [if_neg e4] at hRi
  by_cases e0 : S.2.2 = 0
  case neg =>
    have d0 : (S.2.2 != 0) = true := by simp [e0]
    rw [if_pos e0] at hRi
    simp (maxSteps := 4000000) -implicitDefEqProofs only [go_sem, d4, d0, Option.some.injEq, forall_eq', and_true, true_and, Bool.not_true, Bool.not_false, decide_true, Nat.reduceAdd, Nat.reduceSub, Nat.reduceLT, Nat.reduceLeDiff, Nat.reduceEqDiff, ↓reduceIte]
    exact fin hRi rfl
  have d0 : (S.2.2 != 0) = false := by simp [e0]
  rw [if_neg (by omega)] at hRi
  have e3 : (itR t b tk i).2.map uD ++ [[D.int .u8 S.2.1]] = (itR t b tk (i + 1)).2.map uD := by rw [it1]; simp [uD]
  simp (maxSteps := 4000000) -implicitDefEqProofs only [go_sem, d4, d0, Option.some.injEq, forall_eq', and_true, true_and, Bool.not_true, Bool.not_false, decide_true, Nat.reduceAdd, Nat.reduceSub, Nat.reduceLT, Nat.reduceLeDiff, Nat.reduceEqDiff, ↓reduceIte]
  refine DX.plain (.take 0 true (.take 1 true (.take 2 false (.run [3] (fun _ => [true, true]) fun _ => (.run [4] (fun _ => [false, true]) fun _ => (.run [5] (fun _ => [false]) fun _ => (.take 6 false .done))))))) (by kernel_rfl) (by kernel_rfl) Ty.mixed ?_
  simp (maxSteps := 4000000) -implicitDefEqProofs only [go_sem, ol, Option.some.injEq, forall_eq', and_true, true_and, Bool.not_true, Bool.not_false, decide_true, Nat.reduceAdd, Nat.reduceSub, Nat.reduceLT, Nat.reduceLeDiff, Nat.reduceEqDiff, ↓reduceIte]
  refine ⟨⟨fun e he => by simp at he; subst he; rfl, by omega, by omega⟩, ?_⟩
  rw [e3]
  simp (maxSteps := 4000000) -implicitDefEqProofs only [go_sem, w1, Option.some.injEq, forall_eq', and_true, true_and, Bool.not_true, Bool.not_false, decide_true, Nat.reduceAdd, Nat.reduceSub, Nat.reduceLT, Nat.reduceLeDiff, Nat.reduceEqDiff, ↓reduceIte]
  exact .mk (i + 1) ⟨by omega, by rw [it1]; exact sf e0, by rw [hm2]; exact hRi⟩ (by omega) (by simp only [it1, tH, tC]; exact (Wk.via [0, 1, 5] (by (simp only [go_sem, ↓reduceIte]) <;> trivial) (by first | (simp (maxSteps := 4000000) -implicitDefEqProofs only [go_sem, Nat.reduceAdd, Nat.reduceSub, Nat.reduceLT, Nat.reduceLeDiff, Nat.reduceEqDiff, ↓reduceIte]; done) | ((simp (maxSteps := 4000000) -implicitDefEqProofs only [go_sem, Nat.reduceAdd, Nat.reduceSub, Nat.reduceLT, Nat.reduceLeDiff, Nat.reduceEqDiff, ↓reduceIte]) <;> omega)) (by simp) (by first | (simp; done) | (simp [so]; done)) (by (simp (maxSteps := 4000000) -implicitDefEqProofs only [go_sem, Nat.reduceAdd, Nat.reduceSub, Nat.reduceLT, Nat.reduceLeDiff, Nat.reduceEqDiff, ↓reduceIte]) <;> trivial) (by first | (simp only [go_sem]; done) | ((simp (maxSteps := 4000000) -implicitDefEqProofs only [go_sem, Nat.reduceAdd, Nat.reduceSub, Nat.reduceLT, Nat.reduceLeDiff, Nat.reduceEqDiff, ↓reduceIte]) <;> omega)) (Nat.zero_le _) (fun i h => absurd h (Nat.not_lt_zero i))))
end Go.AX.Tr

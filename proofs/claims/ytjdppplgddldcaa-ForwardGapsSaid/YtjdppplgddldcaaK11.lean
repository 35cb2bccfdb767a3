/- Forward: the program's gaps. -/
import Derived.Test.YtjdppplgddldcaaK10
set_option maxHeartbeats 8000000
set_option linter.unusedVariables false
set_option linter.unusedSimpArgs false
set_option maxRecDepth 20000
namespace Go.AX.Fw
open Go.Proofs Go.RowKit Go.IntWalk Go.AX.Br Go.AX.Lg
theorem gH_so_pre {pre post : List AObj} {o : List ByteArray} {G : Gr} {c l : Nat} {x : AObj} (h : l < pre.length) : so (gH pre o G c post) l x = gH (so pre l x) o G c post := by
  rw [so_eq, so_eq]
  unfold gH
  rw [List.set_append, if_pos h, List.length_set]
theorem gH_setp {pre post : List AObj} {o : List ByteArray} {G : Gr} {c j : Nat} {x : AObj} : (gH pre o G c post).set (pre.length + 1 + c + j) x = gH pre o G c (post.set j x) := by
  unfold gH
  have e : (rowsL G o.length c).length = c := by simp [rowsL]
  rw [List.set_append, if_neg (by omega), show pre.length + 1 + c + j - pre.length = (c + j) + 1 by omega, List.set_cons_succ, List.set_append, if_neg (by omega), e, show c + j - c = j by omega]
theorem gH_getp {pre post : List AObj} {o : List ByteArray} {G : Gr} {c j : Nat} : (gH pre o G c post)[pre.length + 1 + c + j]? = post[j]? := by
  have e : (rowsL G o.length c).length = c := by simp [rowsL]
  rw [gH, List.getElem?_append_right (by omega), show pre.length + 1 + c + j - pre.length = (c + j) + 1 by omega, List.getElem?_cons_succ, List.getElem?_append_right (by omega), e, show c + j - c = j by omega]
/-- the blocks behind the grid, round by round -/
def dG : Nat → Nat
  | 0 => 0
  | i + 1 => 3 + 2 * i + 1
def pG (rc bx : AObj) (L : Nat → AObj) : Nat → List AObj
  | 0 => [L 0, bx, rc]
  | i + 1 => (pG rc bx L i).set (dG i) .gone ++ [.gone, L (i + 1)]
section
variable {rc bx : AObj} {L : Nat → AObj}
theorem pG_len : ∀ i, (pG rc bx L i).length = 3 + 2 * i
  | 0 => rfl
  | i + 1 => by rw [pG, List.length_append, List.length_set, pG_len i]; simp; omega
theorem pG_d : ∀ i, (pG rc bx L i)[dG i]? = some (L i)
  | 0 => rfl
  | i + 1 => by
    rw [pG, dG, List.getElem?_append_right (by rw [List.length_set, pG_len]; omega), List.length_set, pG_len, show 3 + 2 * i + 1 - (3 + 2 * i) = 1 by omega]; rfl
theorem dG_ne : ∀ i, dG i ≠ 2 ∧ dG i ≠ 1
  | 0 => by simp [dG]
  | i + 1 => by simp only [dG]; omega
theorem dG_lt : ∀ i, dG i < 3 + 2 * i
  | 0 => by simp [dG]
  | i + 1 => by simp only [dG]; omega
theorem pG_2 : ∀ i, (pG rc bx L i)[2]? = some rc
  | 0 => rfl
  | i + 1 => by rw [pG, List.getElem?_append_left (by rw [List.length_set, pG_len]; omega), List.getElem?_set_ne (dG_ne i).1, pG_2 i]
theorem pG_1 : ∀ i, (pG rc bx L i)[1]? = some bx
  | 0 => rfl
  | i + 1 => by rw [pG, List.getElem?_append_left (by rw [List.length_set, pG_len]; omega), List.getElem?_set_ne (dG_ne i).2, pG_1 i]
theorem pG_set {rc' : AObj} : ∀ i, (pG rc bx L i).set 2 rc' = pG rc' bx L i
  | 0 => rfl
  | i + 1 => by rw [pG, pG, List.set_append, if_pos (by rw [List.length_set, pG_len]; omega), List.set_comm _ _ (dG_ne i).1, pG_set i]
end
theorem take_gap {G : Gr} {n i c b : Nat} (h : (gapsL G n)[i]? = some (c, b)) : (gapsL G n).take (i + 1) = (gapsL G n).take i ++ [(c, b)] := by rw [List.take_add_one, h]; rfl
theorem gap_in {G : Gr} {n i c b : Nat} (h : (gapsL G n)[i]? = some (c, b)) : c < 30 ∧ b < n ∧ gapP G c b = true := by
  have := List.mem_of_getElem? h
  unfold gapsL clsG tagC at this
  obtain ⟨c', h1, h2⟩ := List.mem_flatMap.1 this
  obtain ⟨b', h3, h4⟩ := List.mem_map.1 h2
  cases h4
  rw [List.mem_filter] at h3
  exact ⟨List.mem_range.1 h1, by simpa using h3.1, h3.2⟩
def argG (G : Gr) (n i : Nat) : List AV := match (gapsL G n)[i]? with
  | some x => [.d (.int .i64 (x.1 : Int)), .d (.int .i64 (x.2 : Int))]
  | none => []
theorem Gaps_own (l : Lg) (o : List ByteArray) (hk : l.kn.length ≤ 1000) (hb : l.br.length ≤ 1000) (he : l.ev.length ≤ 1000) (ho : o.length ≤ 1000) :
    Spec Try.prog 15 [lA l, .d (.sl (o.map sD))] [] (.tup [.d (.sl ((gpsR l o).1.map stD)), .d (.int .i64 (gpsR l o).2)]) [] := by
  have c1 := fcheck_own l o hk hb he ho
  have c3 := look_own l o hk hb he ho
  obtain ⟨R, hR⟩ : ∃ R, R = gpsR l o := ⟨_, rfl⟩
  rw [← hR]
  unfold gpsR at hR
  simp only [lA] at c1 c3
  refine spec_of_ev (fn := Try.f15) DX_ok 3000 Try.func15 rfl rfl (Nat.le_of_ble_eq_true rfl) ?_
  simp (maxSteps := 4000000) -implicitDefEqProofs only [Try.f15, go_sem, lA]
  refine ecall0 _ c1 (by simp only [go_sem]) (by simp only [go_sem]) ?_
  cases k1 : (fcheck l o != 0)
  case true =>
    rw [if_pos (by simpa using k1)] at hR
    simp (maxSteps := 4000000) -implicitDefEqProofs only [go_sem, k1, Option.some.injEq, forall_eq', and_true, true_and, Bool.not_true, Bool.not_false, decide_true, Nat.reduceAdd, Nat.reduceSub, Nat.reduceLT, Nat.reduceLeDiff, Nat.reduceEqDiff, ↓reduceIte]
    rw [hR]
    exact Wk.dataZ (τ := _) (by simp only [go_sem, List.map_nil]; rfl) (by simp only [go_sem])
  have ok := fok_of (l := l) (o := o) (by simpa using k1)
  rw [if_neg (by simpa using k1)] at hR
  have h8 := ok.len
  have hpos := ok.pos
  obtain ⟨G, hG⟩ : ∃ G, G = gridG l o := ⟨_, rfl⟩
  rw [← hG] at hR c3
  simp (maxSteps := 4000000) -implicitDefEqProofs only [go_sem, k1, Option.some.injEq, forall_eq', and_true, true_and, Bool.not_true, Bool.not_false, decide_true, Nat.reduceAdd, Nat.reduceSub, Nat.reduceLT, Nat.reduceLeDiff, Nat.reduceEqDiff, ↓reduceIte]
  refine ecallN _ _ c3 (by simp only [go_sem]) ?_
  obtain ⟨X, hX⟩ : ∃ X, X = AObj.cells [.d (.sl (l.kn.map kD)), .d (.sl (l.br.map bD)), .d (.sl (l.ev.map esD))] := ⟨_, rfl⟩
  obtain ⟨Y, hY⟩ : ∃ Y, Y = AObj.cells [.d (.sl (o.map sD))] := ⟨_, rfl⟩
  rw [← hX, ← hY]
  have sh := gH_shift [X, Y, .cells [.nil]] o G 30
  simp only [List.cons_append, List.nil_append, List.length_cons, List.length_nil, Nat.zero_add, Nat.reduceAdd] at sh
  simp (maxSteps := 4000000) -implicitDefEqProofs only [go_sem, sh, Option.some.injEq, forall_eq', and_true, true_and, Bool.not_true, Bool.not_false, decide_true, Nat.reduceAdd, Nat.reduceSub, Nat.reduceLT, Nat.reduceLeDiff, Nat.reduceEqDiff, ↓reduceIte]
  have ln := gH_len (pre := [X, Y, .cells [.nil], .gone]) (o := o) (G := G) (c := 30) (post := [])
  refine .wk rfl (Wk.nilC 2 0 3 (cs := [.nil]) (gH_pre (by simp)) rfl) ?_
  rw [ln, gH_app, List.nil_append, gH_so_pre (by simp), show so [X, Y, .cells [.nil], .gone] 2 (.cells (st [.nil] 0 (.own ([X, Y, .cells [.nil], AObj.gone].length + 1 + 30 + ([] : List AObj).length)))) = [X, Y, .cells [.own 35], .gone] from rfl]
  refine .all _ _ (gaps_own _ 4) ?_
  rw [gH_len, gH_app]
  simp (maxSteps := 4000000) -implicitDefEqProofs only [go_sem, Nat.reduceAdd, Nat.reduceSub, Nat.reduceLT, Nat.reduceLeDiff, Nat.reduceEqDiff, ↓reduceIte]
  obtain ⟨n, hn⟩ : ∃ n, n = (gapsL G o.length).length := ⟨_, rfl⟩
  have hσ : (gH [X, Y, .cells [.own 35], .gone] o G 30 [AObj.row 3 [], .cells [.ptr 4 0]]).length = 37 := by rw [gH_len]; rfl
  obtain ⟨bx, hbx⟩ : ∃ bx, bx = AObj.cells [.ptr 4 0] := ⟨_, rfl⟩
  obtain ⟨L, hL⟩ : ∃ L : Nat → AObj, L = fun i => .row 3 (stL o ((gapsL G o.length).take i)) := ⟨_, rfl⟩
  have g2 : ∀ (d : Nat) (post : List AObj), (gH [X, Y, .cells [.own d], .gone] o G 30 post)[37]? = post[2]? := fun d post => gH_getp (pre := [X, Y, .cells [.own d], .gone]) (j := 2)
  have t2 : ∀ (d : Nat) (post : List AObj) (x : AObj), (gH [X, Y, .cells [.own d], .gone] o G 30 post).set 37 x = gH [X, Y, .cells [.own d], .gone] o G 30 (post.set 2 x) := fun d post x => gH_setp (pre := [X, Y, .cells [.own d], .gone]) (j := 2)
  have gj : ∀ (d j : Nat) (post : List AObj), ob (gH [X, Y, .cells [.own d], .gone] o G 30 post) (35 + j) = ob post j := fun d j post => gH_post (pre := [X, Y, .cells [.own d], .gone])
  have sj : ∀ (d j : Nat) (post : List AObj) (x : AObj), so (gH [X, Y, .cells [.own d], .gone] o G 30 post) (35 + j) x = gH [X, Y, .cells [.own d], .gone] o G 30 (post.set j x) := fun d j post x => by rw [so_eq]; exact gH_setp (pre := [X, Y, .cells [.own d], .gone])
  have o2 : ∀ (d : Nat) (post : List AObj), ob (gH [X, Y, .cells [.own d], .gone] o G 30 post) 2 = .cells [.own d] := fun d post => gH_pre (by simp)
  have o1 : ∀ (d : Nat) (post : List AObj), ob (gH [X, Y, .cells [.own d], .gone] o G 30 post) 1 = .cells [.d (.sl (o.map sD))] := fun d post => by rw [gH_pre (by simp), hY]; rfl
  have s2 : ∀ (d : Nat) (post : List AObj) (y : AV), so (gH [X, Y, .cells [.own d], .gone] o G 30 post) 2 (.cells [y]) = gH [X, Y, .cells [y], .gone] o G 30 post := fun d post y => gH_so_pre (by simp)
  have lx : ∀ (d : Nat) (post : List AObj), (gH [X, Y, .cells [.own d], .gone] o G 30 post).length = 35 + post.length := fun d post => by rw [gH_len]; rfl
  have app : ∀ (d : Nat) (post x : List AObj), gH [X, Y, .cells [.own d], .gone] o G 30 post ++ x = gH [X, Y, .cells [.own d], .gone] o G 30 (post ++ x) := fun d post x => gH_app x
  refine ⟨rfl, _, _, rfl, ⟨_, Try.func57, rfl, rfl⟩, fun L0 rec => ?_⟩
  rw [hσ]
  refine ⟨n, fun _ => True, argG G o.length, fun i => gH [X, Y, .cells [.own (35 + dG i)], .gone] o G 30 (pG (rcd L0 rec .ready none) bx L i), fun _ _ => False, trivial, ?_, ?_, ?_, ?_, fun _ _ h => h.elim⟩
  · show gH [X, Y, .cells [.own (35 + dG 0)], .gone] o G 30 (pG (rcd L0 rec .ready none) bx L 0) = _
    rw [gH_app, hL, hbx]; rfl
  · intro i hi _
    obtain ⟨⟨c, b⟩, hx⟩ : ∃ x, (gapsL G o.length)[i]? = some x := ⟨(gapsL G o.length)[i]'(by omega), List.getElem?_eq_getElem _⟩
    obtain ⟨hc, hbn, _⟩ := gap_in hx
    obtain ⟨x, hxo⟩ : ∃ x, o[b]? = some x := ⟨o[b]'hbn, List.getElem?_eq_getElem _⟩
    have tk := take_gap hx
    have ha : argG G o.length i = [.d (.int .i64 (c : Int)), .d (.int .i64 (b : Int))] := by rw [argG, hx]
    refine ⟨by rw [ha]; rfl, by rw [g2]; exact pG_2 i, mkE 32 [(3, .ptr 1 0), (7, .ptr 2 0), (8, .d (.int .i64 c)), (9, .d (.int .i64 b))], gH [X, Y, .cells [.own (35 + dG i)], .gone] o G 30 (pG (rcd L0 rec .ready none) bx L i), by rw [g2]; exact pG_2 i, round_of_ev DX_ok 3000 ?_, round_of_ev DX_ok 3000 ?_⟩
    · rw [ha]
      simp (maxSteps := 4000000) -implicitDefEqProofs only [go_sem, Nat.reduceAdd, Nat.reduceSub, Nat.reduceLT, Nat.reduceLeDiff, Nat.reduceEqDiff, ↓reduceIte]
      exact (Wk.sub (by (simp only [go_sem]) <;> trivial))
    · rw [t2, pG_set, lx, pG_len]
      have pl := pG_len (rc := rcd L0 rec .busy none) (bx := bx) (L := L) i
      have pd := pG_d (rc := rcd L0 rec .busy none) (bx := bx) (L := L) i
      have dl := dG_lt i
      obtain ⟨P, hP⟩ : ∃ P, P = pG (rcd L0 rec .busy none) bx L i := ⟨_, rfl⟩
      rw [← hP] at pl pd ⊢
      obtain ⟨d, hd⟩ : ∃ d, d = dG i := ⟨_, rfl⟩
      rw [← hd] at pd dl ⊢
      have od : ∀ q, ob (P ++ q) d = .row 3 (stL o ((gapsL G o.length).take i)) := fun q => by rw [ob_eq, List.getElem?_append_left (by omega), pd, hL]; rfl
      have od0 : ob P d = .row 3 (stL o ((gapsL G o.length).take i)) := by rw [ob_eq, pd, hL]; rfl
      have oK : ∀ q, ob (P ++ [q]) P.length = q := fun q => by rw [ob_eq, List.getElem?_append_right (Nat.le_refl _), Nat.sub_self]; rfl
      have sd : ∀ q z, (P ++ q).set d z = P.set d z ++ q := fun q z => by rw [List.set_append, if_pos (by omega)]
      have sa := stL_app (o := o) (l := (gapsL G o.length).take i) (c := c) hxo
      rw [← tk] at sa
      have sl := stL_len (o := o) (l := (gapsL G o.length).take i)
      have se := stL_el (o := o) (l := (gapsL G o.length).take i)
      have tl : ((gapsL G o.length).take i).length = i := by rw [List.length_take]; omega
      have n1 : (0 ≤ (b : Int) ∧ (b : Int) < o.length) = True := eq_true (by omega)
      have n2 : (b < o.length) = True := eq_true hbn
      have gl := gapsL_len G o.length
      have g1 : ((i + 1) * 40 ≤ 140737488355328 ∧ i ≤ 9223372036854775806) = True := eq_true (by omega)
      simp (maxSteps := 4000000) -implicitDefEqProofs only [go_sem, Nat.reduceAdd, Nat.reduceSub, Nat.reduceLT, Nat.reduceLeDiff, Nat.reduceEqDiff, ↓reduceIte]
      refine DX.plain (.take 0 true (.take 1 false (.take 2 false (.take 3 false (.take 4 false (.take 5 false (.take 6 false (.run [7] (fun _ => [true]) fun _ => (.run [8] (fun _ => [false]) fun _ => (.run [9] (fun _ => []) fun _ => .done)))))))))) (by kernel_rfl) (by kernel_rfl) Ty.mixed ?_
      simp (maxSteps := 4000000) -implicitDefEqProofs only [go_sem, n1, n2, hxo, o1, o2, gj, sj, s2, lx, app, od, od0, oK, sd, sa, sl, se, tl, Option.some.injEq, forall_eq', and_true, true_and, Bool.not_true, Bool.not_false, decide_true, Nat.reduceAdd, Nat.reduceSub, Nat.reduceLT, Nat.reduceLeDiff, Nat.reduceEqDiff, ↓reduceIte]
      have ln2 : ∀ r : AObj, (P ++ [r]).length = dG (i + 1) := fun r => by rw [List.length_append, pl]; rfl
      have hpn : ∀ r : AObj, ((P.set d .gone ++ [r]) ++ [L (i + 1)]).set P.length .gone = pG (rcd L0 rec .busy none) bx L (i + 1) := fun r => by
        rw [pG, ← hP, ← hd, List.append_assoc, List.set_append, if_neg (by rw [List.length_set]; omega), List.length_set, Nat.sub_self]; rfl
      refine ⟨by omega, ⟨by simp, by omega, by omega⟩, mkE 32 [], gH [X, Y, .cells [.own (35 + dG (i + 1))], .gone] o G 30 (pG (rcd L0 rec .busy none) bx L (i + 1)), ?_, by rw [g2]; exact pG_2 _, by rw [t2, pG_set]⟩
      rw [ln2]
      refine Wk.trans (Wk.dropL (35 + P.length)) ?_
      rw [← so_eq, sj, show AObj.row 3 (stL o ((gapsL G o.length).take (i + 1))) = L (i + 1) by rw [hL], hpn]
      exact (Wk.sub (by (simp only [go_sem]) <;> trivial))
  · have := gaps_it o G (fun _ => G) L0 36 4 (fun _ => True) (argG G o.length) (fun i => gH [X, Y, .cells [.own (35 + dG i)], .gone] o G 30 (pG (rcd L0 rec .ready none) bx L i)) (fun _ _ => False) ho hpos trivial (fun _ _ _ => .inl rfl)
      (fun i _ => by rw [show (36 : Nat) = 35 + 1 from rfl, gj, ob_eq, pG_1, hbx]; rfl) (fun i _ => gH_g (pre := [X, Y, .cells [.own (35 + dG i)], .gone])) (fun i _ c hc => gH_r (pre := [X, Y, .cells [.own (35 + dG i)], .gone]) hc)
      (fun i c b h => by rw [argG, h]) (fun i _ => by rw [lx, lx, pG_len, pG_len]; omega)
    rw [← hn] at this
    exact this
  · intro _
    refine ⟨by rw [g2]; exact pG_2 n, ?_⟩
    rw [t2, pG_set]
    have pd := pG_d (rc := .gone) (bx := bx) (L := L) n
    have od : ob (pG .gone bx L n) (dG n) = .row 3 (stL o (gapsL G o.length)) := by rw [ob_eq, pd, hL]; show AObj.row 3 (stL o (List.take n _)) = _; rw [hn, List.take_length]
    simp (maxSteps := 4000000) -implicitDefEqProofs only [go_sem, o2, Option.some.injEq, forall_eq', and_true, true_and, Bool.not_true, Bool.not_false, decide_true, Nat.reduceAdd, Nat.reduceSub, Nat.reduceLT, Nat.reduceLeDiff, Nat.reduceEqDiff, ↓reduceIte]
    rw [hR]
    exact Wk.dataZ (τ := _) (by simp only [go_sem, gj, od, stL, gapsS]; rfl) (by simp only [go_sem])
end Go.AX.Fw
/- Forward: plans: the program's side. -/
set_option maxHeartbeats 8000000
set_option linter.unusedVariables false
set_option linter.unusedSimpArgs false
set_option maxRecDepth 20000
namespace Go.AX.Fw
open Go.Proofs Go.RowKit Go.IntWalk Go.AX.Br Go.AX.Lg
def lastT (g : Nat → Bool) : Nat → Nat
  | 0 => 0
  | k + 1 => if g k then k else lastT g k
def fillN (G : Gr) (l : List (Nat × Nat)) : Gr := l.foldl (fun g x => upd g x.1 x.2) G
def fill (G : Gr) (n i : Nat) : Gr := fillN G ((gapsL G n).take i)
def nameAt (o : List ByteArray) (i : Nat) : ByteArray := (o[i]?).getD ByteArray.empty
def stP (o : List ByteArray) (G : Gr) (j : Nat) : St := match (gapsL G o.length)[j]? with
  | some x => ⟨x.1, nameAt o (lastT (fill G o.length j x.1) o.length), nameAt o x.2⟩
  | none => ⟨0, ByteArray.empty, ByteArray.empty⟩
def planS (o : List ByteArray) (G : Gr) : List St := (List.range (gapsL G o.length).length).map (stP o G)
def plD (o : List ByteArray) (G : Gr) (i : Nat) : List (List D) := ((List.range i).map (stP o G)).map stD
section
variable {G : Gr} {n i c b : Nat}
theorem fill_0 : fill G n 0 = G := by simp [fill, fillN]
theorem fill_succ (h : (gapsL G n)[i]? = some (c, b)) : fill G n (i + 1) = upd (fill G n i) c b := by
  unfold fill fillN
  rw [take_gap h, List.foldl_append]; rfl
theorem fillN_or : ∀ (l : List (Nat × Nat)) (G : Gr), fillN G l c b = G c b ∨ (c, b) ∈ l
  | [], G => .inl rfl
  | (c', b') :: l, G => by
    rcases fillN_or l (upd G c' b') with h | h
    · by_cases e : c = c' ∧ b = b'
      · exact .inr (by simp [e.1, e.2])
      · left
        show fillN (upd G c' b') l c b = _
        rw [h]; simp only [upd, if_neg e]
    · exact .inr (by simp [h])
theorem fill_or : fill G n i c b = G c b ∨ ∃ j, j < i ∧ (gapsL G n)[j]? = some (c, b) := by
  rcases fillN_or (c := c) (b := b) ((gapsL G n).take i) G with h | h
  · exact .inl h
  · right
    obtain ⟨j, hj⟩ := List.mem_iff_getElem?.1 h
    have hl := some_lt hj
    rw [List.length_take] at hl
    exact ⟨j, by omega, by rw [List.getElem?_take_of_lt (by omega)] at hj; exact hj⟩
theorem upd_mono {G : Gr} {c b c' b' : Nat} (h : G c b = true) : upd G c' b' c b = true := by
  unfold upd
  split
  · rfl
  · exact h
theorem fillN_mono : ∀ (l : List (Nat × Nat)) (G : Gr), G c b = true → fillN G l c b = true
  | [], _, h => h
  | (c', b') :: l, G, h => fillN_mono l (upd G c' b') (upd_mono h)
theorem fill_mono (h : G c b = true) : fill G n i c b = true := fillN_mono _ _ h
theorem gap_older (h : gapP G c b = true) : ∃ w, w < b ∧ G c w = true := by
  unfold gapP at h
  rw [Bool.and_eq_true] at h
  obtain ⟨w, h1, h2⟩ := List.any_eq_true.1 h.1
  exact ⟨w, List.mem_range.1 h1, h2⟩
end
theorem nameAt_of {o : List ByteArray} {i : Nat} {x : ByteArray} (h : o[i]? = some x) : nameAt o i = x := by simp [nameAt, h]
theorem plD_len {o : List ByteArray} {G : Gr} {i : Nat} : (plD o G i).length = i := by simp [plD]
theorem plD_el {o : List ByteArray} {G : Gr} {i : Nat} : (∀ e ∈ plD o G i, e.length = 3) = True := eq_true (map_len (g := stD) fun _ => rfl)
theorem plD_app {o : List ByteArray} {G : Gr} {i c b : Nat} {x y : ByteArray} (h : (gapsL G o.length)[i]? = some (c, b)) (hy : o[lastT (fill G o.length i c) o.length]? = some y) (hx : o[b]? = some x) : plD o G i ++ [[.int .i64 c, .str y, .str x]] = plD o G (i + 1) := by
  unfold plD
  rw [List.range_succ, List.map_append, List.map_append]
  congr 1
  simp only [List.map_cons, List.map_nil, stP, h, stD, nameAt_of hx, nameAt_of hy]
theorem planS_D (o : List ByteArray) (G : Gr) : plD o G (gapsL G o.length).length = (planS o G).map stD := rfl
/-- Plan -/
def plnR (l : Lg) (o : List ByteArray) : List St × Int := if fcheck l o ≠ 0 then ([], fcheck l o) else (planS o (gridG l o), 0)
theorem Plan_own (l : Lg) (o : List ByteArray) (hk : l.kn.length ≤ 1000) (hb : l.br.length ≤ 1000) (he : l.ev.length ≤ 1000) (ho : o.length ≤ 1000) :
    Spec Try.prog 19 [lA l, .d (.sl (o.map sD))] [] (.tup [.d (.sl ((plnR l o).1.map stD)), .d (.int .i64 (plnR l o).2)]) [] := by
  have c1 := fcheck_own l o hk hb he ho
  have c3 := look_own l o hk hb he ho
  obtain ⟨R, hR⟩ : ∃ R, R = plnR l o := ⟨_, rfl⟩
  rw [← hR]
  unfold plnR at hR
  simp only [lA] at c1 c3
  refine spec_of_ev (fn := Try.f19) DX_ok 3000 Try.func19 rfl rfl (Nat.le_of_ble_eq_true rfl) ?_
  simp (maxSteps := 4000000) -implicitDefEqProofs only [Try.f19, go_sem, lA]
  refine ecall0 _ c1 (by simp only [go_sem]) (by simp only [go_sem]) ?_
  cases k1 : (fcheck l o != 0)
  case true =>
    rw [if_pos (by simpa using k1)] at hR
    simp (maxSteps := 4000000) -implicitDefEqProofs only [go_sem, k1, Option.some.injEq, forall_eq', and_true, true_and, Bool.not_true, Bool.not_false, decide_true, Nat.reduceAdd, Nat.reduceSub, Nat.reduceLT, Nat.reduceLeDiff, Nat.reduceEqDiff, ↓reduceIte]
    rw [hR]
    exact Wk.dataZ (τ := _) (by simp only [go_sem, List.map_nil]; rfl) (by simp only [go_sem])
  have ok := fok_of (l := l) (o := o) (by simpa using k1)
  rw [if_neg (by simpa using k1)] at hR
  have h8 := ok.len
  have hpos := ok.pos
  obtain ⟨G, hG⟩ : ∃ G, G = gridG l o := ⟨_, rfl⟩
  rw [← hG] at hR c3
  simp (maxSteps := 4000000) -implicitDefEqProofs only [go_sem, k1, Option.some.injEq, forall_eq', and_true, true_and, Bool.not_true, Bool.not_false, decide_true, Nat.reduceAdd, Nat.reduceSub, Nat.reduceLT, Nat.reduceLeDiff, Nat.reduceEqDiff, ↓reduceIte]
  refine ecallN _ _ c3 (by simp only [go_sem]) ?_
  obtain ⟨X, hX⟩ : ∃ X, X = AObj.cells [.d (.sl (l.kn.map kD)), .d (.sl (l.br.map bD)), .d (.sl (l.ev.map esD))] := ⟨_, rfl⟩
  obtain ⟨Y, hY⟩ : ∃ Y, Y = AObj.cells [.d (.sl (o.map sD))] := ⟨_, rfl⟩
  rw [← hX, ← hY]
  have sh := gH_shift [X, Y] o G 30
  simp only [List.cons_append, List.nil_append, List.length_cons, List.length_nil, Nat.zero_add, Nat.reduceAdd] at sh
  have lx : ∀ (G : Gr) (post : List AObj), (gH [X, Y, .gone] o G 30 post).length = 34 + post.length := fun G post => by rw [gH_len]; rfl
  have lx2 : ∀ (G : Gr) (a b : AObj) (post : List AObj), (gH [X, Y, .gone] o G 30 (a :: b :: post)).length = 36 + post.length := fun G a b post => by rw [gH_len]; simp; omega
  have app : ∀ (G : Gr) (post x : List AObj), gH [X, Y, .gone] o G 30 post ++ x = gH [X, Y, .gone] o G 30 (post ++ x) := fun G post x => gH_app x
  have ga : ∀ (G : Gr) (a : AObj) (post : List AObj), ob (gH [X, Y, .gone] o G 30 (a :: post)) 34 = a := fun G a post => gH_post (pre := [X, Y, .gone]) (j := 0)
  have gb : ∀ (G : Gr) (a b : AObj) (post : List AObj), ob (gH [X, Y, .gone] o G 30 (a :: b :: post)) 35 = b := fun G a b post => gH_post (pre := [X, Y, .gone]) (j := 1)
  have sa : ∀ (G : Gr) (a x : AObj) (post : List AObj), so (gH [X, Y, .gone] o G 30 (a :: post)) 34 x = gH [X, Y, .gone] o G 30 (x :: post) := fun G a x post => by rw [so_eq]; exact gH_setp (pre := [X, Y, .gone]) (j := 0)
  have sb : ∀ (G : Gr) (a b x : AObj) (post : List AObj), so (gH [X, Y, .gone] o G 30 (a :: b :: post)) 35 x = gH [X, Y, .gone] o G 30 (a :: x :: post) := fun G a b x post => by rw [so_eq]; exact gH_setp (pre := [X, Y, .gone]) (j := 1)
  simp (maxSteps := 4000000) -implicitDefEqProofs only [go_sem, sh, lx, app, ga, gb, sa, sb, Option.some.injEq, forall_eq', and_true, true_and, Bool.not_true, Bool.not_false, decide_true, Nat.reduceAdd, Nat.reduceSub, Nat.reduceLT, Nat.reduceLeDiff, Nat.reduceEqDiff, ↓reduceIte]
  refine .wk rfl (Wk.nilC 35 0 3 (cs := [.nil]) (gb _ _ _ _) rfl) ?_
  rw [lx, app, List.cons_append, List.cons_append, List.nil_append, sb]
  refine .all _ _ (gaps_own _ 3) ?_
  rw [lx, app]
  simp (maxSteps := 4000000) -implicitDefEqProofs only [go_sem, Nat.reduceAdd, Nat.reduceSub, Nat.reduceLT, Nat.reduceLeDiff, Nat.reduceEqDiff, ↓reduceIte]
  obtain ⟨n, hn⟩ : ∃ n, n = (gapsL G o.length).length := ⟨_, rfl⟩
  obtain ⟨bx, hbx⟩ : ∃ bx, bx = AObj.cells [.ptr 3 0] := ⟨_, rfl⟩
  obtain ⟨L, hL⟩ : ∃ L : Nat → AObj, L = fun i => .row 3 (plD o G i) := ⟨_, rfl⟩
  have hσ : (gH [X, Y, .gone] o G 30 [bx, .cells [.own 36], .row 3 [], bx]).length = 38 := by rw [gH_len]; rfl
  have g2 : ∀ (G : Gr) (a b : AObj) (post : List AObj), (gH [X, Y, .gone] o G 30 (a :: b :: post))[38]? = post[2]? := fun G a b post => gH_getp (pre := [X, Y, .gone]) (j := 4)
  have t2 : ∀ (G : Gr) (a b x : AObj) (post : List AObj), (gH [X, Y, .gone] o G 30 (a :: b :: post)).set 38 x = gH [X, Y, .gone] o G 30 (a :: b :: post.set 2 x) := fun G a b x post => gH_setp (pre := [X, Y, .gone]) (j := 4)
  have gj : ∀ (G : Gr) (a b : AObj) (j : Nat) (post : List AObj), ob (gH [X, Y, .gone] o G 30 (a :: b :: post)) (36 + j) = ob post j := fun G a b j post => by
    have := gH_post (pre := [X, Y, .gone]) (o := o) (G := G) (c := 30) (post := a :: b :: post) (j := j + 2)
    rw [show 36 + j = [X, Y, AObj.gone].length + 1 + 30 + (j + 2) by simp; omega, this]; rfl
  have sj : ∀ (G : Gr) (a b : AObj) (j : Nat) (post : List AObj) (x : AObj), so (gH [X, Y, .gone] o G 30 (a :: b :: post)) (36 + j) x = gH [X, Y, .gone] o G 30 (a :: b :: post.set j x) := fun G a b j post x => by
    have := gH_setp (pre := [X, Y, .gone]) (o := o) (G := G) (c := 30) (post := a :: b :: post) (j := j + 2) (x := x)
    rw [so_eq, show 36 + j = [X, Y, AObj.gone].length + 1 + 30 + (j + 2) by simp; omega, this]; rfl
  have o1 : ∀ (G : Gr) (post : List AObj), ob (gH [X, Y, .gone] o G 30 post) 1 = .cells [.d (.sl (o.map sD))] := fun G post => by rw [gH_pre (by simp), hY]; rfl
  have og : ∀ (G : Gr) (post : List AObj), ob (gH [X, Y, .gone] o G 30 post) 3 = .cells (gC o 4 30) := fun G post => gH_g (pre := [X, Y, .gone])
  have gr : ∀ (G : Gr) (c : Nat) (post : List AObj), c < 30 → ob (gH [X, Y, .gone] o G 30 post) (4 + c) = .row 1 ((rowB G o.length c).map boD) := fun G c post h => gH_r (pre := [X, Y, .gone]) h
  have gs : ∀ (G : Gr) (c i : Nat) (post : List AObj), c < 30 → i < o.length → so (gH [X, Y, .gone] o G 30 post) (4 + c) (.row 1 (((rowB G o.length c).map boD).set i [.bool true])) = gH [X, Y, .gone] o (upd G c i) 30 post := fun G c i post h h2 => gH_so (pre := [X, Y, .gone]) h h2
  refine ⟨rfl, _, _, rfl, ⟨_, Try.func57, rfl, rfl⟩, fun L0 rec => ?_⟩
  rw [← hbx, hσ]
  refine ⟨n, fun _ => True, argG G o.length, fun i => gH [X, Y, .gone] o (fill G o.length i) 30 (bx :: .cells [.own (36 + dG i)] :: pG (rcd L0 rec .ready none) bx L i), fun _ _ => False, trivial, ?_, ?_, ?_, ?_, fun _ _ h => h.elim⟩
  · show gH [X, Y, .gone] o (fill G o.length 0) 30 (bx :: .cells [.own (36 + dG 0)] :: pG (rcd L0 rec .ready none) bx L 0) = _
    rw [fill_0, app, hL]; rfl
  · intro i hi _
    obtain ⟨⟨c, b⟩, hx⟩ : ∃ x, (gapsL G o.length)[i]? = some x := ⟨(gapsL G o.length)[i]'(by omega), List.getElem?_eq_getElem _⟩
    obtain ⟨hc, hbn, hgp⟩ := gap_in hx
    obtain ⟨w, hwb, hw⟩ := gap_older hgp
    obtain ⟨x, hxo⟩ : ∃ x, o[b]? = some x := ⟨o[b]'hbn, List.getElem?_eq_getElem _⟩
    have hfs := fill_succ hx
    have hwf := fill_mono (n := o.length) (i := i) hw
    have hpa := fun y => plD_app (y := y) (x := x) hx
    have ha : argG G o.length i = [.d (.int .i64 (c : Int)), .d (.int .i64 (b : Int))] := by rw [argG, hx]
    refine ⟨by rw [ha]; rfl, by rw [g2]; exact pG_2 i, mkE 62 [(3, .ptr 1 0), (7, .ptr 34 0), (8, .ptr 35 0), (9, .d (.int .i64 c)), (10, .d (.int .i64 b))], gH [X, Y, .gone] o (fill G o.length i) 30 (bx :: .cells [.own (36 + dG i)] :: pG (rcd L0 rec .ready none) bx L i), by rw [g2]; exact pG_2 i, round_of_ev DX_ok 3000 ?_, round_of_ev DX_ok 3000 ?_⟩
    · rw [ha]
      simp (maxSteps := 4000000) -implicitDefEqProofs only [go_sem, Nat.reduceAdd, Nat.reduceSub, Nat.reduceLT, Nat.reduceLeDiff, Nat.reduceEqDiff, ↓reduceIte]
      exact (Wk.sub (by (simp only [go_sem]) <;> trivial))
    · rw [t2, pG_set, lx]
      have pl := pG_len (rc := rcd L0 rec .busy none) (bx := bx) (L := L) i
      have pl2 := pG_len (rc := rcd L0 rec .ready none) (bx := bx) (L := L) i
      have pd := pG_d (rc := rcd L0 rec .busy none) (bx := bx) (L := L) i
      have dl := dG_lt i
      rw [List.length_cons, List.length_cons, pl2]
      obtain ⟨P, hP⟩ : ∃ P, P = pG (rcd L0 rec .busy none) bx L i := ⟨_, rfl⟩
      rw [← hP] at pl pd ⊢
      obtain ⟨d, hd⟩ : ∃ d, d = dG i := ⟨_, rfl⟩
      rw [← hd] at pd dl ⊢
      obtain ⟨F, hF⟩ : ∃ F, F = fill G o.length i := ⟨_, rfl⟩
      rw [← hF] at hfs hwf hpa ⊢
      have od : ∀ q, ob (P ++ q) d = .row 3 (plD o G i) := fun q => by rw [ob_eq, List.getElem?_append_left (by omega), pd, hL]; rfl
      have od0 : ob P d = .row 3 (plD o G i) := by rw [ob_eq, pd, hL]; rfl
      have oK : ∀ q, ob (P ++ [q]) P.length = q := fun q => by rw [ob_eq, List.getElem?_append_right (Nat.le_refl _), Nat.sub_self]; rfl
      have sd : ∀ q z, (P ++ q).set d z = P.set d z ++ q := fun q z => by rw [List.set_append, if_pos (by omega)]
      have sl := plD_len (o := o) (G := G) (i := i)
      have se := plD_el (o := o) (G := G) (i := i)
      have gl := gapsL_len G o.length
      obtain ⟨N, hN⟩ : ∃ N, N = o.length := ⟨_, rfl⟩
      have hN' : (o.length : Int) = N := by omega
      have wn : IntKind.i64.wrap ((N : Int) - 1) = (N : Int) - 1 := i64_in _ (by omega)
      have m1 : (0 ≤ (c : Int) ∧ (c : Int) < ((30 : Nat) : Int)) = True := eq_true (by omega)
      have m1' : (0 ≤ (c : Int) ∧ (c : Int) < 30) = True := eq_true (by omega)
      have b1 : (!true) = false := rfl
      have b2 : (!false) = true := rfl
      obtain ⟨r, q4⟩ := gC_ld (o := o) (k := 4) hc
      have grc := fun post => gr F c post hc
      have rl := rowB_len F o.length c
      simp (maxSteps := 4000000) -implicitDefEqProofs only [go_sem, o1, hN', wn, Option.some.injEq, forall_eq', and_true, true_and, Bool.not_true, Bool.not_false, decide_true, Nat.reduceAdd, Nat.reduceSub, Nat.reduceLT, Nat.reduceLeDiff, Nat.reduceEqDiff, ↓reduceIte]
      refine eloop (S := Nat) (fun k => mkE 62 [(3, .ptr 1 0), (7, .ptr 34 0), (8, .ptr 35 0), (9, .d (.int .i64 c)), (10, .d (.int .i64 b)), (11, .d (.int .i64 ((N : Int) - 1 - k)))]) (fun k => gH [X, Y, .gone] o F 30 (bx :: .cells [.own (36 + d)] :: P)) (fun k => k + w + 1 ≤ N ∧ lastT (F c) N = lastT (F c) (N - k)) (fun k => N - k) 0 ⟨by omega, by rw [Nat.sub_zero]⟩ (by simp only [Int.natCast_zero, Int.sub_zero]; exact (Wk.sub (by (simp only [go_sem]) <;> trivial))) ?_
      rintro k ⟨hk, hla⟩
      have hbi : (N : Int) - 1 - k = ((N - 1 - k : Nat) : Int) := by omega
      have hkl : N - k = (N - 1 - k) + 1 := by omega
      rw [hkl, lastT] at hla
      have hw2 : w ≤ N - 1 - k := by omega
      have hlt : N - 1 - k < o.length := by omega
      have hkl2 : N - (k + 1) = N - 1 - k := by omega
      have w1 : IntKind.i64.wrap (((N - 1 - k : Nat) : Int) - 1) = (N : Int) - 1 - ((k + 1 : Nat) : Int) := by rw [i64_in _ (by omega)]; omega
      rw [hbi]
      obtain ⟨f, hf⟩ : ∃ f, f = N - 1 - k := ⟨_, rfl⟩
      rw [← hf] at hla hw2 hlt hkl2 w1 ⊢
      have n1 : (0 ≤ (f : Int) ∧ (f : Int) < N) = True := eq_true (by omega)
      have n2 : (f < o.length) = True := eq_true hlt
      have rg := rowB_get (G := F) (c := c) hlt
      have obx : ∀ post, ob (gH [X, Y, .gone] o F 30 (bx :: post)) 34 = .cells [.ptr 3 0] := fun post => by rw [ga, hbx]
      cases z : F c f
      case false =>
        rw [z] at rg hla
        rw [if_neg (by simp)] at hla
        have hne : w ≠ f := fun e => by rw [e, z] at hwf; cases hwf
        simp (maxSteps := 4000000) -implicitDefEqProofs only [go_sem, obx, og, q4, m1, m1', grc, rl, hN', n1, n2, rg, b2, w1, Option.some.injEq, forall_eq', and_true, true_and, Bool.not_true, Bool.not_false, decide_true, Nat.reduceAdd, Nat.reduceSub, Nat.reduceLT, Nat.reduceLeDiff, Nat.reduceEqDiff, ↓reduceIte]
        exact .mk (k + 1) ⟨by omega, by rw [hkl2]; exact hla⟩ (by omega) (Wk.sub (by (simp only [go_sem]) <;> trivial))
      rw [z] at rg hla
      rw [if_pos rfl] at hla
      obtain ⟨y, hy⟩ : ∃ y, o[f]? = some y := ⟨o[f]'hlt, List.getElem?_eq_getElem _⟩
      have hpa := hpa y (by rw [← hN, hla]; exact hy) hxo
      have p1 : (0 ≤ (b : Int) ∧ (b : Int) < N) = True := eq_true (by omega)
      have p2 : (b < o.length) = True := eq_true hbn
      have rgb := rowB_get (G := F) (c := c) hbn
      have gsb := fun post => gs F c b post hc hbn
      simp (maxSteps := 4000000) -implicitDefEqProofs only [go_sem, obx, og, q4, m1, m1', grc, rl, hN', n1, n2, rg, b1, Option.some.injEq, forall_eq', and_true, true_and, Bool.not_true, Bool.not_false, decide_true, Nat.reduceAdd, Nat.reduceSub, Nat.reduceLT, Nat.reduceLeDiff, Nat.reduceEqDiff, ↓reduceIte]
      refine DX.plain (.take 0 true (.take 1 false (.take 2 false (.take 3 false (.take 4 false (.take 5 false (.take 6 false (.take 7 false (.take 8 false (.take 9 false (.take 10 false (.run [11] (fun _ => [true]) fun _ => (.run [12] (fun _ => [false]) fun _ => (.run [13] (fun _ => []) fun _ => .done)))))))))))))) (by kernel_rfl) (by kernel_rfl) Ty.mixed ?_
      simp (maxSteps := 4000000) -implicitDefEqProofs only [go_sem, hN', n1, n2, p1, p2, hxo, hy, o1, gb, sb, gj, sj, lx2, app, od, od0, oK, sd, hpa, sl, se, Option.some.injEq, forall_eq', and_true, true_and, Bool.not_true, Bool.not_false, decide_true, Nat.reduceAdd, Nat.reduceSub, Nat.reduceLT, Nat.reduceLeDiff, Nat.reduceEqDiff, ↓reduceIte]
      refine ⟨by omega, ⟨by simp, by omega, by omega⟩, ?_⟩
      simp (maxSteps := 4000000) -implicitDefEqProofs only [go_sem, obx, og, q4, m1, m1', grc, rl, hN', p1, p2, rgb, gsb, Option.some.injEq, forall_eq', and_true, true_and, Bool.not_true, Bool.not_false, decide_true, Nat.reduceAdd, Nat.reduceSub, Nat.reduceLT, Nat.reduceLeDiff, Nat.reduceEqDiff, ↓reduceIte]
      have ln2 : ∀ r : AObj, (P ++ [r]).length = dG (i + 1) := fun r => by rw [List.length_append, pl]; rfl
      have hpn : ∀ r : AObj, ((P.set d .gone ++ [r]) ++ [L (i + 1)]).set P.length .gone = pG (rcd L0 rec .busy none) bx L (i + 1) := fun r => by
        rw [pG, ← hP, ← hd, List.append_assoc, List.set_append, if_neg (by rw [List.length_set]; omega), List.length_set, Nat.sub_self]; rfl
      refine ⟨mkE 62 [], gH [X, Y, .gone] o (fill G o.length (i + 1)) 30 (bx :: .cells [.own (36 + dG (i + 1))] :: pG (rcd L0 rec .busy none) bx L (i + 1)), ?_, by rw [g2]; exact pG_2 _, by rw [t2, pG_set]⟩
      rw [ln2, hfs]
      refine Wk.trans (Wk.dropL (36 + P.length)) ?_
      rw [← so_eq, sj, show AObj.row 3 (plD o G (i + 1)) = L (i + 1) by rw [hL], hpn]
      exact (Wk.sub (by (simp only [go_sem]) <;> trivial))
  · have := gaps_it o G (fun i => fill G o.length i) L0 37 3 (fun _ => True) (argG G o.length) (fun i => gH [X, Y, .gone] o (fill G o.length i) 30 (bx :: .cells [.own (36 + dG i)] :: pG (rcd L0 rec .ready none) bx L i)) (fun _ _ => False) ho hpos trivial (fun _ _ _ => fill_or)
      (fun i _ => by rw [show (37 : Nat) = 36 + 1 from rfl, gj, ob_eq, pG_1, hbx]; rfl) (fun i _ => og _ _) (fun i _ c hc => gr _ c _ hc)
      (fun i c b h => by rw [argG, h]) (fun i _ => by rw [lx, lx, List.length_cons, List.length_cons, List.length_cons, List.length_cons, pG_len, pG_len]; omega)
    rw [← hn] at this
    exact this
  · intro _
    refine ⟨by rw [g2]; exact pG_2 n, ?_⟩
    rw [t2, pG_set]
    have pd := pG_d (rc := .gone) (bx := bx) (L := L) n
    have od : ob (pG .gone bx L n) (dG n) = .row 3 ((planS o G).map stD) := by rw [ob_eq, pd, hL, ← planS_D, ← hn]; rfl
    simp (maxSteps := 4000000) -implicitDefEqProofs only [go_sem, gb, Option.some.injEq, forall_eq', and_true, true_and, Bool.not_true, Bool.not_false, decide_true, Nat.reduceAdd, Nat.reduceSub, Nat.reduceLT, Nat.reduceLeDiff, Nat.reduceEqDiff, ↓reduceIte]
    rw [hR]
    exact Wk.dataZ (τ := _) (by simp only [go_sem, gj, od]; rfl) (by simp only [go_sem])
end Go.AX.Fw
/- Forward: plans: the reference's side. -/
set_option maxHeartbeats 8000000
set_option linter.unusedVariables false
set_option linter.unusedSimpArgs false
set_option maxRecDepth 20000
namespace Go.AX.Fw
open Go.Proofs Go.RowKit Go.IntWalk Go.AX.Br Go.AX.Lg
/-- the name of the last branch before i where it is in effect -/
def fromI (g : Nat → Bool) (o : List ByteArray) : Nat → ByteArray
  | 0 => ByteArray.empty
  | i + 1 => if g i then nameAt o i else fromI g o i
/-- the steps, k of them whole, the next one under way -/
def mixS (o : List ByteArray) (G : Gr) (k : Nat) (fr : ByteArray) (j : Nat) : St :=
  if j < k then stP o G j else match (gapsL G o.length)[j]? with
    | some x => ⟨x.1, if j = k then fr else ByteArray.empty, nameAt o x.2⟩
    | none => ⟨0, ByteArray.empty, ByteArray.empty⟩
def mixD (o : List ByteArray) (G : Gr) (k : Nat) (fr : ByteArray) : List St := (List.range (gapsL G o.length).length).map (mixS o G k fr)
section
variable {o : List ByteArray} {G : Gr} {k c b : Nat} {fr fr' : ByteArray}
end
theorem idx_at {l : Lg} {o : List ByteArray} {b : Nat} {x : ByteArray} (ok : FOk l o) (hx : o[b]? = some x) : idx (isS x) o = b := by
  have := idx_le hx (p := isS x) (by simp [isS])
  obtain ⟨i, y, e1, e2, e3⟩ := idx_get this.1
  have hy : y = x := by simpa [isS] using e3
  subst hy
  rw [e1, ok.nd i b y e2 hx]
end Go.AX.Fw
/- Forward: Same, Great; the arguments of a law; ForwardFinds. -/
set_option maxHeartbeats 8000000
set_option linter.unusedVariables false
set_option linter.unusedSimpArgs false
set_option maxRecDepth 20000
namespace Go.AX.Fw
open Go.Proofs Go.RowKit Go.IntWalk Go.AX.Br Go.AX.Lg
deriving instance DecidableEq for St
theorem stEq (x y : St) : ((x.cl == y.cl) && (decide (x.fr = y.fr) && decide (x.to = y.to))) = decide (x = y) := by
  cases x; cases y
  rw [Bool.eq_iff_iff]
  simp
theorem sameSt_ref (a b : List St) (ha : Sm a.length) : Spec Try.prog 23 [.d (.sl (a.map stD)), .d (.sl (b.map stD))] [] (.d (.bool (decide (a = b)))) [] := by
  unfold Sm at ha
  refine spec_of_ev (fn := Try.f23) DX_ok 3000 Try.func23 rfl rfl (Nat.le_of_ble_eq_true rfl) ?_
  simp (maxSteps := 4000000) -implicitDefEqProofs only [Try.f23, go_sem]
  by_cases h1 : a.length = b.length
  · have d1 : ((a.length : Int) != b.length) = false := by simp [h1]
    simp (maxSteps := 4000000) -implicitDefEqProofs only [go_sem, d1, Option.some.injEq, forall_eq', and_true, true_and, Bool.not_true, Bool.not_false, decide_true, Nat.reduceAdd, Nat.reduceSub, Nat.reduceLT, Nat.reduceLeDiff, Nat.reduceEqDiff, ↓reduceIte]
    refine eloop (S := Nat) (fun i => mkE 26 [(0, .d (.sl (a.map stD))), (1, .d (.sl (b.map stD))), (5, .d (.int .i64 i))]) (fun i => []) (fun i => i ≤ a.length ∧ ∀ j x, a[j]? = some x → j < i → b[j]? = some x) (fun i => a.length - i) 0 ⟨by omega, by omega⟩ (Wk.sub (by (simp only [go_sem]) <;> trivial)) ?_
    rintro i ⟨hi, hj⟩
    rcases Nat.lt_or_ge i a.length with h2 | h2
    · have d2 : decide ((i : Int) < a.length) = true := by simp; omega
      obtain ⟨x, hx⟩ : ∃ x, a[i]? = some x := ⟨a[i]'(by omega), List.getElem?_eq_getElem _⟩
      obtain ⟨y, hy⟩ : ∃ x, b[i]? = some x := ⟨b[i]'(by omega), List.getElem?_eq_getElem _⟩
      have n1 : (0 ≤ (i : Int) ∧ (i : Int) < a.length) = True := eq_true (by omega)
      have n2 : (0 ≤ (i : Int) ∧ (i : Int) < b.length) = True := eq_true (by omega)
      have n3 : (i < a.length) = True := eq_true (by omega)
      have n4 : (i < b.length) = True := eq_true (by omega)
      have w1 : IntKind.i64.wrap ((i : Int) + 1) = i + 1 := i64_in _ (by omega)
      by_cases h3 : x = y
      · have hxy := (stEq x y).trans (decide_eq_true h3)
        simp (maxSteps := 4000000) -implicitDefEqProofs only [go_sem, d2, Option.some.injEq, forall_eq', and_true, true_and, Bool.not_true, Bool.not_false, decide_true, Nat.reduceAdd, Nat.reduceSub, Nat.reduceLT, Nat.reduceLeDiff, Nat.reduceEqDiff, ↓reduceIte]
        refine DX.plain (.take 0 false (.take 1 false (.take 2 false (.take 3 false (.take 4 false (.take 5 false (.take 6 false (.take 7 false (.take 8 false .done))))))))) (by kernel_rfl) (by kernel_rfl) Ty.mixed ?_
        simp (maxSteps := 4000000) -implicitDefEqProofs only [go_sem, n1, n2, n3, n4, hx, hy, hxy, w1, Option.some.injEq, forall_eq', and_true, true_and, Bool.not_true, Bool.not_false, decide_true, Nat.reduceAdd, Nat.reduceSub, Nat.reduceLT, Nat.reduceLeDiff, Nat.reduceEqDiff, ↓reduceIte]
        exact .mk (i + 1) ⟨by omega, upto_succ hx (by rw [h3]; exact hy) hj⟩ (by omega) (Wk.sub (by (simp only [go_sem]) <;> trivial))
      · have hxy := (stEq x y).trans (decide_eq_false h3)
        simp (maxSteps := 4000000) -implicitDefEqProofs only [go_sem, d2, Option.some.injEq, forall_eq', and_true, true_and, Bool.not_true, Bool.not_false, decide_true, Nat.reduceAdd, Nat.reduceSub, Nat.reduceLT, Nat.reduceLeDiff, Nat.reduceEqDiff, ↓reduceIte]
        refine DX.plain (.take 0 false (.take 1 false (.take 2 false (.take 3 false (.take 4 false (.take 5 false (.take 6 false (.take 7 false (.take 8 false .done))))))))) (by kernel_rfl) (by kernel_rfl) Ty.mixed ?_
        simp (maxSteps := 4000000) -implicitDefEqProofs only [go_sem, n1, n2, n3, n4, hx, hy, hxy, Option.some.injEq, forall_eq', and_true, true_and, Bool.not_true, Bool.not_false, decide_true, Nat.reduceAdd, Nat.reduceSub, Nat.reduceLT, Nat.reduceLeDiff, Nat.reduceEqDiff, ↓reduceIte]
        refine wk_bool (decide_eq_false fun e => h3 ?_).symm
        subst e; rw [hx] at hy; exact Option.some.inj hy
    · have d2 : decide ((i : Int) < a.length) = false := by simp; omega
      simp (maxSteps := 4000000) -implicitDefEqProofs only [go_sem, d2, Option.some.injEq, forall_eq', and_true, true_and, Bool.not_true, Bool.not_false, decide_true, Nat.reduceAdd, Nat.reduceSub, Nat.reduceLT, Nat.reduceLeDiff, Nat.reduceEqDiff, ↓reduceIte]
      refine wk_bool (decide_eq_true ?_).symm
      refine List.ext_getElem? fun j => ?_
      rcases Nat.lt_or_ge j a.length with q | q
      · have hx := List.getElem?_eq_getElem q
        rw [hx]; exact (hj j _ hx (by omega)).symm
      · rw [List.getElem?_eq_none q, List.getElem?_eq_none (by omega)]
  · have d1 : ((a.length : Int) != b.length) = true := by simp; omega
    simp (maxSteps := 4000000) -implicitDefEqProofs only [go_sem, d1, Option.some.injEq, forall_eq', and_true, true_and, Bool.not_true, Bool.not_false, decide_true, Nat.reduceAdd, Nat.reduceSub, Nat.reduceLT, Nat.reduceLeDiff, Nat.reduceEqDiff, ↓reduceIte]
    exact wk_bool (decide_eq_false fun e => h1 (by rw [e])).symm

theorem int_of {n : Nat} {d : List D} (h : Tyd Try.prog (n + 1) 3 d) : ∃ i : Int, d = [.int .i64 i] ∧ (-9223372036854775808 ≤ i ∧ i ≤ 9223372036854775807) := Lg.int_of h
theorem str_of {n : Nat} {d : List D} (h : Tyd Try.prog (n + 1) 9 d) : ∃ s : ByteArray, d = [.str s] ∧ Sm s.size := Lg.str_of h
theorem ledger_of {n : Nat} {x : List D} (h : Tyd Try.prog (n + 5) 26 x) : ∃ l : Lg, x = [.sl (l.kn.map kD), .sl (l.br.map bD), .sl (l.ev.map esD)] ∧ LSm l := Lg.ledger_of h
theorem rows_ofF {α : Type} {g : α → List D} : ∀ {es : List (List D)}, (∀ x ∈ es, ∃ a, x = g a) → ∃ l : List α, es = l.map g
  | [], _ => ⟨[], rfl⟩
  | x :: es, h => by
    obtain ⟨a, rfl⟩ := h x (by simp)
    obtain ⟨l, rfl⟩ := rows_ofF (es := es) fun y hy => h y (List.mem_cons_of_mem _ hy)
    exact ⟨a :: l, rfl⟩
theorem texts_of {n : Nat} {d : List D} (h : Tyd Try.prog (n + 2) 27 d) : ∃ l : List ByteArray, d = [.sl (l.map sD)] ∧ Sm l.length := by
  obtain ⟨es, rfl, h1, h2⟩ := h.slice Ty.under_27
  obtain ⟨l, rfl⟩ := rows_ofF (g := sD) fun x hx => by
    obtain ⟨s, hs, _⟩ := Lg.str_of (h2 x hx)
    exact ⟨s, hs⟩
  refine ⟨l, rfl, ?_⟩
  have hb : Try.prog.bytesOf 9 = 16 := by kernel_rfl
  rw [hb, List.length_map] at h1
  unfold Sm; omega
def bigO (x : ByteArray) : Bool := decide (100 < x.size)
def bigP (x : St) : Bool := decide (100 < x.fr.size) || decide (100 < x.to.size)
def bigL (n : Nat) : Bool := decide (60 < n) && decide (n ≤ 300)
def great30 (l : Lg) (o : List ByteArray) (pl : List St) : Bool := o.any bigO || pl.any bigP || (greatL l || decide (20 < o.length) || bigL pl.length || decide (310 < pl.length))
theorem great_fref (l : Lg) (o : List ByteArray) (pl : List St) (hl : LSm l) (ho : Sm o.length) (hp : Sm pl.length) : Spec Try.prog 10 [lA l, .d (.sl (o.map sD)), .d (.sl (pl.map stD))] [] (.d (.bool (great30 l o pl))) [] := by
  have c1 := great_lref l hl.k hl.b hl.e hl.s
  simp only [lA] at c1
  unfold Sm at ho hp
  obtain ⟨R, hR⟩ : ∃ R, R = great30 l o pl := ⟨_, rfl⟩
  rw [← hR]
  have yes : great30 l o pl = true → ∀ {σ : List AObj}, Wk 0 [.d (.bool true)] σ [.d (.bool R)] [] := fun h {σ} => wk_bool (by rw [hR, h])
  refine spec_of_ev (fn := Try.f10) DX_ok 3000 Try.func10 rfl rfl (Nat.le_of_ble_eq_true rfl) ?_
  simp (maxSteps := 4000000) -implicitDefEqProofs only [Try.f10, go_sem, lA]
  refine eloop (S := Nat) (fun i => mkE 65 [(1, .d (.sl (o.map sD))), (2, .d (.sl (pl.map stD))), (3, .ptr 0 0), (7, .d (.int .i64 i))]) (fun i => [lH l]) (fun i => i ≤ o.length ∧ ∀ j y, o[j]? = some y → j < i → bigO y = false) (fun i => o.length - i) 0 ⟨by omega, by omega⟩ (Wk.via [0] (by (simp only [go_sem, ↓reduceIte]) <;> trivial) (by first | (simp (maxSteps := 4000000) -implicitDefEqProofs only [go_sem, Nat.reduceAdd, Nat.reduceSub, Nat.reduceLT, Nat.reduceLeDiff, Nat.reduceEqDiff, ↓reduceIte]; done) | ((simp (maxSteps := 4000000) -implicitDefEqProofs only [go_sem, Nat.reduceAdd, Nat.reduceSub, Nat.reduceLT, Nat.reduceLeDiff, Nat.reduceEqDiff, ↓reduceIte]) <;> omega)) (by simp) (by first | (simp; done) | (simp [so]; done)) (by (simp (maxSteps := 4000000) -implicitDefEqProofs only [go_sem, Nat.reduceAdd, Nat.reduceSub, Nat.reduceLT, Nat.reduceLeDiff, Nat.reduceEqDiff, ↓reduceIte]) <;> trivial) (by first | (simp only [go_sem]; done) | ((simp (maxSteps := 4000000) -implicitDefEqProofs only [go_sem, Nat.reduceAdd, Nat.reduceSub, Nat.reduceLT, Nat.reduceLeDiff, Nat.reduceEqDiff, ↓reduceIte]) <;> omega)) (Nat.zero_le _) (fun i h => absurd h (Nat.not_lt_zero i))) ?_
  rintro i ⟨hi, hj⟩
  rcases Nat.lt_or_ge i o.length with h2 | h2
  case inl =>
    have f1 : decide ((i : Int) < o.length) = true := by simp; omega
    obtain ⟨x, hx⟩ : ∃ x, o[i]? = some x := ⟨o[i]'h2, List.getElem?_eq_getElem _⟩
    have n1 : (0 ≤ (i : Int) ∧ (i : Int) < o.length) = True := eq_true (by omega)
    have n2 : (i < o.length) = True := eq_true (by omega)
    have w1 : IntKind.i64.wrap ((i : Int) + 1) = ((i + 1 : Nat) : Int) := by rw [i64_in _ (by omega)]; simp
    cases g : bigO x
    case true =>
      have d1 : decide ((100 : Int) < x.size) = true := by simp only [bigO, decide_eq_true_eq] at g ⊢; omega
      simp (maxSteps := 4000000) -implicitDefEqProofs only [go_sem, f1, n1, n2, hx, d1, Option.some.injEq, forall_eq', and_true, true_and, Bool.not_true, Bool.not_false, decide_true, Nat.reduceAdd, Nat.reduceSub, Nat.reduceLT, Nat.reduceLeDiff, Nat.reduceEqDiff, ↓reduceIte]
      exact yes (by rw [great30, any_t hx g]; rfl)
    have d1 : decide ((100 : Int) < x.size) = false := by simp only [bigO, decide_eq_false_iff_not] at g ⊢; omega
    simp (maxSteps := 4000000) -implicitDefEqProofs only [go_sem, f1, n1, n2, hx, d1, w1, Option.some.injEq, forall_eq', and_true, true_and, Bool.not_true, Bool.not_false, decide_true, Nat.reduceAdd, Nat.reduceSub, Nat.reduceLT, Nat.reduceLeDiff, Nat.reduceEqDiff, ↓reduceIte]
    exact .mk (i + 1) ⟨by omega, upto_succ hx g hj⟩ (by omega) (Wk.via [0] (by (simp only [go_sem, ↓reduceIte]) <;> trivial) (by first | (simp (maxSteps := 4000000) -implicitDefEqProofs only [go_sem, Nat.reduceAdd, Nat.reduceSub, Nat.reduceLT, Nat.reduceLeDiff, Nat.reduceEqDiff, ↓reduceIte]; done) | ((simp (maxSteps := 4000000) -implicitDefEqProofs only [go_sem, Nat.reduceAdd, Nat.reduceSub, Nat.reduceLT, Nat.reduceLeDiff, Nat.reduceEqDiff, ↓reduceIte]) <;> omega)) (by simp) (by first | (simp; done) | (simp [so]; done)) (by (simp (maxSteps := 4000000) -implicitDefEqProofs only [go_sem, Nat.reduceAdd, Nat.reduceSub, Nat.reduceLT, Nat.reduceLeDiff, Nat.reduceEqDiff, ↓reduceIte]) <;> trivial) (by first | (simp only [go_sem]; done) | ((simp (maxSteps := 4000000) -implicitDefEqProofs only [go_sem, Nat.reduceAdd, Nat.reduceSub, Nat.reduceLT, Nat.reduceLeDiff, Nat.reduceEqDiff, ↓reduceIte]) <;> omega)) (Nat.zero_le _) (fun i h => absurd h (Nat.not_lt_zero i)))
  have f1 : decide ((i : Int) < o.length) = false := by simp; omega
  have no : o.any bigO = false := any_f fun j y hy => hj j y hy (by have := some_lt hy; omega)
  simp (maxSteps := 4000000) -implicitDefEqProofs only [go_sem, f1, Option.some.injEq, forall_eq', and_true, true_and, Bool.not_true, Bool.not_false, decide_true, Nat.reduceAdd, Nat.reduceSub, Nat.reduceLT, Nat.reduceLeDiff, Nat.reduceEqDiff, ↓reduceIte]
  clear hj hi h2 f1
  refine eloop (S := Nat) (fun i => mkE 65 [(1, .d (.sl (o.map sD))), (2, .d (.sl (pl.map stD))), (3, .ptr 0 0), (8, .d (.int .i64 i))]) (fun i => [lH l]) (fun i => i ≤ pl.length ∧ ∀ j y, pl[j]? = some y → j < i → bigP y = false) (fun i => pl.length - i) 0 ⟨by omega, by omega⟩ (Wk.via [0] (by (simp only [go_sem, ↓reduceIte]) <;> trivial) (by first | (simp (maxSteps := 4000000) -implicitDefEqProofs only [go_sem, Nat.reduceAdd, Nat.reduceSub, Nat.reduceLT, Nat.reduceLeDiff, Nat.reduceEqDiff, ↓reduceIte]; done) | ((simp (maxSteps := 4000000) -implicitDefEqProofs only [go_sem, Nat.reduceAdd, Nat.reduceSub, Nat.reduceLT, Nat.reduceLeDiff, Nat.reduceEqDiff, ↓reduceIte]) <;> omega)) (by simp) (by first | (simp; done) | (simp [so]; done)) (by (simp (maxSteps := 4000000) -implicitDefEqProofs only [go_sem, Nat.reduceAdd, Nat.reduceSub, Nat.reduceLT, Nat.reduceLeDiff, Nat.reduceEqDiff, ↓reduceIte]) <;> trivial) (by first | (simp only [go_sem]; done) | ((simp (maxSteps := 4000000) -implicitDefEqProofs only [go_sem, Nat.reduceAdd, Nat.reduceSub, Nat.reduceLT, Nat.reduceLeDiff, Nat.reduceEqDiff, ↓reduceIte]) <;> omega)) (Nat.zero_le _) (fun i h => absurd h (Nat.not_lt_zero i))) ?_
  rintro i ⟨hi, hj⟩
  rcases Nat.lt_or_ge i pl.length with h2 | h2
  case inl =>
    have f1 : decide ((i : Int) < pl.length) = true := by simp; omega
    obtain ⟨x, hx⟩ : ∃ x, pl[i]? = some x := ⟨pl[i]'h2, List.getElem?_eq_getElem _⟩
    have n1 : (0 ≤ (i : Int) ∧ (i : Int) < pl.length) = True := eq_true (by omega)
    have n2 : (i < pl.length) = True := eq_true (by omega)
    have w1 : IntKind.i64.wrap ((i : Int) + 1) = ((i + 1 : Nat) : Int) := by rw [i64_in _ (by omega)]; simp
    have a1 : decide ((100 : Int) < x.fr.size) = decide (100 < x.fr.size) := decide_eq_decide.2 (by omega)
    have a2 : decide ((100 : Int) < x.to.size) = decide (100 < x.to.size) := decide_eq_decide.2 (by omega)
    cases g1 : decide (100 < x.fr.size)
    case true =>
      rw [g1] at a1
      simp (maxSteps := 4000000) -implicitDefEqProofs only [go_sem, f1, n1, n2, hx, a1, Option.some.injEq, forall_eq', and_true, true_and, Bool.not_true, Bool.not_false, decide_true, Nat.reduceAdd, Nat.reduceSub, Nat.reduceLT, Nat.reduceLeDiff, Nat.reduceEqDiff, ↓reduceIte]
      exact yes (by rw [great30, any_t hx (by rw [bigP, g1]; rfl)]; simp)
    rw [g1] at a1
    cases g2 : decide (100 < x.to.size)
    case true =>
      rw [g2] at a2
      simp (maxSteps := 4000000) -implicitDefEqProofs only [go_sem, f1, n1, n2, hx, a1, a2, Option.some.injEq, forall_eq', and_true, true_and, Bool.not_true, Bool.not_false, decide_true, Nat.reduceAdd, Nat.reduceSub, Nat.reduceLT, Nat.reduceLeDiff, Nat.reduceEqDiff, ↓reduceIte]
      exact yes (by rw [great30, any_t hx (by rw [bigP, g1, g2]; rfl)]; simp)
    rw [g2] at a2
    simp (maxSteps := 4000000) -implicitDefEqProofs only [go_sem, f1, n1, n2, hx, a1, a2, w1, Option.some.injEq, forall_eq', and_true, true_and, Bool.not_true, Bool.not_false, decide_true, Nat.reduceAdd, Nat.reduceSub, Nat.reduceLT, Nat.reduceLeDiff, Nat.reduceEqDiff, ↓reduceIte]
    exact .mk (i + 1) ⟨by omega, upto_succ hx (by rw [bigP, g1, g2]; rfl) hj⟩ (by omega) (Wk.via [0] (by (simp only [go_sem, ↓reduceIte]) <;> trivial) (by first | (simp (maxSteps := 4000000) -implicitDefEqProofs only [go_sem, Nat.reduceAdd, Nat.reduceSub, Nat.reduceLT, Nat.reduceLeDiff, Nat.reduceEqDiff, ↓reduceIte]; done) | ((simp (maxSteps := 4000000) -implicitDefEqProofs only [go_sem, Nat.reduceAdd, Nat.reduceSub, Nat.reduceLT, Nat.reduceLeDiff, Nat.reduceEqDiff, ↓reduceIte]) <;> omega)) (by simp) (by first | (simp; done) | (simp [so]; done)) (by (simp (maxSteps := 4000000) -implicitDefEqProofs only [go_sem, Nat.reduceAdd, Nat.reduceSub, Nat.reduceLT, Nat.reduceLeDiff, Nat.reduceEqDiff, ↓reduceIte]) <;> trivial) (by first | (simp only [go_sem]; done) | ((simp (maxSteps := 4000000) -implicitDefEqProofs only [go_sem, Nat.reduceAdd, Nat.reduceSub, Nat.reduceLT, Nat.reduceLeDiff, Nat.reduceEqDiff, ↓reduceIte]) <;> omega)) (Nat.zero_le _) (fun i h => absurd h (Nat.not_lt_zero i)))
  have f1 : decide ((i : Int) < pl.length) = false := by simp; omega
  have np : pl.any bigP = false := any_f fun j y hy => hj j y hy (by have := some_lt hy; omega)
  have hg : great30 l o pl = (greatL l || decide (20 < o.length) || bigL pl.length || decide (310 < pl.length)) := by rw [great30, no, np]; rfl
  have a1 : decide ((20 : Int) < o.length) = decide (20 < o.length) := decide_eq_decide.2 (by omega)
  have a2 : decide ((60 : Int) < pl.length) = decide (60 < pl.length) := decide_eq_decide.2 (by omega)
  have a3 : decide ((pl.length : Int) ≤ 300) = decide (pl.length ≤ 300) := decide_eq_decide.2 (by omega)
  have a4 : decide ((310 : Int) < pl.length) = decide (310 < pl.length) := decide_eq_decide.2 (by omega)
  simp (maxSteps := 4000000) -implicitDefEqProofs only [go_sem, f1, Option.some.injEq, forall_eq', and_true, true_and, Bool.not_true, Bool.not_false, decide_true, Nat.reduceAdd, Nat.reduceSub, Nat.reduceLT, Nat.reduceLeDiff, Nat.reduceEqDiff, ↓reduceIte]
  refine ecall0 _ c1 (by simp only [go_sem]) (by simp only [go_sem]) ?_
  rw [bigL] at hg
  cases g1 : greatL l
  case true =>
    simp (maxSteps := 4000000) -implicitDefEqProofs only [go_sem, Nat.reduceAdd, Nat.reduceSub, Nat.reduceLT, Nat.reduceLeDiff, Nat.reduceEqDiff, ↓reduceIte]
    exact yes (by rw [hg, g1]; rfl)
  cases g2 : decide (20 < o.length)
  case true =>
    rw [g2] at a1
    simp (maxSteps := 4000000) -implicitDefEqProofs only [go_sem, a1, Option.some.injEq, forall_eq', and_true, true_and, Bool.not_true, Bool.not_false, decide_true, Nat.reduceAdd, Nat.reduceSub, Nat.reduceLT, Nat.reduceLeDiff, Nat.reduceEqDiff, ↓reduceIte]
    exact yes (by rw [hg, g1, g2]; rfl)
  cases g3 : decide (60 < pl.length)
  case false =>
    rw [g2] at a1
    rw [g3] at a2
    simp (maxSteps := 4000000) -implicitDefEqProofs only [go_sem, a1, a2, Option.some.injEq, forall_eq', and_true, true_and, Bool.not_true, Bool.not_false, decide_true, Nat.reduceAdd, Nat.reduceSub, Nat.reduceLT, Nat.reduceLeDiff, Nat.reduceEqDiff, ↓reduceIte]
    exact wk_bool (by rw [hR, hg, g1, g2, g3, ← a4]; rfl)
  cases g4 : decide (pl.length ≤ 300)
  case true =>
    rw [g2] at a1
    rw [g3] at a2
    rw [g4] at a3
    simp (maxSteps := 4000000) -implicitDefEqProofs only [go_sem, a1, a2, a3, Option.some.injEq, forall_eq', and_true, true_and, Bool.not_true, Bool.not_false, decide_true, Nat.reduceAdd, Nat.reduceSub, Nat.reduceLT, Nat.reduceLeDiff, Nat.reduceEqDiff, ↓reduceIte]
    exact yes (by rw [hg, g1, g2, g3, g4]; rfl)
  rw [g2] at a1
  rw [g3] at a2
  rw [g4] at a3
  simp (maxSteps := 4000000) -implicitDefEqProofs only [go_sem, a1, a2, a3, Option.some.injEq, forall_eq', and_true, true_and, Bool.not_true, Bool.not_false, decide_true, Nat.reduceAdd, Nat.reduceSub, Nat.reduceLT, Nat.reduceLeDiff, Nat.reduceEqDiff, ↓reduceIte]
  exact wk_bool (by rw [hR, hg, g1, g2, g3, g4, ← a4]; rfl)
structure Fit30 (l : Lg) (o : List ByteArray) (pl : List St) : Prop where
  g : greatL l = false
  o : o.length ≤ 20
  p : pl.length ≤ 60 ∨ (300 < pl.length ∧ pl.length ≤ 310)
theorem fit30_of {l : Lg} {o : List ByteArray} {pl : List St} (h : great30 l o pl = false) : Fit30 l o pl := by
  simp only [great30, bigL, Bool.or_eq_false_iff, Bool.and_eq_false_iff, decide_eq_false_iff_not] at h
  obtain ⟨_, ⟨⟨h1, h2⟩, h3⟩, h4⟩ := h
  exact ⟨h1, by omega, by omega⟩
end Go.AX.Fw

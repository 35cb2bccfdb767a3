/- The reference's Least. -/
import Derived.Test.YtmffhidhmbncbaaK14
set_option maxHeartbeats 8000000
set_option linter.unusedVariables false
set_option linter.unusedSimpArgs false
set_option maxRecDepth 20000
namespace Go.AX.De
open Go.Proofs Go.RowKit Go.IntWalk Go.AX.Co
/-- how much can be copied, of each end -/
def lgs (b : List Int) : List Int → List Int
  | [] => [0]
  | t :: ts => (lg b (t :: ts) : Int) :: lgs b ts
theorem lgs_len (b : List Int) : ∀ s : List Int, (lgs b s).length = s.length + 1
  | [] => rfl
  | t :: ts => by simp [lgs, lgs_len b ts]
theorem lgs_at (b : List Int) : ∀ (s : List Int) (i : Nat), i < s.length → (lgs b s)[i]? = some (lg b (s.drop i) : Int)
  | [], i, h => by simp at h
  | t :: ts, 0, h => by simp [lgs]
  | t :: ts, i + 1, h => by simpa [lgs] using lgs_at b ts i (by simpa using h)
theorem lst_all (b : List Int) : ∀ (s : List Int) (i : Nat), i ≤ s.length → (lst b s)[i]? = some ((lst b (s.drop i)).headD 0)
  | [], 0, _ => by simp [lst]
  | [], i + 1, h => by simp at h
  | t :: ts, 0, h => by simp [lst]
  | t :: ts, i + 1, h => by simpa [lst] using lst_all b ts i (by simpa using h)
/-- how long the beginnings of each end of the base are -/
def smR : List Int → List Int → List Int
  | [], _ => [0]
  | x :: b, s => (pre (x :: b) s : Int) :: smR b s
theorem smR_len : ∀ b s : List Int, (smR b s).length = b.length + 1
  | [], s => rfl
  | x :: b, s => by simp [smR, smR_len b s]
theorem smR_at : ∀ (b s : List Int) (k : Nat), k ≤ b.length → (smR b s)[k]? = some (pre (b.drop k) s : Int)
  | [], s, 0, _ => by simp [smR, pre]
  | [], s, k + 1, h => by simp at h
  | x :: b, s, 0, _ => by simp [smR]
  | x :: b, s, k + 1, h => by simpa [smR] using smR_at b s k (by simpa using h)
theorem smR_nil : ∀ b : List Int, smR b [] = List.replicate (b.length + 1) 0
  | [] => rfl
  | x :: b => by rw [smR, smR_nil b, pre_nil_r, List.length_cons, List.replicate_succ (n := b.length + 1)]; rfl
/-- the first k of them -/
def nR (b s : List Int) (k : Nat) : List Int := (smR b s).take k ++ List.replicate (b.length + 1 - k) 0
theorem nR_len (b s : List Int) {k : Nat} (h : k ≤ b.length + 1) : (nR b s k).length = b.length + 1 := by simp [nR, smR_len]; omega
theorem nR_0 (b s : List Int) : nR b s 0 = List.replicate (b.length + 1) 0 := by simp [nR]
theorem nR_set {b s : List Int} {k : Nat} (h : k < b.length) : (nR b s k).set k (pre (b.drop k) s : Int) = nR b s (k + 1) := by
  refine List.ext_getElem? fun i => ?_
  have hk := smR_at b s k (by omega)
  have hl := smR_len b s
  have h1 : ((smR b s).take k).length = k := by rw [List.length_take]; omega
  have h2 : ((smR b s).take (k + 1)).length = k + 1 := by rw [List.length_take]; omega
  rw [List.getElem?_set]
  by_cases q : k = i
  · subst q
    rw [if_pos rfl, if_pos (by rw [nR_len b s (by omega)]; omega), nR, List.getElem?_append_left (by omega), List.getElem?_take, if_pos (by omega), hk]
  · rw [if_neg q, nR, nR]
    rcases Nat.lt_or_ge i k with p | p
    · rw [List.getElem?_append_left (by omega), List.getElem?_append_left (by omega), List.getElem?_take, List.getElem?_take, if_pos p, if_pos (by omega)]
    · rw [List.getElem?_append_right (by omega), List.getElem?_append_right (by omega), h1, h2, List.getElem?_replicate, List.getElem?_replicate]
      by_cases r : i < b.length + 1
      · rw [if_pos (by omega), if_pos (by omega)]
      · rw [if_neg (by omega), if_neg (by omega)]
theorem nR_stay {b s : List Int} {k : Nat} (h : k < b.length) (h0 : pre (b.drop k) s = 0) : nR b s (k + 1) = nR b s k := by
  rw [← nR_set h, h0]
  refine set_self ?_
  have h1 : ((smR b s).take k).length = k := by rw [List.length_take, smR_len]; omega
  rw [nR, List.getElem?_append_right (by omega), h1, List.getElem?_replicate, if_pos (by omega)]
  rfl
theorem nR_at {b s : List Int} {k : Nat} (h : k < b.length) : (nR b s (k + 1))[k]? = some (pre (b.drop k) s : Int) := by
  have h2 : ((smR b s).take (k + 1)).length = k + 1 := by rw [List.length_take, smR_len]; omega
  rw [nR, List.getElem?_append_left (by omega), List.getElem?_take, if_pos (by omega), smR_at b s k (by omega)]
theorem nR_end (b s : List Int) : nR b s b.length = smR b s := by
  refine List.ext_getElem? fun i => ?_
  have h1 : ((smR b s).take b.length).length = b.length := by rw [List.length_take, smR_len]; omega
  rw [nR]
  rcases Nat.lt_or_ge i b.length with p | p
  · rw [List.getElem?_append_left (by omega), List.getElem?_take, if_pos p]
  · rw [List.getElem?_append_right (by omega), h1, List.getElem?_replicate]
    by_cases r : i = b.length
    · subst r
      rw [if_pos (by omega), smR_at b s b.length (Nat.le_refl _), List.drop_length]
      simp [pre]
    · rw [if_neg (by omega), List.getElem?_eq_none (by rw [smR_len]; omega)]
def gA (b s : List Int) (j : Nat) : List Int := List.replicate j 0 ++ lgs b (s.drop j)
theorem gA_end (b s : List Int) : gA b s s.length = List.replicate (s.length + 1) 0 := by rw [gA, List.drop_length, lgs, List.replicate_succ']
theorem gA_up (b s : List Int) (i : Nat) : gA b s (i + 1) = cR i 0 (lgs b (s.drop (i + 1))) := cR_0 i _
theorem gA_0 (b s : List Int) : gA b s 0 = lgs b s := by simp [gA]
theorem cA_0 (b s : List Int) : cA b s 0 = lst b s := by simp [cA]
theorem least_ref (b s : List Int) (hb : b.length ≤ 300) (hs : s.length ≤ 300) :
    Spec Try.prog 34 [.d (.sl (b.map bY)), .d (.sl (s.map bY))] [] (.tup [.d (.sl ((lst b s).map iD)), .d (.sl ((lgs b s).map iD))]) [] := by
  obtain ⟨N, hN⟩ : ∃ N, N = s.length + 1 := ⟨_, rfl⟩
  obtain ⟨M, hM⟩ : ∃ M, M = b.length + 1 := ⟨_, rfl⟩
  have w1 : IntKind.i64.wrap ((s.length : Int) + 1) = (N : Int) := by rw [i64_in _ (by omega), hN]; simp
  have w2 : IntKind.i64.wrap ((s.length : Int) - 1) = (s.length : Int) - 1 := i64_in _ (by omega)
  have w3 : IntKind.i64.wrap ((b.length : Int) + 1) = (M : Int) := by rw [i64_in _ (by omega), hM]; simp
  have zM : List.replicate M [D.int .i64 0] = (List.replicate M (0 : Int)).map iD := by rw [List.map_replicate]; rfl
  have z3 : List.replicate M (0 : Int) = smR b (s.drop s.length) := by rw [List.drop_length, smR_nil, hM]
  refine spec_of_ev (fn := Try.f34) DX_ok 3000 Try.func34 rfl rfl (Nat.le_of_ble_eq_true rfl) ?_
  simp (maxSteps := 4000000) -implicitDefEqProofs only [Try.f34, go_sem]
  refine DX.join (mkE 129 [(0, .d (.sl (b.map bY))), (1, .d (.sl (s.map bY))), (6, .d (.int .i64 s.length)), (7, .own 0), (8, .own 1)]) [.row 1 ((cA b s s.length).map iD), .row 1 ((gA b s s.length).map iD)]
    (.take 0 true (.take 1 true (.take 3 true (.take 4 true (.run [2, 5] (fun i => if i = 2 then [true, true, false, false] else [false, false, true, true]) fun i => if i = 2 then ((.take 6 true (.run [5] (fun i => [true, false, false]) fun i => (.take 7 false .done)))) else ((.run [2] (fun i => [false, false]) fun i => (.take 6 false (.take 7 false .done))))))))) (by kernel_rfl) (by kernel_rfl) Ty.mixed ?_ ?_
  · have z1 : List.replicate N [D.int .i64 0] = (cA b s s.length).map iD := by rw [cA_end, ← hN, List.map_replicate]; rfl
    have z2 : (cA b s s.length).map iD = (gA b s s.length).map iD := by rw [cA_end, gA_end]
    rw [← z2]
    simp (maxSteps := 4000000) -implicitDefEqProofs only [go_sem, w1, z1, Option.some.injEq, forall_eq', and_true, true_and, Bool.not_true, Bool.not_false, decide_true, Nat.reduceAdd, Nat.reduceSub, Nat.reduceLT, Nat.reduceLeDiff, Nat.reduceEqDiff, ↓reduceIte]
    exact ⟨⟨by omega, by omega, (Wk.via [0, 1] (by (simp only [go_sem, ↓reduceIte]) <;> trivial) (by first | (simp (maxSteps := 4000000) -implicitDefEqProofs only [go_sem, Nat.reduceAdd, Nat.reduceSub, Nat.reduceLT, Nat.reduceLeDiff, Nat.reduceEqDiff, ↓reduceIte]; done) | ((simp (maxSteps := 4000000) -implicitDefEqProofs only [go_sem, Nat.reduceAdd, Nat.reduceSub, Nat.reduceLT, Nat.reduceLeDiff, Nat.reduceEqDiff, ↓reduceIte]) <;> omega)) (by simp) (by first | (simp; done) | (simp [so]; done)) (by (simp (maxSteps := 4000000) -implicitDefEqProofs only [go_sem, Nat.reduceAdd, Nat.reduceSub, Nat.reduceLT, Nat.reduceLeDiff, Nat.reduceEqDiff, ↓reduceIte]) <;> trivial) (by first | (simp only [go_sem]; done) | ((simp (maxSteps := 4000000) -implicitDefEqProofs only [go_sem, Nat.reduceAdd, Nat.reduceSub, Nat.reduceLT, Nat.reduceLeDiff, Nat.reduceEqDiff, ↓reduceIte]) <;> omega)) (Nat.zero_le _) (fun i h => absurd h (Nat.not_lt_zero i)))⟩, by omega, by omega, (Wk.via [1, 0] (by (simp only [go_sem, ↓reduceIte]) <;> trivial) (by first | (simp (maxSteps := 4000000) -implicitDefEqProofs only [go_sem, Nat.reduceAdd, Nat.reduceSub, Nat.reduceLT, Nat.reduceLeDiff, Nat.reduceEqDiff, ↓reduceIte]; done) | ((simp (maxSteps := 4000000) -implicitDefEqProofs only [go_sem, Nat.reduceAdd, Nat.reduceSub, Nat.reduceLT, Nat.reduceLeDiff, Nat.reduceEqDiff, ↓reduceIte]) <;> omega)) (by simp) (by first | (simp; done) | (simp [so]; done)) (by (simp (maxSteps := 4000000) -implicitDefEqProofs only [go_sem, Nat.reduceAdd, Nat.reduceSub, Nat.reduceLT, Nat.reduceLeDiff, Nat.reduceEqDiff, ↓reduceIte]) <;> trivial) (by first | (simp only [go_sem]; done) | ((simp (maxSteps := 4000000) -implicitDefEqProofs only [go_sem, Nat.reduceAdd, Nat.reduceSub, Nat.reduceLT, Nat.reduceLeDiff, Nat.reduceEqDiff, ↓reduceIte]) <;> omega)) (Nat.zero_le _) (fun i h => absurd h (Nat.not_lt_zero i)))⟩
  simp (maxSteps := 4000000) -implicitDefEqProofs only [go_sem, w2, w3, zM, Option.some.injEq, forall_eq', and_true, true_and, Bool.not_true, Bool.not_false, decide_true, Nat.reduceAdd, Nat.reduceSub, Nat.reduceLT, Nat.reduceLeDiff, Nat.reduceEqDiff, ↓reduceIte]
  refine ⟨by omega, ?_⟩
  refine eloop (S := Nat) (fun j => mkE 129 [(0, .d (.sl (b.map bY))), (1, .d (.sl (s.map bY))), (6, .d (.int .i64 s.length)), (7, .own 0), (8, .own 1), (9, .own 2), (10, .d (.int .i64 ((j : Int) - 1)))]) (fun j => [.row 1 ((cA b s j).map iD), .row 1 ((gA b s j).map iD), .row 1 ((smR b (s.drop j)).map iD)]) (fun j => j ≤ s.length) (fun j => j) s.length (Nat.le_refl _) (by rw [← z3]; exact (Wk.sub (by (simp only [go_sem]) <;> trivial))) ?_
  intro j hj
  obtain ⟨z, hz⟩ : ∃ z, (j : Int) - 1 = z := ⟨_, rfl⟩
  rw [hz]
  by_cases h1 : j = 0
  · have d1 : decide (0 ≤ z) = false := by simp; omega
    subst h1
    simp (maxSteps := 4000000) -implicitDefEqProofs only [go_sem, d1, Option.some.injEq, forall_eq', and_true, true_and, Bool.not_true, Bool.not_false, decide_true, Nat.reduceAdd, Nat.reduceSub, Nat.reduceLT, Nat.reduceLeDiff, Nat.reduceEqDiff, ↓reduceIte]
    rw [cA_0, gA_0]
    exact wk_dat (by simp only [go_sem]; rfl) (by rfl) (by simp only [go_sem])
  obtain ⟨i, rfl⟩ : ∃ i, j = i + 1 := ⟨j - 1, by omega⟩
  have d1 : decide (0 ≤ z) = true := by simp; omega
  have ez : z = (i : Int) := by omega
  subst ez
  have hi : i < s.length := by omega
  obtain ⟨t, hd, hL, hF⟩ := lst_at (b := b) hi
  have hG : lgs b (s.drop i) = (lg b (s.drop i) : Int) :: lgs b (s.drop (i + 1)) := by rw [hd, lgs]
  rw [cA_up, gA_up]
  have hlc : (lst b (s.drop (i + 1))).length = s.length - i := by rw [lst_len, List.length_drop]; omega
  have hlg : (lgs b (s.drop (i + 1))).length = s.length - i := by rw [lgs_len, List.length_drop]; omega
  have hcb : ∀ y ∈ lst b (s.drop (i + 1)), 0 ≤ y ∧ y ≤ 302 := fun y hy => by have := (lst_bd b (s.drop (i + 1))).1 y hy; rw [List.length_drop] at this; omega
  have hg1 : lg b (s.drop i) ≤ s.length - i := by have := (lg_le b (s.drop i)).1; rw [List.length_drop] at this; exact this
  have ht : s[i]? = some t := by
    have := congrArg (fun l => l[0]?) hd
    simpa using this
  have hpre : ∀ k x, b[k]? = some x → pre (b.drop k) (s.drop i) = if x = t then pre (b.drop (k + 1)) (s.drop (i + 1)) + 1 else 0 := fun k x hx => by
    have h1 : b.drop k = x :: b.drop (k + 1) := by
      have hlt := (List.getElem?_eq_some_iff.1 hx).1
      rw [List.drop_eq_getElem_cons hlt, (List.getElem?_eq_some_iff.1 hx).2]
    rw [h1, hd, pre]
  have hsm := fun k => smR_at b (s.drop (i + 1)) k
  have lS : (smR b (s.drop (i + 1))).length = M := by rw [smR_len, hM]
  have pb : ∀ k, pre (b.drop k) (s.drop i) ≤ 300 := fun k => by have := (pre_le (b.drop k) (s.drop i)).2; rw [List.length_drop] at this; omega
  have lgb := (lg_le b (s.drop i)).2
  have hlast : lst b (s.drop (i + 1)) ≠ [] := fun e => by rw [e] at hlc; simp at hlc; omega
  have z4 : List.replicate M (0 : Int) = nR b (s.drop i) 0 := by rw [nR_0, hM]
  have n1 : (0 ≤ (i : Int) ∧ (i : Int) < (N : Int)) = True := eq_true (by omega)
  have n2 : (i < N) = True := eq_true (by omega)
  have n3 : (0 ≤ (i : Int) ∧ (i : Int) < (s.length : Int)) = True := eq_true (by omega)
  have n4 : (i < s.length) = True := eq_true hi
  generalize hS : smR b (s.drop (i + 1)) = S at hsm lS ⊢
  generalize lst b (s.drop (i + 1)) = c at hL hF hlc hcb hlast ⊢
  generalize lgs b (s.drop (i + 1)) = g at hG hlg ⊢
  have lA : ∀ x, (cR i x c).length = N := fun x => by rw [cR_len]; omega
  have lG : ∀ x, (cR i x g).length = N := fun x => by rw [cR_len]; omega
  simp (maxSteps := 4000000) -implicitDefEqProofs only [go_sem, d1, w3, zM, z4, Option.some.injEq, forall_eq', and_true, true_and, Bool.not_true, Bool.not_false, decide_true, Nat.reduceAdd, Nat.reduceSub, Nat.reduceLT, Nat.reduceLeDiff, Nat.reduceEqDiff, ↓reduceIte]
  refine ⟨by omega, ?_⟩
  refine eloop (S := Nat × Int) (fun q => mkE 129 [(0, .d (.sl (b.map bY))), (1, .d (.sl (s.map bY))), (6, .d (.int .i64 s.length)), (7, .own 0), (8, .own 1), (9, .own 2), (10, .d (.int .i64 i)), (11, .own 3), (12, .d (.int .i64 q.1))]) (fun q => [.row 1 ((cR i 0 c).map iD), .row 1 ((cR i q.2 g).map iD), .row 1 (S.map iD), .row 1 ((nR b (s.drop i) q.1).map iD)])
    (fun q => q.1 ≤ b.length ∧ 0 ≤ q.2 ∧ q.2 ≤ 300 ∧ max q.2 (lg (b.drop q.1) (s.drop i) : Int) = lg b (s.drop i)) (fun q => b.length - q.1) ((0, 0) : Nat × Int) ⟨Nat.zero_le _, Int.le_refl _, by decide, by simp only [List.drop_zero]; omega⟩ (Wk.sub (by (simp only [go_sem]) <;> trivial)) ?_
  intro q hq
  obtain ⟨k, x⟩ := q
  simp only at hq ⊢
  have q1 := hq.1
  have q2 := hq.2.1
  have q3 := hq.2.2.1
  have q4 := hq.2.2.2
  clear hq
  by_cases hk : k < b.length
  · have d2 : decide ((k : Int) < b.length) = true := by simp; omega
    obtain ⟨y, hy⟩ : ∃ y, b[k]? = some y := ⟨b[k]'hk, List.getElem?_eq_getElem _⟩
    have hp := hpre k y hy
    have pbk := pb k
    have lN := nR_len b (s.drop i) (k := k) (by omega)
    have lN1 := nR_len b (s.drop i) (k := k + 1) (by omega)
    rw [← hM] at lN lN1
    have n5 : (0 ≤ (k : Int) ∧ (k : Int) < (b.length : Int)) = True := eq_true (by omega)
    have n6 : (k < b.length) = True := eq_true hk
    have n7 : (0 ≤ ((k + 1 : Nat) : Int) ∧ ((k + 1 : Nat) : Int) < (M : Int)) = True := eq_true (by omega)
    have n8 : (k + 1 < M) = True := eq_true (by omega)
    have n9 : (0 ≤ (k : Int) ∧ (k : Int) < (M : Int)) = True := eq_true (by omega)
    have n10 : (k < M) = True := eq_true (by omega)
    have w4 : IntKind.i64.wrap ((k : Int) + 1) = ((k + 1 : Nat) : Int) := by rw [i64_in _ (by omega)]; simp
    have ax : (cR i x g)[i]? = some x := cR_at i x g
    have an := nR_at (s := s.drop i) hk
    have hlgk := lg_step (s := s.drop i) hk
    have fin : ∀ v : Int, v = (pre (b.drop k) (s.drop i) : Int) → (if x < v then v else x) = max x v := fun v _ => by omega
    by_cases hyt : y = t
    · have z5 : (y == t) = true := by simp [hyt]
      rw [if_pos hyt] at hp
      have aS := hsm (k + 1) (by omega)
      have w5 : IntKind.i64.wrap ((pre (b.drop (k + 1)) (s.drop (i + 1)) : Int) + 1) = (pre (b.drop k) (s.drop i) : Int) := by rw [i64_in _ (by omega)]; omega
      have st := nR_set (s := s.drop i) hk
      generalize hv : (pre (b.drop k) (s.drop i) : Int) = v at an st w5 fin pbk
      obtain ⟨a0, ha0⟩ : ∃ a0, (nR b (s.drop i) k)[k]? = some a0 := ⟨(nR b (s.drop i) k)[k]'(by omega), List.getElem?_eq_getElem _⟩
      have fin2 : (if x < v then v else x) = max x v := by split <;> omega
      simp (maxSteps := 4000000) -implicitDefEqProofs only [go_sem, d2, Option.some.injEq, forall_eq', and_true, true_and, Bool.not_true, Bool.not_false, decide_true, Nat.reduceAdd, Nat.reduceSub, Nat.reduceLT, Nat.reduceLeDiff, Nat.reduceEqDiff, ↓reduceIte]
      refine DX.plain (.take 0 false (.take 1 false (.take 2 false (.take 3 false (.take 4 false (.take 5 false (.take 6 false (.take 7 false (.take 8 false .done))))))))) (by kernel_rfl) (by kernel_rfl) Ty.mixed ?_
      simp (maxSteps := 4000000) -implicitDefEqProofs only [go_sem, n5, n6, hy, n3, n4, ht, z5, lS, lN, n7, n8, n9, n10, w4, aS, w5, ha0, st, Option.some.injEq, forall_eq', and_true, true_and, Bool.not_true, Bool.not_false, decide_true, Nat.reduceAdd, Nat.reduceSub, Nat.reduceLT, Nat.reduceLeDiff, Nat.reduceEqDiff, ↓reduceIte]
      refine DX.plain (.take 0 false (.take 1 false (.take 2 false (.take 3 false (.take 4 false (.take 5 false (.take 6 false (.take 7 false (.take 8 false (.take 9 false (.take 10 false (.take 11 false (.run [12] (fun _ => []) fun _ => .done))))))))))))) (by kernel_rfl) (by kernel_rfl) Ty.mixed ?_
      simp (maxSteps := 4000000) -implicitDefEqProofs only [go_sem, lG, lN1, n1, n2, n9, n10, ax, an, fin2, cR_at, cR_set, w4, Option.some.injEq, forall_eq', and_true, true_and, Bool.not_true, Bool.not_false, decide_true, Nat.reduceAdd, Nat.reduceSub, Nat.reduceLT, Nat.reduceLeDiff, Nat.reduceEqDiff, ↓reduceIte]
      exact .mk ((k + 1, max x v) : Nat × Int) ⟨by first | omega | (simp only; omega), by first | omega | (simp only; omega), by first | omega | (simp only; omega), by first | omega | (simp only; omega)⟩ (by first | omega | (simp only; omega)) (Wk.sub (by (simp only [go_sem]) <;> trivial))
    · have z5 : (y == t) = false := by simp [hyt]
      rw [if_neg hyt] at hp
      have st := nR_stay hk hp
      rw [st, hp] at an
      have an' : (nR b (s.drop i) k)[k]? = some (0 : Int) := an
      have fin2 : (if x < 0 then 0 else x) = x := by split <;> omega
      rw [hp] at hlgk
      simp (maxSteps := 4000000) -implicitDefEqProofs only [go_sem, d2, Option.some.injEq, forall_eq', and_true, true_and, Bool.not_true, Bool.not_false, decide_true, Nat.reduceAdd, Nat.reduceSub, Nat.reduceLT, Nat.reduceLeDiff, Nat.reduceEqDiff, ↓reduceIte]
      refine DX.plain (.take 0 false (.take 1 false (.take 2 false (.take 3 false (.take 4 false (.take 5 false (.take 6 false (.take 7 false (.take 8 false .done))))))))) (by kernel_rfl) (by kernel_rfl) Ty.mixed ?_
      simp (maxSteps := 4000000) -implicitDefEqProofs only [go_sem, n5, n6, hy, n3, n4, ht, z5, Option.some.injEq, forall_eq', and_true, true_and, Bool.not_true, Bool.not_false, decide_true, Nat.reduceAdd, Nat.reduceSub, Nat.reduceLT, Nat.reduceLeDiff, Nat.reduceEqDiff, ↓reduceIte]
      refine DX.plain (.take 0 false (.take 1 false (.take 2 false (.take 3 false (.take 4 false (.take 5 false (.take 6 false (.take 7 false (.take 8 false (.take 9 false (.take 10 false (.take 11 false (.run [12] (fun _ => []) fun _ => .done))))))))))))) (by kernel_rfl) (by kernel_rfl) Ty.mixed ?_
      simp (maxSteps := 4000000) -implicitDefEqProofs only [go_sem, lG, lN, n1, n2, n9, n10, ax, an', fin2, cR_at, cR_set, w4, Option.some.injEq, forall_eq', and_true, true_and, Bool.not_true, Bool.not_false, decide_true, Nat.reduceAdd, Nat.reduceSub, Nat.reduceLT, Nat.reduceLeDiff, Nat.reduceEqDiff, ↓reduceIte]
      exact .mk ((k + 1, x) : Nat × Int) ⟨by first | omega | (simp only; omega), q2, q3, by first | omega | (simp only; omega)⟩ (by first | omega | (simp only; omega)) (by rw [st]; exact (Wk.sub (by (simp only [go_sem]) <;> trivial)))
  have d2 : decide ((k : Int) < b.length) = false := by simp; omega
  have ek : k = b.length := by omega
  have hxL : x = (lg b (s.drop i) : Int) := by
    rw [ek, List.drop_length, lg] at q4
    omega
  rw [ek, nR_end, hxL]
  clear q1 q2 q3 q4 d2 hk hxL
  have d2 : decide ((b.length : Int) < b.length) = false := by simp
  generalize hLL : lg b (s.drop i) = L at hL hF hG hg1 lgb ⊢
  clear ek k x
  obtain ⟨z0, c', hc'⟩ : ∃ z0 c', c = z0 :: c' := by
    cases c with
    | nil => exact absurd rfl hlast
    | cons z0 c' => exact ⟨z0, c', rfl⟩
  have hc0 : c[0]? = some z0 := by rw [hc']; rfl
  have z0b := hcb z0 (List.mem_of_getElem? hc0)
  have hmin : minl L c 1 (2 + z0) = (best c L).1 := by
    rw [hc'] at hcb hlc ⊢
    exact min_best (fun y hy => (hcb y hy).1) (by omega)
  have a1 : (cR i 0 c)[i + 1]? = some z0 := by rw [← hc0]; exact cR_up i 0 0 c
  have a2 : (cR i (L : Int) g)[i]? = some (L : Int) := cR_at i L g
  have n5 : (0 ≤ ((i + 1 : Nat) : Int) ∧ ((i + 1 : Nat) : Int) < (N : Int)) = True := eq_true (by omega)
  have n6 : (i + 1 < N) = True := eq_true (by omega)
  have w4 : IntKind.i64.wrap ((i : Int) + 1) = ((i + 1 : Nat) : Int) := by rw [i64_in _ (by omega)]; simp
  have w5 : IntKind.i64.wrap (2 + z0) = 2 + z0 := i64_in _ (by omega)
  simp (maxSteps := 4000000) -implicitDefEqProofs only [go_sem, d2, w4, w5, lA, n1, n2, n5, n6, a1, cR_at, cR_set, Option.some.injEq, forall_eq', and_true, true_and, Bool.not_true, Bool.not_false, decide_true, Nat.reduceAdd, Nat.reduceSub, Nat.reduceLT, Nat.reduceLeDiff, Nat.reduceEqDiff, ↓reduceIte]
  refine eloop (S := Nat × Int) (fun q => mkE 129 [(0, .d (.sl (b.map bY))), (1, .d (.sl (s.map bY))), (6, .d (.int .i64 s.length)), (7, .own 0), (8, .own 1), (9, .own 2), (10, .d (.int .i64 i)), (13, .d (.int .i64 q.1))]) (fun q => [.row 1 ((cR i q.2 c).map iD), .row 1 ((cR i L g).map iD), .row 1 ((smR b (s.drop i)).map iD)])
    (fun q => 1 ≤ q.1 ∧ q.1 ≤ s.length - i + 1 ∧ 0 ≤ q.2 ∧ q.2 ≤ 1000 ∧ minl L (c.drop (q.1 - 1)) q.1 q.2 = (best c L).1) (fun q => s.length + 2 - q.1) ((1, 2 + z0) : Nat × Int) ⟨Nat.le_refl _, by simp, by simp only; omega, by simp only; omega, hmin⟩ (Wk.via [0, 1, 3] (by (simp only [go_sem, ↓reduceIte]) <;> trivial) (by first | (simp (maxSteps := 4000000) -implicitDefEqProofs only [go_sem, Nat.reduceAdd, Nat.reduceSub, Nat.reduceLT, Nat.reduceLeDiff, Nat.reduceEqDiff, ↓reduceIte]; done) | ((simp (maxSteps := 4000000) -implicitDefEqProofs only [go_sem, Nat.reduceAdd, Nat.reduceSub, Nat.reduceLT, Nat.reduceLeDiff, Nat.reduceEqDiff, ↓reduceIte]) <;> omega)) (by simp) (by first | (simp; done) | (simp [so]; done)) (by (simp (maxSteps := 4000000) -implicitDefEqProofs only [go_sem, Nat.reduceAdd, Nat.reduceSub, Nat.reduceLT, Nat.reduceLeDiff, Nat.reduceEqDiff, ↓reduceIte]) <;> trivial) (by first | (simp only [go_sem]; done) | ((simp (maxSteps := 4000000) -implicitDefEqProofs only [go_sem, Nat.reduceAdd, Nat.reduceSub, Nat.reduceLT, Nat.reduceLeDiff, Nat.reduceEqDiff, ↓reduceIte]) <;> omega)) (Nat.zero_le _) (fun i h => absurd h (Nat.not_lt_zero i))) ?_
  clear hmin a1 n5 n6 w4 w5 d2
  intro q hq
  obtain ⟨m, x⟩ := q
  simp only at hq ⊢
  have q1 := hq.1
  have q1' := hq.2.1
  have q2 := hq.2.2.1
  have q3 := hq.2.2.2.1
  have q4 := hq.2.2.2.2
  clear hq
  have w3 : IntKind.i64.wrap ((i : Int) + m) = ((i + m : Nat) : Int) := by rw [i64_in _ (by omega)]; simp
  by_cases hm : i + m ≤ s.length
  case neg =>
    have d5 : decide (((i + m : Nat) : Int) ≤ s.length) = false := by simp; omega
    rw [List.drop_eq_nil_of_le (by omega), minl] at q4
    have w7 : IntKind.i64.wrap ((i : Int) - 1) = (i : Int) - 1 := i64_in _ (by omega)
    have eA : (cR i x c).map iD = (cA b s i).map iD := by rw [cA, hL, cR, q4]
    have eG : (cR i (L : Int) g).map iD = (gA b s i).map iD := by rw [gA, hG, cR]
    simp (maxSteps := 4000000) -implicitDefEqProofs only [go_sem, d5, w3, w7, eA, eG, Option.some.injEq, forall_eq', and_true, true_and, Bool.not_true, Bool.not_false, decide_true, Nat.reduceAdd, Nat.reduceSub, Nat.reduceLT, Nat.reduceLeDiff, Nat.reduceEqDiff, ↓reduceIte]
    exact .mk i (by omega) (by omega) (Wk.sub (by (simp only [go_sem]) <;> trivial))
  obtain ⟨m', hm'⟩ : ∃ m', m = m' + 1 := ⟨m - 1, by omega⟩
  obtain ⟨y, hy⟩ : ∃ y, c[m']? = some y := ⟨c[m']'(by omega), List.getElem?_eq_getElem _⟩
  have yb := hcb y (List.mem_of_getElem? hy)
  have d5 : decide (((i + m : Nat) : Int) ≤ s.length) = true := by simp; omega
  have w7 : IntKind.i64.wrap (1 + (m : Int)) = 1 + (m : Int) := i64_in _ (by omega)
  have w8 : IntKind.i64.wrap (1 + (m : Int) + y) = 1 + (m : Int) + y := i64_in _ (by omega)
  have w9 : IntKind.i64.wrap ((m : Int) + 1) = ((m + 1 : Nat) : Int) := by rw [i64_in _ (by omega)]; simp
  have w10 : IntKind.i64.wrap (3 + y) = 3 + y := i64_in _ (by omega)
  have ax : (cR i x c)[i]? = some x := cR_at i x c
  have ay : ∀ x, (cR i x c)[i + m]? = some y := fun x => by rw [hm', cR_up]; exact hy
  have n5 : (0 ≤ ((i + m : Nat) : Int) ∧ ((i + m : Nat) : Int) < (N : Int)) = True := eq_true (by omega)
  have n6 : (i + m < N) = True := eq_true (by omega)
  have ed : c.drop (m - 1) = y :: c.drop (m + 1 - 1) := by
    have hlt := (List.getElem?_eq_some_iff.1 hy).1
    rw [hm', Nat.add_sub_cancel, Nat.add_sub_cancel, List.drop_eq_getElem_cons hlt, (List.getElem?_eq_some_iff.1 hy).2]
  rw [ed, minl] at q4
  have e1 : (if 1 + (m : Int) + y < x then 1 + (m : Int) + y else x) = min x (1 + (m : Int) + y) := by split <;> omega
  generalize hx1 : min x (1 + (m : Int) + y) = x1 at e1 q4
  have ax1 : (cR i x1 c)[i]? = some x1 := cR_at i x1 c
  by_cases hmL : m ≤ L
  · have d6 : decide ((m : Int) ≤ (L : Int)) = true := by simp; omega
    rw [if_pos hmL] at q4
    have e2 : (if 3 + y < x1 then 3 + y else x1) = min x1 (3 + y) := by split <;> omega
    generalize hx2 : min x1 (3 + y) = x2 at e2 q4
    simp (maxSteps := 4000000) -implicitDefEqProofs only [go_sem, d5, w3, Option.some.injEq, forall_eq', and_true, true_and, Bool.not_true, Bool.not_false, decide_true, Nat.reduceAdd, Nat.reduceSub, Nat.reduceLT, Nat.reduceLeDiff, Nat.reduceEqDiff, ↓reduceIte]
    refine DX.plain (.take 0 false (.take 1 false (.take 2 false (.take 3 false (.take 4 false (.take 5 false (.take 6 false (.take 7 false (.take 8 false (.take 9 false (.take 10 false (.take 11 false (.take 12 false (.take 13 false (.take 14 false (.take 15 false (.take 16 false (.run [17] (fun _ => []) fun _ => .done)))))))))))))))))) (by kernel_rfl) (by kernel_rfl) Ty.mixed ?_
    simp (maxSteps := 4000000) -implicitDefEqProofs only [go_sem, lA, lG, n1, n2, n5, n6, w3, w7, w8, ax, ay, e1, a2, cR_at, cR_set, d6, Option.some.injEq, forall_eq', and_true, true_and, Bool.not_true, Bool.not_false, decide_true, Nat.reduceAdd, Nat.reduceSub, Nat.reduceLT, Nat.reduceLeDiff, Nat.reduceEqDiff, ↓reduceIte]
    refine DX.plain (.take 0 false (.take 1 false (.take 2 false (.take 3 false (.take 4 false (.take 5 false (.take 6 false (.take 7 false (.take 8 false (.take 9 false (.take 10 false (.take 11 false (.take 12 false (.take 13 false (.take 14 false (.run [15] (fun _ => []) fun _ => .done)))))))))))))))) (by kernel_rfl) (by kernel_rfl) Ty.mixed ?_
    simp (maxSteps := 4000000) -implicitDefEqProofs only [go_sem, lA, lG, n1, n2, n5, n6, w3, w9, w10, ax1, ay, e2, cR_at, cR_set, Option.some.injEq, forall_eq', and_true, true_and, Bool.not_true, Bool.not_false, decide_true, Nat.reduceAdd, Nat.reduceSub, Nat.reduceLT, Nat.reduceLeDiff, Nat.reduceEqDiff, ↓reduceIte]
    exact .mk ((m + 1, x2) : Nat × Int) ⟨by first | omega | (simp only; omega), by first | omega | (simp only; omega), by first | omega | (simp only; omega), by first | omega | (simp only; omega), q4⟩ (by first | omega | (simp only; omega)) (Wk.sub (by (simp only [go_sem]) <;> trivial))
  · have d6 : decide ((m : Int) ≤ (L : Int)) = false := by simp; omega
    rw [if_neg hmL] at q4
    simp (maxSteps := 4000000) -implicitDefEqProofs only [go_sem, d5, w3, Option.some.injEq, forall_eq', and_true, true_and, Bool.not_true, Bool.not_false, decide_true, Nat.reduceAdd, Nat.reduceSub, Nat.reduceLT, Nat.reduceLeDiff, Nat.reduceEqDiff, ↓reduceIte]
    refine DX.plain (.take 0 false (.take 1 false (.take 2 false (.take 3 false (.take 4 false (.take 5 false (.take 6 false (.take 7 false (.take 8 false (.take 9 false (.take 10 false (.take 11 false (.take 12 false (.take 13 false (.take 14 false (.take 15 false (.take 16 false (.run [17] (fun _ => []) fun _ => .done)))))))))))))))))) (by kernel_rfl) (by kernel_rfl) Ty.mixed ?_
    simp (maxSteps := 4000000) -implicitDefEqProofs only [go_sem, lA, lG, n1, n2, n5, n6, w3, w7, w8, w9, ax, ay, e1, a2, cR_at, cR_set, d6, Option.some.injEq, forall_eq', and_true, true_and, Bool.not_true, Bool.not_false, decide_true, Nat.reduceAdd, Nat.reduceSub, Nat.reduceLT, Nat.reduceLeDiff, Nat.reduceEqDiff, ↓reduceIte]
    exact .mk ((m + 1, x1) : Nat × Int) ⟨by first | omega | (simp only; omega), by first | omega | (simp only; omega), by first | omega | (simp only; omega), by first | omega | (simp only; omega), q4⟩ (by first | omega | (simp only; omega)) (Wk.sub (by (simp only [go_sem]) <;> trivial))
end Go.AX.De
/- The reference's place. -/
set_option maxHeartbeats 8000000
set_option linter.unusedVariables false
set_option linter.unusedSimpArgs false
set_option maxRecDepth 20000
namespace Go.AX.De
open Go.Proofs Go.RowKit Go.IntWalk Go.AX.Co
theorem u8_inj {x y : Int} (hx : 0 ≤ x ∧ x ≤ 255) (hy : 0 ≤ y ∧ y ≤ 255) : (x.toNat.toUInt8 == y.toNat.toUInt8) = decide (x = y) := by
  rw [Bool.eq_iff_iff, beq_iff_eq, decide_eq_true_eq]
  constructor
  · intro h
    have := congrArg UInt8.toNat h
    have e1 : x.toNat.toUInt8.toNat = x.toNat := by simp; omega
    have e2 : y.toNat.toUInt8.toNat = y.toNat := by simp; omega
    omega
  · rintro rfl; rfl
theorem pref_eq : ∀ (a p : List Int), Bytes a → Bytes p → (u8s p).isPrefixOf (u8s a) = decide (pre a p = p.length)
  | a, [], _, _ => by simp [u8s, pre_nil_r]
  | [], y :: p, _, _ => by simp [u8s, pre]
  | x :: a, y :: p, ha, hp => by
    have ih := pref_eq a p (fun e he => ha e (by simp [he])) (fun e he => hp e (by simp [he]))
    have e := u8_inj (ha x (by simp)) (hp y (by simp))
    have e' : (y.toNat.toUInt8 == x.toNat.toUInt8) = decide (x = y) := by rw [← e, Bool.eq_iff_iff, beq_iff_eq, beq_iff_eq]; exact eq_comm
    unfold u8s at ih ⊢
    rw [List.map_cons, List.map_cons, List.isPrefixOf, ih, e', pre, List.length_cons]
    by_cases h : x = y
    · rw [if_pos h, decide_eq_true h, Bool.true_and, Bool.eq_iff_iff, decide_eq_true_eq, decide_eq_true_eq]; omega
    · rw [if_neg h, decide_eq_false h, Bool.false_and]; simp
theorem index_of {b p : List Int} (hB : Bytes b) (hP : Bytes p) {i : Nat} (hi : i ≤ b.length) (h : pre (b.drop i) p = p.length) (hj : ∀ j, j < i → pre (b.drop j) p ≠ p.length) : Lib.index (u8s b) (u8s p) = i := by
  have hd : ∀ j, (u8s b).drop j = u8s (b.drop j) := fun j => by unfold u8s; rw [List.map_drop]
  have hb : ∀ j, Bytes (b.drop j) := fun j e he => hB e (List.mem_of_mem_drop he)
  refine Lib.index_first (by unfold u8s; rw [List.length_map]; exact hi) ?_ fun j hlt => ?_
  · rw [Lib.occAt, hd, pref_eq _ _ (hb i) hP, decide_eq_true h]
  · rw [Lib.occAt, hd, pref_eq _ _ (hb j) hP, decide_eq_false (hj j hlt)]
theorem pre_take : ∀ (a s : List Int) (k : Nat), k ≤ pre a s → pre a (s.take k) = (s.take k).length
  | a, s, 0, _ => by simp [pre_nil_r]
  | [], s, k + 1, h => by simp [pre] at h
  | x :: a, [], k + 1, h => by simp [pre] at h
  | x :: a, y :: s, k + 1, h => by
    rw [pre] at h
    by_cases e : x = y
    · rw [if_pos e] at h
      rw [List.take_succ_cons, pre, if_pos e, pre_take a s k (by omega), List.length_cons]
    · rw [if_neg e] at h; omega
theorem lg_some : ∀ (b s : List Int), 0 < lg b s → ∃ j, j < b.length ∧ pre (b.drop j) s = lg b s
  | [], s, h => by simp [lg] at h
  | x :: b, s, h => by
    rw [lg] at h ⊢
    by_cases q : lg b s ≤ pre (x :: b) s
    · exact ⟨0, by simp, by rw [List.drop_zero]; omega⟩
    · obtain ⟨j, h1, h2⟩ := lg_some b s (by omega)
      exact ⟨j + 1, by simp; omega, by rw [List.drop_succ_cons, h2]; omega⟩
theorem lg_take {b s : List Int} {k : Nat} (h0 : 0 < k) (h : k ≤ lg b s) : ∃ j, j < b.length ∧ pre (b.drop j) (s.take k) = (s.take k).length := by
  obtain ⟨j, h1, h2⟩ := lg_some b s (by omega)
  exact ⟨j, h1, pre_take _ _ _ (by omega)⟩
theorem place_ref (b p : List Int) (hB : Bytes b) (hP : Bytes p) (hb : b.length ≤ 1000) (hp : p.length ≤ 1000) (hex : ∃ j, j < b.length ∧ pre (b.drop j) p = p.length) :
    Spec Try.prog 35 [.d (.sl (b.map bY)), .d (.sl (p.map bY))] [] (.d (.int .i64 (Lib.index (u8s b) (u8s p)))) [] := by
  obtain ⟨J, hJ1, hJ2⟩ := hex
  have hJ3 := (pre_le (b.drop J) p).2
  rw [hJ2, List.length_drop] at hJ3
  refine spec_of_ev (fn := Try.f35) DX_ok 3000 Try.func35 rfl rfl (Nat.le_of_ble_eq_true rfl) ?_
  simp (maxSteps := 4000000) -implicitDefEqProofs only [Try.f35, go_sem]
  refine eloop (S := Nat) (fun i => mkE 33 [(0, .d (.sl (b.map bY))), (1, .d (.sl (p.map bY))), (5, .d (.int .i64 i))]) (fun _ => []) (fun i => i ≤ J ∧ ∀ j, j < i → pre (b.drop j) p ≠ p.length) (fun i => J - i) 0 ⟨by omega, fun j h => by omega⟩ (Wk.sub (by (simp only [go_sem]) <;> trivial)) ?_
  rintro i ⟨hi, hj⟩
  simp (maxSteps := 4000000) -implicitDefEqProofs only [go_sem, Nat.reduceAdd, Nat.reduceSub, Nat.reduceLT, Nat.reduceLeDiff, Nat.reduceEqDiff, ↓reduceIte]
  refine eloop (S := Nat) (fun k => mkE 33 [(0, .d (.sl (b.map bY))), (1, .d (.sl (p.map bY))), (5, .d (.int .i64 i)), (6, .d (.int .i64 k))]) (fun _ => []) (fun k => k ≤ p.length ∧ pre ((b.drop i).drop k) (p.drop k) + k = pre (b.drop i) p) (fun k => p.length - k) 0 ⟨by omega, by simp⟩ (Wk.sub (by (simp only [go_sem]) <;> trivial)) ?_
  rintro k ⟨hk, hq⟩
  simp (maxSteps := 4000000) -implicitDefEqProofs only [go_sem, Nat.reduceAdd, Nat.reduceSub, Nat.reduceLT, Nat.reduceLeDiff, Nat.reduceEqDiff, ↓reduceIte]
  have w2 : IntKind.i64.wrap ((i : Int) + k) = i + k := i64_in _ (by omega)
  have w1 : IntKind.i64.wrap ((i : Int) + 1) = i + 1 := i64_in _ (by omega)
  rcases Nat.lt_or_ge k p.length with h3 | h3
  · have d3 : decide ((k : Int) < p.length) = true := by simp; omega
    have h4 : i + k < b.length := by omega
    obtain ⟨x, hx⟩ : ∃ x, b[i + k]? = some x := ⟨b[i + k]'h4, List.getElem?_eq_getElem _⟩
    obtain ⟨y, hy⟩ : ∃ x, p[k]? = some x := ⟨p[k]'h3, List.getElem?_eq_getElem _⟩
    have hx' : (b.drop i)[k]? = some x := by rw [List.getElem?_drop]; exact hx
    have n1 : (0 ≤ (i : Int) + k ∧ (i : Int) + k < b.length) = True := eq_true (by omega)
    have n2 : (0 ≤ (k : Int) ∧ (k : Int) < p.length) = True := eq_true (by omega)
    have n3 : (i + k < b.length) = True := eq_true h4
    have n4 : (k < p.length) = True := eq_true h3
    have t1 : ((i : Int) + k).toNat = i + k := by omega
    by_cases h5 : x = y
    · have z : (x == y) = true := by simp [h5]
      have w3 : IntKind.i64.wrap ((k : Int) + 1) = k + 1 := i64_in _ (by omega)
      refine DX.plain (.take 0 false (.take 1 false (.take 2 false (.take 3 false (.take 4 false (.take 5 false (.take 6 false (.take 7 false (.take 8 false (.take 9 false (.take 10 false (.take 11 false (.take 12 false (.take 13 false (.take 14 false (.take 15 false (.take 16 false .done))))))))))))))))) (by kernel_rfl) (by kernel_rfl) Ty.mixed ?_
      simp (maxSteps := 4000000) -implicitDefEqProofs only [go_sem, d3, w2, n1, n2, n3, n4, t1, hx, hy, z, Option.some.injEq, forall_eq', and_true, true_and, Bool.not_true, Bool.not_false, decide_true, Nat.reduceAdd, Nat.reduceSub, Nat.reduceLT, Nat.reduceLeDiff, Nat.reduceEqDiff, ↓reduceIte]
      simp (maxSteps := 4000000) -implicitDefEqProofs only [go_sem, w3, Option.some.injEq, forall_eq', and_true, true_and, Bool.not_true, Bool.not_false, decide_true, Nat.reduceAdd, Nat.reduceSub, Nat.reduceLT, Nat.reduceLeDiff, Nat.reduceEqDiff, ↓reduceIte]
      exact .mk (k + 1) ⟨by omega, by rw [pre_step hx' hy h5] at hq; omega⟩ (by omega) (Wk.sub (by (simp only [go_sem]) <;> trivial))
    · have z : (x == y) = false := by simp [h5]
      rw [pre_stop hx' hy h5, Nat.zero_add] at hq
      have z2 : ((k : Int) == (p.length : Int)) = false := by simp; omega
      have hne : i ≠ J := fun e => by subst e; omega
      refine DX.plain (.take 0 false (.take 1 false (.take 2 false (.take 3 false (.take 4 false (.take 5 false (.take 6 false (.take 7 false (.take 8 false (.take 9 false (.take 10 false (.take 11 false (.take 12 false (.take 13 false (.take 14 false (.take 15 false (.take 16 false .done))))))))))))))))) (by kernel_rfl) (by kernel_rfl) Ty.mixed ?_
      simp (maxSteps := 4000000) -implicitDefEqProofs only [go_sem, d3, w2, n1, n2, n3, n4, t1, hx, hy, z, Option.some.injEq, forall_eq', and_true, true_and, Bool.not_true, Bool.not_false, decide_true, Nat.reduceAdd, Nat.reduceSub, Nat.reduceLT, Nat.reduceLeDiff, Nat.reduceEqDiff, ↓reduceIte]
      simp (maxSteps := 4000000) -implicitDefEqProofs only [go_sem, z2, w1, Option.some.injEq, forall_eq', and_true, true_and, Bool.not_true, Bool.not_false, decide_true, Nat.reduceAdd, Nat.reduceSub, Nat.reduceLT, Nat.reduceLeDiff, Nat.reduceEqDiff, ↓reduceIte]
      exact .mk (i + 1) ⟨by omega, fun j hlt => by
        rcases Nat.lt_or_ge j i with r | r
        · exact hj j r
        · have : j = i := by omega
          subst this; omega⟩ (by omega) (Wk.sub (by (simp only [go_sem]) <;> trivial))
  · have d3 : decide ((k : Int) < p.length) = false := by simp; omega
    rw [pre_end (.inr (by omega)), Nat.zero_add] at hq
    have z2 : ((k : Int) == (p.length : Int)) = true := by simp; omega
    rw [index_of hB hP (i := i) (by omega) (by omega) hj]
    refine DX.plain (.take 0 false (.take 1 false (.take 2 false (.take 3 false (.take 4 false (.take 5 false (.take 6 false (.take 7 false (.take 8 false (.take 9 false (.take 10 false (.take 11 false (.take 12 false (.take 13 false (.take 14 false (.take 15 false (.take 16 false .done))))))))))))))))) (by kernel_rfl) (by kernel_rfl) Ty.mixed ?_
    simp (maxSteps := 4000000) -implicitDefEqProofs only [go_sem, d3, Option.some.injEq, forall_eq', and_true, true_and, Bool.not_true, Bool.not_false, decide_true, Nat.reduceAdd, Nat.reduceSub, Nat.reduceLT, Nat.reduceLeDiff, Nat.reduceEqDiff, ↓reduceIte]
    simp (maxSteps := 4000000) -implicitDefEqProofs only [go_sem, z2, Option.some.injEq, forall_eq', and_true, true_and, Bool.not_true, Bool.not_false, decide_true, Nat.reduceAdd, Nat.reduceSub, Nat.reduceLT, Nat.reduceLeDiff, Nat.reduceEqDiff, ↓reduceIte]
    exact Wk.sub (wkE_refl _)
end Go.AX.De
/- The reference's Make. -/
set_option maxHeartbeats 8000000
set_option linter.unusedVariables false
set_option linter.unusedSimpArgs false
set_option maxRecDepth 20000
namespace Go.AX.De
open Go.Proofs Go.RowKit Go.IntWalk Go.AX.Co
theorem make_ref (b s : List Int) (hB : Bytes b) (hS : Bytes s) (hlb : b.length ≤ 140737488351232) (hls : s.length ≤ 140737488351232) :
    Spec Try.prog 19 [.d (.sl (b.map bY)), .d (.sl (s.map bY))] [] (.tup [.d (.sl ((makes b s).1.map pD)), .d (.int .i64 (makes b s).2)]) [] := by
  have d0 : decide (300 < (b.length : Int)) = decide (300 < b.length) := by rw [Bool.eq_iff_iff]; simp; omega
  have d0' : decide (300 < (s.length : Int)) = decide (300 < s.length) := by rw [Bool.eq_iff_iff]; simp; omega
  have fail : ∀ τ : List AObj, Wk 0 [.tup [.nil, .d (.int .i64 4)]] τ [.tup [.d (.sl (([] : List Part).map pD)), .d (.int .i64 4)]] [] := fun τ =>
    wk_dat (by simp only [go_sem]; rfl) (by simp only [List.map_nil]) (by simp only [go_sem, List.map_nil])
  generalize hR : makes b s = R
  unfold makes at hR
  refine spec_of_ev (fn := Try.f19) DX_ok 3000 Try.func19 rfl rfl (Nat.le_of_ble_eq_true rfl) ?_
  simp (maxSteps := 4000000) -implicitDefEqProofs only [Try.f19, go_sem]
  by_cases h1 : 300 < b.length
  · rw [if_pos (.inl h1)] at hR
    subst hR
    rw [decide_eq_true h1] at d0
    simp (maxSteps := 4000000) -implicitDefEqProofs only [go_sem, d0, Option.some.injEq, forall_eq', and_true, true_and, Bool.not_true, Bool.not_false, decide_true, Nat.reduceAdd, Nat.reduceSub, Nat.reduceLT, Nat.reduceLeDiff, Nat.reduceEqDiff, ↓reduceIte]
    exact fail _
  rw [decide_eq_false h1] at d0
  by_cases h2 : 300 < s.length
  · rw [if_pos (.inr h2)] at hR
    subst hR
    rw [decide_eq_true h2] at d0'
    simp (maxSteps := 4000000) -implicitDefEqProofs only [go_sem, d0, d0', Option.some.injEq, forall_eq', and_true, true_and, Bool.not_true, Bool.not_false, decide_true, Nat.reduceAdd, Nat.reduceSub, Nat.reduceLT, Nat.reduceLeDiff, Nat.reduceEqDiff, ↓reduceIte]
    exact fail _
  rw [decide_eq_false h2] at d0'
  rw [if_neg (fun h => h.elim h1 h2)] at hR
  subst hR
  have hb : b.length ≤ 300 := by omega
  have hs : s.length ≤ 300 := by omega
  have cl := least_ref b s hb hs
  have lA : (lst b s).length = s.length + 1 := lst_len b s
  have lG : (lgs b s).length = s.length + 1 := lgs_len b s
  have hA := lst_drop b s
  have hAa := lst_all b s
  have hG := lgs_at b s
  have hAb := (lst_bd b s).1
  obtain ⟨A, eA⟩ : ∃ A, A = lst b s := ⟨_, rfl⟩
  obtain ⟨G, eG⟩ : ∃ G, G = lgs b s := ⟨_, rfl⟩
  rw [← eA] at lA hA hAa hAb cl
  rw [← eG] at lG hG cl
  obtain ⟨N, hN⟩ : ∃ N, N = s.length + 1 := ⟨_, rfl⟩
  rw [← hN] at lA lG
  simp (maxSteps := 4000000) -implicitDefEqProofs only [go_sem, d0, d0', Option.some.injEq, forall_eq', and_true, true_and, Bool.not_true, Bool.not_false, decide_true, Nat.reduceAdd, Nat.reduceSub, Nat.reduceLT, Nat.reduceLeDiff, Nat.reduceEqDiff, ↓reduceIte]
  refine .all _ _ (cl.lift0 _ (by simp only [go_sem]) (by simp only [go_sem])) ?_
  simp (maxSteps := 4000000) -implicitDefEqProofs only [go_sem, Nat.reduceAdd, Nat.reduceSub, Nat.reduceLT, Nat.reduceLeDiff, Nat.reduceEqDiff, ↓reduceIte]
  refine eloop (S := Nat × Nat × List Part) (fun q => mkE 102 [(0, .d (.sl (b.map bY))), (1, .d (.sl (s.map bY))), (6, .d (.sl (A.map iD))), (7, .d (.sl (G.map iD))), (8, .own 0), (9, .d (.int .i64 q.1))]) (fun q => [.row 3 (q.2.2.map pD)])
    (fun q => q.1 ≤ s.length ∧ s.length ≤ q.1 + q.2.1 ∧ q.2.2.length ≤ q.1 ∧ q.2.2 ++ mkP b q.2.1 (s.drop q.1) = mkP b s.length s) (fun q => s.length - q.1) ((0, s.length, []) : Nat × Nat × List Part) ⟨Nat.zero_le _, by simp, Nat.le_refl _, by simp⟩ (Wk.trans (Wk.nil 8 3 rfl) (Wk.sub (by (simp only [go_sem]) <;> trivial))) ?_
  intro q hq
  obtain ⟨i, d, out⟩ := q
  simp only at hq ⊢
  have q1 := hq.1
  have q2 := hq.2.1
  have q3 := hq.2.2.1
  have q4 := hq.2.2.2
  clear hq
  by_cases hi : i < s.length
  case neg =>
    have d2 : decide ((i : Int) < s.length) = false := by simp; omega
    rw [List.drop_eq_nil_of_le (by omega), mkP_nil, List.append_nil] at q4
    rw [← q4]
    simp (maxSteps := 4000000) -implicitDefEqProofs only [go_sem, d2, Option.some.injEq, forall_eq', and_true, true_and, Bool.not_true, Bool.not_false, decide_true, Nat.reduceAdd, Nat.reduceSub, Nat.reduceLT, Nat.reduceLeDiff, Nat.reduceEqDiff, ↓reduceIte]
    exact wk_dat (by simp only [go_sem]; rfl) (by rfl) (by simp only [go_sem])
  have d2 : decide ((i : Int) < s.length) = true := by simp; omega
  obtain ⟨d, rfl⟩ : ∃ e, d = e + 1 := ⟨d - 1, by omega⟩
  have hne : s.drop i ≠ [] := fun e => by have := congrArg List.length e; simp at this; omega
  obtain ⟨t, ts, hts, hIs⟩ := fir_ok (b := b) hne
  have ets : ts = s.drop (i + 1) := by
    have := congrArg List.tail hts
    simpa using this.symm
  have aX : A[i]? = some ((lst b (s.drop i)).headD 0) := hAa i (by omega)
  have aL : G[i]? = some (lg b (s.drop i) : Int) := hG i hi
  have lgb := lg_le b (s.drop i)
  have hlg : ∀ k, 0 < k → k ≤ lg b (s.drop i) → ∃ j, j < b.length ∧ pre (b.drop j) ((s.drop i).take k) = ((s.drop i).take k).length := fun k h0 h => lg_take h0 h
  have ac : ∀ k, A[i + (k + 1)]? = (lst b ts)[k]? := fun k => by
    rw [ets, ← hA (i + 1) (by omega), List.getElem?_drop]; congr 1; omega
  have lc : (lst b ts).length = s.length - i := by rw [ets, lst_len, List.length_drop]; omega
  have xb := hAb _ (List.mem_of_getElem? aX)
  rw [mkP, if_neg hne] at q4
  have hcb : ∀ y ∈ lst b ts, 0 ≤ y ∧ y ≤ 302 := fun y hy => by have := (lst_bd b ts).1 y hy; rw [ets, List.length_drop] at this; omega
  generalize fir b (s.drop i) = f at hIs q4
  generalize (lst b (s.drop i)).headD 0 = x at hIs aX xb
  generalize lg b (s.drop i) = L at hIs aL lgb hlg
  generalize lst b ts = c at hIs ac lc hcb
  rw [List.length_drop] at lgb
  obtain ⟨hI1, hI2, hI3⟩ := hIs
  have n1 : (0 ≤ (i : Int) ∧ (i : Int) < (N : Int)) = True := eq_true (by omega)
  have n2 : (i < N) = True := eq_true (by omega)
  simp (maxSteps := 4000000) -implicitDefEqProofs only [go_sem, d2, lG, n1, n2, aL, Option.some.injEq, forall_eq', and_true, true_and, Bool.not_true, Bool.not_false, decide_true, Nat.reduceAdd, Nat.reduceSub, Nat.reduceLT, Nat.reduceLeDiff, Nat.reduceEqDiff, ↓reduceIte]
  refine eloop (S := Nat) (fun n => mkE 102 [(0, .d (.sl (b.map bY))), (1, .d (.sl (s.map bY))), (6, .d (.sl (A.map iD))), (7, .d (.sl (G.map iD))), (8, .own 0), (9, .d (.int .i64 i)), (10, .d (.int .i64 n))]) (fun _ => [.row 3 (out.map pD)])
    (fun n => n ≤ L ∧ ∀ k y, c[k]? = some y → n ≤ k → k < L → 3 + y ≠ x) (fun n => n) L ⟨Nat.le_refl _, fun k y _ h1 h2 => by omega⟩ (Wk.sub (by (simp only [go_sem]) <;> trivial)) ?_
  rintro n ⟨hn, hno⟩
  simp (maxSteps := 4000000) -implicitDefEqProofs only [go_sem, Nat.reduceAdd, Nat.reduceSub, Nat.reduceLT, Nat.reduceLeDiff, Nat.reduceEqDiff, ↓reduceIte]
  by_cases hn0 : n = 0
  · have d3 : decide (0 < (n : Int)) = false := by simp; omega
    -- an insert
    obtain ⟨m0, y0, hm0, hf, hx0, hlt⟩ : ∃ (m : Nat) (y : Int), c[m]? = some y ∧ f = -((m : Int) + 1) ∧ x = 2 + (m : Int) + y ∧ ∀ (m' : Nat) (y' : Int), c[m']? = some y' → m' < m → x < 2 + (m' : Int) + y' := by
      rcases hI3 with ⟨k, y, h1, h2, _, h3, _⟩ | ⟨m, y, h1, h2, h3, _, h4⟩
      · exact absurd h3.symm (hno k y h1 (by omega) h2)
      · exact ⟨m, y, h1, h2, h3, h4⟩
    have hm0l : m0 < c.length := (List.getElem?_eq_some_iff.1 hm0).1
    clear hno hI3
    rw [if_neg (by omega)] at q4
    have ef : (-f).toNat = m0 + 1 := by omega
    rw [ef, List.drop_drop] at q4
    have pl : ((s.drop i).take (m0 + 1)).length = m0 + 1 := by rw [List.length_take, List.length_drop]; omega
    refine DX.plain (.take 0 false (.take 1 false (.take 2 false (.take 3 false (.take 4 false (.take 5 false (.take 6 false (.take 7 false (.take 8 false (.take 9 false (.take 10 false (.take 11 false (.take 12 false (.take 13 false (.take 14 false (.take 15 false .done)))))))))))))))) (by kernel_rfl) (by kernel_rfl) Ty.mixed ?_
    simp (maxSteps := 4000000) -implicitDefEqProofs only [go_sem, d3, Option.some.injEq, forall_eq', and_true, true_and, Bool.not_true, Bool.not_false, decide_true, Nat.reduceAdd, Nat.reduceSub, Nat.reduceLT, Nat.reduceLeDiff, Nat.reduceEqDiff, ↓reduceIte]
    refine eloop (S := Nat) (fun m => mkE 102 [(0, .d (.sl (b.map bY))), (1, .d (.sl (s.map bY))), (6, .d (.sl (A.map iD))), (7, .d (.sl (G.map iD))), (8, .own 0), (9, .d (.int .i64 i)), (11, .d (.int .i64 m))]) (fun _ => [.row 3 (out.map pD)])
      (fun m => 1 ≤ m ∧ m ≤ m0 + 1) (fun m => m0 + 1 - m) 1 ⟨Nat.le_refl _, by omega⟩ (Wk.sub (by (simp only [go_sem]) <;> trivial)) ?_
    rintro m ⟨hm1, hm2⟩
    simp (maxSteps := 4000000) -implicitDefEqProofs only [go_sem, Nat.reduceAdd, Nat.reduceSub, Nat.reduceLT, Nat.reduceLeDiff, Nat.reduceEqDiff, ↓reduceIte]
    obtain ⟨m', hm'⟩ : ∃ m', m = m' + 1 := ⟨m - 1, by omega⟩
    obtain ⟨y, hy⟩ : ∃ y, c[m']? = some y := ⟨c[m']'(by omega), List.getElem?_eq_getElem _⟩
    have yb := hcb y (List.mem_of_getElem? hy)
    have ay : A[i + m]? = some y := by rw [hm', ac]; exact hy
    have w1 : IntKind.i64.wrap (1 + (m : Int)) = 1 + (m : Int) := i64_in _ (by omega)
    have w2 : IntKind.i64.wrap ((i : Int) + m) = ((i + m : Nat) : Int) := by rw [i64_in _ (by omega)]; simp
    have w3 : IntKind.i64.wrap (1 + (m : Int) + y) = 1 + (m : Int) + y := i64_in _ (by omega)
    have n3 : (0 ≤ ((i + m : Nat) : Int) ∧ ((i + m : Nat) : Int) < (N : Int)) = True := eq_true (by omega)
    have n4 : (i + m < N) = True := eq_true (by omega)
    by_cases hmm : m = m0 + 1
    · have ey : y = y0 := by
        have : m' = m0 := by omega
        subst this; rw [hm0] at hy; exact (Option.some.inj hy).symm
      have z : (1 + (m : Int) + y != x) = false := by simp; omega
      have eP : List.drop i (List.take (i + m) s) = (s.drop i).take (m0 + 1) := by rw [List.drop_take, hmm]; congr 1; omega
      generalize hxx : (s.drop i).take (m0 + 1) = p at pl q4 eP
      have hvd : (out.map pD ++ [[.int .i64 0, .int .i64 0, .sl (p.map bY)]] : List (List D)) = (out ++ [(⟨0, 0, p⟩ : Part)]).map pD := by
        rw [List.map_append]; simp only [List.map_cons, List.map_nil, pD, bIY]
      refine DX.plain (.take 0 false (.take 1 false (.take 2 false (.take 3 false (.take 4 false (.take 5 false (.take 6 false (.take 7 false (.take 8 false (.take 9 false (.take 10 false (.take 11 false (.take 12 false (.take 13 false .done)))))))))))))) (by kernel_rfl) (by kernel_rfl) Ty.mixed ?_
      simp (maxSteps := 4000000) -implicitDefEqProofs only [go_sem, w1, w2, w3, n1, n2, n3, n4, lA, ay, aX, z, eP, Option.some.injEq, forall_eq', and_true, true_and, Bool.not_true, Bool.not_false, decide_true, Nat.reduceAdd, Nat.reduceSub, Nat.reduceLT, Nat.reduceLeDiff, Nat.reduceEqDiff, ↓reduceIte]
      refine ⟨by omega, by omega, by decide, ⟨fun e he => by simp at he; subst he; rfl, by omega, by omega⟩, ?_⟩
      exact .mk ((i + m, d, out ++ [(⟨0, 0, p⟩ : Part)]) : Nat × Nat × List Part) ⟨by first | omega | (simp only; omega), by first | omega | (simp only; omega), by simp only [List.length_append, List.length_cons, List.length_nil]; omega, by rw [List.append_assoc, hmm]; exact q4⟩ (by first | omega | (simp only; omega)) (by rw [hvd]; exact (Wk.via [4] (by (simp only [go_sem, ↓reduceIte]) <;> trivial) (by first | (simp (maxSteps := 4000000) -implicitDefEqProofs only [go_sem, Nat.reduceAdd, Nat.reduceSub, Nat.reduceLT, Nat.reduceLeDiff, Nat.reduceEqDiff, ↓reduceIte]; done) | ((simp (maxSteps := 4000000) -implicitDefEqProofs only [go_sem, Nat.reduceAdd, Nat.reduceSub, Nat.reduceLT, Nat.reduceLeDiff, Nat.reduceEqDiff, ↓reduceIte]) <;> omega)) (by simp) (by first | (simp; done) | (simp [so]; done)) (by (simp (maxSteps := 4000000) -implicitDefEqProofs only [go_sem, Nat.reduceAdd, Nat.reduceSub, Nat.reduceLT, Nat.reduceLeDiff, Nat.reduceEqDiff, ↓reduceIte]) <;> trivial) (by first | (simp only [go_sem]; done) | ((simp (maxSteps := 4000000) -implicitDefEqProofs only [go_sem, Nat.reduceAdd, Nat.reduceSub, Nat.reduceLT, Nat.reduceLeDiff, Nat.reduceEqDiff, ↓reduceIte]) <;> omega)) (Nat.zero_le _) (fun i h => absurd h (Nat.not_lt_zero i))))
    · have z : (1 + (m : Int) + y != x) = true := by
        have := hlt m' y hy (by omega)
        simp; omega
      have w4 : IntKind.i64.wrap ((m : Int) + 1) = ((m + 1 : Nat) : Int) := by rw [i64_in _ (by omega)]; simp
      refine DX.plain (.take 0 false (.take 1 false (.take 2 false (.take 3 false (.take 4 false (.take 5 false (.take 6 false (.take 7 false (.take 8 false (.take 9 false (.take 10 false (.take 11 false (.take 12 false (.take 13 false .done)))))))))))))) (by kernel_rfl) (by kernel_rfl) Ty.mixed ?_
      simp (maxSteps := 4000000) -implicitDefEqProofs only [go_sem, w1, w2, w3, w4, n1, n2, n3, n4, lA, ay, aX, z, Option.some.injEq, forall_eq', and_true, true_and, Bool.not_true, Bool.not_false, decide_true, Nat.reduceAdd, Nat.reduceSub, Nat.reduceLT, Nat.reduceLeDiff, Nat.reduceEqDiff, ↓reduceIte]
      exact .mk (m + 1) ⟨by omega, by omega⟩ (by omega) (Wk.sub (by (simp only [go_sem]) <;> trivial))
  have d3 : decide (0 < (n : Int)) = true := by simp; omega
  obtain ⟨n', hn'⟩ : ∃ n', n = n' + 1 := ⟨n - 1, by omega⟩
  obtain ⟨y, hy⟩ : ∃ y, c[n']? = some y := ⟨c[n']'(by omega), List.getElem?_eq_getElem _⟩
  have yb := hcb y (List.mem_of_getElem? hy)
  have ay : A[i + n]? = some y := by rw [hn', ac]; exact hy
  have w2 : IntKind.i64.wrap ((i : Int) + n) = ((i + n : Nat) : Int) := by rw [i64_in _ (by omega)]; simp
  have w3 : IntKind.i64.wrap (3 + y) = 3 + y := i64_in _ (by omega)
  have n3 : (0 ≤ ((i + n : Nat) : Int) ∧ ((i + n : Nat) : Int) < (N : Int)) = True := eq_true (by omega)
  have n4 : (i + n < N) = True := eq_true (by omega)
  by_cases hxy : 3 + y = x
  case neg =>
    have z : (3 + y != x) = true := by simp [hxy]
    have w4 : IntKind.i64.wrap ((n : Int) - 1) = (n' : Int) := by rw [i64_in _ (by omega)]; omega
    refine DX.plain (.take 0 false (.take 1 false (.take 2 false (.take 3 false (.take 4 false (.take 5 false (.take 6 false (.take 7 false (.take 8 false (.take 9 false (.take 10 false (.take 11 false (.take 12 false (.take 13 false (.take 14 false (.take 15 false .done)))))))))))))))) (by kernel_rfl) (by kernel_rfl) Ty.mixed ?_
    simp (maxSteps := 4000000) -implicitDefEqProofs only [go_sem, d3, w2, w3, w4, n1, n2, n3, n4, lA, ay, aX, z, Option.some.injEq, forall_eq', and_true, true_and, Bool.not_true, Bool.not_false, decide_true, Nat.reduceAdd, Nat.reduceSub, Nat.reduceLT, Nat.reduceLeDiff, Nat.reduceEqDiff, ↓reduceIte]
    exact .mk n' ⟨by omega, fun k y' h1 h2 h3 => by
      rcases Nat.lt_or_ge n' k with r | r
      · exact hno k y' h1 (by omega) h3
      · have : k = n' := by omega
        subst this; rw [hy] at h1; cases h1; exact hxy⟩ (by omega) (Wk.sub (by (simp only [go_sem]) <;> trivial))
  have z : (3 + y != x) = false := by simp [hxy]
  have hf : f = (n : Int) := by
    rcases hI3 with ⟨k, y', h1, h2, h3, h4, h5⟩ | ⟨m, y', h1, h2, h3, h4, _⟩
    · rcases Nat.lt_trichotomy k n' with r | r | r
      · have := h5 n' y hy r (by omega); omega
      · omega
      · exact absurd h4.symm (hno k y' h1 (by omega) h2)
    · have := h4 n' y hy (by omega); omega
  clear hno hI3
  rw [if_pos (by omega), hf, Int.toNat_natCast, List.drop_drop] at q4
  have eP : List.drop i (List.take (i + n) s) = (s.drop i).take n := by rw [List.drop_take]; congr 1; omega
  have pl : ((s.drop i).take n).length = n := by rw [List.length_take, List.length_drop]; omega
  have ci := place_ref b ((s.drop i).take n) hB (fun e he => hS e (List.mem_of_mem_drop (List.mem_of_mem_take he))) (by omega) (by omega) (hlg n (by omega) hn)
  have hvd : (out.map pD ++ [[.int .i64 (Lib.index (u8s b) (u8s ((s.drop i).take n))), .int .i64 n, .sl []]] : List (List D)) = (out ++ [(⟨Lib.index (u8s b) (u8s ((s.drop i).take n)), n, []⟩ : Part)]).map pD := by
    rw [List.map_append]; simp only [List.map_cons, List.map_nil, pD]
  generalize hx : Lib.index (u8s b) (u8s ((s.drop i).take n)) = xi at ci hvd q4
  generalize hxx : (s.drop i).take n = p at ci pl eP
  refine DX.plain (.take 0 false (.take 1 false (.take 2 false (.take 3 false (.take 4 false (.take 5 false (.take 6 false (.take 7 false (.take 8 false (.take 9 false (.take 10 false (.take 11 false (.take 12 false (.take 13 false (.take 14 false (.take 15 false .done)))))))))))))))) (by kernel_rfl) (by kernel_rfl) Ty.mixed ?_
  simp (maxSteps := 4000000) -implicitDefEqProofs only [go_sem, d3, w2, w3, n1, n2, n3, n4, lA, ay, aX, z, eP, Option.some.injEq, forall_eq', and_true, true_and, Bool.not_true, Bool.not_false, decide_true, Nat.reduceAdd, Nat.reduceSub, Nat.reduceLT, Nat.reduceLeDiff, Nat.reduceEqDiff, ↓reduceIte]
  refine ⟨by omega, .all _ _ (ci.lift0 _ (by simp only [go_sem]) (by simp only [go_sem])) ?_⟩
  simp (maxSteps := 4000000) -implicitDefEqProofs only [go_sem, w2, Option.some.injEq, forall_eq', and_true, true_and, Bool.not_true, Bool.not_false, decide_true, Nat.reduceAdd, Nat.reduceSub, Nat.reduceLT, Nat.reduceLeDiff, Nat.reduceEqDiff, ↓reduceIte]
  refine ⟨by decide, ⟨fun e he => by simp at he; subst he; rfl, by omega, by omega⟩, ?_⟩
  exact .mk ((i + n, d, out ++ [(⟨xi, n, []⟩ : Part)]) : Nat × Nat × List Part) ⟨by first | omega | (simp only; omega), by first | omega | (simp only; omega), by simp only [List.length_append, List.length_cons, List.length_nil]; omega, by rw [List.append_assoc]; exact q4⟩ (by first | omega | (simp only; omega)) (by rw [hvd]; exact (Wk.via [2] (by (simp only [go_sem, ↓reduceIte]) <;> trivial) (by first | (simp (maxSteps := 4000000) -implicitDefEqProofs only [go_sem, Nat.reduceAdd, Nat.reduceSub, Nat.reduceLT, Nat.reduceLeDiff, Nat.reduceEqDiff, ↓reduceIte]; done) | ((simp (maxSteps := 4000000) -implicitDefEqProofs only [go_sem, Nat.reduceAdd, Nat.reduceSub, Nat.reduceLT, Nat.reduceLeDiff, Nat.reduceEqDiff, ↓reduceIte]) <;> omega)) (by simp) (by first | (simp; done) | (simp [so]; done)) (by (simp (maxSteps := 4000000) -implicitDefEqProofs only [go_sem, Nat.reduceAdd, Nat.reduceSub, Nat.reduceLT, Nat.reduceLeDiff, Nat.reduceEqDiff, ↓reduceIte]) <;> trivial) (by first | (simp only [go_sem]; done) | ((simp (maxSteps := 4000000) -implicitDefEqProofs only [go_sem, Nat.reduceAdd, Nat.reduceSub, Nat.reduceLT, Nat.reduceLeDiff, Nat.reduceEqDiff, ↓reduceIte]) <;> omega)) (Nat.zero_le _) (fun i h => absurd h (Nat.not_lt_zero i))))
end Go.AX.De

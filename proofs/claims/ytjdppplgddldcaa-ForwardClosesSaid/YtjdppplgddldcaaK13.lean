/- Forward: plans are played: the reference's side. -/
import Derived.Test.YtjdppplgddldcaaK12
set_option maxHeartbeats 8000000
set_option linter.unusedVariables false
set_option linter.unusedSimpArgs false
set_option maxRecDepth 20000
namespace Go.AX.Fw
open Go.Proofs Go.RowKit Go.IntWalk Go.AX.Br Go.AX.Lg
theorem played_ref (pre post : List AObj) (o : List ByteArray) (G : Gr) (plan : List St) (ho : o.length ≤ 1000) (hpl : plan.length ≤ 1000) (hp1 : bdOs (pre.length + 1 + o.length + post.length) pre) (hp2 : bdOs (pre.length + 1 + o.length + post.length) post) :
    Spec Try.prog 34 [.own pre.length, .d (.sl (o.map sD)), .d (.sl (plan.map stD))] (rH pre o.length G post) (.tup [.d (.int .i64 (playR o G plan).1), .own pre.length]) (rH pre o.length (playR o G plan).2 post) := by
  have bd : ∀ F, bdOs (rH pre o.length F post).length (rH pre o.length F post) := fun F => by rw [rH_len]; exact rH_bd hp1 hp2 (by omega)
  have lx : ∀ F, (rH pre o.length F post).length = pre.length + 1 + o.length + post.length := fun F => rH_len
  have app : ∀ F x, rH pre o.length F post ++ x = rH pre o.length F (post ++ x) := fun F x => rH_app x
  have oN : ∀ F x, ob (rH pre o.length F (post ++ [x])) (pre.length + 1 + o.length + post.length) = x := fun F x => by rw [rH_post, ob_eq, List.getElem?_append_right (Nat.le_refl _), Nat.sub_self]; rfl
  have sN : ∀ F x y, so (rH pre o.length F (post ++ [x])) (pre.length + 1 + o.length + post.length) y = rH pre o.length F (post ++ [y]) := fun F x y => by rw [rH_sop, so_eq, List.set_append, if_neg (Nat.lt_irrefl _), Nat.sub_self]; rfl
  have ov : ∀ F po, ob (rH pre o.length F po) pre.length = .vec 1 (Vl (pre.length + 1) o.length) := fun F po => rH_v
  have gr : ∀ F po b, b < o.length → ob (rH pre o.length F po) (pre.length + 1 + b) = .vec 1 ((rowC F b).map voD) := fun F po b h => rH_r h
  have gs : ∀ F po c b, c < 30 → b < o.length → so (rH pre o.length F po) (pre.length + 1 + b) (.vec 1 (((rowC F b).map voD).set c [.d (.bool true)])) = rH pre o.length (upd F c b) po := fun F po c b h h2 => rH_so h2 h
  have ca : ∀ F x (c b : Nat), c < 30 → b < o.length → Spec Try.prog 41 [.own pre.length, .d (.int .i64 c), .d (.int .i64 b)] (rH pre o.length F (post ++ [x])) (.d (.bool (alw F o.length c b))) (rH pre o.length F (post ++ [x])) := fun F x c b h1 h2 => allowed_ref pre _ o.length F c b h1 h2 ho
  have ci := fun nm => Index_fref o nm (by unfold Sm; omega)
  have vl := Vl_len (pre.length + 1) o.length
  have hpq : pre.length < pre.length + 1 + o.length + post.length := by omega
  obtain ⟨q, hq⟩ : ∃ q, q = pre.length + 1 + o.length + post.length := ⟨_, rfl⟩
  rw [← hq] at lx oN sN hpq
  obtain ⟨p, hp⟩ : ∃ p, p = pre.length := ⟨_, rfl⟩
  rw [← hp] at ov gr gs ca vl hpq ⊢
  refine spec_of_ev (fn := Try.f34) DX_ok 3000 Try.func34 rfl rfl (Nat.le_of_ble_eq_true rfl) ?_
  simp (maxSteps := 4000000) -implicitDefEqProofs only [Try.f34, go_sem, lx]
  refine eloop (S := Nat × Gr) (fun s => mkE 87 [(0, .own p), (1, .d (.sl (o.map sD))), (2, .d (.sl (plan.map stD))), (8, .d (.int .i64 s.1))]) (fun s => rH pre o.length s.2 post) (fun s => plInv o G plan s.1 s.2) (fun s => plan.length - s.1) (0, G) plInv_0 (Wk.sub (by (simp only [go_sem]) <;> trivial)) ?_
  intro s hs
  obtain ⟨k, hk⟩ : ∃ k, k = s.1 := ⟨_, rfl⟩
  obtain ⟨F, hF⟩ : ∃ F, F = s.2 := ⟨_, rfl⟩
  rw [← hk, ← hF] at hs ⊢
  have hkl := hs.1
  rcases Nat.lt_or_ge k plan.length with h2 | h2
  case inr =>
    have f1 : decide ((k : Int) < plan.length) = false := by simp; omega
    have : k = plan.length := by omega
    have he := plInv_end hs this
    simp (maxSteps := 4000000) -implicitDefEqProofs only [go_sem, f1, Option.some.injEq, forall_eq', and_true, true_and, Bool.not_true, Bool.not_false, decide_true, Nat.reduceAdd, Nat.reduceSub, Nat.reduceLT, Nat.reduceLeDiff, Nat.reduceEqDiff, ↓reduceIte]
    rw [he, ← this]
    exact (Wk.sub (by (simp only [go_sem]) <;> trivial))
  have f1 : decide ((k : Int) < plan.length) = true := by simp; omega
  obtain ⟨x, hx⟩ : ∃ x, plan[k]? = some x := ⟨plan[k]'h2, List.getElem?_eq_getElem _⟩
  have n1 : (0 ≤ (k : Int) ∧ (k : Int) < plan.length) = True := eq_true (by omega)
  have n2 : (k < plan.length) = True := eq_true h2
  have w1 : IntKind.i64.wrap ((k : Int) + 1) = ((k + 1 : Nat) : Int) := by rw [i64_in _ (by omega)]; simp
  have cf := ci x.fr
  have ct := ci x.to
  obtain ⟨A, hA⟩ : ∃ A, A = idx (isS x.fr) o := ⟨_, rfl⟩
  obtain ⟨T, hT⟩ : ∃ T, T = idx (isS x.to) o := ⟨_, rfl⟩
  rw [← hA] at cf
  rw [← hT] at ct
  have hst : stepOk F o x = (decide (0 ≤ A) && decide (0 ≤ T) && decide (0 ≤ x.cl) && decide (x.cl < 30) && F x.cl.toNat A.toNat && !F x.cl.toNat T.toNat && alw F o.length x.cl.toNat T.toNat) := by rw [stepOk, toI, ← hA, ← hT]
  have htI : toI o x = T.toNat := by rw [toI, ← hT]
  have bad : stepOk F o x = false → ∀ {xs ys : List AV}, wkE xs ys → bds q ys → Wk q xs (rH pre o.length F (post ++ [.cells [.d (.int .i64 x.cl), .d (.str x.fr), .d (.str x.to)]])) ys (rH pre o.length (playR o G plan).2 post) := fun hb {xs ys} h1 h3 => by
    rw [plInv_bad hs hx hb, ← app]
    exact Wk.cut h1 (by rw [lx]; exact h3) (bd F) (by rw [lx]; exact Nat.le_refl _)
  have badR : stepOk F o x = false → (playR o G plan).1 = k := fun hb => by rw [plInv_bad hs hx hb]
  simp (maxSteps := 4000000) -implicitDefEqProofs only [go_sem, f1, n1, n2, hx, lx, app, oN, sN, Option.some.injEq, forall_eq', and_true, true_and, Bool.not_true, Bool.not_false, decide_true, Nat.reduceAdd, Nat.reduceSub, Nat.reduceLT, Nat.reduceLeDiff, Nat.reduceEqDiff, ↓reduceIte]
  refine DX.plain (.take 0 false (.take 1 false (.take 2 false (.take 3 false (.take 4 false (.take 5 false (.take 6 false (.take 7 false (.take 8 false (.take 9 false .done)))))))))) (by kernel_rfl) (by kernel_rfl) Ty.mixed ?_
  simp (maxSteps := 4000000) -implicitDefEqProofs only [go_sem, oN, Option.some.injEq, forall_eq', and_true, true_and, Bool.not_true, Bool.not_false, decide_true, Nat.reduceAdd, Nat.reduceSub, Nat.reduceLT, Nat.reduceLeDiff, Nat.reduceEqDiff, ↓reduceIte]
  refine ⟨_, _, cf.lift0 _ (by simp only [go_sem]) (by simp only [go_sem]), rfl, ?_⟩
  refine ⟨_, _, ct.lift0 _ (by simp only [go_sem]) (by simp only [go_sem]), rfl, ?_⟩
  have b1 : (!true) = false := rfl
  have b2 : (!false) = true := rfl
  cases e1 : decide (A < 0)
  case true =>
    have hb : stepOk F o x = false := by rw [hst, decide_eq_false (by have := of_decide_eq_true e1; omega)]; rfl
    refine DX.plain (.take 0 false (.take 1 false (.take 2 false (.take 3 false (.take 4 false (.take 5 false (.take 6 false (.take 7 false (.take 8 false (.take 9 false (.take 10 false (.take 11 false (.take 12 false (.take 13 false (.take 14 false (.take 15 false (.take 16 false (.take 17 false (.take 18 false (.take 19 false (.take 20 false (.take 21 false (.take 22 false (.take 23 false (.take 24 false (.take 25 false (.take 26 false (.take 27 false (.take 28 false (.take 29 false (.take 30 false (.take 31 false (.take 32 false (.take 33 false (.take 34 false (.take 35 false (.take 36 false (.take 37 false (.take 38 false (.take 39 false (.take 40 false (.take 41 false (.run [42] (fun _ => []) fun _ => (.take 43 false (.take 44 false .done))))))))))))))))))))))))))))))))))))))))))))) (by kernel_rfl) (by kernel_rfl) Ty.mixed ?_
    simp (maxSteps := 4000000) -implicitDefEqProofs only [go_sem, oN, e1, Option.some.injEq, forall_eq', and_true, true_and, Bool.not_true, Bool.not_false, decide_true, Nat.reduceAdd, Nat.reduceSub, Nat.reduceLT, Nat.reduceLeDiff, Nat.reduceEqDiff, ↓reduceIte]
    rw [badR hb]
    exact bad hb (by (simp only [go_sem]) <;> trivial) (by (simp (maxSteps := 4000000) -implicitDefEqProofs only [go_sem, Nat.reduceAdd, Nat.reduceSub, Nat.reduceLT, Nat.reduceLeDiff, Nat.reduceEqDiff, ↓reduceIte]) <;> omega)
  have hA0 : 0 ≤ A := by have := of_decide_eq_false e1; omega
  cases e2 : decide (T < 0)
  case true =>
    have hb : stepOk F o x = false := by rw [hst, decide_eq_false (show ¬ (0 ≤ T) by have := of_decide_eq_true e2; omega), Bool.and_false]; rfl
    refine DX.plain (.take 0 false (.take 1 false (.take 2 false (.take 3 false (.take 4 false (.take 5 false (.take 6 false (.take 7 false (.take 8 false (.take 9 false (.take 10 false (.take 11 false (.take 12 false (.take 13 false (.take 14 false (.take 15 false (.take 16 false (.take 17 false (.take 18 false (.take 19 false (.take 20 false (.take 21 false (.take 22 false (.take 23 false (.take 24 false (.take 25 false (.take 26 false (.take 27 false (.take 28 false (.take 29 false (.take 30 false (.take 31 false (.take 32 false (.take 33 false (.take 34 false (.take 35 false (.take 36 false (.take 37 false (.take 38 false (.take 39 false (.take 40 false (.take 41 false (.run [42] (fun _ => []) fun _ => (.take 43 false (.take 44 false .done))))))))))))))))))))))))))))))))))))))))))))) (by kernel_rfl) (by kernel_rfl) Ty.mixed ?_
    simp (maxSteps := 4000000) -implicitDefEqProofs only [go_sem, oN, e1, e2, Option.some.injEq, forall_eq', and_true, true_and, Bool.not_true, Bool.not_false, decide_true, Nat.reduceAdd, Nat.reduceSub, Nat.reduceLT, Nat.reduceLeDiff, Nat.reduceEqDiff, ↓reduceIte]
    rw [badR hb]
    exact bad hb (by (simp only [go_sem]) <;> trivial) (by (simp (maxSteps := 4000000) -implicitDefEqProofs only [go_sem, Nat.reduceAdd, Nat.reduceSub, Nat.reduceLT, Nat.reduceLeDiff, Nat.reduceEqDiff, ↓reduceIte]) <;> omega)
  have hT0 : 0 ≤ T := by have := of_decide_eq_false e2; omega
  cases e3 : decide (x.cl < 0)
  case true =>
    have hb : stepOk F o x = false := by rw [hst, decide_eq_false (show ¬ (0 ≤ x.cl) by have := of_decide_eq_true e3; omega), Bool.and_false]; rfl
    refine DX.plain (.take 0 false (.take 1 false (.take 2 false (.take 3 false (.take 4 false (.take 5 false (.take 6 false (.take 7 false (.take 8 false (.take 9 false (.take 10 false (.take 11 false (.take 12 false (.take 13 false (.take 14 false (.take 15 false (.take 16 false (.take 17 false (.take 18 false (.take 19 false (.take 20 false (.take 21 false (.take 22 false (.take 23 false (.take 24 false (.take 25 false (.take 26 false (.take 27 false (.take 28 false (.take 29 false (.take 30 false (.take 31 false (.take 32 false (.take 33 false (.take 34 false (.take 35 false (.take 36 false (.take 37 false (.take 38 false (.take 39 false (.take 40 false (.take 41 false (.run [42] (fun _ => []) fun _ => (.take 43 false (.take 44 false .done))))))))))))))))))))))))))))))))))))))))))))) (by kernel_rfl) (by kernel_rfl) Ty.mixed ?_
    simp (maxSteps := 4000000) -implicitDefEqProofs only [go_sem, oN, e1, e2, e3, Option.some.injEq, forall_eq', and_true, true_and, Bool.not_true, Bool.not_false, decide_true, Nat.reduceAdd, Nat.reduceSub, Nat.reduceLT, Nat.reduceLeDiff, Nat.reduceEqDiff, ↓reduceIte]
    rw [badR hb]
    exact bad hb (by (simp only [go_sem]) <;> trivial) (by (simp (maxSteps := 4000000) -implicitDefEqProofs only [go_sem, Nat.reduceAdd, Nat.reduceSub, Nat.reduceLT, Nat.reduceLeDiff, Nat.reduceEqDiff, ↓reduceIte]) <;> omega)
  have hc0 : 0 ≤ x.cl := by have := of_decide_eq_false e3; omega
  cases e4 : decide (30 ≤ x.cl)
  case true =>
    have hb : stepOk F o x = false := by rw [hst, decide_eq_false (show ¬ (x.cl < 30) by have := of_decide_eq_true e4; omega), Bool.and_false]; rfl
    refine DX.plain (.take 0 false (.take 1 false (.take 2 false (.take 3 false (.take 4 false (.take 5 false (.take 6 false (.take 7 false (.take 8 false (.take 9 false (.take 10 false (.take 11 false (.take 12 false (.take 13 false (.take 14 false (.take 15 false (.take 16 false (.take 17 false (.take 18 false (.take 19 false (.take 20 false (.take 21 false (.take 22 false (.take 23 false (.take 24 false (.take 25 false (.take 26 false (.take 27 false (.take 28 false (.take 29 false (.take 30 false (.take 31 false (.take 32 false (.take 33 false (.take 34 false (.take 35 false (.take 36 false (.take 37 false (.take 38 false (.take 39 false (.take 40 false (.take 41 false (.run [42] (fun _ => []) fun _ => (.take 43 false (.take 44 false .done))))))))))))))))))))))))))))))))))))))))))))) (by kernel_rfl) (by kernel_rfl) Ty.mixed ?_
    simp (maxSteps := 4000000) -implicitDefEqProofs only [go_sem, oN, e1, e2, e3, e4, Option.some.injEq, forall_eq', and_true, true_and, Bool.not_true, Bool.not_false, decide_true, Nat.reduceAdd, Nat.reduceSub, Nat.reduceLT, Nat.reduceLeDiff, Nat.reduceEqDiff, ↓reduceIte]
    rw [badR hb]
    exact bad hb (by (simp only [go_sem]) <;> trivial) (by (simp (maxSteps := 4000000) -implicitDefEqProofs only [go_sem, Nat.reduceAdd, Nat.reduceSub, Nat.reduceLT, Nat.reduceLeDiff, Nat.reduceEqDiff, ↓reduceIte]) <;> omega)
  have hc30 : x.cl < 30 := by have := of_decide_eq_false e4; omega
  rw [decide_eq_true hc30, decide_eq_true hA0, decide_eq_true hT0, decide_eq_true hc0, Bool.true_and, Bool.true_and, Bool.true_and, Bool.true_and] at hst
  obtain ⟨a, _, ea, ea2, _⟩ := idx_get (p := isS x.fr) (l := o) (by rw [← hA]; exact hA0)
  obtain ⟨t, _, et, et2, _⟩ := idx_get (p := isS x.to) (l := o) (by rw [← hT]; exact hT0)
  obtain ⟨c, hcc⟩ : ∃ c : Nat, x.cl = c := ⟨x.cl.toNat, (Int.toNat_of_nonneg hc0).symm⟩
  have hal := some_lt ea2
  have htl := some_lt et2
  have hAa : A = a := by rw [hA]; exact ea
  have hTt : T = t := by rw [hT]; exact et
  have hc : c < 30 := by omega
  obtain ⟨cl, fr, to⟩ := x
  simp only at hcc hst htI e3 e4 hx hc30 hc0 bad badR ⊢
  subst hcc
  rw [hAa, hTt, Int.toNat_natCast, Int.toNat_natCast, Int.toNat_natCast] at hst
  rw [hTt, Int.toNat_natCast] at htI
  rw [hAa] at e1 ⊢
  rw [hTt] at e2 ⊢
  clear hAa hTt hA hT cf ct
  have m1 : (0 ≤ (c : Int) ∧ (c : Int) < ((30 : Nat) : Int)) = True := eq_true (by omega)
  have m1' : (0 ≤ (c : Int) ∧ (c : Int) < 30) = True := eq_true (by omega)
  have m2 : (c < 30) = True := eq_true hc
  have gra := fun po => gr F po a hal
  have grt := fun po => gr F po t htl
  have vga := Vl_get (k := p + 1) hal
  have vgt := Vl_get (k := p + 1) htl
  have rla := rowC_len F a
  have rlt := rowC_len F t
  have rga := rv_get (G := F) (b := a) hc
  have rgt := rv_get (G := F) (b := t) hc
  have na : (0 ≤ (a : Int) ∧ (a : Int) < o.length) = True := eq_true (by omega)
  have na2 : (a < o.length) = True := eq_true hal
  have nt : (0 ≤ (t : Int) ∧ (t : Int) < o.length) = True := eq_true (by omega)
  have nt2 : (t < o.length) = True := eq_true htl
  have gst := fun po => gs F po c t hc htl
  have cal := fun y => ca F y c t hc htl
  cases z1 : F c a
  case false =>
    have hb : stepOk F o ⟨c, fr, to⟩ = false := by rw [hst, z1]; rfl
    rw [z1] at rga
    refine DX.plain (.take 0 false (.take 1 false (.take 2 false (.take 3 false (.take 4 false (.take 5 false (.take 6 false (.take 7 false (.take 8 false (.take 9 false (.take 10 false (.take 11 false (.take 12 false (.take 13 false (.take 14 false (.take 15 false (.take 16 false (.take 17 false (.take 18 false (.take 19 false (.take 20 false (.take 21 false (.take 22 false (.take 23 false (.take 24 false (.take 25 false (.take 26 false (.take 27 false (.take 28 false (.take 29 false (.take 30 false (.take 31 false (.take 32 false (.take 33 false (.take 34 false (.take 35 false (.take 36 false (.take 37 false (.take 38 false (.take 39 false (.take 40 false (.take 41 false (.run [42] (fun _ => []) fun _ => (.take 43 false (.take 44 false .done))))))))))))))))))))))))))))))))))))))))))))) (by kernel_rfl) (by kernel_rfl) Ty.mixed ?_
    simp (maxSteps := 4000000) -implicitDefEqProofs only [go_sem, oN, e1, e2, e3, e4, ov, vl, vga, gra, rla, rga, m1, m1', m2, na, na2, b2, Option.some.injEq, forall_eq', and_true, true_and, Bool.not_true, Bool.not_false, decide_true, Nat.reduceAdd, Nat.reduceSub, Nat.reduceLT, Nat.reduceLeDiff, Nat.reduceEqDiff, ↓reduceIte]
    rw [badR hb]
    exact bad hb (by (simp only [go_sem]) <;> trivial) (by (simp (maxSteps := 4000000) -implicitDefEqProofs only [go_sem, Nat.reduceAdd, Nat.reduceSub, Nat.reduceLT, Nat.reduceLeDiff, Nat.reduceEqDiff, ↓reduceIte]) <;> omega)
  rw [z1, Bool.true_and] at hst
  rw [z1] at rga
  cases z2 : F c t
  case true =>
    have hb : stepOk F o ⟨c, fr, to⟩ = false := by rw [hst, z2]; rfl
    rw [z2] at rgt
    refine DX.plain (.take 0 false (.take 1 false (.take 2 false (.take 3 false (.take 4 false (.take 5 false (.take 6 false (.take 7 false (.take 8 false (.take 9 false (.take 10 false (.take 11 false (.take 12 false (.take 13 false (.take 14 false (.take 15 false (.take 16 false (.take 17 false (.take 18 false (.take 19 false (.take 20 false (.take 21 false (.take 22 false (.take 23 false (.take 24 false (.take 25 false (.take 26 false (.take 27 false (.take 28 false (.take 29 false (.take 30 false (.take 31 false (.take 32 false (.take 33 false (.take 34 false (.take 35 false (.take 36 false (.take 37 false (.take 38 false (.take 39 false (.take 40 false (.take 41 false (.run [42] (fun _ => []) fun _ => (.take 43 false (.take 44 false .done))))))))))))))))))))))))))))))))))))))))))))) (by kernel_rfl) (by kernel_rfl) Ty.mixed ?_
    simp (maxSteps := 4000000) -implicitDefEqProofs only [go_sem, oN, e1, e2, e3, e4, ov, vl, vga, vgt, gra, grt, rla, rlt, rga, rgt, m1, m1', m2, na, na2, nt, nt2, b1, b2, Option.some.injEq, forall_eq', and_true, true_and, Bool.not_true, Bool.not_false, decide_true, Nat.reduceAdd, Nat.reduceSub, Nat.reduceLT, Nat.reduceLeDiff, Nat.reduceEqDiff, ↓reduceIte]
    rw [badR hb]
    exact bad hb (by (simp only [go_sem]) <;> trivial) (by (simp (maxSteps := 4000000) -implicitDefEqProofs only [go_sem, Nat.reduceAdd, Nat.reduceSub, Nat.reduceLT, Nat.reduceLeDiff, Nat.reduceEqDiff, ↓reduceIte]) <;> omega)
  rw [z2] at hst rgt
  rw [b2, Bool.true_and] at hst
  refine DX.plain (.take 0 false (.take 1 false (.take 2 false (.take 3 false (.take 4 false (.take 5 false (.take 6 false (.take 7 false (.take 8 false (.take 9 false (.take 10 false (.take 11 false (.take 12 false (.take 13 false (.take 14 false (.take 15 false (.take 16 false (.take 17 false (.take 18 false (.take 19 false (.take 20 false (.take 21 false (.take 22 false (.take 23 false (.take 24 false (.take 25 false (.take 26 false (.take 27 false (.take 28 false (.take 29 false (.take 30 false (.take 31 false (.take 32 false (.take 33 false (.take 34 false (.take 35 false (.take 36 false (.take 37 false (.take 38 false (.take 39 false (.take 40 false (.take 41 false (.run [42] (fun _ => []) fun _ => (.take 43 false (.take 44 false .done))))))))))))))))))))))))))))))))))))))))))))) (by kernel_rfl) (by kernel_rfl) Ty.mixed ?_
  simp (maxSteps := 4000000) -implicitDefEqProofs only [go_sem, oN, e1, e2, e3, e4, ov, vl, vga, vgt, gra, grt, rla, rlt, rga, rgt, m1, m1', m2, na, na2, nt, nt2, b1, b2, Option.some.injEq, forall_eq', and_true, true_and, Bool.not_true, Bool.not_false, decide_true, Nat.reduceAdd, Nat.reduceSub, Nat.reduceLT, Nat.reduceLeDiff, Nat.reduceEqDiff, ↓reduceIte]
  refine ⟨_, _, cal _, ?_⟩
  cases z3 : alw F o.length c t
  case false =>
    have hb : stepOk F o ⟨c, fr, to⟩ = false := by rw [hst, z3]
    simp (maxSteps := 4000000) -implicitDefEqProofs only [go_sem, b1, b2, Option.some.injEq, forall_eq', and_true, true_and, Bool.not_true, Bool.not_false, decide_true, Nat.reduceAdd, Nat.reduceSub, Nat.reduceLT, Nat.reduceLeDiff, Nat.reduceEqDiff, ↓reduceIte]
    rw [badR hb]
    exact bad hb (by (simp only [go_sem]) <;> trivial) (by (simp (maxSteps := 4000000) -implicitDefEqProofs only [go_sem, Nat.reduceAdd, Nat.reduceSub, Nat.reduceLT, Nat.reduceLeDiff, Nat.reduceEqDiff, ↓reduceIte]) <;> omega)
  rw [z3] at hst
  have hnx := plInv_step hs hx hst
  rw [htI, Int.toNat_natCast] at hnx
  simp (maxSteps := 4000000) -implicitDefEqProofs only [go_sem, b1, b2, Option.some.injEq, forall_eq', and_true, true_and, Bool.not_true, Bool.not_false, decide_true, Nat.reduceAdd, Nat.reduceSub, Nat.reduceLT, Nat.reduceLeDiff, Nat.reduceEqDiff, ↓reduceIte]
  refine DX.plain (.take 0 false (.take 1 false (.take 2 false (.take 3 false (.take 4 false (.take 5 false (.take 6 false (.run [7] (fun _ => []) fun _ => .done)))))))) (by kernel_rfl) (by kernel_rfl) Ty.mixed ?_
  simp (maxSteps := 4000000) -implicitDefEqProofs only [go_sem, oN, ov, vl, vgt, grt, rlt, rgt, m1, m1', m2, nt, nt2, gst, Option.some.injEq, forall_eq', and_true, true_and, Bool.not_true, Bool.not_false, decide_true, Nat.reduceAdd, Nat.reduceSub, Nat.reduceLT, Nat.reduceLeDiff, Nat.reduceEqDiff, ↓reduceIte]
  simp (maxSteps := 4000000) -implicitDefEqProofs only [go_sem, gst, w1, Option.some.injEq, forall_eq', and_true, true_and, Bool.not_true, Bool.not_false, decide_true, Nat.reduceAdd, Nat.reduceSub, Nat.reduceLT, Nat.reduceLeDiff, Nat.reduceEqDiff, ↓reduceIte]
  refine .mk ((k + 1, upd F c t) : Nat × Gr) (by exact hnx) (by show plan.length - (k + 1) < plan.length - k; omega) ?_
  show Wk q _ _ _ (rH pre o.length (upd F c t) post)
  rw [← app]
  exact Wk.cut (by (simp only [go_sem]) <;> trivial) (by rw [lx]; (simp (maxSteps := 4000000) -implicitDefEqProofs only [go_sem, Nat.reduceAdd, Nat.reduceSub, Nat.reduceLT, Nat.reduceLeDiff, Nat.reduceEqDiff, ↓reduceIte]) <;> omega) (bd _) (by rw [lx]; exact Nat.le_refl _)
end Go.AX.Fw

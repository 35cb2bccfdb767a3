/- Forward: plans are played: the program's side. -/
import Derived.Test.YtjdppplgddldcaaK11
set_option maxHeartbeats 8000000
set_option linter.unusedVariables false
set_option linter.unusedSimpArgs false
set_option maxRecDepth 20000
namespace Go.AX.Fw
open Go.Proofs Go.RowKit Go.IntWalk Go.AX.Br Go.AX.Lg
def toI (o : List ByteArray) (s : St) : Nat := (idx (isS s.to) o).toNat
def stepOk (G : Gr) (o : List ByteArray) (s : St) : Bool :=
  decide (0 ≤ idx (isS s.fr) o) && decide (0 ≤ idx (isS s.to) o) && decide (0 ≤ s.cl) && decide (s.cl < 30) && G s.cl.toNat (idx (isS s.fr) o).toNat && !G s.cl.toNat (toI o s) && alw G o.length s.cl.toNat (toI o s)
def playR (o : List ByteArray) : Gr → List St → Nat × Gr
  | G, [] => (0, G)
  | G, s :: r => if stepOk G o s then ((playR o (upd G s.cl.toNat (toI o s)) r).1 + 1, (playR o (upd G s.cl.toNat (toI o s)) r).2) else (0, G)
def plInv (o : List ByteArray) (G : Gr) (plan : List St) (k : Nat) (F : Gr) : Prop := k ≤ plan.length ∧ playR o G plan = (k + (playR o F (plan.drop k)).1, (playR o F (plan.drop k)).2)
section
variable {o : List ByteArray} {G F : Gr} {plan : List St} {k : Nat} {s : St}
theorem plInv_0 : plInv o G plan 0 G := ⟨Nat.zero_le _, by simp⟩
theorem plan_drop (h : plan[k]? = some s) : plan.drop k = s :: plan.drop (k + 1) := by
  rw [List.drop_eq_getElem_cons (some_lt h), (List.getElem?_eq_some_iff.1 h).2]
theorem plInv_step (h : plInv o G plan k F) (hs : plan[k]? = some s) (hok : stepOk F o s = true) : plInv o G plan (k + 1) (upd F s.cl.toNat (toI o s)) := by
  refine ⟨some_lt hs, ?_⟩
  rw [h.2, plan_drop hs, playR, if_pos hok]
  simp only [Prod.mk.injEq, and_true]; omega
theorem plInv_bad (h : plInv o G plan k F) (hs : plan[k]? = some s) (hok : stepOk F o s = false) : playR o G plan = (k, F) := by
  rw [h.2, plan_drop hs, playR, hok]; simp
theorem plInv_end (h : plInv o G plan k F) (hs : k = plan.length) : playR o G plan = (k, F) := by
  rw [h.2, hs, List.drop_length, playR]; simp
end
theorem gH_bd {pre post : List AObj} {o : List ByteArray} {G : Gr} {m : Nat} (h1 : bdOs m pre) (h2 : bdOs m post) (h3 : pre.length + 1 + 30 ≤ m) : bdOs m (gH pre o G 30 post) := by
  have hn : ∀ l : List Nat, (∀ j ∈ l, pre.length + 1 + j < m) → bds m (l.map fun j => AV.own (pre.length + 1 + j)) := by
    intro l
    induction l with
    | nil => intro _; trivial
    | cons j l ih => intro h; exact ⟨h j (by simp), ih fun i hi => h i (by simp [hi])⟩
  refine bdOs_app h1 ⟨⟨trivial, bds_app (hn _ fun j hj => ?_) ?_⟩, bdOs_app (rowsL_bd m G o.length 30) h2⟩
  · have := List.mem_range.1 hj; omega
  · exact trivial
theorem play_own (pre post : List AObj) (o : List ByteArray) (G : Gr) (plan : List St) (ho : o.length ≤ 1000) (hpl : plan.length ≤ 1000) (hp1 : bdOs (pre.length + 1 + 30 + post.length) pre) (hp2 : bdOs (pre.length + 1 + 30 + post.length) post) :
    Spec Try.prog 33 [.ptr pre.length 0, .d (.sl (plan.map stD))] (gH pre o G 30 post) (.d (.int .i64 (playR o G plan).1)) (gH pre o (playR o G plan).2 30 post) := by
  have bd : ∀ F, bdOs (gH pre o F 30 post).length (gH pre o F 30 post) := fun F => by rw [gH_len]; exact gH_bd hp1 hp2 (by omega)
  have lx : ∀ F, (gH pre o F 30 post).length = pre.length + 1 + 30 + post.length := fun F => gH_len
  have app : ∀ F x, gH pre o F 30 post ++ x = gH pre o F 30 (post ++ x) := fun F x => gH_app x
  have oN : ∀ F x, ob (gH pre o F 30 (post ++ [x])) (pre.length + 1 + 30 + post.length) = x := fun F x => by rw [gH_post, ob_eq, List.getElem?_append_right (Nat.le_refl _), Nat.sub_self]; rfl
  have sN : ∀ F x y, so (gH pre o F 30 (post ++ [x])) (pre.length + 1 + 30 + post.length) y = gH pre o F 30 (post ++ [y]) := fun F x y => by rw [so_eq, gH_setp, List.set_append, if_neg (Nat.lt_irrefl _), Nat.sub_self]; rfl
  have og : ∀ F po, ob (gH pre o F 30 po) pre.length = .cells (gC o (pre.length + 1) 30) := fun F po => gH_g
  have gr : ∀ F po c, c < 30 → ob (gH pre o F 30 po) (pre.length + 1 + c) = .row 1 ((rowB F o.length c).map boD) := fun F po c h => gH_r h
  have gs : ∀ F po c b, c < 30 → b < o.length → so (gH pre o F 30 po) (pre.length + 1 + c) (.row 1 (((rowB F o.length c).map boD).set b [.bool true])) = gH pre o (upd F c b) 30 po := fun F po c b h h2 => gH_so h h2
  have ca : ∀ F x (c b : Nat), c < 30 → b < o.length → Spec Try.prog 39 [.ptr pre.length 0, .d (.int .i64 c), .d (.int .i64 b)] (gH pre o F 30 (post ++ [x])) (.d (.bool (alw F o.length c b))) (gH pre o F 30 (post ++ [x])) := fun F x c b h1 h2 => allowed_own pre _ o F c b h1 h2 ho
  have ci := fun nm => indexS o nm (by unfold Sm; omega)
  have fin1 : ∀ F (x : AObj), Wk (pre.length + 1 + 30 + post.length) ([] : List AV) (gH pre o F 30 (post ++ [x])) [] (gH pre o F 30 post) := fun F x => by rw [← app]; exact Wk.cut trivial trivial (bd F) (by rw [lx]; exact Nat.le_refl _)
  obtain ⟨r0, q0⟩ := gC_ld0 o (pre.length + 1) 30
  have q4 : ∀ c, c < 30 → ∃ r, drA (gC o (pre.length + 1) 30) (1 + c) = .own (pre.length + 1 + c) :: r := fun c h => gC_ld h
  have hpq : pre.length < pre.length + 1 + 30 + post.length := by omega
  obtain ⟨q, hq⟩ : ∃ q, q = pre.length + 1 + 30 + post.length := ⟨_, rfl⟩
  rw [← hq] at lx oN sN fin1 hpq
  obtain ⟨p, hp⟩ : ∃ p, p = pre.length := ⟨_, rfl⟩
  rw [← hp] at og gr gs ca q0 q4 hpq ⊢
  have lm : (gH pre o G 30 post).length = q := lx G
  refine spec_of_ev (fn := Try.f33) DX_ok 3000 Try.func33 rfl rfl (Nat.le_of_ble_eq_true rfl) ?_
  simp (maxSteps := 4000000) -implicitDefEqProofs only [Try.f33, go_sem, lx]
  refine eloop (S := Nat × Gr) (fun s => mkE 86 [(0, .ptr p 0), (1, .d (.sl (plan.map stD))), (9, .d (.sl (plan.map stD))), (10, .d (.int .i64 plan.length)), (11, .d (.int .i64 s.1))]) (fun s => gH pre o s.2 30 post) (fun s => plInv o G plan s.1 s.2) (fun s => plan.length - s.1) (0, G) plInv_0 (Wk.sub (by (simp only [go_sem]) <;> trivial)) ?_
  intro s hs
  obtain ⟨k, hk⟩ : ∃ k, k = s.1 := ⟨_, rfl⟩
  obtain ⟨F, hF⟩ : ∃ F, F = s.2 := ⟨_, rfl⟩
  rw [← hk, ← hF] at hs ⊢
  have hkl := hs.1
  rcases Nat.lt_or_ge k plan.length with h2 | h2
  case inr =>
    have f1 : decide ((k : Int) < plan.length) = false := by simp; omega
    have : k = plan.length := by omega
    have he := plInv_end hs this
    simp (maxSteps := 4000000) -implicitDefEqProofs only [go_sem, f1, Option.some.injEq, forall_eq', and_true, true_and, Bool.not_true, Bool.not_false, decide_true, Nat.reduceAdd, Nat.reduceSub, Nat.reduceLT, Nat.reduceLeDiff, Nat.reduceEqDiff, ↓reduceIte]
    rw [he, ← this]
    exact (Wk.sub (by (simp only [go_sem]) <;> trivial))
  have f1 : decide ((k : Int) < plan.length) = true := by simp; omega
  obtain ⟨x, hx⟩ : ∃ x, plan[k]? = some x := ⟨plan[k]'h2, List.getElem?_eq_getElem _⟩
  have n1 : (0 ≤ (k : Int) ∧ (k : Int) < plan.length) = True := eq_true (by omega)
  have n2 : (k < plan.length) = True := eq_true h2
  have w1 : IntKind.i64.wrap ((k : Int) + 1) = ((k + 1 : Nat) : Int) := by rw [i64_in _ (by omega)]; simp
  have cf := ci x.fr
  have ct := ci x.to
  obtain ⟨A, hA⟩ : ∃ A, A = idx (isS x.fr) o := ⟨_, rfl⟩
  obtain ⟨T, hT⟩ : ∃ T, T = idx (isS x.to) o := ⟨_, rfl⟩
  rw [← hA] at cf
  rw [← hT] at ct
  have hst : stepOk F o x = (decide (0 ≤ A) && decide (0 ≤ T) && decide (0 ≤ x.cl) && decide (x.cl < 30) && F x.cl.toNat A.toNat && !F x.cl.toNat T.toNat && alw F o.length x.cl.toNat T.toNat) := by rw [stepOk, toI, ← hA, ← hT]
  have htI : toI o x = T.toNat := by rw [toI, ← hT]
  have bad : stepOk F o x = false → ∀ {xs ys : List AV}, wkE xs ys → bds q ys → Wk q xs (gH pre o F 30 (post ++ [.cells [.d (.int .i64 x.cl), .d (.str x.fr), .d (.str x.to)]])) ys (gH pre o (playR o G plan).2 30 post) := fun hb {xs ys} h1 h3 => by
    rw [plInv_bad hs hx hb, ← app]
    exact Wk.cut h1 (by rw [lx]; exact h3) (bd F) (by rw [lx]; exact Nat.le_refl _)
  have badR : stepOk F o x = false → (playR o G plan).1 = k := fun hb => by rw [plInv_bad hs hx hb]
  simp (maxSteps := 4000000) -implicitDefEqProofs only [go_sem, f1, n1, n2, hx, lx, app, oN, sN, Option.some.injEq, forall_eq', and_true, true_and, Bool.not_true, Bool.not_false, decide_true, Nat.reduceAdd, Nat.reduceSub, Nat.reduceLT, Nat.reduceLeDiff, Nat.reduceEqDiff, ↓reduceIte]
  refine DX.plain (.take 0 false (.take 1 false (.take 2 false (.take 3 false (.take 4 false (.take 5 false (.take 6 false (.take 7 false (.take 8 false (.take 9 false (.take 10 false (.take 11 false (.take 12 false (.take 13 false (.take 14 false (.take 15 false .done)))))))))))))))) (by kernel_rfl) (by kernel_rfl) Ty.mixed ?_
  simp (maxSteps := 4000000) -implicitDefEqProofs only [go_sem, og, q0, oN, Option.some.injEq, forall_eq', and_true, true_and, Bool.not_true, Bool.not_false, decide_true, Nat.reduceAdd, Nat.reduceSub, Nat.reduceLT, Nat.reduceLeDiff, Nat.reduceEqDiff, ↓reduceIte]
  refine ⟨_, _, cf.lift0 _ (by simp only [go_sem]) (by simp only [go_sem]), rfl, ?_⟩
  simp (maxSteps := 4000000) -implicitDefEqProofs only [go_sem, Nat.reduceAdd, Nat.reduceSub, Nat.reduceLT, Nat.reduceLeDiff, Nat.reduceEqDiff, ↓reduceIte]
  refine ⟨_, _, ct.lift0 _ (by simp only [go_sem]) (by simp only [go_sem]), rfl, ?_⟩
  cases e1 : (decide (0 ≤ A) && decide (0 ≤ T) && decide (0 ≤ x.cl))
  case false =>
    have hb : stepOk F o x = false := by rw [hst, e1]; rfl
    have dm : decide ((if x.cl < (if T < A then T else A) then x.cl else (if T < A then T else A)) < 0) = true := by
      refine decide_eq_true ?_
      simp only [Bool.and_eq_false_iff, decide_eq_false_iff_not] at e1
      repeat' split
      all_goals omega
    simp (maxSteps := 4000000) -implicitDefEqProofs only [go_sem, oN, dm, Option.some.injEq, forall_eq', and_true, true_and, Bool.not_true, Bool.not_false, decide_true, Nat.reduceAdd, Nat.reduceSub, Nat.reduceLT, Nat.reduceLeDiff, Nat.reduceEqDiff, ↓reduceIte]
    rw [badR hb]
    exact bad hb (by (simp only [go_sem]) <;> trivial) (by simp only [go_sem])
  have dm : decide ((if x.cl < (if T < A then T else A) then x.cl else (if T < A then T else A)) < 0) = false := by
    refine decide_eq_false ?_
    simp only [Bool.and_eq_true, decide_eq_true_eq] at e1
    repeat' split
    all_goals omega
  rw [e1, Bool.true_and] at hst
  simp only [Bool.and_eq_true, decide_eq_true_eq] at e1
  obtain ⟨⟨hA0, hT0⟩, hc0⟩ := e1
  cases e2 : decide (30 ≤ x.cl)
  case true =>
    have hb : stepOk F o x = false := by
      have : decide (x.cl < 30) = false := decide_eq_false (by have := of_decide_eq_true e2; omega)
      rw [hst, this]; rfl
    simp (maxSteps := 4000000) -implicitDefEqProofs only [go_sem, oN, dm, e2, Option.some.injEq, forall_eq', and_true, true_and, Bool.not_true, Bool.not_false, decide_true, Nat.reduceAdd, Nat.reduceSub, Nat.reduceLT, Nat.reduceLeDiff, Nat.reduceEqDiff, ↓reduceIte]
    rw [badR hb]
    exact bad hb (by (simp only [go_sem]) <;> trivial) (by simp only [go_sem])
  have hc30 : x.cl < 30 := by have := of_decide_eq_false e2; omega
  rw [decide_eq_true hc30, Bool.true_and] at hst
  obtain ⟨a, _, ea, ea2, _⟩ := idx_get (p := isS x.fr) (l := o) (by rw [← hA]; exact hA0)
  obtain ⟨t, _, et, et2, _⟩ := idx_get (p := isS x.to) (l := o) (by rw [← hT]; exact hT0)
  obtain ⟨c, hcc⟩ : ∃ c : Nat, x.cl = c := ⟨x.cl.toNat, (Int.toNat_of_nonneg hc0).symm⟩
  have hal := some_lt ea2
  have htl := some_lt et2
  have hAa : A = a := by rw [hA]; exact ea
  have hTt : T = t := by rw [hT]; exact et
  have hc : c < 30 := by omega
  obtain ⟨cl, fr, to⟩ := x
  simp only at hcc hst htI dm e2 hx hc30 hc0 bad badR ⊢
  subst hcc
  rw [hAa, hTt, Int.toNat_natCast, Int.toNat_natCast, Int.toNat_natCast] at hst
  rw [hTt, Int.toNat_natCast] at htI
  rw [hAa, hTt] at dm ⊢
  clear hAa hTt hA hT cf ct
  have m1 : (0 ≤ (c : Int) ∧ (c : Int) < ((30 : Nat) : Int)) = True := eq_true (by omega)
  have m1' : (0 ≤ (c : Int) ∧ (c : Int) < 30) = True := eq_true (by omega)
  have b1 : (!true) = false := rfl
  have b2 : (!false) = true := rfl
  obtain ⟨rr, q4c⟩ := q4 c hc
  have grc := fun po => gr F po c hc
  have rl := rowB_len F o.length c
  have rga := rowB_get (G := F) (c := c) hal
  have rgt := rowB_get (G := F) (c := c) htl
  have na : (0 ≤ (a : Int) ∧ (a : Int) < o.length) = True := eq_true (by omega)
  have na2 : (a < o.length) = True := eq_true hal
  have nt : (0 ≤ (t : Int) ∧ (t : Int) < o.length) = True := eq_true (by omega)
  have nt2 : (t < o.length) = True := eq_true htl
  have gst := fun po => gs F po c t hc htl
  have cal := fun y => ca F y c t hc htl
  have w1' := w1
  cases z1 : F c a
  case false =>
    have hb : stepOk F o ⟨c, fr, to⟩ = false := by rw [hst, z1]; rfl
    rw [z1] at rga
    simp (maxSteps := 4000000) -implicitDefEqProofs only [go_sem, oN, dm, e2, Option.some.injEq, forall_eq', and_true, true_and, Bool.not_true, Bool.not_false, decide_true, Nat.reduceAdd, Nat.reduceSub, Nat.reduceLT, Nat.reduceLeDiff, Nat.reduceEqDiff, ↓reduceIte]
    refine DX.plain (.take 0 false (.take 1 false (.take 2 false (.take 3 false (.take 4 false (.take 5 false (.take 6 false (.take 7 false (.take 8 false (.take 9 false (.take 10 false (.take 11 false (.take 12 false (.take 13 false (.take 14 false (.take 15 false (.take 16 false (.take 17 false (.take 18 false (.take 19 false (.take 20 false (.take 21 false (.take 22 false (.take 23 false (.take 24 false (.take 25 false (.take 26 false (.take 27 false (.run [28] (fun _ => []) fun _ => (.take 29 false (.take 30 false .done))))))))))))))))))))))))))))))) (by kernel_rfl) (by kernel_rfl) Ty.mixed ?_
    simp (maxSteps := 4000000) -implicitDefEqProofs only [go_sem, oN, og, q4c, m1, m1', grc, rl, na, na2, rga, b2, Option.some.injEq, forall_eq', and_true, true_and, Bool.not_true, Bool.not_false, decide_true, Nat.reduceAdd, Nat.reduceSub, Nat.reduceLT, Nat.reduceLeDiff, Nat.reduceEqDiff, ↓reduceIte]
    rw [badR hb]
    exact bad hb (by (simp only [go_sem]) <;> trivial) (by simp only [go_sem])
  rw [z1, Bool.true_and] at hst
  rw [z1] at rga
  cases z2 : F c t
  case true =>
    have hb : stepOk F o ⟨c, fr, to⟩ = false := by rw [hst, z2]; rfl
    rw [z2] at rgt
    simp (maxSteps := 4000000) -implicitDefEqProofs only [go_sem, oN, dm, e2, Option.some.injEq, forall_eq', and_true, true_and, Bool.not_true, Bool.not_false, decide_true, Nat.reduceAdd, Nat.reduceSub, Nat.reduceLT, Nat.reduceLeDiff, Nat.reduceEqDiff, ↓reduceIte]
    refine DX.plain (.take 0 false (.take 1 false (.take 2 false (.take 3 false (.take 4 false (.take 5 false (.take 6 false (.take 7 false (.take 8 false (.take 9 false (.take 10 false (.take 11 false (.take 12 false (.take 13 false (.take 14 false (.take 15 false (.take 16 false (.take 17 false (.take 18 false (.take 19 false (.take 20 false (.take 21 false (.take 22 false (.take 23 false (.take 24 false (.take 25 false (.take 26 false (.take 27 false (.run [28] (fun _ => []) fun _ => (.take 29 false (.take 30 false .done))))))))))))))))))))))))))))))) (by kernel_rfl) (by kernel_rfl) Ty.mixed ?_
    simp (maxSteps := 4000000) -implicitDefEqProofs only [go_sem, oN, og, q4c, m1, m1', grc, rl, na, na2, nt, nt2, rga, rgt, b1, b2, Option.some.injEq, forall_eq', and_true, true_and, Bool.not_true, Bool.not_false, decide_true, Nat.reduceAdd, Nat.reduceSub, Nat.reduceLT, Nat.reduceLeDiff, Nat.reduceEqDiff, ↓reduceIte]
    rw [badR hb]
    exact bad hb (by (simp only [go_sem]) <;> trivial) (by simp only [go_sem])
  rw [z2] at hst rgt
  rw [b2, Bool.true_and] at hst
  simp (maxSteps := 4000000) -implicitDefEqProofs only [go_sem, oN, dm, e2, Option.some.injEq, forall_eq', and_true, true_and, Bool.not_true, Bool.not_false, decide_true, Nat.reduceAdd, Nat.reduceSub, Nat.reduceLT, Nat.reduceLeDiff, Nat.reduceEqDiff, ↓reduceIte]
  refine DX.plain (.take 0 false (.take 1 false (.take 2 false (.take 3 false (.take 4 false (.take 5 false (.take 6 false (.take 7 false (.take 8 false (.take 9 false (.take 10 false (.take 11 false (.take 12 false (.take 13 false (.take 14 false (.take 15 false (.take 16 false (.take 17 false (.take 18 false (.take 19 false (.take 20 false (.take 21 false (.take 22 false (.take 23 false (.take 24 false (.take 25 false (.take 26 false (.take 27 false (.run [28] (fun _ => []) fun _ => (.take 29 false (.take 30 false .done))))))))))))))))))))))))))))))) (by kernel_rfl) (by kernel_rfl) Ty.mixed ?_
  simp (maxSteps := 4000000) -implicitDefEqProofs only [go_sem, oN, og, q4c, m1, m1', grc, rl, na, na2, nt, nt2, rga, rgt, b1, b2, Option.some.injEq, forall_eq', and_true, true_and, Bool.not_true, Bool.not_false, decide_true, Nat.reduceAdd, Nat.reduceSub, Nat.reduceLT, Nat.reduceLeDiff, Nat.reduceEqDiff, ↓reduceIte]
  refine ⟨_, _, cal _, ?_⟩
  cases z3 : alw F o.length c t
  case false =>
    have hb : stepOk F o ⟨c, fr, to⟩ = false := by rw [hst, z3]
    simp (maxSteps := 4000000) -implicitDefEqProofs only [go_sem, b1, b2, Option.some.injEq, forall_eq', and_true, true_and, Bool.not_true, Bool.not_false, decide_true, Nat.reduceAdd, Nat.reduceSub, Nat.reduceLT, Nat.reduceLeDiff, Nat.reduceEqDiff, ↓reduceIte]
    rw [badR hb]
    exact bad hb (by (simp only [go_sem]) <;> trivial) (by simp only [go_sem])
  rw [z3] at hst
  have hnx := plInv_step hs hx hst
  rw [htI, Int.toNat_natCast] at hnx
  simp (maxSteps := 4000000) -implicitDefEqProofs only [go_sem, b1, b2, Option.some.injEq, forall_eq', and_true, true_and, Bool.not_true, Bool.not_false, decide_true, Nat.reduceAdd, Nat.reduceSub, Nat.reduceLT, Nat.reduceLeDiff, Nat.reduceEqDiff, ↓reduceIte]
  refine DX.plain (.take 0 false (.take 1 false (.take 2 false (.take 3 false (.take 4 false (.take 5 false (.take 6 false (.take 7 false (.take 8 false (.run [9] (fun _ => []) fun _ => .done)))))))))) (by kernel_rfl) (by kernel_rfl) Ty.mixed ?_
  simp (maxSteps := 4000000) -implicitDefEqProofs only [go_sem, oN, og, q4c, m1, m1', grc, rl, nt, nt2, rgt, gst, Option.some.injEq, forall_eq', and_true, true_and, Bool.not_true, Bool.not_false, decide_true, Nat.reduceAdd, Nat.reduceSub, Nat.reduceLT, Nat.reduceLeDiff, Nat.reduceEqDiff, ↓reduceIte]
  simp (maxSteps := 4000000) -implicitDefEqProofs only [go_sem, gst, w1, Option.some.injEq, forall_eq', and_true, true_and, Bool.not_true, Bool.not_false, decide_true, Nat.reduceAdd, Nat.reduceSub, Nat.reduceLT, Nat.reduceLeDiff, Nat.reduceEqDiff, ↓reduceIte]
  refine .mk ((k + 1, upd F c t) : Nat × Gr) (by exact hnx) (by show plan.length - (k + 1) < plan.length - k; omega) ?_
  show Wk q _ _ _ (gH pre o (upd F c t) 30 post)
  rw [← app]
  exact Wk.cut (by (simp only [go_sem]) <;> trivial) (by rw [lx]; (simp (maxSteps := 4000000) -implicitDefEqProofs only [go_sem, Nat.reduceAdd, Nat.reduceSub, Nat.reduceLT, Nat.reduceLeDiff, Nat.reduceEqDiff, ↓reduceIte]) <;> omega) (bd _) (by rw [lx]; exact Nat.le_refl _)
end Go.AX.Fw

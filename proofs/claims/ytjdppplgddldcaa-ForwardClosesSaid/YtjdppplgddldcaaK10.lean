/- Forward: the reference's grid in memory. -/
import Derived.Test.YtjdppplgddldcaaK9
set_option maxHeartbeats 8000000
set_option linter.unusedVariables false
set_option linter.unusedSimpArgs false
set_option maxRecDepth 20000
namespace Go.AX
mutual
theorem bd_mo {k m : Nat} (h : k ≤ m) : ∀ x : AV, bd k x → bd m x
  | .agg cs, b => by simp only [bd] at *; exact bds_mo h cs b
  | .tup cs, b => by simp only [bd] at *; exact bds_mo h cs b
  | .fn _ cs, b => by simp only [bd] at *; exact bds_mo h cs b
  | .own l, b => by simp only [bd] at *; omega
  | .ptr l _, b => by simp only [bd] at *; omega
  | .rptr l _ _ _, b => by simp only [bd] at *; omega
  | .mp l, b => by simp only [bd] at *; omega
  | .osl l _ _ _, b => by simp only [bd] at *; omega
  | .any, _ => by simp only [bd]
  | .d _, _ => by simp only [bd]
  | .eptr _, _ => by simp only [bd]
  | .nil, _ => by simp only [bd]
  | .raw _, _ => by simp only [bd]
theorem bds_mo {k m : Nat} (h : k ≤ m) : ∀ xs : List AV, bds k xs → bds m xs
  | [], _ => trivial
  | x :: xs, b => ⟨bd_mo h x b.1, bds_mo h xs b.2⟩
end
theorem bdss_mo {k m : Nat} (h : k ≤ m) : ∀ es : List (List AV), bdss k es → bdss m es
  | [], _ => trivial
  | e :: es, b => ⟨bds_mo h e b.1, bdss_mo h es b.2⟩
theorem renss_congr {f g : Nat → Nat} {k : Nat} (h : ∀ l, l < k → f l = g l) : ∀ es : List (List AV), bdss k es → renss f es = renss g es
  | [], _ => rfl
  | e :: es, b => by rw [renss, renss, rens_congr h e b.1, renss_congr h es b.2]
theorem renO_congr {f g : Nat → Nat} {k : Nat} (h : ∀ l, l < k → f l = g l) : ∀ o : AObj, bdO k o → renO f o = renO g o := fun o b => by
  cases o with
  | cells cs => simp only [renO, rens_congr h cs b]
  | vec sz es => simp only [renO, renss_congr h es b]
  | _ => rfl
theorem mapO_congr {f g : Nat → Nat} {k : Nat} (h : ∀ l, l < k → f l = g l) : ∀ os : List AObj, bdOs k os → mapO f os = mapO g os
  | [], _ => rfl
  | o :: os, b => by rw [mapO, mapO, renO_congr h o b.1, mapO_congr h os b.2]
theorem bdOs_app {k : Nat} : ∀ {a b : List AObj}, bdOs k a → bdOs k b → bdOs k (a ++ b)
  | [], _, _, h => h
  | _ :: _, _, h, h2 => ⟨h.1, bdOs_app h.2 h2⟩
theorem mapO_app (f : Nat → Nat) : ∀ a b : List AObj, mapO f (a ++ b) = mapO f a ++ mapO f b
  | [], _ => rfl
  | x :: a, b => by rw [List.cons_append, mapO, mapO, mapO_app f a b]; rfl
/-- a block from behind is brought to a label that is free -/
theorem Wk.bring {n0 : Nat} {xs ys : List AV} {σ τ : List AObj} (a m K : Nat) (ha : a < K) (hm : K ≤ m) (hml : m < σ.length) (hxs : wkE xs (rens (fun j => if j = a then m else j) ys)) (hb : bds K ys) (hτl : τ.length = K) (hτa : ob τ a = ob σ m)
    (hτ : ∀ j, j < K → j ≠ a → ob τ j = ob σ j) (hf : mapO (fun j => if j = a then m else j) τ = τ) (hbτ : bdOs K τ) (hn : n0 ≤ a) : Wk n0 xs σ ys τ := by
  obtain ⟨f, hff⟩ : ∃ f : Nat → Nat, f = fun j => if j = a then m else j := ⟨_, rfl⟩
  rw [← hff] at hxs hf
  have hl : ((List.range K).map f).length = K := by simp
  have hat : ∀ j, j < K → at0 ((List.range K).map f) j = f j := fun j h => by simp [at0, h]
  have fa : f a = m := by rw [hff]; simp
  have fn : ∀ j, j ≠ a → f j = j := fun j h => by rw [hff]; simp [h]
  have fe : ∀ i j, i < K → j < K → f i = f j → i = j := fun i j h1 h2 h => by
    by_cases e1 : i = a
    · by_cases e2 : j = a
      · omega
      · rw [e1, fa, fn j e2] at h; omega
    · by_cases e2 : j = a
      · rw [e2, fa, fn i e1] at h; omega
      · rwa [fn i e1, fn j e2] at h
  refine Wk.via ((List.range K).map f) ?_ (by rw [hl]; exact hb) ?_ (fun l h => ?_) ?_ (by rw [hl]; exact hbτ) (by rw [hl]; omega) (fun i h => by rw [hat i (by omega), fn i (by omega)])
  · rw [rens_congr hat ys hb]; exact hxs
  · refine List.pairwise_map.2 (List.Pairwise.imp_of_mem ?_ (List.nodup_range (n := K)))
    intro i j h1 h2 hne h
    exact hne (fe i j (List.mem_range.1 h1) (List.mem_range.1 h2) h)
  · obtain ⟨j, hj, rfl⟩ := List.mem_map.1 h
    have := List.mem_range.1 hj
    by_cases e : j = a
    · rw [e, fa]; exact hml
    · rw [fn j e]; omega
  · rw [mapO_congr hat τ hbτ, hf, obs_map]
    have : ((List.range K).map f).map (ob σ) = τ := by
      refine List.ext_getElem? fun j => ?_
      rcases Nat.lt_or_ge j K with q | q
      · have e : τ[j]? = some (ob τ j) := by rw [ob_eq, List.getElem?_eq_getElem (by omega)]; rfl
        rw [e]
        simp only [List.map_map, List.getElem?_map, List.getElem?_range q, Option.map_some, Function.comp]
        by_cases e2 : j = a
        · rw [e2, fa, hτa]
        · rw [fn j e2, hτ j q e2]
      · rw [List.getElem?_eq_none (by simpa using q), List.getElem?_eq_none (by omega)]
    rw [this]
    exact wkOs_refl τ
/-- what lies between is given up -/
theorem Wk.last {n0 : Nat} {xs ys : List AV} {σ τ : List AObj} {x : AObj} (h : bdOs σ.length σ) (hx : bdO σ.length x) (hm : 0 < τ.length) (hxs : wkE xs (rens (fun j => if j = σ.length then σ.length + τ.length else j) ys)) (hb : bds (σ.length + 1) ys) (hn : n0 ≤ σ.length) : Wk n0 xs (σ ++ (τ ++ [x])) ys (σ ++ [x]) := by
  have up : ∀ {o : AObj}, bdO σ.length o → bdO (σ.length + 1) o := fun {o} ho => by
    cases o with
    | cells cs => exact bds_mo (by omega) cs ho
    | vec sz es => exact bdss_mo (by omega) es ho
    | _ => trivial
  have ups : ∀ {os : List AObj}, bdOs σ.length os → bdOs (σ.length + 1) os := fun {os} ho => by
    induction os with
    | nil => trivial
    | cons o os ih => exact ⟨up ho.1, ih ho.2⟩
  refine Wk.bring σ.length (σ.length + τ.length) (σ.length + 1) (by omega) (by omega) (by simp) hxs hb (by simp) ?_ (fun j h1 h2 => ?_) ?_ (bdOs_app (ups h) ⟨up hx, trivial⟩) hn
  · rw [ob_eq, ob_eq, List.getElem?_append_right (Nat.le_refl _), Nat.sub_self, List.getElem?_append_right (by omega), List.getElem?_append_right (by omega)]
    congr 1
    rw [show σ.length + τ.length - σ.length - τ.length = 0 by omega]
  · rw [ob_eq, ob_eq, List.getElem?_append_left (by omega), List.getElem?_append_left (by omega)]
  · have : bdOs σ.length (σ ++ [x]) := bdOs_app h ⟨hx, trivial⟩
    exact mapO_id (fun i hi => by simp; omega) this
end Go.AX
namespace Go.AX.Fw
open Go.Proofs Go.RowKit Go.IntWalk Go.AX.Br Go.AX.Lg
def rowC (G : Gr) (b : Nat) : List Bool := (List.range 30).map fun c => G c b
def voD (b : Bool) : List AV := [.d (.bool b)]
def Vl (k n : Nat) : List (List AV) := (List.range n).map fun b => [.own (k + b)]
def rowsR (G : Gr) (n : Nat) : List AObj := (List.range n).map fun b => .vec 1 ((rowC G b).map voD)
/-- the reference's grid at the label behind pre -/
def rH (pre : List AObj) (n : Nat) (G : Gr) (post : List AObj) : List AObj := pre ++ (.vec 1 (Vl (pre.length + 1) n) :: (rowsR G n ++ post))
theorem rowC_get {G : Gr} {b c : Nat} (h : c < 30) : (rowC G b)[c]? = some (G c b) := by simp [rowC, h]
theorem rowC_len (G : Gr) (b : Nat) : (rowC G b).length = 30 := by simp [rowC]
theorem rv_get {G : Gr} {b c : Nat} (h : c < 30) : ((rowC G b).map voD).getD c [] = [.d (.bool (G c b))] := by
  rw [List.getD_eq_getElem?_getD, List.getElem?_map, rowC_get h]; rfl
theorem rv_len (G : Gr) (b : Nat) : ((rowC G b).map voD).length = 30 := by rw [List.length_map, rowC_len]
theorem Vl_get {k n b : Nat} (h : b < n) : (Vl k n).getD b [] = [.own (k + b)] := by simp [Vl, h]
theorem Vl_len (k n : Nat) : (Vl k n).length = n := by simp [Vl]
theorem Vl_succ (k n : Nat) : Vl k n ++ [[.own (k + n)]] = Vl k (n + 1) := by simp [Vl, List.range_succ]
theorem bds_own {k l : Nat} (h : l < k) : bds k [.own l] := ⟨h, trivial⟩
theorem Vl_bd {k n m : Nat} (h : k + n ≤ m) : bdss m (Vl k n) := by
  have : ∀ l : List Nat, (∀ b ∈ l, k + b < m) → bdss m (l.map fun b => [AV.own (k + b)]) := by
    intro l
    induction l with
    | nil => intro _; trivial
    | cons b l ih => intro hl; exact ⟨bds_own (hl b (by simp)), ih fun b' hb => hl b' (by simp [hb])⟩
  exact this _ fun b hb => by have := List.mem_range.1 hb; omega
theorem row_bd (m : Nat) (l : List Bool) : bdss m (l.map voD) := by
  induction l with
  | nil => trivial
  | cons b l ih => exact ⟨⟨trivial, trivial⟩, ih⟩
theorem rowsR_bd (m : Nat) (G : Gr) (n : Nat) : bdOs m (rowsR G n) := by
  unfold rowsR
  induction List.range n with
  | nil => trivial
  | cons b l ih => exact ⟨row_bd m _, ih⟩
section
variable {pre post : List AObj} {n : Nat} {G : Gr}
theorem rH_len : (rH pre n G post).length = pre.length + 1 + n + post.length := by
  simp only [rH, rowsR, List.length_append, List.length_cons, List.length_map, List.length_range]; omega
theorem rH_pre {l : Nat} (h : l < pre.length) : ob (rH pre n G post) l = ob pre l := by
  rw [ob_eq, ob_eq, rH, List.getElem?_append_left h]
theorem rH_v : ob (rH pre n G post) pre.length = .vec 1 (Vl (pre.length + 1) n) := by
  rw [ob_eq, rH, List.getElem?_append_right (Nat.le_refl _), Nat.sub_self]; rfl
theorem rH_at {b : Nat} (h : b < n) : (rH pre n G post)[pre.length + 1 + b]? = some (.vec 1 ((rowC G b).map voD)) := by
  rw [rH, List.getElem?_append_right (by omega), show pre.length + 1 + b - pre.length = b + 1 by omega, List.getElem?_cons_succ, List.getElem?_append_left (by simp [rowsR]; exact h)]
  simp [rowsR, h]
theorem rH_r {b : Nat} (h : b < n) : ob (rH pre n G post) (pre.length + 1 + b) = .vec 1 ((rowC G b).map voD) := by
  rw [ob_eq, rH_at h]; rfl
theorem rH_post {j : Nat} : ob (rH pre n G post) (pre.length + 1 + n + j) = ob post j := by
  rw [ob_eq, ob_eq, rH, List.getElem?_append_right (by omega), show pre.length + 1 + n + j - pre.length = (n + j) + 1 by omega, List.getElem?_cons_succ, List.getElem?_append_right (by simp [rowsR])]
  congr 2
  simp [rowsR]
theorem rH_app (x : List AObj) : rH pre n G post ++ x = rH pre n G (post ++ x) := by simp [rH]
theorem rH_bd {m : Nat} (h1 : bdOs m pre) (h2 : bdOs m post) (h3 : pre.length + 1 + n ≤ m) : bdOs m (rH pre n G post) :=
  bdOs_app h1 ⟨Vl_bd h3, bdOs_app (rowsR_bd m G n) h2⟩
theorem rH_sop {j : Nat} {x : AObj} : so (rH pre n G post) (pre.length + 1 + n + j) x = rH pre n G (so post j x) := by
  rw [so_eq, so_eq]
  unfold rH
  have e : (rowsR G n).length = n := by simp [rowsR]
  rw [List.set_append, if_neg (by omega), show pre.length + 1 + n + j - pre.length = (n + j) + 1 by omega, List.set_cons_succ, List.set_append, if_neg (by omega), e, show n + j - n = j by omega]
theorem rH_so {b c : Nat} (h : b < n) (hc : c < 30) : so (rH pre n G post) (pre.length + 1 + b) (.vec 1 (((rowC G b).map voD).set c [.d (.bool true)])) = rH pre n (upd G c b) post := by
  have e0 : ((rowC G b).map voD).set c [.d (.bool true)] = (rowC (upd G c b) b).map voD := by
    refine List.ext_getElem? fun j => ?_
    rcases Nat.lt_or_ge j 30 with q | q
    · by_cases e : j = c
      · subst e
        rw [List.getElem?_set_self (by rw [rv_len]; exact hc), List.getElem?_map, rowC_get q]; simp [upd, voD]
      · rw [List.getElem?_set_ne (Ne.symm e), List.getElem?_map, List.getElem?_map, rowC_get q, rowC_get q]; simp [upd, e]
    · rw [List.getElem?_eq_none (by rw [List.length_set, rv_len]; exact q), List.getElem?_eq_none (by rw [rv_len]; exact q)]
  rw [so_eq, e0]
  refine List.ext_getElem? fun q => ?_
  by_cases e : q = pre.length + 1 + b
  · subst e
    rw [List.getElem?_set_self (by rw [rH_len]; omega), rH_at h]
  · rw [List.getElem?_set_ne (Ne.symm e)]
    unfold rH
    rcases Nat.lt_or_ge q pre.length with g | g
    · rw [List.getElem?_append_left g, List.getElem?_append_left g]
    · rw [List.getElem?_append_right g, List.getElem?_append_right g]
      cases hq : q - pre.length with
      | zero => rfl
      | succ k =>
        rw [List.getElem?_cons_succ, List.getElem?_cons_succ]
        rcases Nat.lt_or_ge k n with g2 | g2
        · rw [List.getElem?_append_left (by simp [rowsR]; exact g2), List.getElem?_append_left (by simp [rowsR]; exact g2)]
          simp only [rowsR, List.getElem?_map, List.getElem?_range g2, Option.map_some]
          have : rowC (upd G c b) k = rowC G k := by
            unfold rowC; congr 1; funext c'; simp [upd, show k ≠ b by omega]
          rw [this]
        · rw [List.getElem?_append_right (by simp [rowsR]; exact g2), List.getElem?_append_right (by simp [rowsR]; exact g2)]
          simp [rowsR]
/-- a row more: the new slice of rows is brought to the old one's label -/
theorem rH_turn {X Y : AObj} {xs ys : List AV} {G : Gr} {n0 : Nat} (hX : bdO 1 X) (hXf : ∀ f : Nat → Nat, f 0 = 0 → renO f X = X) (hn0 : n0 ≤ 1) (hxs : wkE xs (rens (fun j => if j = 1 then n + 4 else j) ys)) (hb : bds (n + 3) ys) :
    Wk n0 xs (so (rH [X] n G [.vec 1 ((rowC G n).map voD), Y]) 1 .gone ++ [.vec 1 (Vl 2 (n + 1))]) ys (rH [X] (n + 1) G []) := by
  have l0 : (rH [X] n G [.vec 1 ((rowC G n).map voD), Y]).length = n + 4 := by rw [rH_len]; simp; omega
  have l1 : (so (rH [X] n G [.vec 1 ((rowC G n).map voD), Y]) 1 .gone).length = n + 4 := by rw [so_eq, List.length_set, l0]
  refine Wk.bring 1 (n + 4) (n + 3) (by omega) (by omega) (by rw [List.length_append, l1]; simp) hxs hb (by rw [rH_len]; simp; omega) ?_ (fun j h1 h2 => ?_) ?_ ?_ hn0
  · rw [ob_eq (σ := _ ++ _), List.getElem?_append_right (by omega), l1, Nat.sub_self]
    exact rH_v (pre := [X])
  · rw [ob_eq (σ := _ ++ _), List.getElem?_append_left (by omega), so_eq, List.getElem?_set_ne (by omega), ← ob_eq]
    cases j with
    | zero => rw [rH_pre (by simp), rH_pre (by simp)]
    | succ j =>
      cases j with
      | zero => omega
      | succ j =>
        rw [show j + 1 + 1 = [X].length + 1 + j by simp; omega, rH_r (by omega)]
        rcases Nat.lt_or_ge j n with q | q
        · rw [rH_r q]
        · rw [show j = n + 0 by omega, ← Nat.add_assoc, rH_post]; rfl
  · unfold rH
    rw [mapO_app]
    congr 1
    · show [renO _ X] = [X]
      rw [hXf _ (by simp)]
    · rw [mapO, mapO_app]
      congr 1
      · simp only [renO, Vl]
        congr 1
        induction List.range (n + 1) with
        | nil => rfl
        | cons b l ih => simp only [List.map_cons, renss, rens, ren, ih]; simp; omega
      · rw [List.append_nil, show mapO (fun j => if j = 1 then n + 4 else j) [] = [] from rfl, List.append_nil]
        exact mapO_id (k := 0) (fun i h => by omega) (rowsR_bd 0 G (n + 1))
  · refine rH_bd ⟨?_, trivial⟩ trivial (by simp; omega)
    cases X with
    | cells cs => exact bds_mo (by omega) cs hX
    | vec sz es => exact bdss_mo (by omega) es hX
    | _ => trivial
end
end Go.AX.Fw
/- Forward: the reference's gap, allowed and gaps. -/
set_option maxHeartbeats 8000000
set_option linter.unusedVariables false
set_option linter.unusedSimpArgs false
set_option maxRecDepth 20000
namespace Go.AX.Fw
open Go.Proofs Go.RowKit Go.IntWalk Go.AX.Br Go.AX.Lg
theorem gap_ref (pre post : List AObj) (n : Nat) (G : Gr) (c b : Nat) (hc : c < 30) (hb : b < n) (hn : n ≤ 1000) : Spec Try.prog 59 [.own pre.length, .d (.int .i64 c), .d (.int .i64 b)] (rH pre n G post) (.d (.bool (gapP G c b))) (rH pre n G post) := by
  have ov : ob (rH pre n G post) pre.length = .vec 1 (Vl (pre.length + 1) n) := rH_v
  have orr : ∀ i, i < n → ob (rH pre n G post) (pre.length + 1 + i) = .vec 1 ((rowC G i).map voD) := fun i h => rH_r h
  have vl := Vl_len (pre.length + 1) n
  obtain ⟨H, hH⟩ : ∃ H, H = rH pre n G post := ⟨_, rfl⟩
  rw [← hH] at ov orr ⊢
  obtain ⟨p, hp⟩ : ∃ p, p = pre.length := ⟨_, rfl⟩
  rw [← hp] at ov orr vl ⊢
  have m1 : (0 ≤ (c : Int) ∧ (c : Int) < ((30 : Nat) : Int)) = True := eq_true (by omega)
  have m1' : (0 ≤ (c : Int) ∧ (c : Int) < 30) = True := eq_true (by omega)
  have m2 : (c < 30) = True := eq_true hc
  refine spec_of_ev (fn := Try.f59) DX_ok 3000 Try.func59 rfl rfl (Nat.le_of_ble_eq_true rfl) ?_
  simp (maxSteps := 4000000) -implicitDefEqProofs only [Try.f59, go_sem]
  refine eloop (S := Nat) (fun i => mkE 35 [(0, .own p), (1, .d (.int .i64 c)), (2, .d (.int .i64 b)), (7, .d (.bool ((List.range i).any (G c)))), (8, .d (.int .i64 i))]) (fun i => H) (fun i => i ≤ b) (fun i => b - i) 0 (by omega) (Wk.sub (by (simp only [go_sem]) <;> trivial)) ?_
  intro i hi
  rcases Nat.lt_or_ge i b with h2 | h2
  case inl =>
    have f1 : decide ((i : Int) < b) = true := by simp; omega
    have w1 : IntKind.i64.wrap ((i : Int) + 1) = ((i + 1 : Nat) : Int) := by rw [i64_in _ (by omega)]; simp
    have n1 : (0 ≤ (i : Int) ∧ (i : Int) < n) = True := eq_true (by omega)
    have n2 : (i < n) = True := eq_true (by omega)
    have vg := Vl_get (k := p + 1) (show i < n by omega)
    have oi := orr i (by omega)
    have rg := rv_get (G := G) (b := i) hc
    have rl := rowC_len G i
    have hs : (List.range (i + 1)).any (G c) = ((List.range i).any (G c) || G c i) := by rw [List.range_succ, List.any_append]; simp
    obtain ⟨z, hz⟩ : ∃ z, z = (List.range i).any (G c) := ⟨_, rfl⟩
    rw [← hz] at hs ⊢
    cases z
    case true =>
      simp (maxSteps := 4000000) -implicitDefEqProofs only [go_sem, f1, w1, Option.some.injEq, forall_eq', and_true, true_and, Bool.not_true, Bool.not_false, decide_true, Nat.reduceAdd, Nat.reduceSub, Nat.reduceLT, Nat.reduceLeDiff, Nat.reduceEqDiff, ↓reduceIte]
      exact .mk (i + 1) (by omega) (by omega) (by rw [hs]; exact (Wk.sub (by (simp only [go_sem]) <;> trivial)))
    simp (maxSteps := 4000000) -implicitDefEqProofs only [go_sem, f1, ov, vl, n1, n2, vg, oi, rg, rl, m1, m1', m2, w1, Option.some.injEq, forall_eq', and_true, true_and, Bool.not_true, Bool.not_false, decide_true, Nat.reduceAdd, Nat.reduceSub, Nat.reduceLT, Nat.reduceLeDiff, Nat.reduceEqDiff, ↓reduceIte]
    exact .mk (i + 1) (by omega) (by omega) (by rw [hs]; exact (Wk.sub (by (simp only [go_sem]) <;> trivial)))
  have : i = b := by omega
  subst this
  have f1 : decide ((i : Int) < i) = false := by simp
  have n1 : (0 ≤ (i : Int) ∧ (i : Int) < n) = True := eq_true (by omega)
  have n2 : (i < n) = True := eq_true (by omega)
  have vg := Vl_get (k := p + 1) (show i < n by omega)
  have oi := orr i (by omega)
  have rg := rv_get (G := G) (b := i) hc
  have rl := rowC_len G i
  have hg : gapP G c i = ((List.range i).any (G c) && !G c i) := rfl
  obtain ⟨z, hz⟩ : ∃ z, z = (List.range i).any (G c) := ⟨_, rfl⟩
  rw [← hz] at hg ⊢
  cases z
  case false =>
    simp (maxSteps := 4000000) -implicitDefEqProofs only [go_sem, f1, Option.some.injEq, forall_eq', and_true, true_and, Bool.not_true, Bool.not_false, decide_true, Nat.reduceAdd, Nat.reduceSub, Nat.reduceLT, Nat.reduceLeDiff, Nat.reduceEqDiff, ↓reduceIte]
    rw [hg]
    exact (Wk.sub (by (simp only [go_sem]) <;> trivial))
  simp (maxSteps := 4000000) -implicitDefEqProofs only [go_sem, f1, ov, vl, n1, n2, vg, oi, rg, rl, m1, m1', m2, Option.some.injEq, forall_eq', and_true, true_and, Bool.not_true, Bool.not_false, decide_true, Nat.reduceAdd, Nat.reduceSub, Nat.reduceLT, Nat.reduceLeDiff, Nat.reduceEqDiff, ↓reduceIte]
  rw [hg]
  exact (Wk.sub (by (simp only [go_sem]) <;> trivial))
theorem alw_t {G : Gr} {n c b : Nat} (h : ∀ j, b < j → j < n → G c j = true) : alw G n c b = true := by
  unfold alw
  rw [List.all_eq_true]
  intro i hi
  rw [List.mem_range] at hi
  rcases Nat.lt_or_ge b i with q | q
  · rw [h i q hi]; simp
  · simp [q]
theorem alw_f {G : Gr} {n c b j : Nat} (h1 : b < j) (h2 : j < n) (h3 : G c j = false) : alw G n c b = false := by
  cases z : alw G n c b with
  | false => rfl
  | true =>
    unfold alw at z
    rw [List.all_eq_true] at z
    have := z j (List.mem_range.2 h2)
    rw [h3] at this
    simp at this
    omega
theorem allowed_ref (pre post : List AObj) (n : Nat) (G : Gr) (c b : Nat) (hc : c < 30) (hb : b < n) (hn : n ≤ 1000) : Spec Try.prog 41 [.own pre.length, .d (.int .i64 c), .d (.int .i64 b)] (rH pre n G post) (.d (.bool (alw G n c b))) (rH pre n G post) := by
  have ov : ob (rH pre n G post) pre.length = .vec 1 (Vl (pre.length + 1) n) := rH_v
  have orr : ∀ i, i < n → ob (rH pre n G post) (pre.length + 1 + i) = .vec 1 ((rowC G i).map voD) := fun i h => rH_r h
  have vl := Vl_len (pre.length + 1) n
  obtain ⟨H, hH⟩ : ∃ H, H = rH pre n G post := ⟨_, rfl⟩
  rw [← hH] at ov orr ⊢
  obtain ⟨p, hp⟩ : ∃ p, p = pre.length := ⟨_, rfl⟩
  rw [← hp] at ov orr vl ⊢
  have m1 : (0 ≤ (c : Int) ∧ (c : Int) < ((30 : Nat) : Int)) = True := eq_true (by omega)
  have m1' : (0 ≤ (c : Int) ∧ (c : Int) < 30) = True := eq_true (by omega)
  have m2 : (c < 30) = True := eq_true hc
  have wb : IntKind.i64.wrap ((b : Int) + 1) = ((b + 1 : Nat) : Int) := by rw [i64_in _ (by omega)]; simp
  obtain ⟨k, hk⟩ : ∃ k, k = b + 1 := ⟨_, rfl⟩
  rw [← hk] at wb
  have b1 : (!true) = false := rfl
  have b2 : (!false) = true := rfl
  refine spec_of_ev (fn := Try.f41) DX_ok 3000 Try.func41 rfl rfl (Nat.le_of_ble_eq_true rfl) ?_
  simp (maxSteps := 4000000) -implicitDefEqProofs only [Try.f41, go_sem, wb]
  refine eloop (S := Nat) (fun i => mkE 24 [(0, .own p), (1, .d (.int .i64 c)), (2, .d (.int .i64 b)), (7, .d (.int .i64 i))]) (fun i => H) (fun i => k ≤ i ∧ i ≤ n ∧ ∀ j, b < j → j < i → G c j = true) (fun i => n - i) k ⟨by omega, by omega, fun j h1 h2 => by omega⟩ (Wk.sub (by (simp only [go_sem]) <;> trivial)) ?_
  rintro i ⟨hk2, hi, hj⟩
  rcases Nat.lt_or_ge i n with h2 | h2
  case inl =>
    have f1 : decide ((i : Int) < n) = true := by simp; omega
    have w1 : IntKind.i64.wrap ((i : Int) + 1) = ((i + 1 : Nat) : Int) := by rw [i64_in _ (by omega)]; simp
    have n1 : (0 ≤ (i : Int) ∧ (i : Int) < n) = True := eq_true (by omega)
    have n2 : (i < n) = True := eq_true (by omega)
    have vg := Vl_get (k := p + 1) (show i < n by omega)
    have oi := orr i (by omega)
    have rg := rv_get (G := G) (b := i) hc
    have rl := rowC_len G i
    cases z : G c i
    case false =>
      rw [z] at rg
      have ha := alw_f (show b < i by omega) h2 z
      simp (maxSteps := 4000000) -implicitDefEqProofs only [go_sem, f1, ov, vl, n1, n2, vg, oi, rg, rl, m1, m1', m2, w1, b2, Option.some.injEq, forall_eq', and_true, true_and, Bool.not_true, Bool.not_false, decide_true, Nat.reduceAdd, Nat.reduceSub, Nat.reduceLT, Nat.reduceLeDiff, Nat.reduceEqDiff, ↓reduceIte]
      rw [ha]
      exact (Wk.sub (by (simp only [go_sem]) <;> trivial))
    rw [z] at rg
    simp (maxSteps := 4000000) -implicitDefEqProofs only [go_sem, f1, ov, vl, n1, n2, vg, oi, rg, rl, m1, m1', m2, w1, b1, Option.some.injEq, forall_eq', and_true, true_and, Bool.not_true, Bool.not_false, decide_true, Nat.reduceAdd, Nat.reduceSub, Nat.reduceLT, Nat.reduceLeDiff, Nat.reduceEqDiff, ↓reduceIte]
    refine .mk (i + 1) ⟨by omega, by omega, fun j h3 h4 => ?_⟩ (by omega) (Wk.sub (by (simp only [go_sem]) <;> trivial))
    rcases Nat.lt_or_ge j i with q | q
    · exact hj j h3 q
    · have : j = i := by omega
      rw [this]; exact z
  have f1 : decide ((i : Int) < n) = false := by simp; omega
  have ha := alw_t (G := G) (n := n) (c := c) (b := b) fun j h3 h4 => hj j h3 (by omega)
  simp (maxSteps := 4000000) -implicitDefEqProofs only [go_sem, f1, ov, vl, Option.some.injEq, forall_eq', and_true, true_and, Bool.not_true, Bool.not_false, decide_true, Nat.reduceAdd, Nat.reduceSub, Nat.reduceLT, Nat.reduceLeDiff, Nat.reduceEqDiff, ↓reduceIte]
  rw [ha]
  exact (Wk.sub (by (simp only [go_sem]) <;> trivial))
def stG (o : List ByteArray) (x : Nat × Nat) : St := ⟨x.1, ByteArray.empty, (o[x.2]?).getD ByteArray.empty⟩
/-- the gaps as steps -/
def gapsS (o : List ByteArray) (G : Gr) : List St := (gapsL G o.length).map (stG o)
def stL (o : List ByteArray) (l : List (Nat × Nat)) : List (List D) := (l.map (stG o)).map stD
theorem stL_len {o : List ByteArray} {l : List (Nat × Nat)} : (stL o l).length = l.length := by simp [stL]
theorem stL_app {o : List ByteArray} {l : List (Nat × Nat)} {c b : Nat} {x : ByteArray} (h : o[b]? = some x) : stL o l ++ [[.int .i64 c, .str ByteArray.empty, .str x]] = stL o (l ++ [(c, b)]) := by
  simp [stL, stG, h, stD]
theorem stL_el {o : List ByteArray} {l : List (Nat × Nat)} : (∀ e ∈ stL o l, e.length = 3) = True := eq_true (map_len (g := stD) fun _ => rfl)
theorem clsG_len (G : Gr) (n c : Nat) : (clsG G n c).length ≤ n := by
  unfold clsG tagC
  rw [List.length_map]
  exact Nat.le_trans (List.length_filter_le _ _) (by simp)
theorem gapsL_len (G : Gr) (n : Nat) : (gapsL G n).length ≤ 30 * n := by
  have : ∀ l : List Nat, (l.flatMap (clsG G n)).length ≤ l.length * n := by
    intro l
    induction l with
    | nil => simp
    | cons c l ih =>
      rw [List.flatMap_cons, List.length_append, List.length_cons, Nat.add_mul, Nat.one_mul]
      have := clsG_len G n c
      omega
  have := this (List.range 30)
  rwa [List.length_range] at this
theorem gaps_ref (pre post : List AObj) (o : List ByteArray) (G : Gr) (ho : o.length ≤ 8) (hp1 : bdOs (pre.length + 1 + o.length + post.length) pre) (hp2 : bdOs (pre.length + 1 + o.length + post.length) post) :
    Spec Try.prog 37 [.own pre.length, .d (.sl (o.map sD))] (rH pre o.length G post) (.own (pre.length + 1 + o.length + post.length)) (rH pre o.length G post ++ [.row 3 (stL o (gapsL G o.length))]) := by
  have hl : (rH pre o.length G post).length = pre.length + 1 + o.length + post.length := rH_len
  have hbd : bdOs (rH pre o.length G post).length (rH pre o.length G post) := rH_bd (by rw [hl]; exact hp1) (by rw [hl]; exact hp2) (by rw [hl]; omega)
  have cg : ∀ (c b : Nat) (x : AObj), c < 30 → b < o.length → Spec Try.prog 59 [.own pre.length, .d (.int .i64 c), .d (.int .i64 b)] (rH pre o.length G post ++ [x]) (.d (.bool (gapP G c b))) (rH pre o.length G post ++ [x]) := fun c b x h1 h2 => by
    rw [rH_app]
    exact gap_ref pre _ o.length G c b h1 h2 (by omega)
  have hpq : (pre.length = pre.length + 1 + o.length + post.length) = False := eq_false (by omega)
  obtain ⟨S, hS⟩ : ∃ S, S = rH pre o.length G post := ⟨_, rfl⟩
  rw [← hS] at hl hbd cg ⊢
  obtain ⟨q, hq⟩ : ∃ q, q = pre.length + 1 + o.length + post.length := ⟨_, rfl⟩
  rw [← hq] at hl hpq ⊢
  obtain ⟨p, hp⟩ : ∃ p, p = pre.length := ⟨_, rfl⟩
  rw [← hp] at hpq cg ⊢
  have hpl : p < q := by omega
  have oq0 : ∀ x r, ob (S ++ (x :: r)) q = x := fun x r => by rw [ob_eq, ← hl, List.getElem?_append_right (Nat.le_refl _), Nat.sub_self]; rfl
  have oq1 : ∀ x y r, ob (S ++ (x :: y :: r)) (q + 1) = y := fun x y r => by rw [ob_eq, ← hl, List.getElem?_append_right (by omega), show S.length + 1 - S.length = 1 by omega]; rfl
  have sq : ∀ x r z, so (S ++ (x :: r)) q z = S ++ (z :: r) := fun x r z => by rw [so_eq, ← hl, List.set_append_right (h := Nat.le_refl _), Nat.sub_self]; rfl
  obtain ⟨n, hn⟩ : ∃ n, n = o.length := ⟨_, rfl⟩
  have hn' : (o.length : Int) = n := by omega
  rw [← hn] at cg ho ⊢
  have gl := gapsL_len G n
  clear hS hq hp hp1 hp2
  refine spec_of_ev (fn := Try.f37) DX_ok 3000 Try.func37 rfl rfl (Nat.le_of_ble_eq_true rfl) ?_
  simp (maxSteps := 4000000) -implicitDefEqProofs only [Try.f37, go_sem]
  refine eloop (S := Nat) (fun c => mkE 33 [(0, .own p), (1, .d (.sl (o.map sD))), (5, .own q), (6, .d (.int .i64 c))]) (fun c => S ++ [.row 3 (stL o (pf G n c 0))]) (fun c => c ≤ 30) (fun c => 30 - c) 0 (by omega) ?_ ?_
  · refine Wk.trans (Wk.nil 5 3 rfl) ?_
    rw [hl]
    exact (Wk.sub (by (simp only [go_sem]) <;> trivial))
  intro c hc
  rcases Nat.lt_or_ge c 30 with h2 | h2
  case inr =>
    have f1 : decide ((c : Int) < 30) = false := by simp; omega
    have : c = 30 := by omega
    subst this
    simp (maxSteps := 4000000) -implicitDefEqProofs only [go_sem, f1, Option.some.injEq, forall_eq', and_true, true_and, Bool.not_true, Bool.not_false, decide_true, Nat.reduceAdd, Nat.reduceSub, Nat.reduceLT, Nat.reduceLeDiff, Nat.reduceEqDiff, ↓reduceIte]
    rw [pf_end]
    exact (Wk.sub (by (simp only [go_sem]) <;> trivial))
  have f1 : decide ((c : Int) < 30) = true := by simp; omega
  have wc : IntKind.i64.wrap ((c : Int) + 1) = ((c + 1 : Nat) : Int) := by rw [i64_in _ (by omega)]; simp
  have wn : IntKind.i64.wrap ((n : Int) - 1) = (n : Int) - 1 := i64_in _ (by omega)
  simp (maxSteps := 4000000) -implicitDefEqProofs only [go_sem, f1, hn', wn, Option.some.injEq, forall_eq', and_true, true_and, Bool.not_true, Bool.not_false, decide_true, Nat.reduceAdd, Nat.reduceSub, Nat.reduceLT, Nat.reduceLeDiff, Nat.reduceEqDiff, ↓reduceIte]
  refine eloop (S := Nat) (fun k => mkE 33 [(0, .own p), (1, .d (.sl (o.map sD))), (5, .own q), (6, .d (.int .i64 c)), (7, .d (.int .i64 ((n : Int) - 1 - k)))]) (fun k => S ++ [.row 3 (stL o (pf G n c k))]) (fun k => k ≤ n) (fun k => n - k) 0 (by omega) (by simp only [Int.natCast_zero, Int.sub_zero]; exact (Wk.sub (by (simp only [go_sem]) <;> trivial))) ?_
  intro k hk
  rcases Nat.lt_or_ge k n with h3 | h3
  case inr =>
    have f2 : decide (0 ≤ (n : Int) - 1 - k) = false := by simp; omega
    have : k = n := by omega
    subst this
    simp (maxSteps := 4000000) -implicitDefEqProofs only [go_sem, f2, wc, Option.some.injEq, forall_eq', and_true, true_and, Bool.not_true, Bool.not_false, decide_true, Nat.reduceAdd, Nat.reduceSub, Nat.reduceLT, Nat.reduceLeDiff, Nat.reduceEqDiff, ↓reduceIte]
    exact .mk (c + 1) (by omega) (by omega) (by rw [pf_next]; exact (Wk.sub (by (simp only [go_sem]) <;> trivial)))
  have f2 : decide (0 ≤ (n : Int) - 1 - k) = true := by simp; omega
  have hbi : (n : Int) - 1 - k = ((n - 1 - k : Nat) : Int) := by omega
  have hps := pf_step (G := G) (c := c) h3
  have hple := pf_le (G := G) (n := n) (k := k) h2
  have cb := cg c (n - 1 - k) (.row 3 (stL o (pf G n c k))) h2 (by omega)
  have w1 : IntKind.i64.wrap (((n - 1 - k : Nat) : Int) - 1) = (n : Int) - 1 - ((k + 1 : Nat) : Int) := by rw [i64_in _ (by omega)]; omega
  obtain ⟨x, hx⟩ : ∃ x, o[n - 1 - k]? = some x := ⟨o[n - 1 - k]'(by omega), List.getElem?_eq_getElem _⟩
  have n1 : (0 ≤ ((n - 1 - k : Nat) : Int) ∧ ((n - 1 - k : Nat) : Int) < n) = True := eq_true (by omega)
  have n2 : (n - 1 - k < n) = True := eq_true (by omega)
  have n2' : (n - 1 - k < o.length) = True := eq_true (by omega)
  rw [hbi] at f2 ⊢
  obtain ⟨b, hb⟩ : ∃ b, b = n - 1 - k := ⟨_, rfl⟩
  rw [← hb] at f2 hps cb w1 hx n1 n2 n2' ⊢
  simp (maxSteps := 4000000) -implicitDefEqProofs only [go_sem, f2, Option.some.injEq, forall_eq', and_true, true_and, Bool.not_true, Bool.not_false, decide_true, Nat.reduceAdd, Nat.reduceSub, Nat.reduceLT, Nat.reduceLeDiff, Nat.reduceEqDiff, ↓reduceIte]
  refine .all _ _ cb ?_
  cases z : gapP G c b
  case false =>
    rw [z, if_neg (by simp), List.append_nil] at hps
    simp (maxSteps := 4000000) -implicitDefEqProofs only [go_sem, w1, Option.some.injEq, forall_eq', and_true, true_and, Bool.not_true, Bool.not_false, decide_true, Nat.reduceAdd, Nat.reduceSub, Nat.reduceLT, Nat.reduceLeDiff, Nat.reduceEqDiff, ↓reduceIte]
    exact .mk (k + 1) (by omega) (by omega) (by rw [hps]; exact (Wk.sub (by (simp only [go_sem]) <;> trivial)))
  rw [z, if_pos rfl] at hps
  have sa := stL_app (o := o) (l := pf G n c k) (c := c) hx
  rw [← hps] at sa
  have sl := stL_len (o := o) (l := pf G n c k)
  have se := stL_el (o := o) (l := pf G n c k)
  have g1 : (((pf G n c k).length + 1) * 40 ≤ 140737488355328 ∧ (pf G n c k).length + 1 ≤ 9223372036854775807) = True := eq_true (by omega)
  simp (maxSteps := 4000000) -implicitDefEqProofs only [go_sem, hn', n1, n2, n2', hx, List.append_assoc, List.cons_append, List.nil_append, List.length_append, hl, oq0, oq1, sq, sl, se, sa, w1, Option.some.injEq, forall_eq', and_true, true_and, Bool.not_true, Bool.not_false, decide_true, Nat.reduceAdd, Nat.reduceSub, Nat.reduceLT, Nat.reduceLeDiff, Nat.reduceEqDiff, ↓reduceIte]
  refine ⟨by omega, ⟨by simp, by omega, by omega⟩, .mk (k + 1) (by omega) (by omega) (Wk.last (σ := S) (τ := [_, _]) hbd trivial (by simp) ?_ ?_ (by omega))⟩
  · rw [hl]
    (simp only [go_sem, hpq, ↓reduceIte, eq_self]) <;> trivial
  · rw [hl]
    (simp (maxSteps := 4000000) -implicitDefEqProofs only [go_sem, Nat.reduceAdd, Nat.reduceSub, Nat.reduceLT, Nat.reduceLeDiff, Nat.reduceEqDiff, ↓reduceIte]) <;> omega
end Go.AX.Fw
/- Forward: the reference's grid of a ledger. -/
set_option maxHeartbeats 8000000
set_option linter.unusedVariables false
set_option linter.unusedSimpArgs false
set_option maxRecDepth 20000
namespace Go.AX.Fw
open Go.Proofs Go.RowKit Go.IntWalk Go.AX.Br Go.AX.Lg
/-- a row, k of its classes laid -/
def rowE (E : List Int) (k : Nat) : List Bool := (List.range 30).map fun (c : Nat) => (E.take k).any fun x => x == (c : Int)
theorem rowE_0 (E : List Int) : rowE E 0 = List.replicate 30 false := by simp [rowE, List.map_const']
theorem rowE_len (E : List Int) (k : Nat) : (rowE E k).length = 30 := by simp [rowE]
theorem rowE_step {E : List Int} {k c : Nat} (h : E[k]? = some (c : Int)) (hc : c < 30) : ((rowE E k).map voD).set c [.d (.bool true)] = (rowE E (k + 1)).map voD := by
  refine List.ext_getElem? fun j => ?_
  have hl : ∀ k, ((rowE E k).map voD).length = 30 := fun k => by rw [List.length_map, rowE_len]
  rcases Nat.lt_or_ge j 30 with q | q
  · have gt : ∀ k, ((rowE E k).map voD)[j]? = some [.d (.bool ((E.take k).any fun x => x == (j : Int)))] := fun k => by simp [rowE, q, voD]
    rw [gt, List.take_add_one, h, Option.toList_some, List.any_append]
    by_cases e : j = c
    · subst e
      rw [List.getElem?_set_self (by rw [hl]; exact hc)]; simp
    · rw [List.getElem?_set_ne (Ne.symm e), gt]
      have : ((c : Int) == j) = false := by simp; omega
      simp [this]
  · rw [List.getElem?_eq_none (by rw [List.length_set, hl]; exact q), List.getElem?_eq_none (by rw [hl]; exact q)]
theorem rowE_get {E : List Int} {k c : Nat} (hc : c < 30) : ∃ x, ((rowE E k).map voD).getD c [] = [x] := by
  refine ⟨.d (.bool ((E.take k).any fun x => x == (c : Int))), ?_⟩
  simp [rowE, hc, voD]
theorem rowE_all {l : Lg} {o : List ByteArray} {i : Nat} {nm : ByteArray} {E : List Int} (h : o[i]? = some nm) (hE : E = (effR l nm).1) : rowE E E.length = rowC (gridG l o) i := by
  unfold rowE rowC
  rw [List.take_length]
  congr 1
  funext c
  simp only [gridG, h, hE]
theorem Grid_ref (l : Lg) (o : List ByteArray) (hk : l.kn.length ≤ 1000) (hb : l.br.length ≤ 1000) (he : l.ev.length ≤ 1000) (ho : o.length ≤ 1000) : Spec Try.prog 35 [lA l, .d (.sl (o.map sD))] [] (.own 1) (rH [.gone] o.length (gridG l o) []) := by
  have c1 := fun nm => Effect_ref l nm hk hb he
  simp only [lA] at c1
  obtain ⟨X, hX⟩ : ∃ X, X = lH l := ⟨_, rfl⟩
  have o0 : ∀ G n post, ob (rH [X] n G post) 0 = .cells [.d (.sl (l.kn.map kD)), .d (.sl (l.br.map bD)), .d (.sl (l.ev.map esD))] := fun G n post => by rw [rH_pre (by simp), hX]; rfl
  have hXb : bdO 1 X := by rw [hX]; simp only [lH, bdO, bds, bd, and_true]
  have hXf : ∀ f : Nat → Nat, f 0 = 0 → renO f X = X := fun f _ => by rw [hX]; simp only [lH, renO, rens, ren]
  obtain ⟨G, hG⟩ : ∃ G, G = gridG l o := ⟨_, rfl⟩
  refine spec_of_ev (fn := Try.f35) DX_ok 3000 Try.func35 rfl rfl (Nat.le_of_ble_eq_true rfl) ?_
  simp (maxSteps := 4000000) -implicitDefEqProofs only [Try.f35, go_sem, lA]
  refine eloop (S := Nat) (fun i => mkE 44 [(1, .d (.sl (o.map sD))), (2, .ptr 0 0), (5, .own 1), (6, .d (.int .i64 i))]) (fun i => rH [X] i G []) (fun i => i ≤ o.length) (fun i => o.length - i) 0 (by omega) ?_ ?_
  · refine Wk.trans (Wk.nil 5 1 rfl) ?_
    refine Wk.trans (Wk.rowv 1 rfl) ?_
    rw [show rH [X] 0 G [] = [lH l, .vec 1 []] from by rw [hX]; rfl]
    simp only [lH]
    exact (Wk.sub (by (simp only [go_sem]) <;> trivial))
  intro i hi
  rcases Nat.lt_or_ge i o.length with h2 | h2
  case inr =>
    have : i = o.length := by omega
    subst this
    have f1 : decide ((o.length : Int) < o.length) = false := by simp
    simp (maxSteps := 4000000) -implicitDefEqProofs only [go_sem, f1, Option.some.injEq, forall_eq', and_true, true_and, Bool.not_true, Bool.not_false, decide_true, Nat.reduceAdd, Nat.reduceSub, Nat.reduceLT, Nat.reduceLeDiff, Nat.reduceEqDiff, ↓reduceIte]
    rw [← hG]
    exact Wk.trans (Wk.dropL 0) (Wk.sub (by (simp only [go_sem]) <;> trivial))
  have f1 : decide ((i : Int) < o.length) = true := by simp; omega
  obtain ⟨x, hx⟩ : ∃ x, o[i]? = some x := ⟨o[i]'h2, List.getElem?_eq_getElem _⟩
  have n1 : (0 ≤ (i : Int) ∧ (i : Int) < o.length) = True := eq_true (by omega)
  have n2 : (i < o.length) = True := eq_true (by omega)
  have w1 : IntKind.i64.wrap ((i : Int) + 1) = ((i + 1 : Nat) : Int) := by rw [i64_in _ (by omega)]; simp
  have c2 := c1 x
  obtain ⟨E, hE⟩ : ∃ E, E = (effR l x).1 := ⟨_, rfl⟩
  have hEl : E.length ≤ 30 := by
    rw [hE]; unfold effR
    split
    · simp
    · exact effN_len _ _ _
  rw [← hE] at c2
  have hend := rowE_all hx hE
  rw [← hG] at hend
  have ln : (rH [X] i G []).length = 2 + i := by rw [rH_len]; simp; try omega
  have hrep : List.replicate 30 [D.bool false] = (rowE E 0).map boD := by rw [rowE_0, List.map_replicate]; rfl
  have oP := fun post => o0 G i post
  have app : ∀ p q, rH [X] i G p ++ q = rH [X] i G (p ++ q) := fun p q => rH_app q
  simp (maxSteps := 4000000) -implicitDefEqProofs only [go_sem, f1, ↓hrep, ln, app, Option.some.injEq, forall_eq', and_true, true_and, Bool.not_true, Bool.not_false, decide_true, Nat.reduceAdd, Nat.reduceSub, Nat.reduceLT, Nat.reduceLeDiff, Nat.reduceEqDiff, ↓reduceIte]
  refine ⟨by omega, ?_⟩
  refine DX.plain (.take 0 false (.take 1 false (.take 2 false (.take 3 false (.take 4 false (.take 5 false (.take 6 false (.take 7 false (.take 8 false (.take 9 false (.take 10 false .done))))))))))) (by kernel_rfl) (by kernel_rfl) Ty.mixed ?_
  simp (maxSteps := 4000000) -implicitDefEqProofs only [go_sem, n1, n2, hx, oP, Option.some.injEq, forall_eq', and_true, true_and, Bool.not_true, Bool.not_false, decide_true, Nat.reduceAdd, Nat.reduceSub, Nat.reduceLT, Nat.reduceLeDiff, Nat.reduceEqDiff, ↓reduceIte]
  refine ⟨_, _, c2.lift0 _ (by simp only [go_sem]) (by simp only [go_sem]), rfl, ?_⟩
  have os : ∀ r s, ob (rH [X] i G (r :: s)) (2 + i) = r := fun r s => (rH_post (pre := [X]) (j := 0)).trans rfl
  have osg : ∀ r s, r ≠ .gone → (rH [X] i G (r :: s))[2 + i]? = some r := fun r s h => ob_some (os r s) h
  have os1 : ∀ r s t, ob (rH [X] i G (r :: s :: t)) (2 + i + 1) = s := fun r s t => (rH_post (pre := [X]) (n := i) (G := G) (post := r :: s :: t) (j := 1)).trans rfl
  have ss : ∀ r s x, so (rH [X] i G (r :: s)) (2 + i) x = rH [X] i G (x :: s) := fun r s x => rH_sop (pre := [X]) (j := 0)
  have lx : ∀ p, (rH [X] i G p).length = 2 + i + p.length := fun p => by rw [rH_len]; rfl
  simp (maxSteps := 4000000) -implicitDefEqProofs only [go_sem, Nat.reduceAdd, Nat.reduceSub, Nat.reduceLT, Nat.reduceLeDiff, Nat.reduceEqDiff, ↓reduceIte]
  refine eloop (S := Nat) (fun k => mkE 44 [(1, .d (.sl (o.map sD))), (2, .ptr 0 0), (5, .own 1), (6, .d (.int .i64 i)), (7, .own (2 + i)), (8, .d (.sl (E.map iD))), (10, .d (.int .i64 k))]) (fun k => rH [X] i G [.vec 1 ((rowE E k).map voD)]) (fun k => k ≤ E.length) (fun k => E.length - k) 0 (by omega) ?_ ?_
  · refine Wk.trans (Wk.rowv (2 + i) (sz := 1) (es := (rowE E 0).map boD) (ob_some (os _ _) (by simp))) ?_
    rw [← so_eq, ss, show upD ((rowE E 0).map boD) = (rowE E 0).map voD by simp [upD, boD, voD]]
    exact (Wk.sub (by (simp only [go_sem]) <;> trivial))
  intro k hk2
  rcases Nat.lt_or_ge k E.length with h3 | h3
  case inr =>
    have : k = E.length := by omega
    subst this
    have f2 : decide ((E.length : Int) < E.length) = false := by simp
    have ov : ∀ p, ob (rH [X] i G p) 1 = .vec 1 (Vl 2 i) := fun p => rH_v (pre := [X])
    have vl := Vl_len 2 i
    have vs := Vl_succ 2 i
    have og1 := osg (.vec 1 ((rowC G i).map voD)) [] (by simp)
    have i8 : (i + 1) * 24 ≤ 140737488355328 := by omega
    simp (maxSteps := 4000000) -implicitDefEqProofs only [go_sem, f2, lx, os, os1, og1, app, ov, vl, vs, w1, hend, Option.some.injEq, forall_eq', and_true, true_and, Bool.not_true, Bool.not_false, decide_true, Nat.reduceAdd, Nat.reduceSub, Nat.reduceLT, Nat.reduceLeDiff, Nat.reduceEqDiff, ↓reduceIte]
    refine ⟨⟨by simp, by simp [oneC], i8, by omega⟩, .mk (i + 1) (by omega) (by omega) (rH_turn hXb hXf (by omega) ?_ ?_)⟩
    · rw [show 2 + i + 2 = i + 4 by omega]
      (simp only [go_sem, ↓reduceIte, eq_self]) <;> trivial
    · (simp (maxSteps := 4000000) -implicitDefEqProofs only [go_sem, Nat.reduceAdd, Nat.reduceSub, Nat.reduceLT, Nat.reduceLeDiff, Nat.reduceEqDiff, ↓reduceIte]) <;> omega
  have f2 : decide ((k : Int) < E.length) = true := by simp; omega
  obtain ⟨y, hy⟩ : ∃ y, E[k]? = some y := ⟨E[k]'h3, List.getElem?_eq_getElem _⟩
  obtain ⟨c, rfl, hc30⟩ := eff_el (l := l) (nm := x) (i := k) (by rw [← hE]; exact hy)
  have p1 : (0 ≤ (k : Int) ∧ (k : Int) < E.length) = True := eq_true (by omega)
  have p2 : (k < E.length) = True := eq_true (by omega)
  have m1 : (0 ≤ (c : Int) ∧ (c : Int) < ((30 : Nat) : Int)) = True := eq_true (by omega)
  have m1' : (0 ≤ (c : Int) ∧ (c : Int) < 30) = True := eq_true (by omega)
  have m2 : (c < 30) = True := eq_true hc30
  have w2 : IntKind.i64.wrap ((k : Int) + 1) = ((k + 1 : Nat) : Int) := by rw [i64_in _ (by omega)]; simp
  have rs := rowE_step hy hc30
  have rk := rowE_len E k
  obtain ⟨z, rg⟩ := rowE_get (E := E) (k := k) hc30
  simp (maxSteps := 4000000) -implicitDefEqProofs only [go_sem, f2, p1, p2, hy, os, m1, m1', m2, rk, rg, rs, ss, w2, Option.some.injEq, forall_eq', and_true, true_and, Bool.not_true, Bool.not_false, decide_true, Nat.reduceAdd, Nat.reduceSub, Nat.reduceLT, Nat.reduceLeDiff, Nat.reduceEqDiff, ↓reduceIte]
  exact .mk (k + 1) (by omega) (by omega) (Wk.sub (by (simp only [go_sem]) <;> trivial))
end Go.AX.Fw
/- Forward: what is allowed, and the reference's gaps. -/
set_option maxHeartbeats 8000000
set_option linter.unusedVariables false
set_option linter.unusedSimpArgs false
set_option maxRecDepth 20000
namespace Go.AX.Fw
open Go.Proofs Go.RowKit Go.IntWalk Go.AX.Br Go.AX.Lg
theorem rens_own {f : Nat → Nat} {k k' : Nat} : ∀ l : List Nat, (∀ j ∈ l, f (k + j) = k' + j) → rens f (l.map fun j => .own (k + j)) = l.map fun j => .own (k' + j)
  | [], _ => rfl
  | j :: l, h => by rw [List.map_cons, List.map_cons, rens, ren, h j (by simp), rens_own l fun i hi => h i (by simp [hi])]
theorem rens_nils (f : Nat → Nat) : ∀ m : Nat, rens f (List.replicate m .nil) = List.replicate m .nil
  | 0 => rfl
  | m + 1 => by rw [List.replicate_succ, rens, ren, rens_nils f m]
theorem rens_gC {f : Nat → Nat} {o : List ByteArray} {k k' c : Nat} (h : ∀ j, j < c → f (k + j) = k' + j) : rens f (gC o k c) = gC o k' c := by
  unfold gC ownL
  rw [rens, ren, rens_app, rens_own _ fun j hj => h j (List.mem_range.1 hj), rens_nils]
theorem renss_Vl {f : Nat → Nat} {k k' : Nat} : ∀ l : List Nat, (∀ j ∈ l, f (k + j) = k' + j) → renss f (l.map fun j => [AV.own (k + j)]) = l.map fun j => [AV.own (k' + j)]
  | [], _ => rfl
  | j :: l, h => by rw [List.map_cons, List.map_cons, renss, rens, ren, rens, h j (by simp), renss_Vl l fun i hi => h i (by simp [hi])]
theorem rowsL_bd (m : Nat) (G : Gr) (n c : Nat) : bdOs m (rowsL G n c) := by
  unfold rowsL
  induction List.range c with
  | nil => trivial
  | cons b l ih => exact ⟨trivial, ih⟩
theorem gH_shift (σ : List AObj) (o : List ByteArray) (G : Gr) (c : Nat) : σ ++ mapO (rn [] σ.length) (gH [.gone] o G c []) = gH (σ ++ [.gone]) o G c [] := by
  have hr : ∀ i, rn [] σ.length i = σ.length + i := fun i => by simp [rn]
  unfold gH
  have e1 : mapO (rn [] σ.length) (.cells (gC o ([AObj.gone].length + 1) c) :: (rowsL G o.length c ++ [])) = .cells (gC o ((σ ++ [AObj.gone]).length + 1) c) :: (rowsL G o.length c ++ []) := by
    rw [mapO, mapO_app, mapO_id (k := 0) (fun i h => by omega) (rowsL_bd 0 G o.length c), renO, rens_gC (k' := (σ ++ [AObj.gone]).length + 1) (fun j _ => by rw [hr]; simp; omega)]
    rfl
  rw [mapO_app, e1]
  simp [mapO, renO]
theorem rH_shift (σ : List AObj) (n : Nat) (G : Gr) : σ ++ mapO (rn [] σ.length) (rH [.gone] n G []) = rH (σ ++ [.gone]) n G [] := by
  have hr : ∀ i, rn [] σ.length i = σ.length + i := fun i => by simp [rn]
  unfold rH
  have e : renss (rn [] σ.length) (Vl ([AObj.gone].length + 1) n) = Vl ((σ ++ [AObj.gone]).length + 1) n := renss_Vl _ fun j _ => by rw [hr]; simp; omega
  have e2 : mapO (rn [] σ.length) (rowsR G n) = rowsR G n := by
    unfold rowsR
    induction List.range n with
    | nil => rfl
    | cons b l ih =>
      rw [List.map_cons, mapO, ih, renO]
      congr 2
  have e1 : mapO (rn [] σ.length) (.vec 1 (Vl ([AObj.gone].length + 1) n) :: (rowsR G n ++ [])) = .vec 1 (Vl ((σ ++ [AObj.gone]).length + 1) n) :: (rowsR G n ++ []) := by
    rw [mapO, mapO_app, e2, renO, e]; rfl
  rw [mapO_app, e1]
  simp [mapO, renO]
/-- Allowed -/
def alwR (l : Lg) (o : List ByteArray) (c : Int) (nm : ByteArray) : Bool × Int :=
  if fcheck l o ≠ 0 then (false, fcheck l o) else if c < 0 ∨ 30 ≤ c then (false, 2) else if idx (isS nm) o < 0 then (false, 6) else (alw (gridG l o) o.length c.toNat (idx (isS nm) o).toNat, 0)
theorem Allowed_own (l : Lg) (o : List ByteArray) (c : Int) (nm : ByteArray) (hk : l.kn.length ≤ 1000) (hb : l.br.length ≤ 1000) (he : l.ev.length ≤ 1000) (ho : o.length ≤ 1000) :
    Spec Try.prog 17 [lA l, .d (.sl (o.map sD)), .d (.int .i64 c), .d (.str nm)] [] (.tup [.d (.bool (alwR l o c nm).1), .d (.int .i64 (alwR l o c nm).2)]) [] := by
  have c1 := fcheck_own l o hk hb he ho
  have c2 := indexS o nm (by unfold Sm; omega)
  have c3 := look_own l o hk hb he ho
  obtain ⟨R, hR⟩ : ∃ R, R = alwR l o c nm := ⟨_, rfl⟩
  have sh := gH_shift [lH l] o (gridG l o) 30
  rw [← hR]
  unfold alwR at hR
  simp only [lA] at c1 c3
  simp only [lH, List.cons_append, List.nil_append, List.length_cons, List.length_nil, Nat.zero_add] at sh
  refine spec_of_ev (fn := Try.f17) DX_ok 3000 Try.func17 rfl rfl (Nat.le_of_ble_eq_true rfl) ?_
  simp (maxSteps := 4000000) -implicitDefEqProofs only [Try.f17, go_sem, lA]
  refine ecall0 _ c1 (by simp only [go_sem]) (by simp only [go_sem]) ?_
  cases k1 : (fcheck l o != 0)
  case true =>
    rw [if_pos (by simpa using k1)] at hR
    simp (maxSteps := 4000000) -implicitDefEqProofs only [go_sem, k1, Option.some.injEq, forall_eq', and_true, true_and, Bool.not_true, Bool.not_false, decide_true, Nat.reduceAdd, Nat.reduceSub, Nat.reduceLT, Nat.reduceLeDiff, Nat.reduceEqDiff, ↓reduceIte]
    rw [hR]
    exact (Wk.forget (by (simp only [go_sem]) <;> trivial) (by simp only [go_sem]))
  rw [if_neg (by simpa using k1)] at hR
  cases k2 : decide (c < 0)
  case true =>
    rw [if_pos (.inl (of_decide_eq_true k2))] at hR
    simp (maxSteps := 4000000) -implicitDefEqProofs only [go_sem, k1, k2, Option.some.injEq, forall_eq', and_true, true_and, Bool.not_true, Bool.not_false, decide_true, Nat.reduceAdd, Nat.reduceSub, Nat.reduceLT, Nat.reduceLeDiff, Nat.reduceEqDiff, ↓reduceIte]
    rw [hR]
    exact (Wk.forget (by (simp only [go_sem]) <;> trivial) (by simp only [go_sem]))
  cases k3 : decide (30 ≤ c)
  case true =>
    rw [if_pos (.inr (of_decide_eq_true k3))] at hR
    simp (maxSteps := 4000000) -implicitDefEqProofs only [go_sem, k1, k2, k3, Option.some.injEq, forall_eq', and_true, true_and, Bool.not_true, Bool.not_false, decide_true, Nat.reduceAdd, Nat.reduceSub, Nat.reduceLT, Nat.reduceLeDiff, Nat.reduceEqDiff, ↓reduceIte]
    rw [hR]
    exact (Wk.forget (by (simp only [go_sem]) <;> trivial) (by simp only [go_sem]))
  have h0 : 0 ≤ c := by have := of_decide_eq_false k2; omega
  have h30 : c < 30 := by have := of_decide_eq_false k3; omega
  rw [if_neg (by omega)] at hR
  simp (maxSteps := 4000000) -implicitDefEqProofs only [go_sem, k1, k2, k3, Option.some.injEq, forall_eq', and_true, true_and, Bool.not_true, Bool.not_false, decide_true, Nat.reduceAdd, Nat.reduceSub, Nat.reduceLT, Nat.reduceLeDiff, Nat.reduceEqDiff, ↓reduceIte]
  refine ecall0 _ c2 (by simp only [go_sem]) (by simp only [go_sem]) ?_
  cases k4 : decide (idx (isS nm) o < 0)
  case true =>
    rw [if_pos (of_decide_eq_true k4)] at hR
    simp (maxSteps := 4000000) -implicitDefEqProofs only [go_sem, k4, Option.some.injEq, forall_eq', and_true, true_and, Bool.not_true, Bool.not_false, decide_true, Nat.reduceAdd, Nat.reduceSub, Nat.reduceLT, Nat.reduceLeDiff, Nat.reduceEqDiff, ↓reduceIte]
    rw [hR]
    exact (Wk.forget (by (simp only [go_sem]) <;> trivial) (by simp only [go_sem]))
  have h1 : 0 ≤ idx (isS nm) o := by have := of_decide_eq_false k4; omega
  rw [if_neg (by omega)] at hR
  obtain ⟨b, x, e1, e2, _⟩ := idx_get h1
  have hbl := some_lt e2
  simp (maxSteps := 4000000) -implicitDefEqProofs only [go_sem, k4, Option.some.injEq, forall_eq', and_true, true_and, Bool.not_true, Bool.not_false, decide_true, Nat.reduceAdd, Nat.reduceSub, Nat.reduceLT, Nat.reduceLeDiff, Nat.reduceEqDiff, ↓reduceIte]
  refine ecallN _ _ c3 (by simp only [go_sem]) ?_
  simp (maxSteps := 4000000) -implicitDefEqProofs only [go_sem, sh, Option.some.injEq, forall_eq', and_true, true_and, Bool.not_true, Bool.not_false, decide_true, Nat.reduceAdd, Nat.reduceSub, Nat.reduceLT, Nat.reduceLeDiff, Nat.reduceEqDiff, ↓reduceIte]
  obtain ⟨cc, rfl⟩ : ∃ cc : Nat, c = cc := ⟨c.toNat, (Int.toNat_of_nonneg h0).symm⟩
  rw [e1] at hR ⊢
  have c4 := allowed_own [.cells [.d (.sl (l.kn.map kD)), .d (.sl (l.br.map bD)), .d (.sl (l.ev.map esD))], .gone] [] o (gridG l o) cc b (by omega) hbl ho
  refine .all _ _ c4 ?_
  simp only [Int.toNat_natCast] at hR
  simp (maxSteps := 4000000) -implicitDefEqProofs only [go_sem, Nat.reduceAdd, Nat.reduceSub, Nat.reduceLT, Nat.reduceLeDiff, Nat.reduceEqDiff, ↓reduceIte]
  rw [hR]
  exact (Wk.forget (by (simp only [go_sem]) <;> trivial) (by simp only [go_sem]))
/-- Gaps -/
def gpsR (l : Lg) (o : List ByteArray) : List St × Int := if fcheck l o ≠ 0 then ([], fcheck l o) else (gapsS o (gridG l o), 0)
end Go.AX.Fw

/- Forward: the reference's grid in memory. -/
import Derived.Test.YtjdppplgddldcaaK9
set_option maxHeartbeats 8000000
set_option linter.unusedVariables false
set_option linter.unusedSimpArgs false
set_option maxRecDepth 20000
namespace Go.AX
mutual
theorem bd_mo {k m : Nat} (h : k ≤ m) : ∀ x : AV, bd k x → bd m x
  | .agg cs, b => by simp only [bd] at *; exact bds_mo h cs b
  | .tup cs, b => by simp only [bd] at *; exact bds_mo h cs b
  | .fn _ cs, b => by simp only [bd] at *; exact bds_mo h cs b
  | .own l, b => by simp only [bd] at *; omega
  | .ptr l _, b => by simp only [bd] at *; omega
  | .rptr l _ _ _, b => by simp only [bd] at *; omega
  | .mp l, b => by simp only [bd] at *; omega
  | .osl l _ _ _, b => by simp only [bd] at *; omega
  | .any, _ => by simp only [bd]
  | .d _, _ => by simp only [bd]
  | .eptr _, _ => by simp only [bd]
  | .nil, _ => by simp only [bd]
  | .raw _, _ => by simp only [bd]
theorem bds_mo {k m : Nat} (h : k ≤ m) : ∀ xs : List AV, bds k xs → bds m xs
  | [], _ => trivial
  | x :: xs, b => ⟨bd_mo h x b.1, bds_mo h xs b.2⟩
end
theorem bdss_mo {k m : Nat} (h : k ≤ m) : ∀ es : List (List AV), bdss k es → bdss m es
  | [], _ => trivial
  | e :: es, b => ⟨bds_mo h e b.1, bdss_mo h es b.2⟩
theorem renss_congr {f g : Nat → Nat} {k : Nat} (h : ∀ l, l < k → f l = g l) : ∀ es : List (List AV), bdss k es → renss f es = renss g es
  | [], _ => rfl
  | e :: es, b => by rw [renss, renss, rens_congr h e b.1, renss_congr h es b.2]
theorem renO_congr {f g : Nat → Nat} {k : Nat} (h : ∀ l, l < k → f l = g l) : ∀ o : AObj, bdO k o → renO f o = renO g o := fun o b => by
  cases o with
  | cells cs => simp only [renO, rens_congr h cs b]
  | vec sz es => simp only [renO, renss_congr h es b]
  | _ => rfl
theorem mapO_congr {f g : Nat → Nat} {k : Nat} (h : ∀ l, l < k → f l = g l) : ∀ os : List AObj, bdOs k os → mapO f os = mapO g os
  | [], _ => rfl
  | o :: os, b => by rw [mapO, mapO, renO_congr h o b.1, mapO_congr h os b.2]
theorem bdOs_app {k : Nat} : ∀ {a b : List AObj}, bdOs k a → bdOs k b → bdOs k (a ++ b)
  | [], _, _, h => h
  | _ :: _, _, h, h2 => ⟨h.1, bdOs_app h.2 h2⟩
theorem mapO_app (f : Nat → Nat) : ∀ a b : List AObj, mapO f (a ++ b) = mapO f a ++ mapO f b
  | [], _ => rfl
  | x :: a, b => by rw [List.cons_append, mapO, mapO, mapO_app f a b]; rfl
/-- a block from behind is brought to a label that is free -/
theorem Wk.bring {n0 : Nat} {xs ys : List AV} {σ τ : List AObj} (a m K : Nat) (ha : a < K) (hm : K ≤ m) (hml : m < σ.length) (hxs : wkE xs (rens (fun j => if j = a then m else j) ys)) (hb : bds K ys) (hτl : τ.length = K) (hτa : ob τ a = ob σ m)
    (hτ : ∀ j, j < K → j ≠ a → ob τ j = ob σ j) (hf : mapO (fun j => if j = a then m else j) τ = τ) (hbτ : bdOs K τ) (hn : n0 ≤ a) : Wk n0 xs σ ys τ := by
  obtain ⟨f, hff⟩ : ∃ f : Nat → Nat, f = fun j => if j = a then m else j := ⟨_, rfl⟩
  rw [← hff] at hxs hf
  have hl : ((List.range K).map f).length = K := by simp
  have hat : ∀ j, j < K → at0 ((List.range K).map f) j = f j := fun j h => by simp [at0, h]
  have fa : f a = m := by rw [hff]; simp
  have fn : ∀ j, j ≠ a → f j = j := fun j h => by rw [hff]; simp [h]
  have fe : ∀ i j, i < K → j < K → f i = f j → i = j := fun i j h1 h2 h => by
    by_cases e1 : i = a
    · by_cases e2 : j = a
      · omega
      · rw [e1, fa, fn j e2] at h; omega
    · by_cases e2 : j = a
      · rw [e2, fa, fn i e1] at h; omega
      · rwa [fn i e1, fn j e2] at h
  refine Wk.via ((List.range K).map f) ?_ (by rw [hl]; exact hb) ?_ (fun l h => ?_) ?_ (by rw [hl]; exact hbτ) (by rw [hl]; omega) (fun i h => by rw [hat i (by omega), fn i (by omega)])
  · rw [rens_congr hat ys hb]; exact hxs
  · refine List.pairwise_map.2 (List.Pairwise.imp_of_mem ?_ (List.nodup_range (n := K)))
    intro i j h1 h2 hne h
    exact hne (fe i j (List.mem_range.1 h1) (List.mem_range.1 h2) h)
  · obtain ⟨j, hj, rfl⟩ := List.mem_map.1 h
    have := List.mem_range.1 hj
    by_cases e : j = a
    · rw [e, fa]; exact hml
    · rw [fn j e]; omega
  · rw [mapO_congr hat τ hbτ, hf, obs_map]
    have : ((List.range K).map f).map (ob σ) = τ := by
      refine List.ext_getElem? fun j => ?_
      rcases Nat.lt_or_ge j K with q | q
      · have e : τ[j]? = some (ob τ j) := by rw [ob_eq, List.getElem?_eq_getElem (by omega)]; rfl
        rw [e]
        simp only [List.map_map, List.getElem?_map, List.getElem?_range q, Option.map_some, Function.comp]
        by_cases e2 : j = a
        · rw [e2, fa, hτa]
        · rw [fn j e2, hτ j q e2]
      · rw [List.getElem?_eq_none (by simpa using q), List.getElem?_eq_none (by omega)]
    rw [this]
    exact wkOs_refl τ
/-- what lies between is given up -/
theorem Wk.last {n0 : Nat} {xs ys : List AV} {σ τ : List AObj} {x : AObj} (h : bdOs σ.length σ) (hx : bdO σ.length x) (hm : 0 < τ.length) (hxs : wkE xs (rens (fun j => if j = σ.length then σ.length + τ.length else j) ys)) (hb : bds (σ.length + 1) ys) (hn : n0 ≤ σ.length) : Wk n0 xs (σ ++ (τ ++ [x])) ys (σ ++ [x]) := by
  have up : ∀ {o : AObj}, bdO σ.length o → bdO (σ.length + 1) o := fun {o} ho => by
    cases o with
    | cells cs => exact bds_mo (by omega) cs ho
    | vec sz es => exact bdss_mo (by omega) es ho
    | _ => trivial
  have ups : ∀ {os : List AObj}, bdOs σ.length os → bdOs (σ.length + 1) os := fun {os} ho => by
    induction os with
    | nil => trivial
    | cons o os ih => exact ⟨up ho.1, ih ho.2⟩
  refine Wk.bring σ.length (σ.length + τ.length) (σ.length + 1) (by omega) (by omega) (by simp) hxs hb (by simp) ?_ (fun j h1 h2 => ?_) ?_ (bdOs_app (ups h) ⟨up hx, trivial⟩) hn
  · rw [ob_eq, ob_eq, List.getElem?_append_right (Nat.le_refl _), Nat.sub_self, List.getElem?_append_right (by omega), List.getElem?_append_right (by omega)]
    congr 1
    rw [show σ.length + τ.length - σ.length - τ.length = 0 by omega]
  · rw [ob_eq, ob_eq, List.getElem?_append_left (by omega), List.getElem?_append_left (by omega)]
  · have : bdOs σ.length (σ ++ [x]) := bdOs_app h ⟨hx, trivial⟩
    exact mapO_id (fun i hi => by simp; omega) this
end Go.AX
namespace Go.AX.Fw
open Go.Proofs Go.RowKit Go.IntWalk Go.AX.Br Go.AX.Lg
def rowC (G : Gr) (b : Nat) : List Bool := (List.range 30).map fun c => G c b
def voD (b : Bool) : List AV := [.d (.bool b)]
def Vl (k n : Nat) : List (List AV) := (List.range n).map fun b => [.own (k + b)]
def rowsR (G : Gr) (n : Nat) : List AObj := (List.range n).map fun b => .vec 1 ((rowC G b).map voD)
/-- the reference's grid at the label behind pre -/
def rH (pre : List AObj) (n : Nat) (G : Gr) (post : List AObj) : List AObj := pre ++ (.vec 1 (Vl (pre.length + 1) n) :: (rowsR G n ++ post))
theorem rowC_get {G : Gr} {b c : Nat} (h : c < 30) : (rowC G b)[c]? = some (G c b) := by simp [rowC, h]
theorem rowC_len (G : Gr) (b : Nat) : (rowC G b).length = 30 := by simp [rowC]
theorem rv_get {G : Gr} {b c : Nat} (h : c < 30) : ((rowC G b).map voD).getD c [] = [.d (.bool (G c b))] := by
  rw [List.getD_eq_getElem?_getD, List.getElem?_map, rowC_get h]; rfl
theorem Vl_get {k n b : Nat} (h : b < n) : (Vl k n).getD b [] = [.own (k + b)] := by simp [Vl, h]
theorem Vl_len (k n : Nat) : (Vl k n).length = n := by simp [Vl]
section
variable {pre post : List AObj} {n : Nat} {G : Gr}
theorem rH_v : ob (rH pre n G post) pre.length = .vec 1 (Vl (pre.length + 1) n) := by
  rw [ob_eq, rH, List.getElem?_append_right (Nat.le_refl _), Nat.sub_self]; rfl
theorem rH_at {b : Nat} (h : b < n) : (rH pre n G post)[pre.length + 1 + b]? = some (.vec 1 ((rowC G b).map voD)) := by
  rw [rH, List.getElem?_append_right (by omega), show pre.length + 1 + b - pre.length = b + 1 by omega, List.getElem?_cons_succ, List.getElem?_append_left (by simp [rowsR]; exact h)]
  simp [rowsR, h]
theorem rH_r {b : Nat} (h : b < n) : ob (rH pre n G post) (pre.length + 1 + b) = .vec 1 ((rowC G b).map voD) := by
  rw [ob_eq, rH_at h]; rfl
end
end Go.AX.Fw
/- Forward: the reference's gap, allowed and gaps. -/
set_option maxHeartbeats 8000000
set_option linter.unusedVariables false
set_option linter.unusedSimpArgs false
set_option maxRecDepth 20000
namespace Go.AX.Fw
open Go.Proofs Go.RowKit Go.IntWalk Go.AX.Br Go.AX.Lg
theorem alw_t {G : Gr} {n c b : Nat} (h : ∀ j, b < j → j < n → G c j = true) : alw G n c b = true := by
  unfold alw
  rw [List.all_eq_true]
  intro i hi
  rw [List.mem_range] at hi
  rcases Nat.lt_or_ge b i with q | q
  · rw [h i q hi]; simp
  · simp [q]
theorem alw_f {G : Gr} {n c b j : Nat} (h1 : b < j) (h2 : j < n) (h3 : G c j = false) : alw G n c b = false := by
  cases z : alw G n c b with
  | false => rfl
  | true =>
    unfold alw at z
    rw [List.all_eq_true] at z
    have := z j (List.mem_range.2 h2)
    rw [h3] at this
    simp at this
    omega
theorem allowed_ref (pre post : List AObj) (n : Nat) (G : Gr) (c b : Nat) (hc : c < 30) (hb : b < n) (hn : n ≤ 1000) : Spec Try.prog 41 [.own pre.length, .d (.int .i64 c), .d (.int .i64 b)] (rH pre n G post) (.d (.bool (alw G n c b))) (rH pre n G post) := by
  have ov : ob (rH pre n G post) pre.length = .vec 1 (Vl (pre.length + 1) n) := rH_v
  have orr : ∀ i, i < n → ob (rH pre n G post) (pre.length + 1 + i) = .vec 1 ((rowC G i).map voD) := fun i h => rH_r h
  have vl := Vl_len (pre.length + 1) n
  obtain ⟨H, hH⟩ : ∃ H, H = rH pre n G post := ⟨_, rfl⟩
  rw [← hH] at ov orr ⊢
  obtain ⟨p, hp⟩ : ∃ p, p = pre.length := ⟨_, rfl⟩
  rw [← hp] at ov orr vl ⊢
  have m1 : (0 ≤ (c : Int) ∧ (c : Int) < ((30 : Nat) : Int)) = True := eq_true (by omega)
  have m1' : (0 ≤ (c : Int) ∧ (c : Int) < 30) = True := eq_true (by omega)
  have m2 : (c < 30) = True := eq_true hc
  have wb : IntKind.i64.wrap ((b : Int) + 1) = ((b + 1 : Nat) : Int) := by rw [i64_in _ (by omega)]; simp
  obtain ⟨k, hk⟩ : ∃ k, k = b + 1 := ⟨_, rfl⟩
  rw [← hk] at wb
  have b1 : (!true) = false := rfl
  have b2 : (!false) = true := rfl
  refine spec_of_ev (fn := Try.f41) DX_ok 3000 Try.func41 rfl rfl (Nat.le_of_ble_eq_true rfl) ?_
  simp (maxSteps := 4000000) -implicitDefEqProofs only [Try.f41, go_sem, wb]
  refine eloop (S := Nat) (fun i => mkE 24 [(0, .own p), (1, .d (.int .i64 c)), (2, .d (.int .i64 b)), (7, .d (.int .i64 i))]) (fun i => H) (fun i => k ≤ i ∧ i ≤ n ∧ ∀ j, b < j → j < i → G c j = true) (fun i => n - i) k ⟨by omega, by omega, fun j h1 h2 => by omega⟩ (Wk.sub (by (simp only [go_sem]) <;> trivial)) ?_
  rintro i ⟨hk2, hi, hj⟩
  rcases Nat.lt_or_ge i n with h2 | h2
  case inl =>
    have f1 : decide ((i : Int) < n) = true := by simp; omega
    have w1 : IntKind.i64.wrap ((i : Int) + 1) = ((i + 1 : Nat) : Int) := by rw [i64_in _ (by omega)]; simp
    have n1 : (0 ≤ (i : Int) ∧ (i : Int) < n) = True := eq_true (by omega)
    have n2 : (i < n) = True := eq_true (by omega)
    have vg := Vl_get (k := p + 1) (show i < n by omega)
    have oi := orr i (by omega)
    have rg := rv_get (G := G) (b := i) hc
    have rl := rowC_len G i
    cases z : G c i
    case false =>
      rw [z] at rg
      have ha := alw_f (show b < i by omega) h2 z
      simp (maxSteps := 4000000) -implicitDefEqProofs only [go_sem, f1, ov, vl, n1, n2, vg, oi, rg, rl, m1, m1', m2, w1, b2, Option.some.injEq, forall_eq', and_true, true_and, Bool.not_true, Bool.not_false, decide_true, Nat.reduceAdd, Nat.reduceSub, Nat.reduceLT, Nat.reduceLeDiff, Nat.reduceEqDiff, ↓reduceIte]
      rw [ha]
      exact (Wk.sub (by (simp only [go_sem]) <;> trivial))
    rw [z] at rg
    simp (maxSteps := 4000000) -implicitDefEqProofs only [go_sem, f1, ov, vl, n1, n2, vg, oi, rg, rl, m1, m1', m2, w1, b1, Option.some.injEq, forall_eq', and_true, true_and, Bool.not_true, Bool.not_false, decide_true, Nat.reduceAdd, Nat.reduceSub, Nat.reduceLT, Nat.reduceLeDiff, Nat.reduceEqDiff, ↓reduceIte]
    refine .mk (i + 1) ⟨by omega, by omega, fun j h3 h4 => ?_⟩ (by omega) (Wk.sub (by (simp only [go_sem]) <;> trivial))
    rcases Nat.lt_or_ge j i with q | q
    · exact hj j h3 q
    · have : j = i := by omega
      rw [this]; exact z
  have f1 : decide ((i : Int) < n) = false := by simp; omega
  have ha := alw_t (G := G) (n := n) (c := c) (b := b) fun j h3 h4 => hj j h3 (by omega)
  simp (maxSteps := 4000000) -implicitDefEqProofs only [go_sem, f1, ov, vl, Option.some.injEq, forall_eq', and_true, true_and, Bool.not_true, Bool.not_false, decide_true, Nat.reduceAdd, Nat.reduceSub, Nat.reduceLT, Nat.reduceLeDiff, Nat.reduceEqDiff, ↓reduceIte]
  rw [ha]
  exact (Wk.sub (by (simp only [go_sem]) <;> trivial))
def stG (o : List ByteArray) (x : Nat × Nat) : St := ⟨x.1, ByteArray.empty, (o[x.2]?).getD ByteArray.empty⟩
/-- the gaps as steps -/
def gapsS (o : List ByteArray) (G : Gr) : List St := (gapsL G o.length).map (stG o)
def stL (o : List ByteArray) (l : List (Nat × Nat)) : List (List D) := (l.map (stG o)).map stD
theorem stL_len {o : List ByteArray} {l : List (Nat × Nat)} : (stL o l).length = l.length := by simp [stL]
theorem stL_app {o : List ByteArray} {l : List (Nat × Nat)} {c b : Nat} {x : ByteArray} (h : o[b]? = some x) : stL o l ++ [[.int .i64 c, .str ByteArray.empty, .str x]] = stL o (l ++ [(c, b)]) := by
  simp [stL, stG, h, stD]
theorem stL_el {o : List ByteArray} {l : List (Nat × Nat)} : (∀ e ∈ stL o l, e.length = 3) = True := eq_true (map_len (g := stD) fun _ => rfl)
theorem clsG_len (G : Gr) (n c : Nat) : (clsG G n c).length ≤ n := by
  unfold clsG tagC
  rw [List.length_map]
  exact Nat.le_trans (List.length_filter_le _ _) (by simp)
theorem gapsL_len (G : Gr) (n : Nat) : (gapsL G n).length ≤ 30 * n := by
  have : ∀ l : List Nat, (l.flatMap (clsG G n)).length ≤ l.length * n := by
    intro l
    induction l with
    | nil => simp
    | cons c l ih =>
      rw [List.flatMap_cons, List.length_append, List.length_cons, Nat.add_mul, Nat.one_mul]
      have := clsG_len G n c
      omega
  have := this (List.range 30)
  rwa [List.length_range] at this
end Go.AX.Fw
/- Forward: the reference's grid of a ledger. -/
set_option maxHeartbeats 8000000
set_option linter.unusedVariables false
set_option linter.unusedSimpArgs false
set_option maxRecDepth 20000
namespace Go.AX.Fw
open Go.Proofs Go.RowKit Go.IntWalk Go.AX.Br Go.AX.Lg
/-- a row, k of its classes laid -/
def rowE (E : List Int) (k : Nat) : List Bool := (List.range 30).map fun (c : Nat) => (E.take k).any fun x => x == (c : Int)
end Go.AX.Fw
/- Forward: what is allowed, and the reference's gaps. -/
set_option maxHeartbeats 8000000
set_option linter.unusedVariables false
set_option linter.unusedSimpArgs false
set_option maxRecDepth 20000
namespace Go.AX.Fw
open Go.Proofs Go.RowKit Go.IntWalk Go.AX.Br Go.AX.Lg
theorem rens_own {f : Nat → Nat} {k k' : Nat} : ∀ l : List Nat, (∀ j ∈ l, f (k + j) = k' + j) → rens f (l.map fun j => .own (k + j)) = l.map fun j => .own (k' + j)
  | [], _ => rfl
  | j :: l, h => by rw [List.map_cons, List.map_cons, rens, ren, h j (by simp), rens_own l fun i hi => h i (by simp [hi])]
theorem rens_nils (f : Nat → Nat) : ∀ m : Nat, rens f (List.replicate m .nil) = List.replicate m .nil
  | 0 => rfl
  | m + 1 => by rw [List.replicate_succ, rens, ren, rens_nils f m]
theorem rens_gC {f : Nat → Nat} {o : List ByteArray} {k k' c : Nat} (h : ∀ j, j < c → f (k + j) = k' + j) : rens f (gC o k c) = gC o k' c := by
  unfold gC ownL
  rw [rens, ren, rens_app, rens_own _ fun j hj => h j (List.mem_range.1 hj), rens_nils]
theorem rowsL_bd (m : Nat) (G : Gr) (n c : Nat) : bdOs m (rowsL G n c) := by
  unfold rowsL
  induction List.range c with
  | nil => trivial
  | cons b l ih => exact ⟨trivial, ih⟩
theorem gH_shift (σ : List AObj) (o : List ByteArray) (G : Gr) (c : Nat) : σ ++ mapO (rn [] σ.length) (gH [.gone] o G c []) = gH (σ ++ [.gone]) o G c [] := by
  have hr : ∀ i, rn [] σ.length i = σ.length + i := fun i => by simp [rn]
  unfold gH
  have e1 : mapO (rn [] σ.length) (.cells (gC o ([AObj.gone].length + 1) c) :: (rowsL G o.length c ++ [])) = .cells (gC o ((σ ++ [AObj.gone]).length + 1) c) :: (rowsL G o.length c ++ []) := by
    rw [mapO, mapO_app, mapO_id (k := 0) (fun i h => by omega) (rowsL_bd 0 G o.length c), renO, rens_gC (k' := (σ ++ [AObj.gone]).length + 1) (fun j _ => by rw [hr]; simp; omega)]
    rfl
  rw [mapO_app, e1]
  simp [mapO, renO]
/-- Allowed -/
def alwR (l : Lg) (o : List ByteArray) (c : Int) (nm : ByteArray) : Bool × Int :=
  if fcheck l o ≠ 0 then (false, fcheck l o) else if c < 0 ∨ 30 ≤ c then (false, 2) else if idx (isS nm) o < 0 then (false, 6) else (alw (gridG l o) o.length c.toNat (idx (isS nm) o).toNat, 0)
theorem Allowed_own (l : Lg) (o : List ByteArray) (c : Int) (nm : ByteArray) (hk : l.kn.length ≤ 1000) (hb : l.br.length ≤ 1000) (he : l.ev.length ≤ 1000) (ho : o.length ≤ 1000) :
    Spec Try.prog 17 [lA l, .d (.sl (o.map sD)), .d (.int .i64 c), .d (.str nm)] [] (.tup [.d (.bool (alwR l o c nm).1), .d (.int .i64 (alwR l o c nm).2)]) [] := by
  have c1 := fcheck_own l o hk hb he ho
  have c2 := indexS o nm (by unfold Sm; omega)
  have c3 := look_own l o hk hb he ho
  obtain ⟨R, hR⟩ : ∃ R, R = alwR l o c nm := ⟨_, rfl⟩
  have sh := gH_shift [lH l] o (gridG l o) 30
  rw [← hR]
  unfold alwR at hR
  simp only [lA] at c1 c3
  simp only [lH, List.cons_append, List.nil_append, List.length_cons, List.length_nil, Nat.zero_add] at sh
  refine spec_of_ev (fn := Try.f17) DX_ok 3000 Try.func17 rfl rfl (Nat.le_of_ble_eq_true rfl) ?_
  simp (maxSteps := 4000000) -implicitDefEqProofs only [Try.f17, go_sem, lA]
  refine ecall0 _ c1 (by simp only [go_sem]) (by simp only [go_sem]) ?_
  cases k1 : (fcheck l o != 0)
  case true =>
    rw [if_pos (by simpa using k1)] at hR
    simp (maxSteps := 4000000) -implicitDefEqProofs only [go_sem, k1, Option.some.injEq, forall_eq', and_true, true_and, Bool.not_true, Bool.not_false, decide_true, Nat.reduceAdd, Nat.reduceSub, Nat.reduceLT, Nat.reduceLeDiff, Nat.reduceEqDiff, ↓reduceIte]
    rw [hR]
    exact (Wk.forget (by (simp only [go_sem]) <;> trivial) (by simp only [go_sem]))
  rw [if_neg (by simpa using k1)] at hR
  cases k2 : decide (c < 0)
  case true =>
    rw [if_pos (.inl (of_decide_eq_true k2))] at hR
    simp (maxSteps := 4000000) -implicitDefEqProofs only [go_sem, k1, k2, Option.some.injEq, forall_eq', and_true, true_and, Bool.not_true, Bool.not_false, decide_true, Nat.reduceAdd, Nat.reduceSub, Nat.reduceLT, Nat.reduceLeDiff, Nat.reduceEqDiff, ↓reduceIte]
    rw [hR]
    exact (Wk.forget (by (simp only [go_sem]) <;> trivial) (by simp only [go_sem]))
  cases k3 : decide (30 ≤ c)
  case true =>
    rw [if_pos (.inr (of_decide_eq_true k3))] at hR
    simp (maxSteps := 4000000) -implicitDefEqProofs only [go_sem, k1, k2, k3, Option.some.injEq, forall_eq', and_true, true_and, Bool.not_true, Bool.not_false, decide_true, Nat.reduceAdd, Nat.reduceSub, Nat.reduceLT, Nat.reduceLeDiff, Nat.reduceEqDiff, ↓reduceIte]
    rw [hR]
    exact (Wk.forget (by (simp only [go_sem]) <;> trivial) (by simp only [go_sem]))
  have h0 : 0 ≤ c := by have := of_decide_eq_false k2; omega
  have h30 : c < 30 := by have := of_decide_eq_false k3; omega
  rw [if_neg (by omega)] at hR
  simp (maxSteps := 4000000) -implicitDefEqProofs only [go_sem, k1, k2, k3, Option.some.injEq, forall_eq', and_true, true_and, Bool.not_true, Bool.not_false, decide_true, Nat.reduceAdd, Nat.reduceSub, Nat.reduceLT, Nat.reduceLeDiff, Nat.reduceEqDiff, ↓reduceIte]
  refine ecall0 _ c2 (by simp only [go_sem]) (by simp only [go_sem]) ?_
  cases k4 : decide (idx (isS nm) o < 0)
  case true =>
    rw [if_pos (of_decide_eq_true k4)] at hR
    simp (maxSteps := 4000000) -implicitDefEqProofs only [go_sem, k4, Option.some.injEq, forall_eq', and_true, true_and, Bool.not_true, Bool.not_false, decide_true, Nat.reduceAdd, Nat.reduceSub, Nat.reduceLT, Nat.reduceLeDiff, Nat.reduceEqDiff, ↓reduceIte]
    rw [hR]
    exact (Wk.forget (by (simp only [go_sem]) <;> trivial) (by simp only [go_sem]))
  have h1 : 0 ≤ idx (isS nm) o := by have := of_decide_eq_false k4; omega
  rw [if_neg (by omega)] at hR
  obtain ⟨b, x, e1, e2, _⟩ := idx_get h1
  have hbl := some_lt e2
  simp (maxSteps := 4000000) -implicitDefEqProofs only [go_sem, k4, Option.some.injEq, forall_eq', and_true, true_and, Bool.not_true, Bool.not_false, decide_true, Nat.reduceAdd, Nat.reduceSub, Nat.reduceLT, Nat.reduceLeDiff, Nat.reduceEqDiff, ↓reduceIte]
  refine ecallN _ _ c3 (by simp only [go_sem]) ?_
  simp (maxSteps := 4000000) -implicitDefEqProofs only [go_sem, sh, Option.some.injEq, forall_eq', and_true, true_and, Bool.not_true, Bool.not_false, decide_true, Nat.reduceAdd, Nat.reduceSub, Nat.reduceLT, Nat.reduceLeDiff, Nat.reduceEqDiff, ↓reduceIte]
  obtain ⟨cc, rfl⟩ : ∃ cc : Nat, c = cc := ⟨c.toNat, (Int.toNat_of_nonneg h0).symm⟩
  rw [e1] at hR ⊢
  have c4 := allowed_own [.cells [.d (.sl (l.kn.map kD)), .d (.sl (l.br.map bD)), .d (.sl (l.ev.map esD))], .gone] [] o (gridG l o) cc b (by omega) hbl ho
  refine .all _ _ c4 ?_
  simp only [Int.toNat_natCast] at hR
  simp (maxSteps := 4000000) -implicitDefEqProofs only [go_sem, Nat.reduceAdd, Nat.reduceSub, Nat.reduceLT, Nat.reduceLeDiff, Nat.reduceEqDiff, ↓reduceIte]
  rw [hR]
  exact (Wk.forget (by (simp only [go_sem]) <;> trivial) (by simp only [go_sem]))
/-- Gaps -/
def gpsR (l : Lg) (o : List ByteArray) : List St × Int := if fcheck l o ≠ 0 then ([], fcheck l o) else (gapsS o (gridG l o), 0)
end Go.AX.Fw

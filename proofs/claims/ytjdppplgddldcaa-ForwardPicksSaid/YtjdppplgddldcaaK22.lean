/- Forward: picks of the steps of the plan: the plain law. -/
import Derived.Test.YtjdppplgddldcaaK21
set_option maxHeartbeats 8000000
set_option linter.unusedVariables false
set_option linter.unusedSimpArgs false
set_option maxRecDepth 20000
namespace Go.AX.Fw
open Go.Proofs Go.RowKit Go.IntWalk Go.AX.Br Go.AX.Lg
/-- the change of the last known one of a class -/
def chgI (l : Lg) (c : Int) (i : Nat) : ByteArray := (l.kn.take i).foldl (fun a k => if k.cl = c then k.ch else a) ⟨#[]⟩
theorem chg_step {l : Lg} {c : Int} {i : Nat} {k : Kn} (h : l.kn[i]? = some k) : chgI l c (i + 1) = if k.cl = c then k.ch else chgI l c i := by
  unfold chgI
  rw [List.take_add_one, h, Option.toList_some, List.foldl_append]; rfl
theorem fold_no {c : Int} : ∀ (l : List Kn) (a : ByteArray), (¬ ∃ k ∈ l, k.cl = c) → l.foldl (fun a k => if k.cl = c then k.ch else a) a = a
  | [], _, _ => rfl
  | k :: r, a, h => by
    rw [List.foldl_cons, if_neg (fun e => h ⟨k, by simp, e⟩)]
    exact fold_no r a fun ⟨y, hy, e⟩ => h ⟨y, by simp [hy], e⟩
theorem fold_in {c : Int} : ∀ (l : List Kn) (a : ByteArray), (∃ k ∈ l, k.cl = c) → ∃ k ∈ l, k.cl = c ∧ l.foldl (fun a k => if k.cl = c then k.ch else a) a = k.ch
  | [], _, h => by obtain ⟨k, hk, _⟩ := h; cases hk
  | k :: r, a, h => by
    rw [List.foldl_cons]
    by_cases e : ∃ y ∈ r, y.cl = c
    · obtain ⟨y, hy, h1, h2⟩ := fold_in r (if k.cl = c then k.ch else a) e
      exact ⟨y, by simp [hy], h1, h2⟩
    · rw [fold_no r _ e]
      obtain ⟨y, hy, e2⟩ := h
      rcases List.mem_cons.1 hy with q | q
      · subst q; exact ⟨y, by simp, e2, if_pos e2⟩
      · exact absurd ⟨y, q, e2⟩ e
theorem chg_in {l : Lg} {c : Int} (h : ∃ k ∈ l.kn, k.cl = c) : ∃ k ∈ l.kn, k.cl = c ∧ chgI l c l.kn.length = k.ch := by
  unfold chgI
  rw [List.take_length]
  exact fold_in _ _ h
theorem find_ch : ∀ {l : List Kn} {k : Kn}, (l.map (·.ch)).Nodup → k ∈ l → l.find? (hasC k.ch) = some k
  | [], _, _, h => by cases h
  | a :: r, k, nd, h => by
    rw [List.map_cons, List.nodup_cons] at nd
    rcases List.mem_cons.1 h with q | q
    · subst q; rw [List.find?_cons_of_pos (by simp [hasC])]
    · rw [List.find?_cons_of_neg]
      · exact find_ch nd.2 q
      · simp only [hasC, decide_eq_true_eq]
        intro e
        exact nd.1 (by rw [e]; exact List.mem_map.2 ⟨k, q, rfl⟩)
theorem class_at {l : Lg} (nd : Nd l) {k : Kn} (h : k ∈ l.kn) : classN l k.ch = some k.cl := by
  unfold classN
  rw [find_ch nd h]; rfl
theorem inR_known {l : Lg} {s : List Ev} {c : Int} (hc : 0 ≤ c) (h : inR l s c = true) : ∃ k ∈ l.kn, k.cl = c := by
  unfold inR at h
  rw [Bool.and_eq_true] at h
  obtain ⟨i, x, _, _, hp⟩ := lastN_get (p := isC l c) (Nat.le_refl s.length) (of_decide_eq_true h.1)
  have h2 : classR l x.ch = c := of_decide_eq_true hp
  unfold classR classN at h2
  cases q : l.kn.find? (hasC x.ch) with
  | none => rw [q] at h2; simp at h2; omega
  | some k => rw [q] at h2; exact ⟨k, List.mem_of_find?_eq_some q, by simpa using h2⟩
theorem effL_any (l : Lg) (s : List Ev) (c : Nat) : ((effL l s).any fun x => x == (c : Int)) = (decide (c < 30) && inR l s c) := by
  rw [Bool.eq_iff_iff]
  simp only [effL, effN, List.any_eq_true, List.mem_map, List.mem_filter, List.mem_range, beq_iff_eq, Bool.and_eq_true, decide_eq_true_eq]
  constructor
  · rintro ⟨x, ⟨a, ⟨h1, h⟩, rfl⟩, e⟩
    have : a = c := by have : (a : Int) = c := e; omega
    subst this; exact ⟨h1, h⟩
  · rintro ⟨h1, h⟩
    exact ⟨(c : Int), ⟨c, ⟨h1, h⟩, rfl⟩, rfl⟩
theorem at_name {l : Lg} (lo : LOk l) {nm : ByteArray} (h : 0 ≤ idx (has nm) l.br) : ∃ i y s v, At l i y s v ∧ y.name = nm ∧ idx (has nm) l.br = i := by
  obtain ⟨i, x, h1, h2, h3⟩ := idx_get h
  obtain ⟨y, s, v, a⟩ := at_of lo.tab (some_lt h2)
  have : y = x := by have := a.hx; rw [h2] at this; exact (Option.some.inj this).symm
  subst this
  exact ⟨i, y, s, v, a, by simpa [has] using h3, h1⟩
theorem grid_at {l : Lg} (lo : LOk l) {o : List ByteArray} {b i : Nat} {y : Br} {s : List Ev} {v : List Mk} (hb : o[b]? = some y.name) (a : At l i y s v) (c : Nat) : gridG l o c b = (decide (c < 30) && inR l (preE l i ++ s) c) := by
  simp only [gridG, hb]
  rw [lo.eff a, effL_any]
theorem gap_known {l : Lg} {o : List ByteArray} (ok : FOk l o) {c b : Nat} (h : gridG l o c b = true) : ∃ k ∈ l.kn, k.cl = (c : Int) := by
  cases q : o[b]? with
  | none => simp only [gridG, q] at h; cases h
  | some nm =>
    obtain ⟨i, y, s, v, a, e, _⟩ := at_name ok.lo (ok.br nm (List.mem_of_getElem? q))
    rw [grid_at ok.lo (by rw [q, e]) a, Bool.and_eq_true] at h
    exact inR_known (by omega) h.2
theorem pick_step {l : Lg} {o : List ByteArray} (ok : FOk l o) {c b : Nat} {x : ByteArray} {k : Kn} (hc : c < 30) (hx : o[b]? = some x) (hk : k ∈ l.kn) (hkc : k.cl = (c : Int)) (hg : gridG l o c b = false) :
    appR l x ⟨2, k.ch⟩ = (lg0, 4) ∨ ∃ m, appR l x ⟨2, k.ch⟩ = (m, 0) ∧ FOk m o ∧ m.kn = l.kn ∧ m.br = l.br ∧ m.ev.length = l.ev.length ∧ gridG m o = upd (gridG l o) c b := by
  have lo := ok.lo
  obtain ⟨i, y, s, v, a, e, hi⟩ := at_name lo (ok.br x (List.mem_of_getElem? hx))
  rw [grid_at lo (by rw [hx, e]) a, decide_eq_true hc, Bool.true_and] at hg
  have hcN : classN l k.ch = some (c : Int) := by rw [class_at lo.nd hk, hkc]
  have hcR : classR l k.ch = c := by simp [classR, hcN]
  have hv : lview l x = (v, 0) := by rw [← e]; exact lo.view a
  have hgs : l.ev.getD i [] = s := by rw [List.getD_eq_getElem?_getD, a.hs]; rfl
  have ha : allR l (preE l i ++ s) ⟨2, k.ch⟩ = 0 := by
    simp only [allR, hcR, hg]; simp
  have happ : appR l x ⟨2, k.ch⟩ = if s.length = 40 then (lg0, 4) else (addE l i ⟨2, k.ch⟩, 0) := by
    unfold appR
    rw [hv, if_neg (by simp), if_neg (by rw [show (⟨2, k.ch⟩ : Ev).ch = k.ch from rfl, hcN]; simp), hi, Int.toNat_natCast, hgs]
    by_cases h40 : s.length = 40
    · rw [if_pos h40, if_pos h40]
    rw [if_neg h40, if_neg h40, show seenL l (v, (0 : Int)).1 = preE l i ++ s from a.seen, ha, if_neg (by simp)]
  by_cases h40 : s.length = 40
  · rw [if_pos h40] at happ; exact .inl happ
  rw [if_neg h40] at happ
  obtain ⟨lo2, eff2, _⟩ := add_ok lo a h40 hcN ha
  refine .inr ⟨_, happ, ⟨lo2, ok.pos, ok.len, ok.br, ok.nd⟩, rfl, rfl, by simp [addE], ?_⟩
  funext c' b'
  cases q : o[b']? with
  | none =>
    have : b' ≠ b := fun e => by rw [e, hx] at q; cases q
    simp [gridG, q, upd, this]
  | some nm =>
    obtain ⟨j, z, t, w, az, ez, _⟩ := at_name lo (ok.br nm (List.mem_of_getElem? q))
    have h1 : gridG (addE l i ⟨2, k.ch⟩) o c' b' = (decide (c' < 30) && inR l (preE l j ++ if j = i then t ++ [⟨2, k.ch⟩] else t) c') := by
      simp only [gridG, q]
      rw [← ez, eff2 j z t w az, effL_any]
    rw [h1]
    have h2 := grid_at lo (by rw [q, ez]) az c' (o := o) (b := b')
    by_cases hb : b' = b
    · subst hb
      rw [hx] at q
      cases q
      have hzy : z = y := by
        have e1 := lo.tab.g.ok.name j z az.hx
        have e2 := lo.tab.g.ok.name i y a.hx
        rw [ez] at e1
        rw [e, e1] at e2
        have : j = i := by omega
        subst this
        have := az.hx; rw [a.hx] at this; exact (Option.some.inj this).symm
      have hji : j = i := by
        have e1 := lo.tab.g.ok.name j z az.hx
        have e2 := lo.tab.g.ok.name i y a.hx
        rw [hzy, e2] at e1; omega
      subst hji
      have hts : t = s := by have := az.hs; rw [a.hs] at this; exact (Option.some.inj this).symm
      subst hts
      rw [if_pos rfl, ← List.append_assoc, inR_snoc, hcR]
      by_cases hcc : c' = c
      · subst hcc
        simp [upd, hc]
      · rw [if_neg (by omega), ← h2]
        simp [upd, hcc]
    · have hji : j ≠ i := fun e3 => by
        subst e3
        have h3 : z = y := by have := az.hx; rw [a.hx] at this; exact (Option.some.inj this).symm
        exact hb (ok.nd b' b x (by rw [q, ← ez, h3, e]) hx)
      rw [if_neg hji, ← h2]
      simp [upd, hb]
theorem fcheck_br {l m : Lg} {o : List ByteArray} (h : m.br = l.br) (h1 : lcheck l = 0) (h2 : lcheck m = 0) : fcheck m o = fcheck l o := by
  unfold fcheck
  rw [h1, h2]
  simp only [show noB m = noB l from by funext nm; simp only [noB, h]]
end Go.AX.Fw

/- Ledgers: one with an event more, one with a branch more. -/
import Derived.Test.YtjdppplgddldcaaK18
set_option maxHeartbeats 8000000
set_option linter.unusedVariables false
set_option linter.unusedSimpArgs false
set_option maxRecDepth 20000
namespace Go.AX.Br
open Go.Proofs Go.RowKit Go.IntWalk
/-- a count more: the views -/
theorem vws_more {l : List Br} {cs : List Int} {i : Nat} {c : Int} (ho : Ok l) (hc : cs[i]? = some c) (h0 : 0 ≤ c) : ∀ (n : Nat) (V : List (List Mk)), n ≤ l.length → vws l cs n = some V →
    ∃ W, vws l (cs.set i (c + 1)) n = some W ∧ (∀ (k : Nat) (v : List Mk), V[k]? = some v → W[k]? = some (if k = i then v ++ [⟨i, c⟩] else v)) := by
  intro n
  induction n with
  | zero => intro V _ h; simp only [vws, Option.some.injEq] at h; subst h; exact ⟨[], rfl, by simp⟩
  | succ n ih =>
    intro V hn h
    simp only [vws, Option.bind_eq_some_iff] at h
    obtain ⟨o, h1, h2⟩ := h
    obtain ⟨w, w1, w2⟩ := ih o (by omega) h1
    have hol := vws_len h1
    have hwl := vws_len w1
    obtain ⟨x, hx⟩ : ∃ x, l[n]? = some x := ⟨l[n]'(by omega), List.getElem?_eq_getElem _⟩
    have hcn : ∃ d, cs[n]? = some d ∧ (cs.set i (c + 1))[n]? = some (if n = i then d + 1 else d) ∧ (n = i → d = c) := by
      cases q : cs[n]? with
      | none => simp only [vstep, hol, hx, q] at h2; simp at h2
      | some d =>
        refine ⟨d, rfl, ?_, fun e => by subst e; rw [hc] at q; cases q; rfl⟩
        rw [List.getElem?_set]
        by_cases e : i = n
        · subst e
          rw [hc] at q; cases q
          rw [if_pos rfl, if_pos (some_lt hc), if_pos rfl]
        · rw [if_neg e, if_neg (fun h => e h.symm), q]
    obtain ⟨d, d1, d2, d3⟩ := hcn
    have own1 : ∀ k : Nat, k = i → d = c → Br.own k (d + 1) = Br.own k d ++ [⟨i, c⟩] := fun k e ed => by
      subst e; subst ed
      have e2 : (d + 1).toNat = d.toNat + 1 := by omega
      simp only [Br.own, e2, List.range_succ, List.map_append, List.map_cons, List.map_nil]
      congr 2
      simp only [Mk.mk.injEq, true_and]; omega
    have last : ∀ (a b : List Mk), V = o ++ [a] → (b = if n = i then a ++ [⟨i, c⟩] else a) → ∀ (k : Nat) (v : List Mk), V[k]? = some v → (w ++ [b])[k]? = some (if k = i then v ++ [⟨i, c⟩] else v) := fun a b hV hb k v hk => by
      subst hV
      rcases Nat.lt_or_ge k n with q | q
      · rw [List.getElem?_append_left (by omega)] at hk ⊢; exact w2 k v hk
      · have hlt := some_lt hk
        simp at hlt
        have : k = n := by omega
        subst this
        rw [List.getElem?_append_right (by omega), hol] at hk
        rw [List.getElem?_append_right (by omega), hwl]
        simp at hk ⊢
        subst hk; exact hb
    have hw3 := vws_succ w1
    simp only [vstep, hol, hx, d1] at h2
    split at h2
    · next h0' =>
      cases h2
      rw [vstep_zero (by omega) (by rw [hwl]; exact hx) (by rw [hwl]; exact d2)] at hw3
      refine ⟨_, hw3, last _ _ rfl ?_⟩
      rw [hwl]
      split
      · next e => exact own1 n e (d3 e)
      · rfl
    · next h0' =>
      obtain ⟨j, j1, j2⟩ := ho.from' n x hx (by omega)
      rw [j2, Int.toNat_natCast] at h2
      cases q : o[j]? with
      | none => rw [q] at h2; simp at h2
      | some f =>
        rw [q] at h2
        simp only at h2
        split at h2
        · simp at h2
        · next hle =>
          cases h2
          have hwj := w2 j f q
          rw [vstep_pos (by omega) (by rw [hwl]; exact hx) (by rw [hwl]; exact d2) j2 hwj] at hw3
          have hat := (ho.good n x hx).2.1
          have hfl : ((if j = i then f ++ [⟨i, c⟩] else f).length : Int) = f.length + if j = i then 1 else 0 := by split <;> simp
          rw [if_neg (by rw [hfl]; split <;> omega)] at hw3
          refine ⟨_, hw3, last _ _ rfl ?_⟩
          rw [hwl]
          have et : (if j = i then f ++ [⟨i, c⟩] else f).take x.at'.toNat = f.take x.at'.toNat := by
            split
            · rw [List.take_append_of_le_length (by omega)]
            · rfl
          rw [et]
          split
          · next e => rw [own1 n e (d3 e), List.append_assoc]
          · rfl
theorem more_fits {l : List Br} {cs : List Int} {i : Nat} {c : Int} (g : Good l cs) (hc : cs[i]? = some c) (h : c + 1 ≤ 40) : fits l (cs.set i (c + 1)) = 0 ∧ ∀ (k : Nat) (v : List Mk), (vw l cs)[k]? = some v → (vw l (cs.set i (c + 1)))[k]? = some (if k = i then v ++ [⟨i, c⟩] else v) := by
  have hc0 := (g.cnt c (List.mem_of_getElem? hc)).1
  obtain ⟨W, w1, w2⟩ := vws_more g.ok hc hc0 l.length _ (Nat.le_refl _) g.some'
  have hw : vw l (cs.set i (c + 1)) = W := by simp [vw, w1]
  refine ⟨?_, by rw [hw]; exact w2⟩
  have hany : (cs.set i (c + 1)).any badC = false := by
    rw [List.any_eq_false]
    intro d hd
    rcases List.mem_or_eq_of_mem_set hd with hd | hd
    · have := g.cnt d hd; simp [badC]; omega
    · subst hd; simp [badC]; omega
  simp only [fits, hany, Br.fit, w1]
  rw [if_neg (by have := g.chk; omega), if_neg (by rw [List.length_set]; simp [g.len])]
  rfl
def sNew : ByteArray := ⟨#[122, 122, 45, 110, 101, 119]⟩
end Go.AX.Br
namespace Go.AX.Lg
open Go.Proofs Go.RowKit Go.IntWalk Go.AX.Br
theorem inR_snoc (l : Lg) (s : List Ev) (x : Ev) (c : Int) : inR l (s ++ [x]) c = if classR l x.ch = c then (x.kd != 3) else inR l s c := by
  have lr := lastN_range (p := isC l c) (s := s) s.length
  rw [show lastN (isC l c) s s.length = lastR l s c from rfl] at lr
  unfold inR
  rw [lastR_snoc]
  unfold isC
  by_cases q : classR l x.ch = c
  · rw [if_pos q, if_pos (decide_eq_true q)]
    simp only [kdAt, Int.toNat_natCast, List.getElem?_append_right (Nat.le_refl _), Nat.sub_self, List.getElem?_cons_zero]
    simp
  · rw [if_neg q, if_neg (by simp [q])]
    cases h : decide (0 ≤ lastR l s c)
    · rfl
    · rw [kdAt_pre (by omega) (of_decide_eq_true h)]
/-- what only asks for the changes that are known -/
theorem kn_inR {l m : Lg} (h : m.kn = l.kn) : inR m = inR l := by
  obtain ⟨a, b, c⟩ := l; obtain ⟨a', b', c'⟩ := m; cases h; rfl
theorem kn_classN {l m : Lg} (h : m.kn = l.kn) : classN m = classN l := by
  obtain ⟨a, b, c⟩ := l; obtain ⟨a', b', c'⟩ := m; cases h; rfl
theorem kn_allR {l m : Lg} (h : m.kn = l.kn) : allR m = allR l := by
  obtain ⟨a, b, c⟩ := l; obtain ⟨a', b', c'⟩ := m; cases h; rfl
theorem kn_badL {l m : Lg} (h : m.kn = l.kn) : ∀ (s pre : List Ev), badL m pre s = badL l pre s
  | [], _ => rfl
  | x :: s, pre => by
    simp only [badL, badX, kn_badL h s, kn_classN h, kn_allR h]
theorem badL_app {l : Lg} : ∀ (s pre t : List Ev), badL l pre (s ++ t) = (badL l pre s || badL l (pre ++ s) t)
  | [], pre, t => by simp [badL]
  | x :: s, pre, t => by
    simp only [List.cons_append, badL, badL_app s, List.append_assoc, List.nil_append, Bool.or_assoc]
theorem kn_effL {l m : Lg} (h : m.kn = l.kn) (s : List Ev) : effL m s = effL l s := by
  unfold effL effN
  rw [kn_inR h]
theorem filterMap_cong {α β : Type} {f g : α → Option β} : ∀ {v : List α}, (∀ k ∈ v, f k = g k) → v.filterMap f = v.filterMap g
  | [], _ => rfl
  | x :: v, h => by
    rw [List.filterMap_cons, List.filterMap_cons, h x (by simp), filterMap_cong fun k hk => h k (by simp [hk])]
/-- marks that are in the ledger are the same events in one that has more -/
theorem seenL_more {l m : Lg} (h : ∀ (b : Nat) (s : List Ev), l.ev[b]? = some s → ∃ t, m.ev[b]? = some (s ++ t)) {v : List Mk} (hv : ∀ k ∈ v, InR l k) : seenL m v = seenL l v := by
  unfold seenL
  refine filterMap_cong fun k hk => ?_
  obtain ⟨b, e, s, x, rfl, h1, h2⟩ := hv k hk
  obtain ⟨t, ht⟩ := h b s h1
  rw [evAt_in h1 h2, evAt_in ht (by rw [List.getElem?_append_left (some_lt h2)]; exact h2)]
theorem lcheck_mk {l : Lg} (h1 : l.kn.length ≤ 30) (h2 : (clsM l.kn).length = l.kn.length) (h3 : l.kn.any badK = false) (h4 : check l.br = 0) (h5 : l.ev.length = l.br.length) (h6 : l.ev.any many = false) (h7 : fits l.br (cntL l) = 0) (h8 : ∀ i, i < l.ev.length → badB l i = false) : lcheck l = 0 := by
  unfold lcheck
  rw [if_neg (by omega), if_neg (by omega), if_neg (by rw [h3]; simp), if_neg (by omega), if_neg (by omega), if_neg (by rw [h6]; simp), if_neg (by omega), if_neg]
  simp only [List.any_eq_true, List.mem_range, not_exists, not_and]
  intro i hi
  rw [h8 i hi]; simp
theorem LOk.parts {l : Lg} (lo : LOk l) : (clsM l.kn).length = l.kn.length ∧ l.kn.any badK = false ∧ check l.br = 0 ∧ l.ev.any many = false := by
  have h := lo.chk
  unfold lcheck at h
  split at h
  · cases h
  next k1 =>
  split at h
  · cases h
  next k2 =>
  split at h
  · cases h
  next k3 =>
  split at h
  · next q => exact absurd h q
  next k4 =>
  split at h
  · cases h
  next k5 =>
  split at h
  · cases h
  next k6 =>
  exact ⟨by have := (cls_len (l := l)).1; omega, by simpa using k3, by omega, by simpa using k6⟩
/-- THE LEDGER WITH AN EVENT MORE. -/
theorem add_ok {l : Lg} (lo : LOk l) {i : Nat} {x : Br} {s : List Ev} {v : List Mk} (a : At l i x s v) {e : Ev} {c : Int} (h40 : s.length ≠ 40) (hc : classN l e.ch = some c) (hal : allR l (preE l i ++ s) e = 0) :
    LOk (addE l i e) ∧ (∀ (k : Nat) (y : Br) (t : List Ev) (w : List Mk), At l k y t w → effR (addE l i e) y.name = (effL l (preE l k ++ if k = i then t ++ [e] else t), 0)) ∧
      ∃ w, At (addE l i e) i x (s ++ [e]) w ∧ preE (addE l i e) i = preE l i := by
  obtain ⟨p1, p2, p3, p4⟩ := lo.parts
  have hs := a.hs
  have hil := some_lt hs
  have hle := lo.own i s hs
  have hge : l.ev.getD i [] = s := by rw [List.getD_eq_getElem?_getD, hs]; rfl
  have kn : (addE l i e).kn = l.kn := rfl
  have ev : (addE l i e).ev = l.ev.set i (s ++ [e]) := by simp only [addE, hge]
  have br : (addE l i e).br = l.br := rfl
  have hcnt : cntL (addE l i e) = (cntL l).set i ((s.length : Int) + 1) := by
    unfold cntL
    rw [ev, List.map_set]; simp
  have hci := cnt_get hs
  obtain ⟨f1, f2⟩ := more_fits lo.tab.g hci (by omega)
  have more : ∀ (b : Nat) (t : List Ev), l.ev[b]? = some t → ∃ u, (addE l i e).ev[b]? = some (t ++ u) := fun b t ht => by
    rw [ev, List.getElem?_set]
    by_cases q : i = b
    · subst q; rw [hs] at ht; cases ht
      exact ⟨[e], by rw [if_pos rfl, if_pos hil]⟩
    · exact ⟨[], by rw [if_neg q]; simpa using ht⟩
  have vws : ∀ (k : Nat) (w : List Mk), (vw l.br (cntL l))[k]? = some w → (vw (addE l i e).br (cntL (addE l i e)))[k]? = some (if k = i then w ++ [⟨i, (s.length : Int)⟩] else w) := fun k w hw => by
    rw [br, hcnt]; exact f2 k w hw
  have pre : ∀ k, k < l.br.length → preE (addE l i e) k = preE l k := fun k hk => by
    obtain ⟨y, t, w, b⟩ := at_of lo.tab hk
    have h1 : vwI (addE l i e) k = if k = i then w ++ [⟨i, (s.length : Int)⟩] else w := vwI_eq (vws k w b.hv)
    have h2 : atN (addE l i e) k = y.at'.toNat := by simp [atN, br, b.hx]
    have h3 : atN l k = y.at'.toNat := by simp [atN, b.hx]
    have hlen := b.len
    unfold preE
    rw [h1, h2, h3, vwI_eq b.hv]
    have h4 : (if k = i then w ++ [⟨i, (s.length : Int)⟩] else w).take y.at'.toNat = w.take y.at'.toNat := by
      split
      · rw [List.take_append_of_le_length (by omega)]
      · rfl
    rw [h4]
    exact seenL_more more fun m hm => b.inr m (List.mem_of_mem_take hm)
  have hbad : ∀ k, k < l.ev.length → badB (addE l i e) k = false := fun k hk => by
    have te := lo.tab.ev
    have := lo.good k hk
    unfold badB at this ⊢
    rw [pre k (by omega), kn_badL kn, ev, List.getElem?_set]
    by_cases q : i = k
    · subst q
      rw [if_pos rfl, if_pos hil]
      rw [hs] at this
      simp only [Option.getD_some] at this ⊢
      rw [badL_app, this]
      simp [badL, badX, hc, hal]
    · rw [if_neg q]; exact this
  have hchk : lcheck (addE l i e) = 0 := by
    refine lcheck_mk lo.kl p1 p2 p3 (by rw [ev, List.length_set]; exact lo.tab.ev) ?_ (by rw [hcnt]; exact f1) fun k hk => hbad k (by rw [ev, List.length_set] at hk; exact hk)
    rw [ev, List.any_eq_false]
    intro t ht
    rcases List.mem_or_eq_of_mem_set ht with q | q
    · exact List.any_eq_false.1 p4 t q
    · subst q; simp [many]; omega
  have lm := lok_of hchk
  refine ⟨lm, fun k y t w b => ?_, ?_⟩
  · have hk := some_lt b.hx
    obtain ⟨y', t', w', b'⟩ := at_of lm.tab (i := k) hk
    have ey : y' = y := by have := b'.hx; rw [br, b.hx] at this; cases this; rfl
    subst ey
    have et : t' = if k = i then t ++ [e] else t := by
      have := b'.hs
      rw [ev, List.getElem?_set] at this
      by_cases q : i = k
      · subst q
        rw [if_pos rfl, if_pos hil] at this
        have h2 := b.hs
        rw [hs] at h2; cases h2; cases this
        rw [if_pos rfl]
      · rw [if_neg q, b.hs] at this; cases this
        rw [if_neg (fun h => q h.symm)]
    rw [lm.eff b', pre k hk, et, kn_effL kn]
  · have hk := some_lt a.hx
    obtain ⟨y', t', w', b'⟩ := at_of lm.tab (i := i) hk
    have ey : y' = x := by have := b'.hx; rw [br, a.hx] at this; cases this; rfl
    subst ey
    have et : t' = s ++ [e] := by
      have := b'.hs
      rw [ev, List.getElem?_set, if_pos rfl, if_pos hil] at this
      cases this; rfl
    subst et
    exact ⟨w', b', pre i hk⟩
end Go.AX.Lg

/- Ledgers: one with an event more, one with a branch more. -/
import Derived.Test.YtcpkcjjhokbmkaaK8
set_option maxHeartbeats 8000000
set_option linter.unusedVariables false
set_option linter.unusedSimpArgs false
set_option maxRecDepth 20000
namespace Go.AX.Br
open Go.Proofs Go.RowKit Go.IntWalk
/-- a count more: the views -/
theorem vws_more {l : List Br} {cs : List Int} {i : Nat} {c : Int} (ho : Ok l) (hc : cs[i]? = some c) (h0 : 0 ≤ c) : ∀ (n : Nat) (V : List (List Mk)), n ≤ l.length → vws l cs n = some V →
    ∃ W, vws l (cs.set i (c + 1)) n = some W ∧ (∀ (k : Nat) (v : List Mk), V[k]? = some v → W[k]? = some (if k = i then v ++ [⟨i, c⟩] else v)) := by
  intro n
  induction n with
  | zero => intro V _ h; simp only [vws, Option.some.injEq] at h; subst h; exact ⟨[], rfl, by simp⟩
  | succ n ih =>
    intro V hn h
    simp only [vws, Option.bind_eq_some_iff] at h
    obtain ⟨o, h1, h2⟩ := h
    obtain ⟨w, w1, w2⟩ := ih o (by omega) h1
    have hol := vws_len h1
    have hwl := vws_len w1
    obtain ⟨x, hx⟩ : ∃ x, l[n]? = some x := ⟨l[n]'(by omega), List.getElem?_eq_getElem _⟩
    have hcn : ∃ d, cs[n]? = some d ∧ (cs.set i (c + 1))[n]? = some (if n = i then d + 1 else d) ∧ (n = i → d = c) := by
      cases q : cs[n]? with
      | none => simp only [vstep, hol, hx, q] at h2; simp at h2
      | some d =>
        refine ⟨d, rfl, ?_, fun e => by subst e; rw [hc] at q; cases q; rfl⟩
        rw [List.getElem?_set]
        by_cases e : i = n
        · subst e
          rw [hc] at q; cases q
          rw [if_pos rfl, if_pos (some_lt hc), if_pos rfl]
        · rw [if_neg e, if_neg (fun h => e h.symm), q]
    obtain ⟨d, d1, d2, d3⟩ := hcn
    have own1 : ∀ k : Nat, k = i → d = c → Br.own k (d + 1) = Br.own k d ++ [⟨i, c⟩] := fun k e ed => by
      subst e; subst ed
      have e2 : (d + 1).toNat = d.toNat + 1 := by omega
      simp only [Br.own, e2, List.range_succ, List.map_append, List.map_cons, List.map_nil]
      congr 2
      simp only [Mk.mk.injEq, true_and]; omega
    have last : ∀ (a b : List Mk), V = o ++ [a] → (b = if n = i then a ++ [⟨i, c⟩] else a) → ∀ (k : Nat) (v : List Mk), V[k]? = some v → (w ++ [b])[k]? = some (if k = i then v ++ [⟨i, c⟩] else v) := fun a b hV hb k v hk => by
      subst hV
      rcases Nat.lt_or_ge k n with q | q
      · rw [List.getElem?_append_left (by omega)] at hk ⊢; exact w2 k v hk
      · have hlt := some_lt hk
        simp at hlt
        have : k = n := by omega
        subst this
        rw [List.getElem?_append_right (by omega), hol] at hk
        rw [List.getElem?_append_right (by omega), hwl]
        simp at hk ⊢
        subst hk; exact hb
    have hw3 := vws_succ w1
    simp only [vstep, hol, hx, d1] at h2
    split at h2
    · next h0' =>
      cases h2
      rw [vstep_zero (by omega) (by rw [hwl]; exact hx) (by rw [hwl]; exact d2)] at hw3
      refine ⟨_, hw3, last _ _ rfl ?_⟩
      rw [hwl]
      split
      · next e => exact own1 n e (d3 e)
      · rfl
    · next h0' =>
      obtain ⟨j, j1, j2⟩ := ho.from' n x hx (by omega)
      rw [j2, Int.toNat_natCast] at h2
      cases q : o[j]? with
      | none => rw [q] at h2; simp at h2
      | some f =>
        rw [q] at h2
        simp only at h2
        split at h2
        · simp at h2
        · next hle =>
          cases h2
          have hwj := w2 j f q
          rw [vstep_pos (by omega) (by rw [hwl]; exact hx) (by rw [hwl]; exact d2) j2 hwj] at hw3
          have hat := (ho.good n x hx).2.1
          have hfl : ((if j = i then f ++ [⟨i, c⟩] else f).length : Int) = f.length + if j = i then 1 else 0 := by split <;> simp
          rw [if_neg (by rw [hfl]; split <;> omega)] at hw3
          refine ⟨_, hw3, last _ _ rfl ?_⟩
          rw [hwl]
          have et : (if j = i then f ++ [⟨i, c⟩] else f).take x.at'.toNat = f.take x.at'.toNat := by
            split
            · rw [List.take_append_of_le_length (by omega)]
            · rfl
          rw [et]
          split
          · next e => rw [own1 n e (d3 e), List.append_assoc]
          · rfl
theorem idx_append {p : Br → Bool} {l : List Br} {y : Br} (h : 0 ≤ idx p l) : idx p (l ++ [y]) = idx p l := by
  obtain ⟨i, x, h1, h2, h3⟩ := idx_get h
  rw [h1]
  refine idx_found (x := x) (by rw [List.getElem?_append_left (some_lt h2)]; exact h2) h3 fun j z hz hlt => ?_
  have := some_lt h2
  rw [List.getElem?_append_left (by omega)] at hz
  cases q : p z
  · rfl
  · have := idx_le hz q; omega
theorem idx_new {p : Br → Bool} {l : List Br} {y : Br} (h : idx p l < 0) (hy : p y = true) : idx p (l ++ [y]) = l.length := by
  refine idx_found (x := y) (by rw [List.getElem?_append_right (Nat.le_refl _)]; simp) hy fun j z hz hlt => ?_
  rw [List.getElem?_append_left hlt] at hz
  cases q : p z
  · rfl
  · have := idx_le hz q; omega
theorem idx_neg {α : Type} {p : α → Bool} {l : List α} (h : idx p l < 0) : idx p l = -1 := by
  unfold idx at *
  cases q : l.findIdx? p <;> rw [q] at h <;> simp at h ⊢
  omega
theorem vws_ext {l : List Br} {cs : List Int} {y : Br} {d : Int} (ho : Ok l) (hc : cs.length = l.length) : ∀ n, n ≤ l.length → vws (l ++ [y]) (cs ++ [d]) n = vws l cs n
  | 0, _ => rfl
  | n + 1, hn => by
    simp only [vws, vws_ext ho hc n (by omega)]
    cases q : vws l cs n with
    | none => rfl
    | some o =>
      have hol := vws_len q
      simp only [Option.bind_some, vstep, hol]
      rw [List.getElem?_append_left (by omega), List.getElem?_append_left (by omega)]
      split
      · next b c e1 e2 =>
        split
        · rfl
        · next h0 =>
          obtain ⟨j, j1, j2⟩ := ho.from' n b e1 (by omega)
          rw [idx_append (by omega)]
      · rfl
/-- a table with a branch more is valid -/
theorem check_more {l : List Br} {y : Br} (hk : check l = 0) (h7 : l.length ≠ 8) (hn : isNm y.name = true) (ha : 0 ≤ y.at' ∧ y.at' ≤ 320) (hno : idx (has y.name) l < 0) (hf : 0 ≤ idx (has y.frm) l) : check (l ++ [y]) = 0 := by
  have ho := ok_of hk
  have hlen := ho.len
  have hll : (l ++ [y]).length = l.length + 1 := by simp
  have ht : twice (l ++ [y]) = false := by
    refine anyI_f fun i b hb => decide_eq_false ?_
    rcases Nat.lt_or_ge i l.length with q | q
    · rw [List.getElem?_append_left q] at hb
      rw [idx_append (by rw [ho.name i b hb]; omega), ho.name i b hb]; omega
    · have := some_lt hb
      have : i = l.length := by omega
      subst this
      rw [List.getElem?_append_right (Nat.le_refl _)] at hb
      simp at hb; subst hb
      rw [idx_new hno (by simp [has])]; omega
  have hb : anyI (badAt (l ++ [y])) (l ++ [y]) = false := by
    refine anyI_f fun i b hb => ?_
    rcases Nat.lt_or_ge i l.length with q | q
    · rw [List.getElem?_append_left q] at hb
      have old : badAt l i b = false := by
        simp only [check] at hk
        rw [if_neg (by omega)] at hk
        split at hk
        · omega
        · split at hk
          · omega
          · next h3 =>
            simp only [Bool.or_eq_true, not_or, Bool.not_eq_true] at h3
            exact anyI_no h3.2 hb
      have e : (l ++ [y]).take i = l.take i := List.take_append_of_le_length (by omega)
      simp only [badAt, e] at old ⊢
      exact old
    · have := some_lt hb
      have : i = l.length := by omega
      subst this
      rw [List.getElem?_append_right (Nat.le_refl _)] at hb
      simp at hb; subst hb
      have e : (l ++ [y]).take l.length = l := List.take_left' rfl
      have p0 : ¬ l.length = 0 := by have := ho.pos; omega
      simp only [badAt, badN, e, hn, decide_eq_false p0, Bool.not_true, Bool.false_or, Bool.false_and, Bool.or_false, Bool.or_eq_false_iff, Bool.and_eq_false_iff, decide_eq_false_iff_not]
      exact ⟨⟨by omega, by omega⟩, .inr (by omega)⟩
  have he : (l ++ [y]).isEmpty = false := by cases l <;> rfl
  simp only [check, ht, hb, he]
  rw [if_neg (by omega)]
  simp
/-- what a branch that is cut sees -/
theorem cut_fits {l : List Br} {cs : List Int} {y : Br} {i : Nat} {v : List Mk} (g : Good l cs) (hk : check (l ++ [y]) = 0) (hi : idx (has y.frm) l = i) (hv : (vw l cs)[i]? = some v) (ha : 0 ≤ y.at' ∧ y.at' ≤ v.length) :
    viewR (l ++ [y]) (cs ++ [0]) y.name = (v.take y.at'.toNat, 0) ∧ fits (l ++ [y]) (cs ++ [0]) = 0 ∧ vw (l ++ [y]) (cs ++ [0]) = vw l cs ++ [v.take y.at'.toNat] := by
  have hll : (l ++ [y]).length = l.length + 1 := by simp
  have hcl : (cs ++ [(0 : Int)]).length = l.length + 1 := by simp [g.len]
  have e1 := vws_ext (y := y) (d := 0) g.ok g.len l.length (Nat.le_refl _)
  rw [g.some'] at e1
  have hx : (l ++ [y])[(vw l cs).length]? = some y := by rw [g.vlen, List.getElem?_append_right (Nat.le_refl _)]; simp
  have hc : (cs ++ [(0 : Int)])[(vw l cs).length]? = some 0 := by rw [g.vlen, ← g.len, List.getElem?_append_right (Nat.le_refl _)]; simp
  have e2 := vws_succ e1
  rw [vstep_pos (by rw [g.vlen]; exact g.ok.pos) hx hc (by rw [idx_append (by omega)]; exact hi) hv, if_neg (by omega)] at e2
  have hs : vws (l ++ [y]) (cs ++ [0]) (l ++ [y]).length = some (vw l cs ++ [v.take y.at'.toNat ++ Br.own (vw l cs).length 0]) := by rw [hll]; exact e2
  have hw : vw (l ++ [y]) (cs ++ [0]) = vw l cs ++ [v.take y.at'.toNat] := by
    simp only [vw] at hs ⊢
    rw [hs]
    simp [Br.own]
  have hfit : Br.fit (l ++ [y]) (cs ++ [0]) = true := by simp only [Br.fit, hs]; rfl
  have hany : (cs ++ [(0 : Int)]).any badC = false := by
    rw [List.any_append, Bool.or_eq_false_iff]
    refine ⟨?_, rfl⟩
    rw [List.any_eq_false]
    intro c hc
    have := g.cnt c hc
    simp [badC]; omega
  have hf : fits (l ++ [y]) (cs ++ [0]) = 0 := by
    simp only [fits, hfit, hany]
    rw [if_neg (by omega), if_neg (by rw [hcl, hll]; simp)]
    rfl
  have ht := ok_of hk
  have hname := ht.name l.length y (by rw [List.getElem?_append_right (Nat.le_refl _)]; simp)
  refine ⟨?_, hf, hw⟩
  simp only [viewR]
  rw [if_neg (by omega), if_neg (by omega), hname, hw]
  simp [List.getD_eq_getElem?_getD, List.getElem?_append_right, g.vlen]
theorem more_fits {l : List Br} {cs : List Int} {i : Nat} {c : Int} (g : Good l cs) (hc : cs[i]? = some c) (h : c + 1 ≤ 40) : fits l (cs.set i (c + 1)) = 0 ∧ ∀ (k : Nat) (v : List Mk), (vw l cs)[k]? = some v → (vw l (cs.set i (c + 1)))[k]? = some (if k = i then v ++ [⟨i, c⟩] else v) := by
  have hc0 := (g.cnt c (List.mem_of_getElem? hc)).1
  obtain ⟨W, w1, w2⟩ := vws_more g.ok hc hc0 l.length _ (Nat.le_refl _) g.some'
  have hw : vw l (cs.set i (c + 1)) = W := by simp [vw, w1]
  refine ⟨?_, by rw [hw]; exact w2⟩
  have hany : (cs.set i (c + 1)).any badC = false := by
    rw [List.any_eq_false]
    intro d hd
    rcases List.mem_or_eq_of_mem_set hd with hd | hd
    · have := g.cnt d hd; simp [badC]; omega
    · subst hd; simp [badC]; omega
  simp only [fits, hany, Br.fit, w1]
  rw [if_neg (by have := g.chk; omega), if_neg (by rw [List.length_set]; simp [g.len])]
  rfl
def sNew : ByteArray := ⟨#[122, 122, 45, 110, 101, 119]⟩
theorem sNew_name : isNm sNew = true := by decide
theorem view_bound {l : List Br} {cs : List Int} (g : Good l cs) : ∀ (i : Nat) (v : List Mk), (vw l cs)[i]? = some v → v.length ≤ 40 * (i + 1) := by
  intro i
  induction i using Nat.strongRecOn with
  | _ i ih =>
  intro v hv
  have hil : i < l.length := by have := some_lt hv; have := g.vlen; omega
  obtain ⟨x, hx⟩ : ∃ x, l[i]? = some x := ⟨l[i]'hil, List.getElem?_eq_getElem _⟩
  obtain ⟨c, hc⟩ : ∃ c, cs[i]? = some c := ⟨cs[i]'(by have := g.len; omega), List.getElem?_eq_getElem _⟩
  have hcc := g.cnt c (List.mem_of_getElem? hc)
  have hlen := fit_len g.ok g.fit hx hc hv
  rcases Nat.eq_zero_or_pos i with h0 | h0
  · subst h0
    rw [(g.ok.root x hx).2] at hlen
    simp at hlen; omega
  · obtain ⟨j, f, j1, j2, j3, j4, j5⟩ := g.fit.step i x c v h0 hx hc hv
    have := ih j j1 f j3
    omega
end Go.AX.Br
namespace Go.AX.Lg
open Go.Proofs Go.RowKit Go.IntWalk Go.AX.Br
theorem inR_snoc (l : Lg) (s : List Ev) (x : Ev) (c : Int) : inR l (s ++ [x]) c = if classR l x.ch = c then (x.kd != 3) else inR l s c := by
  have lr := lastN_range (p := isC l c) (s := s) s.length
  rw [show lastN (isC l c) s s.length = lastR l s c from rfl] at lr
  unfold inR
  rw [lastR_snoc]
  unfold isC
  by_cases q : classR l x.ch = c
  · rw [if_pos q, if_pos (decide_eq_true q)]
    simp only [kdAt, Int.toNat_natCast, List.getElem?_append_right (Nat.le_refl _), Nat.sub_self, List.getElem?_cons_zero]
    simp
  · rw [if_neg q, if_neg (by simp [q])]
    cases h : decide (0 ≤ lastR l s c)
    · rfl
    · rw [kdAt_pre (by omega) (of_decide_eq_true h)]
/-- what only asks for the changes that are known -/
theorem kn_inR {l m : Lg} (h : m.kn = l.kn) : inR m = inR l := by
  obtain ⟨a, b, c⟩ := l; obtain ⟨a', b', c'⟩ := m; cases h; rfl
theorem kn_classN {l m : Lg} (h : m.kn = l.kn) : classN m = classN l := by
  obtain ⟨a, b, c⟩ := l; obtain ⟨a', b', c'⟩ := m; cases h; rfl
theorem kn_allR {l m : Lg} (h : m.kn = l.kn) : allR m = allR l := by
  obtain ⟨a, b, c⟩ := l; obtain ⟨a', b', c'⟩ := m; cases h; rfl
theorem kn_badL {l m : Lg} (h : m.kn = l.kn) : ∀ (s pre : List Ev), badL m pre s = badL l pre s
  | [], _ => rfl
  | x :: s, pre => by
    simp only [badL, badX, kn_badL h s, kn_classN h, kn_allR h]
theorem badL_app {l : Lg} : ∀ (s pre t : List Ev), badL l pre (s ++ t) = (badL l pre s || badL l (pre ++ s) t)
  | [], pre, t => by simp [badL]
  | x :: s, pre, t => by
    simp only [List.cons_append, badL, badL_app s, List.append_assoc, List.nil_append, Bool.or_assoc]
theorem kn_effL {l m : Lg} (h : m.kn = l.kn) (s : List Ev) : effL m s = effL l s := by
  unfold effL effN
  rw [kn_inR h]
theorem filterMap_cong {α β : Type} {f g : α → Option β} : ∀ {v : List α}, (∀ k ∈ v, f k = g k) → v.filterMap f = v.filterMap g
  | [], _ => rfl
  | x :: v, h => by
    rw [List.filterMap_cons, List.filterMap_cons, h x (by simp), filterMap_cong fun k hk => h k (by simp [hk])]
/-- marks that are in the ledger are the same events in one that has more -/
theorem seenL_more {l m : Lg} (h : ∀ (b : Nat) (s : List Ev), l.ev[b]? = some s → ∃ t, m.ev[b]? = some (s ++ t)) {v : List Mk} (hv : ∀ k ∈ v, InR l k) : seenL m v = seenL l v := by
  unfold seenL
  refine filterMap_cong fun k hk => ?_
  obtain ⟨b, e, s, x, rfl, h1, h2⟩ := hv k hk
  obtain ⟨t, ht⟩ := h b s h1
  rw [evAt_in h1 h2, evAt_in ht (by rw [List.getElem?_append_left (some_lt h2)]; exact h2)]
theorem lcheck_mk {l : Lg} (h1 : l.kn.length ≤ 30) (h2 : (clsM l.kn).length = l.kn.length) (h3 : l.kn.any badK = false) (h4 : check l.br = 0) (h5 : l.ev.length = l.br.length) (h6 : l.ev.any many = false) (h7 : fits l.br (cntL l) = 0) (h8 : ∀ i, i < l.ev.length → badB l i = false) : lcheck l = 0 := by
  unfold lcheck
  rw [if_neg (by omega), if_neg (by omega), if_neg (by rw [h3]; simp), if_neg (by omega), if_neg (by omega), if_neg (by rw [h6]; simp), if_neg (by omega), if_neg]
  simp only [List.any_eq_true, List.mem_range, not_exists, not_and]
  intro i hi
  rw [h8 i hi]; simp
theorem LOk.parts {l : Lg} (lo : LOk l) : (clsM l.kn).length = l.kn.length ∧ l.kn.any badK = false ∧ check l.br = 0 ∧ l.ev.any many = false := by
  have h := lo.chk
  unfold lcheck at h
  split at h
  · cases h
  next k1 =>
  split at h
  · cases h
  next k2 =>
  split at h
  · cases h
  next k3 =>
  split at h
  · next q => exact absurd h q
  next k4 =>
  split at h
  · cases h
  next k5 =>
  split at h
  · cases h
  next k6 =>
  exact ⟨by have := (cls_len (l := l)).1; omega, by simpa using k3, by omega, by simpa using k6⟩
/-- THE LEDGER WITH AN EVENT MORE. -/
theorem add_ok {l : Lg} (lo : LOk l) {i : Nat} {x : Br} {s : List Ev} {v : List Mk} (a : At l i x s v) {e : Ev} {c : Int} (h40 : s.length ≠ 40) (hc : classN l e.ch = some c) (hal : allR l (preE l i ++ s) e = 0) :
    LOk (addE l i e) ∧ (∀ (k : Nat) (y : Br) (t : List Ev) (w : List Mk), At l k y t w → effR (addE l i e) y.name = (effL l (preE l k ++ if k = i then t ++ [e] else t), 0)) ∧
      ∃ w, At (addE l i e) i x (s ++ [e]) w ∧ preE (addE l i e) i = preE l i := by
  obtain ⟨p1, p2, p3, p4⟩ := lo.parts
  have hs := a.hs
  have hil := some_lt hs
  have hle := lo.own i s hs
  have hge : l.ev.getD i [] = s := by rw [List.getD_eq_getElem?_getD, hs]; rfl
  have kn : (addE l i e).kn = l.kn := rfl
  have ev : (addE l i e).ev = l.ev.set i (s ++ [e]) := by simp only [addE, hge]
  have br : (addE l i e).br = l.br := rfl
  have hcnt : cntL (addE l i e) = (cntL l).set i ((s.length : Int) + 1) := by
    unfold cntL
    rw [ev, List.map_set]; simp
  have hci := cnt_get hs
  obtain ⟨f1, f2⟩ := more_fits lo.tab.g hci (by omega)
  have more : ∀ (b : Nat) (t : List Ev), l.ev[b]? = some t → ∃ u, (addE l i e).ev[b]? = some (t ++ u) := fun b t ht => by
    rw [ev, List.getElem?_set]
    by_cases q : i = b
    · subst q; rw [hs] at ht; cases ht
      exact ⟨[e], by rw [if_pos rfl, if_pos hil]⟩
    · exact ⟨[], by rw [if_neg q]; simpa using ht⟩
  have vws : ∀ (k : Nat) (w : List Mk), (vw l.br (cntL l))[k]? = some w → (vw (addE l i e).br (cntL (addE l i e)))[k]? = some (if k = i then w ++ [⟨i, (s.length : Int)⟩] else w) := fun k w hw => by
    rw [br, hcnt]; exact f2 k w hw
  have pre : ∀ k, k < l.br.length → preE (addE l i e) k = preE l k := fun k hk => by
    obtain ⟨y, t, w, b⟩ := at_of lo.tab hk
    have h1 : vwI (addE l i e) k = if k = i then w ++ [⟨i, (s.length : Int)⟩] else w := vwI_eq (vws k w b.hv)
    have h2 : atN (addE l i e) k = y.at'.toNat := by simp [atN, br, b.hx]
    have h3 : atN l k = y.at'.toNat := by simp [atN, b.hx]
    have hlen := b.len
    unfold preE
    rw [h1, h2, h3, vwI_eq b.hv]
    have h4 : (if k = i then w ++ [⟨i, (s.length : Int)⟩] else w).take y.at'.toNat = w.take y.at'.toNat := by
      split
      · rw [List.take_append_of_le_length (by omega)]
      · rfl
    rw [h4]
    exact seenL_more more fun m hm => b.inr m (List.mem_of_mem_take hm)
  have hbad : ∀ k, k < l.ev.length → badB (addE l i e) k = false := fun k hk => by
    have te := lo.tab.ev
    have := lo.good k hk
    unfold badB at this ⊢
    rw [pre k (by omega), kn_badL kn, ev, List.getElem?_set]
    by_cases q : i = k
    · subst q
      rw [if_pos rfl, if_pos hil]
      rw [hs] at this
      simp only [Option.getD_some] at this ⊢
      rw [badL_app, this]
      simp [badL, badX, hc, hal]
    · rw [if_neg q]; exact this
  have hchk : lcheck (addE l i e) = 0 := by
    refine lcheck_mk lo.kl p1 p2 p3 (by rw [ev, List.length_set]; exact lo.tab.ev) ?_ (by rw [hcnt]; exact f1) fun k hk => hbad k (by rw [ev, List.length_set] at hk; exact hk)
    rw [ev, List.any_eq_false]
    intro t ht
    rcases List.mem_or_eq_of_mem_set ht with q | q
    · exact List.any_eq_false.1 p4 t q
    · subst q; simp [many]; omega
  have lm := lok_of hchk
  refine ⟨lm, fun k y t w b => ?_, ?_⟩
  · have hk := some_lt b.hx
    obtain ⟨y', t', w', b'⟩ := at_of lm.tab (i := k) hk
    have ey : y' = y := by have := b'.hx; rw [br, b.hx] at this; cases this; rfl
    subst ey
    have et : t' = if k = i then t ++ [e] else t := by
      have := b'.hs
      rw [ev, List.getElem?_set] at this
      by_cases q : i = k
      · subst q
        rw [if_pos rfl, if_pos hil] at this
        have h2 := b.hs
        rw [hs] at h2; cases h2; cases this
        rw [if_pos rfl]
      · rw [if_neg q, b.hs] at this; cases this
        rw [if_neg (fun h => q h.symm)]
    rw [lm.eff b', pre k hk, et, kn_effL kn]
  · have hk := some_lt a.hx
    obtain ⟨y', t', w', b'⟩ := at_of lm.tab (i := i) hk
    have ey : y' = x := by have := b'.hx; rw [br, a.hx] at this; cases this; rfl
    subst ey
    have et : t' = s ++ [e] := by
      have := b'.hs
      rw [ev, List.getElem?_set, if_pos rfl, if_pos hil] at this
      cases this; rfl
    subst et
    exact ⟨w', b', pre i hk⟩
/-- THE LEDGER WITH A BRANCH MORE. -/
theorem cut_ok {l : Lg} (lo : LOk l) {i : Nat} {x : Br} {s : List Ev} {v : List Mk} (a : At l i x s v) {y : Br} (hf : y.frm = x.name) (hk : check (l.br ++ [y]) = 0) (ha : 0 ≤ y.at' ∧ y.at' ≤ v.length) :
    LOk ⟨l.kn, l.br ++ [y], l.ev ++ [[]]⟩ ∧ effR ⟨l.kn, l.br ++ [y], l.ev ++ [[]]⟩ y.name = (effL l ((seenL l v).take y.at'.toNat), 0) ∧
      lview ⟨l.kn, l.br ++ [y], l.ev ++ [[]]⟩ x.name = (v, 0) ∧ lview ⟨l.kn, l.br ++ [y], l.ev ++ [[]]⟩ y.name = (v.take y.at'.toNat, 0) ∧ (∀ w : List Mk, (∀ m ∈ w, m ∈ v) → seenL ⟨l.kn, l.br ++ [y], l.ev ++ [[]]⟩ w = seenL l w) := by
  obtain ⟨p1, p2, p3, p4⟩ := lo.parts
  obtain ⟨M, hM⟩ : ∃ M : Lg, M = ⟨l.kn, l.br ++ [y], l.ev ++ [[]]⟩ := ⟨_, rfl⟩
  rw [← hM]
  have kn : M.kn = l.kn := by rw [hM]
  have br : M.br = l.br ++ [y] := by rw [hM]
  have ev : M.ev = l.ev ++ [[]] := by rw [hM]
  have te := lo.tab.ev
  have hcnt : cntL M = cntL l ++ [0] := by unfold cntL; rw [ev]; simp
  have hi := lo.tab.g.ok.name i x a.hx
  obtain ⟨c1, c2, c3⟩ := cut_fits lo.tab.g hk (by rw [hf]; exact hi) a.hv ha
  have more : ∀ (b : Nat) (t : List Ev), l.ev[b]? = some t → ∃ u, M.ev[b]? = some (t ++ u) := fun b t ht =>
    ⟨[], by rw [ev, List.getElem?_append_left (some_lt ht)]; simpa using ht⟩
  have vl := lo.tab.g.vlen
  have vws : ∀ k, k < l.br.length → vwI M k = vwI l k := fun k hk => by
    unfold vwI
    rw [br, hcnt, c3, List.getD_eq_getElem?_getD, List.getElem?_append_left (by omega), List.getD_eq_getElem?_getD]
  have pre : ∀ k, k < l.br.length → preE M k = preE l k := fun k hk => by
    obtain ⟨z, t, w, b⟩ := at_of lo.tab hk
    have h2 : atN M k = z.at'.toNat := by simp [atN, br, List.getElem?_append_left hk, b.hx]
    have h3 : atN l k = z.at'.toNat := by simp [atN, b.hx]
    unfold preE
    rw [vws k hk, h2, h3, vwI_eq b.hv]
    exact seenL_more more fun m hm => b.inr m (List.mem_of_mem_take hm)
  have hbad : ∀ k, k < M.ev.length → badB M k = false := fun k hk => by
    rw [ev, List.length_append] at hk
    simp only [List.length_singleton] at hk
    unfold badB
    rw [ev]
    rcases Nat.lt_or_ge k l.ev.length with q | q
    · rw [pre k (by omega), kn_badL kn, List.getElem?_append_left q]
      exact lo.good k q
    · rw [List.getElem?_append_right q, show k - l.ev.length = 0 by omega]; rfl
  have hchk : lcheck M = 0 := by
    refine lcheck_mk (by rw [kn]; exact lo.kl) (by rw [kn]; exact p1) (by rw [kn]; exact p2) (by rw [br]; exact hk) (by rw [ev, br]; simp [te]) ?_ (by rw [br, hcnt]; exact c2) hbad
    rw [ev, List.any_append, p4]; rfl
  have lm := lok_of hchk
  have v1 : lview M y.name = (v.take y.at'.toNat, 0) := by
    unfold lview
    rw [if_neg (by omega), br, hcnt, c1]
  have sm : ∀ w : List Mk, (∀ m ∈ w, m ∈ v) → seenL M w = seenL l w := fun w hw => seenL_more more fun m hm => a.inr m (hw m hm)
  have v2 : lview M x.name = (v, 0) := by
    have hil := some_lt a.hx
    have hv : (vw M.br (cntL M))[i]? = some v := by rw [br, hcnt, c3, List.getElem?_append_left (by omega)]; exact a.hv
    have hn : idx (has x.name) M.br = i := by rw [br, idx_append (by omega)]; exact hi
    unfold lview
    rw [if_neg (by omega)]
    unfold viewR
    rw [if_neg (by have := lm.tab.fits; omega), if_neg (by omega), hn, Int.toNat_natCast, List.getD_eq_getElem?_getD, hv]; rfl
  refine ⟨lm, ?_, v2, v1, sm⟩
  unfold effR
  rw [v1]
  simp only [ne_eq, not_true_eq_false, if_false]
  rw [sm _ fun m hm => List.mem_of_mem_take hm, kn_effL kn]
  congr 2
  rw [seenL_take a.inr]
end Go.AX.Lg

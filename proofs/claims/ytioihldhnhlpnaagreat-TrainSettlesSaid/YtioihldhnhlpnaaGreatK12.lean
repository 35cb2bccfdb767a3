/- Trains: a run settles all heads, in their order. -/
import Derived.Test.YtioihldhnhlpnaaGreatK11
set_option maxHeartbeats 8000000
set_option linter.unusedVariables false
set_option linter.unusedSimpArgs false
set_option maxRecDepth 20000
namespace Go.AX.Tr
open Go.Proofs Go.RowKit Go.IntWalk Go.AX.Br Go.AX.Lg Go.AX.Qu Go.AX.Wn
def cntH (b : ByteArray) (q : List Rq) : Nat := (q.filter (isHead b)).length
def setl (b : ByteArray) : List Rq → List Int → List Rq
  | [], _ => []
  | x :: q, [] => x :: q
  | x :: q, s :: ss => if isHead b x then setSt x s :: setl b q ss else x :: setl b q (s :: ss)
theorem setl_nil (b : ByteArray) : ∀ q, setl b q [] = q
  | [] => rfl
  | x :: q => rfl
theorem setl_no {b : ByteArray} {x : Rq} (h : isHead b x = false) (q : List Rq) (ss : List Int) : setl b (x :: q) ss = x :: setl b q ss := by
  cases ss with
  | nil => rw [setl_nil, setl_nil]
  | cons s ss => rw [setl, if_neg (by simp [h])]
theorem setl_yes {b : ByteArray} {x : Rq} (h : isHead b x = true) (q : List Rq) (s : Int) (ss : List Int) : setl b (x :: q) (s :: ss) = setSt x s :: setl b q ss := by
  rw [setl, if_pos h]
theorem setl_len (b : ByteArray) : ∀ q ss, (setl b q ss).length = q.length
  | [], ss => by cases ss <;> rfl
  | x :: q, [] => by rw [setl_nil]
  | x :: q, s :: ss => by
    rw [setl]
    split
    · simp [setl_len b q ss]
    · simp [setl_len b q (s :: ss)]
theorem setl_pre (b : ByteArray) : ∀ (pre q : List Rq) (ss : List Int), (∀ x ∈ pre, isHead b x = false) → setl b (pre ++ q) ss = pre ++ setl b q ss
  | [], q, ss, _ => rfl
  | x :: pre, q, ss, h => by
    have hx := h x (by simp)
    rw [List.cons_append, setl_no hx, setl_pre b pre q ss fun y hy => h y (List.mem_cons_of_mem _ hy)]
    rfl
theorem setl_get (b : ByteArray) : ∀ (q : List Rq) (ss : List Int) (k : Nat) (x : Rq), cntH b q ≤ ss.length → q[k]? = some x →
    (setl b q ss)[k]? = some (if isHead b x then setSt x (ss.getD (cntH b (q.take k)) 0) else x)
  | [], ss, k, x, _, h => by simp at h
  | y :: q, ss, 0, x, hc, h => by
    simp only [List.getElem?_cons_zero, Option.some.injEq] at h
    subst h
    cases q1 : isHead b y with
    | true =>
      cases ss with
      | nil => rw [cntH, List.filter_cons_of_pos q1] at hc; simp at hc
      | cons s ss => rw [setl_yes q1]; rfl
    | false => rw [setl_no q1]; rfl
  | y :: q, ss, k + 1, x, hc, h => by
    simp only [List.getElem?_cons_succ] at h
    cases q1 : isHead b y with
    | true =>
      rw [cntH, List.filter_cons_of_pos q1, List.length_cons] at hc
      cases ss with
      | nil => simp at hc
      | cons s ss =>
        simp only [List.length_cons] at hc
        rw [setl_yes q1, List.getElem?_cons_succ, setl_get b q ss k x (by unfold cntH; omega) h]
        have : cntH b ((y :: q).take (k + 1)) = cntH b (q.take k) + 1 := by simp only [cntH, List.take_succ_cons, List.filter_cons_of_pos q1, List.length_cons]
        rw [this, List.getD_cons_succ]
    | false =>
      rw [cntH, List.filter_cons_of_neg (by simp [q1])] at hc
      rw [setl_no q1, List.getElem?_cons_succ, setl_get b q ss k x hc h]
      have : cntH b ((y :: q).take (k + 1)) = cntH b (q.take k) := by simp only [cntH, List.take_succ_cons]; rw [List.filter_cons_of_neg (by simp [q1])]
      rw [this]
theorem head_split {b : ByteArray} {q : List Rq} {i : Nat} (h : idx (isHead b) q = i) : ∃ x, q[i]? = some x ∧ isHead b x = true ∧ q = q.take i ++ x :: q.drop (i + 1) ∧ ∀ y ∈ q.take i, isHead b y = false := by
  obtain ⟨j, x, h1, h2, h3⟩ := idx_get (p := isHead b) (l := q) (by omega)
  have : j = i := by omega
  subst this
  have e : q = q.take j ++ x :: q.drop (j + 1) := by
    have := List.take_append_drop j q
    rw [List.drop_eq_getElem_cons (some_lt h2), (List.getElem?_eq_some_iff.1 h2).2] at this
    exact this.symm
  refine ⟨x, h2, h3, e, fun y hy => ?_⟩
  obtain ⟨k, hk⟩ := List.mem_iff_getElem?.1 hy
  have hkj : k < j := by have := some_lt hk; simp at this; omega
  rw [List.getElem?_take_of_lt hkj] at hk
  cases hy2 : isHead b y with
  | false => rfl
  | true => have := (idx_le hk hy2).2; omega
theorem modify_split {q : List Rq} {i : Nat} {x : Rq} {f : Rq → Rq} (hx : q[i]? = some x) : q.modify i f = q.take i ++ f x :: q.drop (i + 1) := by
  rw [List.modify_eq_take_cons_drop (some_lt hx), (List.getElem?_eq_some_iff.1 hx).2]
theorem set_no {b : ByteArray} {x : Rq} {s : Int} (hs : 5 ≤ s) : isHead b (setSt x s) = false := by
  have : (s == (2 : Int)) = false := by simp; omega
  simp only [isHead, setSt, this, Bool.and_false]
theorem st_cnt {b : ByteArray} {t : Tr} {i : Nat} {s : Int} (h : idx (isHead b) t.q = i) (hs : 5 ≤ s) : cntH b t.q = cntH b (stQ t i s) + 1 ∧ ∀ ss, setl b (stQ t i s) ss = setl b t.q (s :: ss) := by
  obtain ⟨x, h1, h2, e, hn⟩ := head_split h
  have m := modify_split (f := fun r => setSt r s) h1
  have nil : (t.q.take i).filter (isHead b) = [] := List.filter_eq_nil_iff.2 fun y hy => by simp [hn y hy]
  constructor
  · unfold cntH stQ
    rw [m]
    conv => lhs; rw [e]
    rw [List.filter_append, List.filter_append, nil, List.filter_cons_of_pos h2, List.filter_cons_of_neg (by simp [set_no hs])]
    simp
  · intro ss
    unfold stQ
    rw [m, setl_pre b _ _ _ hn]
    conv => rhs; rw [e]
    rw [setl_pre b _ _ _ hn, setl_no (set_no hs), setl_yes h2]
/-- open at the tick, and room for all heads -/
structure Room (b : ByteArray) (tk : Int) (t : Tr) : Prop where
  o : TOk t
  hb : 0 ≤ idx (has b) t.lg.br
  h1 : 0 ≤ tk
  h2 : tk ≤ 1000000
  fr : held t.hs b tk = false
  rm : (t.lg.ev.getD (idx (has b) t.lg.br).toNat []).length + cntH b t.q ≤ 40
theorem room_step {b : ByteArray} {tk : Int} {t : Tr} (r : Room b tk t) (hc : 0 < cntH b t.q) : ∃ (i : Nat) (s : Int), 5 ≤ s ∧ s ≤ 7 ∧ (stepR t b tk).2.2 = 0 ∧ (stepR t b tk).2.1 = s ∧ idx (isHead b) t.q = i ∧ (stepR t b tk).1.q = stQ t i s ∧ Room b tk (stepR t b tk).1 := by
  have hi : 0 ≤ idx (isHead b) t.q := by
    rcases Int.lt_or_le (idx (isHead b) t.q) 0 with h | h
    · exfalso
      have : t.q.any (isHead b) = false := by rw [← idx_any]; simp; omega
      rw [cntH, List.filter_eq_nil_iff.2 fun y hy => by simpa using List.any_eq_false.1 this y hy] at hc
      simp at hc
    · exact h
  obtain ⟨i, x, e1, hx, hp⟩ := idx_get hi
  have hxb : x.br = b := by simp only [isHead, Bool.and_eq_true, decide_eq_true_eq] at hp; exact hp.1
  have bg : beginR t b tk = ((i : Int), 0) := by
    unfold beginR
    rw [if_neg (by simp [r.o.chk]), if_neg (by have := r.hb; omega), if_neg (by have := r.h1; have := r.h2; omega), e1]
  have kn := r.o.qk x (List.mem_of_getElem? hx)
  have or := outR_of (t := t) (r := x)
  have err : (stepR t b tk).2.2 = 0 := by
    unfold stepR
    rw [bg, if_neg (by simp), e1, Int.toNat_natCast, hx]
    simp only [heldH, hxb, r.fr, Bool.false_and, Bool.false_eq_true, if_false]
    by_cases h5 : outR t x = 5
    · rw [if_pos h5]
      subst hxb
      obtain ⟨j, y, s, v, c, m, k, p⟩ := pick_of r.o.lo kn
      have hin := outR_pick p
      rw [h5] at hin
      have hgs : t.lg.ev.getD j [] = s := by rw [List.getD_eq_getElem?_getD, p.a.hs]; rfl
      have hr := r.rm
      rw [p.hi, Int.toNat_natCast, hgs] at hr
      have ha := p.happ
      rw [if_neg (by omega), if_neg (by intro q; rw [if_pos q] at hin; omega)] at ha
      rw [ha, if_neg (by simp)]
    · rw [if_neg h5]
  obtain ⟨o, i', r', l', f1, hx', f2, f3, kn', -, -, -, es, hl⟩ := step_ok err
  have : i' = i := by omega
  subst this
  rw [hx] at hx'; cases hx'
  obtain ⟨so, sb⟩ := step_tok err
  refine ⟨i', outR t x, by omega, by omega, err, by rw [es], e1, by rw [es], so, by rw [sb]; exact r.hb, r.h1, r.h2, by rw [es]; exact r.fr, ?_⟩
  rw [sb, es]
  have sc := (st_cnt (t := t) e1 (s := outR t x) (by omega)).1
  have hr := r.rm
  have : (l'.ev.getD (idx (has b) t.lg.br).toNat []).length ≤ (t.lg.ev.getD (idx (has b) t.lg.br).toNat []).length + 1 := by
    rcases hl with ⟨-, ha⟩ | ⟨-, rfl⟩
    · obtain ⟨j, y, s, v, c, m, k, p, -, -, rfl⟩ := app_ok o.lo kn ha
      rw [List.getD_eq_getElem?_getD, List.getD_eq_getElem?_getD]
      simp only [addE, List.getElem?_set]
      split
      · next q =>
        split
        · rw [← q]; simp [List.getD_eq_getElem?_getD]
        · simp
      · omega
    · omega
  simp only
  omega
theorem room_run {b : ByteArray} {tk : Int} : ∀ (c : Nat) (t : Tr), Room b tk t → cntH b t.q = c → ∀ n, c ≤ n → runG b tk n t = runG b tk c t ∧ (runG b tk c t).2.2 = 0 ∧ (runG b tk c t).2.1.length = c ∧ (∀ s ∈ (runG b tk c t).2.1, 5 ≤ s ∧ s ≤ 7) ∧ (runG b tk c t).1.q = setl b t.q (runG b tk c t).2.1
  | 0, t, r, hc, n, hn => by
    have hi : idx (isHead b) t.q < 0 := by
      rcases Int.lt_or_le (idx (isHead b) t.q) 0 with h | h
      · exact h
      · exfalso
        obtain ⟨i, x, e1, hx, hp⟩ := idx_get h
        have : x ∈ t.q.filter (isHead b) := List.mem_filter.2 ⟨List.mem_of_getElem? hx, hp⟩
        rw [List.eq_nil_of_length_eq_zero hc] at this
        simp at this
    have bg : beginR t b tk = (0, 6) := by
      unfold beginR
      rw [if_neg (by simp [r.o.chk]), if_pos (.inr hi)]
    have e6 : (stepR t b tk).2.2 = 6 := by unfold stepR; rw [bg, if_pos (by simp)]
    exact ⟨runG_stop (by rw [e6]; decide) (by rw [e6]; decide) n, rfl, rfl, by simp [runG], by simp [runG, setl_nil]⟩
  | c + 1, t, r, hc, n, hn => by
    obtain ⟨i, s, s5, s7, err, hs, hi, hq, r'⟩ := room_step r (by omega)
    obtain ⟨n, rfl⟩ : ∃ m, n = m + 1 := ⟨n - 1, by omega⟩
    obtain ⟨sc, sl⟩ := st_cnt (t := t) hi s5
    obtain ⟨a1, a2, a3, a4, a5⟩ := room_run c (stepR t b tk).1 r' (by rw [hq]; omega) n (by omega)
    have g : ∀ m, runG b tk (m + 1) t = ((runG b tk m (stepR t b tk).1).1, (stepR t b tk).2.1 :: (runG b tk m (stepR t b tk).1).2.1, (runG b tk m (stepR t b tk).1).2.2) := fun m => by
      rw [runG, if_neg (by rw [err]; decide), if_neg (by rw [err]; decide)]
    rw [g n, g c, a1, hs]
    refine ⟨rfl, a2, by simp [a3], fun z hz => ?_, by rw [a5, hq, sl]⟩
    rcases List.mem_cons.1 hz with rfl | hz
    · exact ⟨s5, s7⟩
    · exact a4 z hz
end Go.AX.Tr

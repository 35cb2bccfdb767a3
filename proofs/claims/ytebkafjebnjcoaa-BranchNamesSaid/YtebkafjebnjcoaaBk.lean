/- Branches: stems, plain. -/
import Derived.Test.YtebkafjebnjcoaaBj
set_option maxHeartbeats 1000000
set_option linter.unusedVariables false
set_option linter.unusedSimpArgs false
set_option maxRecDepth 20000
namespace Go.AX.Br
def lcp : List Mk → List Mk → Nat
  | x :: a, y :: b => if x = y then lcp a b + 1 else 0
  | _, _ => 0
theorem lcp_le : ∀ a b : List Mk, lcp a b ≤ a.length ∧ lcp a b ≤ b.length
  | x :: a, y :: b => by
    have := lcp_le a b
    simp only [lcp]
    split <;> simp only [List.length_cons] <;> omega
  | [], _ => by simp [lcp]
  | _ :: _, [] => by simp [lcp]
theorem lcp_get : ∀ {a b : List Mk} {n : Nat}, n < lcp a b → ∃ x, a[n]? = some x ∧ b[n]? = some x
  | x :: a, y :: b, n, h => by
    simp only [lcp] at h
    split at h
    · next e =>
      subst e
      cases n with
      | zero => exact ⟨x, rfl, rfl⟩
      | succ n => simpa using lcp_get (show n < lcp a b by omega)
    · omega
  | [], _, _, h => by simp [lcp] at h
  | _ :: _, [], _, h => by simp [lcp] at h
theorem lcp_stop : ∀ {a b : List Mk} {x : Mk}, a[lcp a b]? = some x → b[lcp a b]? = some x → False
  | x :: a, y :: b, z, h1, h2 => by
    simp only [lcp] at h1 h2
    split at h1
    · next e =>
      rw [if_pos e] at h2
      exact lcp_stop (a := a) (b := b) (by simpa using h1) (by simpa using h2)
    · next e =>
      rw [if_neg e] at h2
      simp at h1 h2
      exact e (h1.trans h2.symm)
  | [], _, _, h1, _ => by simp at h1
  | _ :: _, [], _, _, h2 => by simp at h2
theorem lcp_take {a b : List Mk} {n : Nat} (h : a.take (n + 1) = b.take (n + 1)) (h1 : n < a.length) (h2 : n < b.length) : n < lcp a b := by
  rcases Nat.lt_or_ge n (lcp a b) with q | q
  · exact q
  · exfalso
    have e : ∀ k, k ≤ n → a[k]? = b[k]? := fun k hk => by
      have := congrArg (fun l => l[k]?) h
      simpa [List.getElem?_take, show k < n + 1 by omega] using this
    have hk := e (lcp a b) q
    have ha : a[lcp a b]? = some (a[lcp a b]'(by omega)) := List.getElem?_eq_getElem _
    exact lcp_stop ha (by rw [← hk]; exact ha)
theorem lcp_self : ∀ a : List Mk, lcp a a = a.length
  | [] => rfl
  | x :: a => by simp [lcp, lcp_self a]
theorem lcp_comm : ∀ a b : List Mk, lcp a b = lcp b a
  | x :: a, y :: b => by
    simp only [lcp, lcp_comm a b]
    by_cases h : x = y
    · rw [if_pos h, if_pos h.symm]
    · rw [if_neg h, if_neg fun e => h e.symm]
  | [], b => by cases b <;> rfl
  | _ :: _, [] => rfl
/-- where a mark stands in a view: at its own place, behind the same marks as in its branch's view -/
theorem mark_pos {l : List Br} {cs : List Int} (g : Good l cs) : ∀ (i : Nat) (v : List Mk) (p : Nat) (m : Mk), (vw l cs)[i]? = some v → v[p]? = some m →
    ∃ (b e : Nat) (x : Br) (c : Int) (w : List Mk), m = ⟨b, e⟩ ∧ b ≤ i ∧ l[b]? = some x ∧ cs[b]? = some c ∧ (e : Int) < c ∧ (vw l cs)[b]? = some w ∧ (p : Int) = x.at' + e ∧ v.take (p + 1) = w.take (p + 1) := by
  intro i
  induction i using Nat.strongRecOn with
  | _ i ih =>
  intro v p m hv hm
  have hil : i < l.length := by have := some_lt hv; have := g.vlen; omega
  obtain ⟨x, hx⟩ : ∃ x, l[i]? = some x := ⟨l[i]'(by omega), List.getElem?_eq_getElem _⟩
  obtain ⟨c, hx2⟩ : ∃ c, cs[i]? = some c := ⟨cs[i]'(by have := g.len; omega), List.getElem?_eq_getElem _⟩
  have hc0 := (g.cnt c (List.mem_of_getElem? hx2)).1
  have ownp : ∀ (k : Nat) (m : Mk), (own i c)[k]? = some m → m = ⟨i, k⟩ ∧ (k : Int) < c := fun k m h => by
    have hlt := some_lt h
    rw [own_len] at hlt
    simp only [own, List.getElem?_map, List.getElem?_range hlt, Option.map_some, Option.some.injEq] at h
    exact ⟨h.symm, by omega⟩
  rcases Nat.eq_zero_or_pos i with h0 | h0
  · subst h0
    have e := g.fit.zero c v hx2 hv
    subst e
    obtain ⟨h1, h2⟩ := ownp p m hm
    exact ⟨0, p, x, c, _, h1, Nat.le_refl _, hx, hx2, h2, hv, by rw [(g.ok.root x hx).2]; omega, rfl⟩
  · obtain ⟨j, f, j1, j2, j3, j4, j5⟩ := g.fit.step i x c v h0 hx hx2 hv
    have hat := (g.ok.good i x hx).2.1
    have hfl : (f.take x.at'.toNat).length = x.at'.toNat := by rw [List.length_take]; omega
    rcases Nat.lt_or_ge p x.at'.toNat with q | q
    · have hm' : f[p]? = some m := by
        rw [j5, List.getElem?_append_left (by omega), List.getElem?_take_of_lt q] at hm; exact hm
      obtain ⟨b, e, y, cc, w, k1, k2, k3, k4, k5, k6, k7, k8⟩ := ih j j1 f p m j3 hm'
      refine ⟨b, e, y, cc, w, k1, by omega, k3, k4, k5, k6, k7, ?_⟩
      rw [← k8, j5, List.take_append_of_le_length (by omega), List.take_take]
      congr 1; omega
    · rw [j5, List.getElem?_append_right (by omega), hfl] at hm
      obtain ⟨h1, h2⟩ := ownp _ m hm
      exact ⟨i, p - x.at'.toNat, x, c, v, h1, Nat.le_refl _, hx, hx2, h2, hv, by omega, rfl⟩
theorem shared {l : List Br} {cs : List Int} (g : Good l cs) {i k : Nat} {v w : List Mk} {p q : Nat} {m : Mk} (hv : (vw l cs)[i]? = some v) (hw : (vw l cs)[k]? = some w) (h1 : v[p]? = some m) (h2 : w[q]? = some m) : p = q ∧ p < lcp v w := by
  obtain ⟨b, e, x, c, u, k1, k2, k3, k4, k5, k6, k7, k8⟩ := mark_pos g i v p m hv h1
  obtain ⟨b', e', x', c', u', q1, q2, q3, q4, q5, q6, q7, q8⟩ := mark_pos g k w q m hw h2
  rw [k1] at q1
  simp only [Mk.mk.injEq] at q1
  have eb : b' = b := by omega
  subst eb
  rw [k3] at q3; cases q3
  rw [k6] at q6; cases q6
  have ep : p = q := by omega
  subst ep
  exact ⟨rfl, lcp_take (k8.trans q8.symm) (some_lt h1) (some_lt h2)⟩
theorem countP_pre {P : Mk → Bool} : ∀ {w : List Mk} {n : Nat}, n ≤ w.length → (∀ q x, w[q]? = some x → P x = decide (q < n)) → w.countP P = n
  | [], n, hn, _ => by simp at hn; subst hn; rfl
  | y :: w, 0, _, h => by
    rw [List.countP_eq_zero]
    intro x hx
    obtain ⟨q, hq⟩ := List.mem_iff_getElem?.1 hx
    rw [h q x hq]; simp
  | y :: w, n + 1, hn, h => by
    have h0 := h 0 y rfl
    have ih := countP_pre (P := P) (w := w) (n := n) (by simpa using hn) fun q x hq => by rw [h (q + 1) x (by simpa using hq)]; simp
    rw [List.countP_cons, ih, h0]; simp
/-- what two views share, is their stem -/
theorem count_stem {l : List Br} {cs : List Int} (g : Good l cs) {i k : Nat} {v w : List Mk} (hv : (vw l cs)[i]? = some v) (hw : (vw l cs)[k]? = some w) : w.countP (fun m => decide (m ∈ v)) = lcp v w := by
  refine countP_pre (lcp_le v w).2 fun q x hq => ?_
  by_cases h : q < lcp v w
  · obtain ⟨y, h1, h2⟩ := lcp_get h
    rw [hq] at h2; cases h2
    simp [h, List.mem_of_getElem? h1]
  · have : x ∉ v := fun hx => by
      obtain ⟨p, hp⟩ := List.mem_iff_getElem?.1 hx
      obtain ⟨e1, e2⟩ := shared g hv hw hp hq
      omega
    simp [h, this]
def stemR (l : List Br) (cs : List Int) (a b : ByteArray) : Int × Int :=
  if fits l cs ≠ 0 then (0, fits l cs) else if idx (has a) l < 0 ∨ idx (has b) l < 0 then (0, 6) else (lcp ((vw l cs).getD (idx (has a) l).toNat []) ((vw l cs).getD (idx (has b) l).toNat []), 0)
/-- the set of some marks, as a map -/
def mkM (v : List Mk) : List (Mk × Bool) := v.foldl (fun m x => mput x true m) []
theorem mkM_succ {v : List Mk} {j : Nat} {x : Mk} (h : v[j]? = some x) : mkM (v.take (j + 1)) = mput x true (mkM (v.take j)) := by
  rw [List.take_add_one, h]; simp [mkM, List.foldl_append]
theorem mkM_look (x : Mk) : ∀ (v : List Mk) (m : List (Mk × Bool)), look x (v.foldl (fun m x => mput x true m) m) = if x ∈ v then some true else look x m
  | [], m => by simp
  | y :: v, m => by
    rw [List.foldl_cons, mkM_look x v, look_put]
    by_cases h : x ∈ v
    · simp [h]
    · by_cases e : x = y
      · simp [e]
      · simp [h, e]
theorem mkM_in (v : List Mk) (x : Mk) : look x (mkM v) = if x ∈ v then some true else none := mkM_look x v []
theorem mkD_eq (a b : Mk) : deqs (mkD a) (mkD b) = decide (a = b) := by
  cases a; cases b
  simp only [mkD, deqs, deq, Bool.and_true, Mk.mk.injEq]
  rw [Bool.eq_iff_iff]; simp
theorem mkD_kind (s : Mk) : kindOk true [.int .i64, .int .i64] (mkD s) := ⟨rfl, fun h => by cases h⟩
end Go.AX.Br

/- AX, part I: append, make, slice literals, cuts. -/
import Derived.Test.YtnmgmlmiijljmaaAxH
set_option linter.unusedVariables false
namespace Go.AX
section
variable {P : Program} {o : Oper} {a : Act} {c : Cf} {σ : List AObj} {env : List AV}

def srcT (P : Program) (t : TypeId) : Bool :=
  match P.underlying t with
  | some (.slice _) => true
  | some .string => true
  | _ => false
theorem srcT_spec {t : TypeId} (h : srcT P t = true) : (∃ e', P.underlying t = some (.slice e')) ∨ P.underlying t = some .string := by
  unfold srcT at h
  split at h
  · next e hu => exact .inl ⟨e, hu⟩
  · next hu => exact .inr hu
  · simp at h
def evAppend2 (σ : List AObj) (sz by' : Nat) (es2 : List (List D)) : AV → R1
  | .nil => .need ((∀ e ∈ es2, e.length = sz) ∧ es2.length * by' ≤ 140737488355328 ∧ es2.length ≤ 9223372036854775807) (.to (.own σ.length) (σ ++ [.row sz es2]))
  | .own l => match ob σ l with
    | .row sz' es => .need (sz' = sz ∧ (∀ e ∈ es2, e.length = sz) ∧ (es.length + es2.length) * by' ≤ 140737488355328 ∧ es.length + es2.length ≤ 9223372036854775807) (.to (.own σ.length) (so σ l .gone ++ [.row sz (es ++ es2)]))
    | _ => .bad
  | _ => .bad
def evAppend1 (P : Program) (σ : List AObj) (t t' : TypeId) (s : AV) : Option (List (List D)) → R1
  | some es2 => match ei P t, srcT P t' with
    | some (sz, by'), true => evAppend2 σ sz by' es2 s
    | _, _ => .bad
  | none => .bad
def evAppend (P : Program) (σ : List AObj) (ts : List TypeId) (xs : List AV) : R1 :=
  match ts, xs with
  | [t, t'], [s, x] => evAppend1 P σ t t' s (src σ x)
  | _, _ => .bad

def dropL (σ : List AObj) : AV → List AObj
  | .own l => σ.set l .gone
  | _ => σ
/-- a new row, behind a draw or not -/
theorem Nxt.newRow {c : Cf} {σ : List AObj} (H : Holds c σ) {sz : Nat} {es : List (List D)} {vs : Array Value} {ty : TypeId} {cap : Nat} (h0 : 0 < cap) (hcap : es.length ≤ cap) (hv : vs.size = cap * sz)
    (hs : ∀ e ∈ es, e.length = sz) (hd : DRs c.h es.flatten (vs.toList.take (es.length * sz))) :
    ∃ c', c'.w = c.w.alloc (.cells vs ty) ∧ AR c' (.own σ.length) (.slice (some ⟨c.w.heap.size, 0, none⟩) es.length cap) ∧ Nxt c σ c' (σ ++ [.row sz es]) := by
  refine ⟨c.put (c.w.alloc (.cells vs ty)) c.w.heap.size (.slice (some ⟨c.w.heap.size, 0, none⟩) es.length cap), rfl, ?_, Nxt.new H _ _ _ (.inr ?_)⟩
  · simp only [AR]; exact ⟨by simp [Cf.put, H.n], by simp [Cf.put, H.n], _, _, _, rfl⟩
  · refine ⟨cap, vs, ty, h0, by simp [Cf.put], hcap, ?_, hv, hs, hd⟩
    have : (c.put (c.w.alloc (.cells vs ty)) c.w.heap.size (.slice (some ⟨c.w.heap.size, 0, none⟩) es.length cap)).ν c.n = c.w.heap.size := by simp [Cf.put]
    rw [this]
    show (c.w.heap.push _)[c.w.heap.size]? = _
    simp
theorem take_left' {α : Type} {l r : List α} {n : Nat} (h : l.length = n) : (l ++ r).take n = l := by subst h; simp
theorem grownCap_le (w : World) (need old : Nat) (e : TypeId) : need ≤ grownCap w need old e := by simp [grownCap, Question.cut]

theorem append_rel {c : Cf} {σ : List AObj} (H : Holds c σ) {t t' ty : TypeId} {sz by' : Nat} (hei : ei P t = some (sz, by')) (ht' : srcT P t' = true) {s x : AV} {vs vx : Value} {es es2 : List (List D)}
    (hs : AR c s vs) (hx : AR c x vx) (h2 : src σ x = some es2) (hl2 : ∀ e ∈ es2, e.length = sz) (hfit : (es.length + es2.length) * by' ≤ 140737488355328) (h63 : es.length + es2.length ≤ 9223372036854775807)
    (hcase : (s = .nil ∧ es = []) ∨ ∃ l, s = .own l ∧ ob σ l = .row sz es) :
    ∃ v c', (Builtin.append_ #[t, t'] ty #[vs, vx]).run P c.w = .ok v c'.w ∧ AR c' (.own σ.length) v ∧
      Nxt c σ c' (dropL σ s ++ [.row sz (es ++ es2)]) := by
  obtain ⟨e, i, z, hu, hi, hz, g1, g2, g3, g4⟩ := ei_spec hei
  obtain ⟨news, n1, n2, n3⟩ := src_ok (P := P) H hx h2 hl2 g4
  have hsrc := srcT_spec ht'
  -- the row that is appended to
  have hrow : ∃ base cap olds, vs = .slice base es.length cap ∧ es.length ≤ cap ∧ (∀ e ∈ es, e.length = sz) ∧ DRs c.h es.flatten olds ∧ olds.length = es.length * sz ∧
      (∀ w : World, w.heap = c.w.heap → (Builtin.firstCells sz es.length (.slice base es.length cap)).run P w = .ok olds.toArray w) ∧
      (cap = 0 ∨ ∃ l us ty', s = .own l ∧ ob σ l = .row sz es ∧ 0 < cap ∧ c.u l = .slice base es.length cap ∧ base = some ⟨c.ν l, 0, none⟩ ∧ c.w.heap[c.ν l]? = some (.cells us ty' (0, 0)) ∧ us.size = cap * sz ∧ olds = us.toList.take (es.length * sz)) := by
    rcases hcase with ⟨rfl, rfl⟩ | ⟨l, rfl, hO⟩
    · simp only [AR] at hs
      obtain ⟨A, rfl⟩ := hs
      refine ⟨A, 0, [], rfl, Nat.le_refl _, by simp, by simp [DRs], by simp, fun w _ => ?_, .inl rfl⟩
      cases A with
      | none => simp [run_firstCells_none]
      | some ad => exact run_firstCells_some w sz 0 ad 0 0 [] (by simp) (by simp)
    · simp only [AR] at hs
      obtain ⟨_, rfl, _⟩ := hs
      rcases H.obj l _ (ob_some hO (by simp)) with ⟨rfl, A, e⟩ | ⟨cap, us, ty', h0, q1, q2, q3, q4, q5, q6⟩
      · refine ⟨A, 0, [], e, Nat.le_refl _, by simp, by simp [DRs], by simp, fun w _ => ?_, .inl rfl⟩
        cases A with
        | none => simp [run_firstCells_none]
        | some ad => exact run_firstCells_some w sz 0 ad 0 0 [] (by simp) (by simp)
      · have hl : (us.toList.take (es.length * sz)).length = es.length * sz := by
          rw [List.length_take, Nat.min_eq_left]
          have := Nat.mul_le_mul_right sz q2
          simp; omega
        refine ⟨_, cap, _, q1, q2, q5, q6, hl, fun w hw => ?_, .inr ⟨l, us, ty', rfl, hO, h0, q1, rfl, q3, q4, rfl⟩⟩
        refine run_firstCells_some w sz es.length _ _ _ _ hl fun j u hj => ?_
        rw [addr_add, heap_cell (w := c.w) (by rw [hw])]
        rw [List.getElem?_take] at hj
        split at hj
        · simpa [World.cell?, q3] using hj
        · simp at hj
  obtain ⟨base, cap, olds, rfl, hcap, hes, o1, o2, o3, o4⟩ := hrow
  have hall : ∀ e ∈ es ++ es2, e.length = sz := fun e he => by
    rcases List.mem_append.1 he with q | q
    · exact hes e q
    · exact hl2 e q
  have hd : DRs c.h (es ++ es2).flatten (olds ++ news) := by simpa using DRs_append o1 n1
  -- dropping the old label
  have hdrop : ∀ c1 : Cf, Holds c1 σ → Nxt c1 σ c1 (dropL σ s) := fun c1 H1 => by
    unfold dropL
    cases s <;> first | exact Nxt.drop H1 _ | exact Nxt.refl H1
  have hlen' : (dropL σ s).length = σ.length := by cases s <;> simp [dropL]
  by_cases hg : es.length + es2.length ≤ cap
  · -- there is room
    rcases o4 with h0 | ⟨l, us, ty', rfl, hO, h0, hu', rfl, hb, hsz, ho⟩
    · subst h0
      have e1 : es = [] := by cases es <;> simp_all
      have e2 : es2 = [] := by cases es2 <;> simp_all
      subst e1; subst e2
      have hnil : news = [] := by simpa using n2
      subst hnil
      have hrun := run_append_in (ty := ty) hu hsrc hi (w := c.w) (base := base) (n := 0) (cap := 0) (k := 0) (x := vx) (new := #[]) (w' := c.w) (n3 c.w rfl).1 (by rw [g2]; exact (n3 c.w rfl).2) (Nat.le_refl _)
        (fun a _ => by simp [storeCells]) (fun _ => rfl)
      have hN := hdrop c H
      refine ⟨.slice base 0 0, c.put c.w 0 (.slice base 0 0), hrun, ?_, hN.trans (Nxt.bare hN.hold (.slice base 0 0) (.row sz ([] ++ [])) (.inl ⟨rfl, base, by simp [Cf.put]⟩) ?_)⟩
      · simp only [AR]; exact ⟨by simp [Cf.put, H.n], by simp [Cf.put, H.n], _, _, _, rfl⟩
      · simp [Has, Cf.put]
    · have hl := ob_some hO (by simp)
      have hsw : (es.length + es2.length) * sz ≤ us.size := by rw [hsz]; exact Nat.mul_le_mul_right _ hg
      have hadd : (es.length + es2.length) * sz = es.length * sz + es2.length * sz := Nat.add_mul _ _ _
      have hone := DRs_one n1
      have hst := run_storeCells_at P (c.ν l) (es.length * sz) ty' news 0 us c.w hb (by rw [n2]; omega) hone
      simp only [Nat.add_zero] at hst
      obtain ⟨cur', hcur⟩ : ∃ q : Array Value, q = (us.toList.take (es.length * sz) ++ news ++ us.toList.drop (es.length * sz + news.length)).toArray := ⟨_, rfl⟩
      rw [← hcur] at hst
      have hcurl : cur'.toList = us.toList.take (es.length * sz) ++ news ++ us.toList.drop (es.length * sz + news.length) := by rw [hcur]
      have hcurs : cur'.size = cap * sz := by rw [hcur]; simp [n2]; omega
      have hrun := run_append_in (ty := ty) hu hsrc hi (w := c.w) (base := some ⟨c.ν l, 0, none⟩) (n := es.length) (cap := cap) (k := es2.length) (x := vx) (new := news.toArray)
        (w' := c.w.setRow (c.ν l) cur') (n3 c.w rfl).1 (by rw [g2]; exact (n3 c.w rfl).2) hg
        (fun a e => by cases e; rw [g2, addr_add]; simpa using hst) (fun e => by simp at e)
      have hres : RowB (c.at (c.w.setRow (c.ν l) cur')) l sz es := by
        refine ⟨cap, cur', ty', h0, hu', hcap, setRow_heap _ _ _ _ _ _ hb, ?_, hes, ?_⟩
        · exact hcurs
        · have : (cur'.toList).take (es.length * sz) = olds := by
            rw [hcurl, ho]; simp only [List.append_assoc]
            exact take_left' (by rw [← ho]; exact o2)
          rw [this]; exact o1
      have N1 := Nxt.upd H hl ⟨_, _, _, hu', h0⟩ _ (heap_same (cs := cur')) (by simp) rfl rfl rfl (o' := .row sz es) (.inr hres)
      have hset : σ.set l (.row sz es) = σ := by
        apply List.ext_getElem?
        intro j
        rw [List.getElem?_set]
        split
        · next q => subst q; rw [if_pos (some_lt hl), hl]
        · rfl
      rw [hset] at N1
      have N2 := Nxt.take N1.hold (l := l) hl ⟨_, _, _, hu', h0⟩ (.slice (some ⟨c.ν l, 0, none⟩) (es.length + es2.length) cap) (o' := .row sz (es ++ es2)) (.inr ?_)
      · refine ⟨_, _, hrun, ?_, N1.trans N2⟩
        simp only [AR]; exact ⟨by simp [Cf.put, Cf.at, H.n], by simp [Cf.put, Cf.at, H.n], _, _, _, rfl⟩
      · refine ⟨cap, cur', ty', h0, by simp [Cf.put, Cf.at], by simpa using hg, ?_, ?_, hall, ?_⟩
        · have : (Cf.put (c.at (c.w.setRow (c.ν l) cur')) (c.at (c.w.setRow (c.ν l) cur')).w ((c.at (c.w.setRow (c.ν l) cur')).ν l) (.slice (some ⟨c.ν l, 0, none⟩) (es.length + es2.length) cap)).ν (c.at (c.w.setRow (c.ν l) cur')).n = c.ν l := by simp [Cf.put, Cf.at]
          rw [this]
          exact setRow_heap _ _ _ _ _ _ hb
        · exact hcurs
        · have : (cur'.toList).take ((es ++ es2).length * sz) = olds ++ news := by
            rw [hcurl, ← ho]; exact take_left' (by simp [o2, n2, Nat.add_mul])
          rw [this]; exact hd
  · -- a new array
    have hrun := run_append_new (ty := ty) hu hsrc hi hz (w := c.w) (base := base) (n := es.length) (cap := cap) (k := es2.length) (x := vx) (old := olds.toArray) (new := news.toArray) (fun w hw => (n3 w hw).1) (fun w hw => by rw [g2]; exact (n3 w hw).2)
      (fun w hw => by rw [g2]; exact o3 w hw) (by omega) (by omega) (by rw [g3]; exact hfit)
    have N0 := Nxt.drew H
    have hle := grownCap_le c.w (es.length + es2.length) cap e
    obtain ⟨c', w1, a1, N1⟩ := Nxt.newRow (c := c.at c.w.drew) (hdrop _ N0.hold).hold (sz := sz) (es := es ++ es2) (vs := olds.toArray ++ news.toArray ++ Builtin.zeroCells z.cells (grownCap c.w (es.length + es2.length) cap e - (es.length + es2.length))) (ty := e)
      (cap := grownCap c.w (es.length + es2.length) cap e) (by omega) (by simpa using hle) (by
        simp only [Array.size_append, zeroCells_size, g1, List.size_toArray, o2, n2]
        rw [← Nat.add_mul, ← Nat.add_mul]; congr 1; omega) hall (by
        have : ((olds.toArray ++ news.toArray ++ Builtin.zeroCells z.cells (grownCap c.w (es.length + es2.length) cap e - (es.length + es2.length))).toList).take ((es ++ es2).length * sz) = olds ++ news := by
          simp only [Array.toList_append]
          exact take_left' (by simp [o2, n2, Nat.add_mul])
        rw [this]; exact hd)
    rw [hlen'] at a1
    refine ⟨_, c', by rw [hrun, w1]; rfl, ?_, N0.trans ((hdrop _ N0.hold).trans N1)⟩
    rw [List.length_append] at a1
    exact a1
end
end Go.AX

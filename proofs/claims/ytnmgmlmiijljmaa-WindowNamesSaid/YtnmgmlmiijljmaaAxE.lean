/- AX, part E: stores, new variables, values that are built, fields, elements. -/
import Derived.Test.YtnmgmlmiijljmaaAxD
set_option linter.unusedVariables false
namespace Go.AX

section
variable {P : Program} {o : Oper} {a : Act} {c : Cf} {σ : List AObj} {env : List AV}

def asDs (σ : List AObj) : List AV → Option (List D × List AObj)
  | [] => some ([], σ)
  | x :: xs => match asD σ x with
    | some (y, σ1) => match asDs σ1 xs with
      | some (ys, σ2) => some (y :: ys, σ2)
      | none => none
    | none => none
theorem asDs_sound : ∀ {xs : List AV} {c : Cf} {σ σ' : List AObj} {ys : List D} {vs : List Value} (_ : Holds c σ) (_ : ARs c xs vs) (_ : asDs σ xs = some (ys, σ')),
    ∃ c', c'.w = c.w ∧ Nxt c σ c' σ' ∧ DRs c'.h ys vs
  | [], c, σ, σ', ys, vs, H, hx, h => by
    simp [asDs] at h; obtain ⟨rfl, rfl⟩ := h
    rw [ARs_nil_left hx]; exact ⟨c, rfl, .refl H, by simp [DRs]⟩
  | x :: xs, c, σ, σ', ys, vs, H, hx, h => by
    obtain ⟨v, r, rfl, h1, h2⟩ := ARs_cons_left hx
    simp only [asDs] at h
    split at h
    · next y σ1 e1 =>
      split at h
      · next ys' σ2 e2 =>
        simp at h; obtain ⟨rfl, rfl⟩ := h
        obtain ⟨c1, w1, n1, d1⟩ := asD_sound H h1 e1
        obtain ⟨c2, w2, n2, d2⟩ := asDs_sound n1.hold (ARs.mono n1.le _ h2) e2
        exact ⟨c2, w2.trans w1, n1.trans n2, by simp only [DRs]; exact ⟨DR.mono n2.le.h _ d1, d2⟩⟩
      · simp at h
    · simp at h

theorem DRs_one {h : Snap} : ∀ {xs : List D} {vs : List Value}, DRs h xs vs → ∀ v ∈ vs, v.oneCell' = true
  | [], [], _, v, hv => by simp at hv
  | x :: xs, u :: vs, r, v, hv => by
    simp only [DRs] at r
    rcases List.mem_cons.1 hv with rfl | q
    · exact (DR_cells r.1).2
    · exact DRs_one r.2 v q
  | [], _ :: _, r, _, _ => by simp [DRs] at r
  | _ :: _, [], r, _, _ => by simp [DRs] at r
theorem ARs_one {c : Cf} : ∀ {xs : List AV} {vs : List Value}, ARs c xs vs → xs.all oneC = true → ∀ v ∈ vs, v.oneCell' = true
  | [], vs, h, _, v, hv => by rw [ARs_nil_left h] at hv; simp at hv
  | x :: xs, vs, h, ha, v, hv => by
    obtain ⟨u, r, rfl, h1, h2⟩ := ARs_cons_left h
    simp at ha
    rcases List.mem_cons.1 hv with rfl | q
    · exact (oneC_sound ha.1 h1).2
    · exact ARs_one h2 (by simpa using ha.2) v q
theorem ARs_spl {c : Cf} : ∀ {cs : List AV} {us : List Value} (n : Nat) {xs : List AV} {vs : List Value}, ARs c cs us → ARs c xs vs → n + vs.length ≤ us.length → ARs c (spl cs n xs) (spl us n vs)
  | cs, us, 0, [], vs, h, k, _ => by rw [ARs_nil_left k]; cases cs <;> cases us <;> simp_all [spl, ARs]
  | cs, us, 0, x :: xs, vs, h, k, hl => by
    obtain ⟨v, r, rfl, k1, k2⟩ := ARs_cons_left k
    cases us with
    | nil => simp at hl
    | cons u us =>
      cases cs with
      | nil => simp [ARs] at h
      | cons y ys => simp only [ARs_cons] at h; simp only [spl, ARs_cons]; exact ⟨k1, ARs_spl 0 h.2 k2 (by simp at hl ⊢; omega)⟩
  | cs, us, n + 1, xs, vs, h, k, hl => by
    cases us with
    | nil => simp at hl
    | cons u us =>
      cases cs with
      | nil => simp [ARs] at h
      | cons y ys =>
        simp only [ARs_cons] at h
        cases vs <;> simp only [spl, ARs_cons] <;> exact ⟨h.1, ARs_spl n h.2 k (by simp at hl ⊢; omega)⟩
theorem DRs_spl {h : Snap} : ∀ {cs : List D} {us : List Value} (n : Nat) {xs : List D} {vs : List Value}, DRs h cs us → DRs h xs vs → n + vs.length ≤ us.length → DRs h (spl cs n xs) (spl us n vs)
  | cs, us, 0, [], [], r, k, _ => by cases cs <;> cases us <;> simp_all [spl, DRs]
  | _, _, _, [], _ :: _, _, k, _ => by simp [DRs] at k
  | _, _, _, _ :: _, [], _, k, _ => by simp [DRs] at k
  | cs, us, 0, x :: xs, v :: vs, r, k, hl => by
    simp only [DRs] at k
    cases us with
    | nil => simp at hl
    | cons u us =>
      cases cs with
      | nil => simp [DRs] at r
      | cons y ys => simp only [DRs] at r; simp only [spl, DRs]; exact ⟨k.1, DRs_spl 0 r.2 k.2 (by simp at hl ⊢; omega)⟩
  | cs, us, n + 1, [], [], r, k, hl => by
    cases us with
    | nil => simp at hl
    | cons u us =>
      cases cs with
      | nil => simp [DRs] at r
      | cons y ys => simp only [DRs] at r; simp only [spl, DRs]; exact ⟨r.1, DRs_spl n r.2 k (by simp at hl ⊢; omega)⟩
  | cs, us, n + 1, x :: xs, v :: vs, r, k, hl => by
    cases us with
    | nil => simp at hl
    | cons u us =>
      cases cs with
      | nil => simp [DRs] at r
      | cons y ys => simp only [DRs] at r; simp only [spl, DRs]; exact ⟨r.1, DRs_spl n r.2 k (by simp at hl ⊢; omega)⟩
theorem spl_length {α : Type} : ∀ (cs : List α) (n : Nat) (vs : List α), n + vs.length ≤ cs.length → (spl cs n vs).length = cs.length
  | cs, 0, [], _ => by cases cs <;> simp [spl]
  | _ :: cs, 0, v :: vs, h => by simp [spl, spl_length cs 0 vs (by simp at h ⊢; omega)]
  | c :: cs, n + 1, vs, h => by simp [spl, spl_length cs n vs (by simp at h ⊢; omega)]
  | [], 0, v :: vs, h => by simp at h
  | [], n + 1, vs, h => by simp at h

theorem spl_get {α : Type} : ∀ (cs : List α) (n : Nat) (vs : List α) (q : Nat), n + vs.length ≤ cs.length → (spl cs n vs)[q]? = if n ≤ q ∧ q < n + vs.length then vs[q - n]? else cs[q]?
  | cs, 0, [], q, _ => by cases cs <;> simp [spl]
  | _ :: cs, 0, v :: vs, q, h => by
    cases q with
    | zero => simp [spl]
    | succ q =>
      have := spl_get cs 0 vs q (by simp at h ⊢; omega)
      simp only [spl, List.getElem?_cons_succ, this, List.length_cons]
      split <;> split <;> first | omega | simp
  | c :: cs, n + 1, vs, q, h => by
    cases q with
    | zero => simp [spl]
    | succ q =>
      have := spl_get cs n vs q (by simp at h ⊢; omega)
      cases vs <;> simp only [spl, List.getElem?_cons_succ, this] <;> (split <;> split <;> first | omega | rfl | (congr 1; omega))
  | [], 0, v :: vs, _, h => by simp at h
  | [], n + 1, vs, _, h => by simp at h
theorem spl_seg {α : Type} (L v : List α) (A sz E j : Nat) (h1 : A + sz ≤ E) (h2 : E ≤ L.length) (h3 : j + v.length ≤ sz) :
    (L.take E).take A ++ spl ((L.drop A).take sz) j v ++ (L.take E).drop (A + sz) = (spl L (A + j) v).take E := by
  have hl : (spl ((L.drop A).take sz) j v).length = sz := by rw [spl_length _ _ _ (by simp; omega)]; simp; omega
  apply List.ext_getElem?
  intro q
  rw [List.getElem?_take, spl_get _ _ _ _ (by omega), List.getElem?_append, List.getElem?_append, spl_get _ _ _ _ (by simp; omega)]
  simp only [List.length_append, hl, List.length_take, List.getElem?_take, List.getElem?_drop]
  have e1 : min A (min E L.length) = A := by omega
  simp only [e1]
  by_cases q1 : q < A
  · simp [show q < A + sz by omega, q1, show q < E by omega, show ¬ (A + j ≤ q) by omega]
  · by_cases q2 : q < A + sz
    · simp only [q2, q1, if_true, if_false, show q < E by omega]
      by_cases q3 : A + j ≤ q ∧ q < A + j + v.length
      · rw [if_pos q3, if_pos (by omega)]; congr 1; omega
      · rw [if_neg q3, if_neg (by omega), if_pos (by omega)]; congr 1; omega
    · simp only [q2, if_false]
      rw [if_neg (by omega : ¬ (A + j ≤ q ∧ q < A + j + v.length))]
      by_cases q4 : q < E
      · rw [if_pos q4, if_pos (by omega)]; congr 1; omega
      · rw [if_neg q4, if_neg (by omega)]

/-! ### store -/
theorem run_storeVar {t : TypeId} {b : Bool} {n : Nat} (hk : tk P t = some (b, n)) {w : World} {g off : Nat} {ty : TypeId} {cur : Array Value} {v : Value} (hg : w.heap[g]? = some (.cells cur ty (0, 0)))
    (hn : v.cells.size = n) (hl : off + n ≤ cur.size) (h1 : ∀ u ∈ v.cells.toList, u.oneCell' = true) :
    (storeVar t ⟨g, off, none⟩ v).run P w = .ok () (w.setRow g (spl cur.toList off v.cells.toList).toArray) := by
  have := run_storeCells_at P g off ty v.cells.toList 0 cur w hg (by simp [hn]; omega) h1
  rw [spl_eq _ _ _ (by simp [hn]; omega)]
  simp only [Nat.add_zero] at this
  simp only [storeVar, Sem.run_bind, run_sizeOf' hk, Result.andThen_ok, hn, ne_eq, not_true_eq_false, if_false]
  simpa using this
theorem exec_store {t : TypeId} {x y : Operand} {ad : Addr} {w' : World} (ho : o.op = .store t x y) (hx : a.eval x = .pointer (some ad)) (h : (storeVar t ad (a.eval y)).run P c.w = .ok () w') :
    (execOp a.eval o).run P c.w = .ok .skip w' := by
  simp [execOp, ho, hx, Instr.storeAt, Instr.sureAddr, h]

def evStoreP (σ : List AObj) (k : Option (Bool × Nat)) (l off : Nat) (vs : Option (List AV)) : AObj → R1
  | .cells cs => match k, vs with
    | some (_, n), some vs => .need (vs.length = n ∧ off + n ≤ cs.length ∧ vs.all oneC = true) (.to .any (so σ l (.cells (spl cs off vs))))
    | _, _ => .bad
  | _ => .bad
def evStoreR1 (σ1 : List AObj) (n l i j : Nat) (ds : List D) : AObj → R1
  | .row sz es => .need (i < es.length ∧ ds.length = n ∧ j + n ≤ sz) (.all es i fun e => .to .any (so σ1 l (.row sz (es.set i (spl e j ds)))))
  | _ => .bad
def evStoreR (k : Option (Bool × Nat)) (l sz i j : Nat) : Option (List D × List AObj) → R1
  | some (ds, σ1) => match k with
    | some (_, n) => .need (∃ es, ob σ1 l = .row sz es) (evStoreR1 σ1 n l i j ds (ob σ1 l))
    | none => .bad
  | none => .bad
def obind (σ : List AObj) : Option (List AV) → Option (List D × List AObj)
  | some vs => asDs σ vs
  | none => none
def evStore (P : Program) (σ : List AObj) (t : TypeId) (v : AV) : AV → R1
  | .ptr l off => evStoreP σ (tk P t) l off (cellsOf v) (ob σ l)
  | .rptr l sz i j => evStoreR (tk P t) l sz i j (obind σ (cellsOf v))
  | _ => .bad

theorem DRs_set {h : Snap} {sz : Nat} : ∀ {es : List (List D)} {i : Nat} {e' : List D} {vs us : List Value}, (∀ e ∈ es, e.length = sz) → i < es.length → e'.length = sz → DRs h es.flatten vs → DRs h e' us →
    DRs h (es.set i e').flatten (vs.take (i * sz) ++ us ++ vs.drop (i * sz + sz))
  | [], _, _, _, _, _, hi, _, _, _ => by simp at hi
  | e :: es, 0, e', vs, us, hs, _, he, r, k => by
    simp only [List.flatten_cons] at r
    have r2 := DRs_drop sz r
    rw [← hs e (by simp), List.drop_left, hs e (by simp)] at r2
    simp only [List.set_cons_zero, List.flatten_cons, Nat.zero_mul, List.take_zero, List.nil_append, Nat.zero_add]
    exact DRs_append k r2
  | e :: es, i + 1, e', vs, us, hs, hi, he, r, k => by
    simp only [List.flatten_cons] at r
    have hes := hs e (by simp)
    have r1 := DRs_take sz r
    rw [← hes, List.take_left, hes] at r1
    have r2 := DRs_drop sz r
    rw [← hes, List.drop_left, hes] at r2
    have ih := DRs_set (i := i) (fun x hx => hs x (by simp [hx])) (by simpa using hi) he r2 k
    simp only [List.set_cons_succ, List.flatten_cons]
    have := DRs_append r1 ih
    have e1 : vs.take sz ++ ((vs.drop sz).take (i * sz) ++ us ++ (vs.drop sz).drop (i * sz + sz)) = vs.take ((i + 1) * sz) ++ us ++ vs.drop ((i + 1) * sz + sz) := by
      rw [List.drop_drop, show (i + 1) * sz = sz + i * sz by rw [Nat.add_mul]; omega, show sz + (i * sz + sz) = sz + i * sz + sz by omega, List.take_add]
      simp
    rwa [e1] at this

theorem heap_same {w : World} {g : Nat} {cs : Array Value} : ∀ b, b ≠ g → (w.setRow g cs).heap[b]? = w.heap[b]? := fun b hb => setRow_other w g b cs hb

theorem evStore_ok (H : Holds c σ) (he : ARs c env a.tmps.toList) {t : TypeId} {x y : Operand} (ho : o.op = .store t x y) : (evStore P σ t (evO env y) (evO env x)).Ok P o a c σ := by
  have hx := evO_sound he x
  have hy := evO_sound he y
  generalize evO env x = p at hx
  generalize evO env y = q at hy
  cases p <;> simp only [evStore] <;> try trivial
  case ptr l off =>
    simp only [AR] at hx
    obtain ⟨_, hx⟩ := hx
    generalize hO : ob σ l = O
    cases O <;> simp only [evStoreP] <;> try trivial
    case cells cs =>
      generalize hk : tk P t = k
      generalize hv : cellsOf q = vs
      split
      · next b n vs =>
        rintro ⟨h1, h2, h3⟩
        have hl := ob_some hO (by simp)
        obtain ⟨us, ty, e1, e2⟩ := H.obj l _ hl
        have hc := cellsOf_sound hv hy
        have hlen := ARs_length hc
        have hlen2 := ARs_length e2
        have hone := ARs_one hc h3
        have hsz : (a.eval y).cells.size = n := by simp at hlen; omega
        have hrun := run_storeVar (P := P) hk (off := off) (v := a.eval y) e1 hsz (by simp at hlen2; omega) hone
        refine ⟨.skip, undef, c.at (c.w.setRow (c.ν l) (spl us.toList off (a.eval y).cells.toList).toArray), exec_store ho hx hrun, .inr ⟨rfl, rfl⟩, by simp [AR], ?_⟩
        rw [so_eq]
        refine Nxt.upd H hl (by trivial) _ heap_same (by simp) rfl rfl rfl ?_
        refine ⟨_, ty, setRow_heap _ _ _ _ _ _ e1, ?_⟩
        have := ARs.mono (c.le_at (c.w.setRow (c.ν l) (spl us.toList off (a.eval y).cells.toList).toArray)) _ (ARs_spl off e2 hc (by omega))
        simpa using this
      · trivial
  case rptr l sz i j =>
    simp only [AR] at hx
    obtain ⟨_, hx⟩ := hx
    generalize hv : cellsOf q = vs
    cases vs with
    | none => simp only [obind, evStoreR]; trivial
    | some vs =>
    generalize hd : obind σ (some vs) = r
    cases r with
    | none => simp only [evStoreR]; trivial
    | some r =>
      obtain ⟨ds, σ1⟩ := r
      simp only [evStoreR]
      generalize hk : tk P t = k
      cases k with
      | none => trivial
      | some k =>
        obtain ⟨b, n⟩ := k
        rintro ⟨es, hO⟩
        rw [hO]
        simp only [evStoreR1]
        rintro ⟨hi, hn, hj⟩
        refine ⟨es[i], by simp [hi], ?_⟩
        have hc := cellsOf_sound hv hy
        obtain ⟨c1, w1, n1, d1⟩ := asDs_sound H hc hd
        have hl := ob_some hO (by simp)
        have hlen := DRs_length d1
        have hvl := n1.le.ν l (by assumption)
        rcases n1.hold.obj l _ hl with ⟨rfl, _⟩ | hB
        · simp at hi
        · obtain ⟨cap, us, ty, h0, g1, g2, g3, g4, g5, g6⟩ := hB
          have hone := DRs_one d1
          have hsz : (a.eval y).cells.size = n := by simp at hlen; omega
          have hmul : i * sz + sz ≤ es.length * sz := by rw [← Nat.succ_mul]; exact Nat.mul_le_mul_right _ hi
          have hmul2 : es.length * sz ≤ cap * sz := Nat.mul_le_mul_right _ g2
          rw [← hvl] at hx
          have hrun := run_storeVar (P := P) hk (off := i * sz + j) (v := a.eval y) (w := c.w) (by rw [← w1]; exact g3) hsz (by omega) hone
          have hfin : Nxt c1 σ1 (c1.at (c1.w.setRow (c1.ν l) (spl us.toList (i * sz + j) (a.eval y).cells.toList).toArray)) (σ1.set l (.row sz (es.set i (spl es[i] j ds)))) := by
            refine Nxt.upd n1.hold hl ⟨_, _, _, g1, h0⟩ _ heap_same (by simp) rfl rfl rfl ?_
            have hlu : us.toList.length = cap * sz := by simpa using g4
            have hei : es[i].length = sz := g5 _ (List.getElem_mem hi)
            have hcl : (a.eval y).cells.toList.length = n := by simpa using hsz
            refine .inr ⟨cap, _, ty, h0, by simpa [Cf.at] using g1, by simpa using g2, setRow_heap _ _ _ _ _ _ g3, ?_, ?_, ?_⟩
            · simp [spl_length us.toList (i * sz + j) (a.eval y).cells.toList (by omega)]; exact g4
            · intro e he
              rcases List.mem_or_eq_of_mem_set he with q | q
              · exact g5 e q
              · subst q; rw [spl_length _ _ _ (by omega)]; exact hei
            · have hd : DRs c1.h es[i] ((us.toList.drop (i * sz)).take sz) := by
                have hsplit : es.flatten = (es.take i).flatten ++ (es[i] ++ (es.drop (i + 1)).flatten) := by
                  have e1 : es = es.take i ++ es[i] :: es.drop (i + 1) := by simp
                  exact (congrArg List.flatten e1).trans (by rw [List.flatten_append, List.flatten_cons])
                have hpre : (es.take i).flatten.length = i * sz := by
                  rw [flatten_len fun e he => g5 e (List.mem_of_mem_take he), List.length_take, Nat.min_eq_left (Nat.le_of_lt hi)]
                have h6 := g6
                rw [hsplit] at h6
                have h7 := DRs_drop (i * sz) h6
                rw [← hpre, List.drop_left, hpre] at h7
                have h8 := DRs_take sz h7
                rw [← hei, List.take_left, hei] at h8
                have : ((us.toList.take (es.length * sz)).drop (i * sz)).take sz = (us.toList.drop (i * sz)).take sz := by
                  rw [List.drop_take, List.take_take, Nat.min_eq_left (by omega)]
                rwa [this] at h8
              have hd2 := DRs_spl j hd d1 (by simp; omega)
              have := DRs_set (i := i) g5 hi (e' := spl es[i] j ds) (by rw [spl_length _ _ _ (by omega)]; exact hei) g6 hd2
              have e2 : (us.toList.take (es.length * sz)).take (i * sz) ++ spl ((us.toList.drop (i * sz)).take sz) j (a.eval y).cells.toList ++ (us.toList.take (es.length * sz)).drop (i * sz + sz) =
                  (spl us.toList (i * sz + j) (a.eval y).cells.toList).toArray.toList.take ((es.set i (spl es[i] j ds)).length * sz) := by
                simp only [List.length_set]
                exact spl_seg us.toList (a.eval y).cells.toList (i * sz) sz (es.length * sz) j hmul (by omega) (by omega)
              rw [e2] at this
              exact this
          refine ⟨.skip, undef, c1.at (c1.w.setRow (c1.ν l) (spl us.toList (i * sz + j) (a.eval y).cells.toList).toArray), exec_store ho hx (by rw [hrun]; simp [Cf.at, w1]), .inr ⟨rfl, rfl⟩, by simp [AR], ?_⟩
          rw [so_eq]
          exact n1.trans hfin
end
end Go.AX

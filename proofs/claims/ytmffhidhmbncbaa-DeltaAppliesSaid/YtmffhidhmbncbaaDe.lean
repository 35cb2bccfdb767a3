/- Deltas: what applying one gives. -/
import Derived.Test.YtmffhidhmbncbaaDd
set_option maxHeartbeats 1000000
set_option linter.unusedVariables false
set_option linter.unusedSimpArgs false
set_option maxRecDepth 20000
namespace Go.AX.De
open Go.Proofs Go.RowKit Go.IntWalk
/-- what a part puts out -/
def put (base : List Int) (p : Part) : List Int := if copies p then (base.drop p.at'.toNat).take p.n.toNat else p.data
def outs (base : List Int) : List Part → List Int
  | [] => []
  | p :: l => put base p ++ outs base l
def applied (base : List Int) (l : List Part) : List Int × Int :=
  if 2000 < base.length then ([], 4) else if check l base.length ≠ 0 then ([], check l base.length) else if 2000 < (outs base l).length then ([], 4) else (outs base l, 0)
theorem outs_snoc (base : List Int) (x : Part) : ∀ l : List Part, outs base (l ++ [x]) = outs base l ++ put base x
  | [] => by simp [outs]
  | p :: l => by simp only [List.cons_append, outs, outs_snoc base x l, List.append_assoc]
theorem outs_take {base : List Int} {l : List Part} {i : Nat} {x : Part} (h : l[i]? = some x) : outs base (l.take (i + 1)) = outs base (l.take i) ++ put base x := by
  rw [List.take_add_one, h]; exact outs_snoc base x _
theorem outs_append (base : List Int) : ∀ a b : List Part, outs base (a ++ b) = outs base a ++ outs base b
  | [], b => rfl
  | p :: a, b => by simp only [List.cons_append, outs, outs_append base a b, List.append_assoc]
theorem outs_le (base : List Int) (l : List Part) (i : Nat) : (outs base (l.take i)).length ≤ (outs base l).length := by
  have := outs_append base (l.take i) (l.drop i)
  rw [List.take_append_drop] at this
  rw [this, List.length_append]; omega
theorem check_valid {l : List Part} {b : Int} (h : check l b = 0) : valid l = 0 := by
  simp only [check] at h
  split at h
  · omega
  · next q => simpa using q
theorem check_fits {l : List Part} {b : Int} (h : check l b = 0) : ∀ p ∈ l, p.n = 0 ∨ p.at' + p.n ≤ b := fun p hp => by
  have hv := check_valid h
  have hr := part_range (valid_parts hv p hp)
  simp only [check, hv] at h
  split at h
  · omega
  · split at h
    · omega
    · next q =>
      simp only [Bool.not_eq_true, List.any_eq_false] at q
      have := q p hp
      simp [over] at this
      omega
theorem apply_ref (base : List Int) (l : List Part) (hb : Sm base.length) (hl : Sm l.length) : Spec Try.prog 13 [.d (.sl (base.map bI)), .d (.sl (l.map pD))] [] (.tup [.d (.sl ((applied base l).1.map bI)), .d (.int .i64 (applied base l).2)]) [] := by
  have hl' := hl
  unfold Sm at hl hb
  refine spec_of_ev (fn := Try.f13) DX_ok 3000 Try.func13 rfl rfl (Nat.le_of_ble_eq_true rfl) ?_
  simp only [Try.f13, go_sem]
  refine cbs (fun h0 => ?_) (fun h0 => ?_)
  · simp only [go_sem, Nat.reduceAdd, Nat.reduceSub, Nat.reduceLT, Nat.reduceLeDiff, Nat.reduceEqDiff, ↓reduceIte]
    simp only [decide_eq_true_eq] at h0
    refine wk_dat (r' := .tup [.d (.sl []), .d (.int .i64 4)]) (by simp only [go_sem]; rfl) ?_ (by simp only [go_sem])
    have : applied base l = ([], 4) := by simp only [applied]; rw [if_pos (by omega)]
    rw [this]; rfl
  simp only [go_sem, Nat.reduceAdd, Nat.reduceSub, Nat.reduceLT, Nat.reduceLeDiff, Nat.reduceEqDiff, ↓reduceIte]
  simp only [decide_eq_false_iff_not] at h0
  refine ecall0 _ (check_ref l _ hl') (by simp only [go_sem]) trivial ?_
  simp only [go_sem, Nat.reduceAdd, Nat.reduceSub, Nat.reduceLT, Nat.reduceLeDiff, Nat.reduceEqDiff, ↓reduceIte]
  refine cbs (fun h1 => ?_) (fun h1 => ?_)
  · simp only [go_sem, Nat.reduceAdd, Nat.reduceSub, Nat.reduceLT, Nat.reduceLeDiff, Nat.reduceEqDiff, ↓reduceIte]
    refine ecall0 _ (check_ref l _ hl') (by simp only [go_sem]) trivial ?_
    simp only [go_sem, Nat.reduceAdd, Nat.reduceSub, Nat.reduceLT, Nat.reduceLeDiff, Nat.reduceEqDiff, ↓reduceIte]
    simp only [bne_iff_ne, ne_eq] at h1
    refine wk_dat (r' := .tup [.d (.sl []), .d (.int .i64 (check l base.length))]) (by simp only [go_sem]; rfl) ?_ (by simp only [go_sem])
    have : applied base l = ([], check l base.length) := by simp only [applied]; rw [if_neg (by omega), if_pos h1]
    rw [this]; rfl
  simp only [go_sem, Nat.reduceAdd, Nat.reduceSub, Nat.reduceLT, Nat.reduceLeDiff, Nat.reduceEqDiff, ↓reduceIte]
  simp only [bne_eq_false_iff_eq] at h1
  have hv := check_valid h1
  have hf := check_fits h1
  refine eloop (S := Nat) (fun i => mkE 67 [(0, .d (.sl (base.map bI))), (1, .d (.sl (l.map pD))), (6, .own 0), (7, .d (.int .i64 i))]) (fun i => [.row 1 ((outs base (l.take i)).map bI)]) (fun i => i ≤ l.length ∧ (outs base (l.take i)).length ≤ 4000) (fun i => l.length - i) 0 ⟨by omega, by simp [outs]⟩ ?_ ?_
  · refine Wk.trans (Wk.nil 6 1 (by simp only [go_sem])) ?_
    simp only [go_sem, Nat.reduceAdd, Nat.reduceSub, Nat.reduceLT, Nat.reduceLeDiff, Nat.reduceEqDiff, ↓reduceIte]
    exact Wk.sub (by simp only [go_sem]; trivial)
  rintro i ⟨hi, ho⟩
  simp only [go_sem, Nat.reduceAdd, Nat.reduceSub, Nat.reduceLT, Nat.reduceLeDiff, Nat.reduceEqDiff, ↓reduceIte]
  -- at the end
  have fin : ∀ i, (outs base (l.take i)).length ≤ 4000 → (2000 < (outs base (l.take i)).length ∨ l.length ≤ i) → (if 2000 < (outs base (l.take i)).length then ([], 4) else (outs base (l.take i), 0)) = applied base l := fun i hb h => by
    have hle := outs_le base l i
    have e : applied base l = if 2000 < (outs base l).length then ([], 4) else (outs base l, 0) := by
      simp only [applied]; rw [if_neg (by omega)]; simp [h1]
    rw [e]
    rcases h with h | h
    · rw [if_pos h, if_pos (by omega)]
    · rw [List.take_of_length_le h]
  have done : ∀ (v : Bool), (2000 < (outs base (l.take i)).length ∨ l.length ≤ i) → v = decide (2000 < ((outs base (l.take i)).length : Int)) → (if v = true then ([], 4) else (outs base (l.take i), 0)) = applied base l := fun v h hv => by
    rw [← fin i ho h, hv]
    by_cases q : 2000 < (outs base (l.take i)).length
    · rw [if_pos (by simp; omega), if_pos q]
    · rw [if_neg (by simp; omega), if_neg q]
  refine gbs (fun h2 => ?_) (fun h2 => ?_)
  · simp only [go_sem, Nat.reduceAdd, Nat.reduceSub, Nat.reduceLT, Nat.reduceLeDiff, Nat.reduceEqDiff, ↓reduceIte]
    refine cbs (fun h3 => ?_) (fun h3 => ?_)
    · simp only [decide_eq_true_eq, List.length_map] at h2 h3
      simp only [go_sem, Nat.reduceAdd, Nat.reduceSub, Nat.reduceLT, Nat.reduceLeDiff, Nat.reduceEqDiff, ↓reduceIte]
      refine ⟨by omega, fun x hx => ?_⟩
      have hx' := List.mem_of_getElem? hx
      have hr := part_range (valid_parts hv x hx')
      have hfx := hf x hx'
      refine ecall0 _ (copies_ref x) (by simp only [go_sem]) trivial ?_
      simp only [go_sem, Nat.reduceAdd, Nat.reduceSub, Nat.reduceLT, Nat.reduceLeDiff, Nat.reduceEqDiff, ↓reduceIte]
      refine cbs (fun h4 => ?_) (fun h4 => ?_)
      · simp only [go_sem, Nat.reduceAdd, Nat.reduceSub, Nat.reduceLT, Nat.reduceLeDiff, Nat.reduceEqDiff, ↓reduceIte]
        have hn : x.at' + x.n ≤ base.length := by simp only [copies, decide_eq_true_eq] at h4; omega
        refine DX.plain (.take 0 false (.take 1 false (.take 2 false (.take 3 false (.take 4 false (.take 5 false (.take 6 false (.take 7 false (.take 8 false (.take 9 false (.take 10 false (.take 11 false (.take 12 false (.take 13 false (.take 14 false (.take 15 false (.take 16 false (.take 17 false (.take 18 false (.run [19] (fun _ => []) fun _ => (.take 20 false .done))))))))))))))))))))) (by kernel_rfl) (by kernel_rfl) Ty.mixed ?_
        simp only [go_sem, Nat.reduceAdd, Nat.reduceSub, Nat.reduceLT, Nat.reduceLeDiff, Nat.reduceEqDiff, ↓reduceIte]
        simp only [hx, Option.some.injEq]
        refine ⟨by omega, by omega, ?_⟩
        rintro y rfl
        refine ⟨by omega, by omega, ?_⟩
        rintro y rfl
        refine ⟨by omega, by omega, ?_⟩
        rintro y rfl
        rw [i64_in (x.at' + x.n) (by omega), i64_in _ (by omega)]
        have e : put base x = (base.take (x.at' + x.n).toNat).drop x.at'.toNat := by
          simp only [put, h4, if_true]
          rw [List.drop_take]
          congr 1; omega
        have hd : (put base x).length ≤ 2000 := by rw [e]; simp; omega
        rw [← e]
        refine ⟨by omega, ⟨by omega, by omega⟩, ?_⟩
        rw [← outs_take hx]
        exact .mk (i + 1) ⟨by omega, by rw [outs_take hx, List.length_append]; omega⟩ (by omega) (Wk.via1 1 (by simp only [go_sem, ↓reduceIte]; trivial) (by simp only [go_sem, Nat.reduceAdd, Nat.reduceSub, Nat.reduceLT, Nat.reduceLeDiff, Nat.reduceEqDiff, ↓reduceIte]) (by simp) (by simp only [go_sem]) (by trivial))
      · simp only [go_sem, Nat.reduceAdd, Nat.reduceSub, Nat.reduceLT, Nat.reduceLeDiff, Nat.reduceEqDiff, ↓reduceIte]
        refine ⟨by omega, fun y hy => ?_⟩
        rw [hx] at hy; cases hy
        have e : put base x = x.data := by simp [put, h4]
        have hd : x.data.length ≤ 2000 := by
          have := (valid_parts hv x hx').resolve_left (by simp [h4])
          simp only [inserts, decide_eq_true_eq] at this; omega
        refine ⟨⟨by omega, by omega⟩, ?_⟩
        rw [i64_in _ (by omega), ← e, ← outs_take hx]
        exact .mk (i + 1) ⟨by omega, by rw [outs_take hx, List.length_append, e]; omega⟩ (by omega) (Wk.via1 1 (by simp only [go_sem, ↓reduceIte]; trivial) (by simp only [go_sem, Nat.reduceAdd, Nat.reduceSub, Nat.reduceLT, Nat.reduceLeDiff, Nat.reduceEqDiff, ↓reduceIte]) (by simp) (by simp only [go_sem]) (by trivial))
    · simp only [decide_eq_false_iff_not, List.length_map] at h3
      simp only [go_sem, Nat.reduceAdd, Nat.reduceSub, Nat.reduceLT, Nat.reduceLeDiff, Nat.reduceEqDiff, ↓reduceIte]
      refine cbs (fun h4 => ?_) (fun h4 => ?_)
      · simp only [go_sem, Nat.reduceAdd, Nat.reduceSub, Nat.reduceLT, Nat.reduceLeDiff, Nat.reduceEqDiff, ↓reduceIte]
        refine wk_dat (r' := .tup [.d (.sl []), .d (.int .i64 4)]) (by simp only [go_sem]; rfl) ?_ (by simp only [go_sem])
        rw [← done true (by omega) (by rw [← h4])]; rfl
      · simp only [go_sem, Nat.reduceAdd, Nat.reduceSub, Nat.reduceLT, Nat.reduceLeDiff, Nat.reduceEqDiff, ↓reduceIte]
        exfalso
        simp at h4; omega
  · simp only [go_sem, Nat.reduceAdd, Nat.reduceSub, Nat.reduceLT, Nat.reduceLeDiff, Nat.reduceEqDiff, ↓reduceIte]
    simp only [decide_eq_false_iff_not] at h2
    refine cbs (fun h4 => ?_) (fun h4 => ?_)
    · simp only [go_sem, Nat.reduceAdd, Nat.reduceSub, Nat.reduceLT, Nat.reduceLeDiff, Nat.reduceEqDiff, ↓reduceIte]
      refine wk_dat (r' := .tup [.d (.sl []), .d (.int .i64 4)]) (by simp only [go_sem]; rfl) ?_ (by simp only [go_sem])
      rw [← done true (by omega) (by rw [← h4])]; rfl
    · simp only [go_sem, Nat.reduceAdd, Nat.reduceSub, Nat.reduceLT, Nat.reduceLeDiff, Nat.reduceEqDiff, ↓reduceIte]
      refine wk_dat (r' := .tup [.d (.sl ((outs base (l.take i)).map bI)), .d (.int .i64 0)]) (by simp only [go_sem]; rfl) ?_ (by simp only [go_sem])
      rw [← done false (by omega) (by rw [← h4])]; rfl
end Go.AX.De

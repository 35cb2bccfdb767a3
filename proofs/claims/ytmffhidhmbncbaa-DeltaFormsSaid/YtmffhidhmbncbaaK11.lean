/- What is known of blocks: a row in a cell, as data; operations, none left. -/
import Derived.Test.YtmffhidhmbncbaaK10
set_option maxHeartbeats 8000000
set_option linter.unusedVariables false
set_option linter.unusedSimpArgs false
set_option maxRecDepth 20000
namespace Go.AX
open Go.Proofs Go.RowKit
theorem EvS.none {Γ : Ctx} {all : Array Oper} {k : List It} {env : List AV} {σ : List AObj} (h : EvS Γ k env σ) : EvS Γ (.ops [] all :: k) env σ := fun c0 σ0 Q0 hn hQ hY c a G => by
  have := h c0 σ0 Q0 hn hQ hY c a G
  simp only [SemK]
  simpa only [wpListIn] using this
theorem Wk.frzC {n0 : Nat} {xs : List AV} {σ : List AObj} (l j k : Nat) {sz : Nat} {cs : List AV} {es : List (List D)} (hl : ob σ l = .cells cs) (hj : lk cs j = .own k) (hk : ob σ k = .row sz es) (hne : k ≠ l) :
    Wk n0 xs σ (sbs k (.sl es) xs) (so (so σ k .gone) l (.cells (st cs j (.d (.sl es))))) := Wk.ofNxt fun c vs H r => by
  have hs := ob_some hl (by simp)
  have hks := ob_some hk (by simp)
  obtain ⟨ws, ty, e1, e2⟩ := H.obj l _ hs
  have hj2 : cs[j]? = some (.own k) := by
    rw [lk_eq] at hj
    cases q : cs[j]? with
    | none => rw [q] at hj; simp at hj
    | some x => rw [q] at hj; simp at hj; rw [hj]
  obtain ⟨v, hv, ha⟩ := ARs_get e2 j hj2
  have hls : (σ.set k .gone)[l]? = some (.cells cs) := by rw [List.getElem?_set_ne hne]; exact hs
  rw [so_eq, so_eq]
  rcases H.obj k _ hks with ⟨rfl, A, e⟩ | hb
  · have N := Nxt.drop H k
    have hd : ∀ v, AR c (.own k) v → DR c.h (.sl []) v := fun v hv => by
      simp only [AR] at hv
      rw [hv.2.1, e]; simp only [DR]
      exact ⟨A, 0, 0, rfl, Nat.le_refl _, fun h => absurd rfl h, by simp, by simp [DRows]⟩
    have M := Nxt.upd N.hold (l := l) (o := .cells cs) (o' := .cells (st cs j (.d (.sl [])))) hls trivial c.w (fun _ _ => rfl) rfl rfl rfl rfl ⟨ws, ty, e1, ARs_st_same (ARs.mono (Cf.le_at _ _) _ e2) j hv (by simp only [AR]; exact hd v ha)⟩
    exact ⟨c.at c.w, rfl, N.trans M, ARs.mono M.le _ (ARs_sb (.refl c) hd xs r)⟩
  · have hb' := hb
    obtain ⟨cap, us, ty', h0, h1, _⟩ := hb'
    have hh : Has c k (.row sz es) := ⟨_, _, _, h1, h0⟩
    have N := Nxt.froze H hks hh
    have hd0 := hb.data H.snap
    have hd : ∀ v, AR c (.own k) v → DR (c.froze (c.ν k)).h (.sl es) v := fun v hv => by
      simp only [AR] at hv
      rw [hv.2.1]; exact hd0
    have M := Nxt.upd N.hold (l := l) (o := .cells cs) (o' := .cells (st cs j (.d (.sl es)))) hls trivial (c.froze (c.ν k)).w (fun _ _ => rfl) rfl rfl rfl rfl ⟨ws, ty, e1, ARs_st_same (ARs.mono (N.le.trans (Cf.le_at _ _)) _ e2) j hv (by simp only [AR]; exact hd v ha)⟩
    exact ⟨(c.froze (c.ν k)).at (c.froze (c.ν k)).w, rfl, N.trans M, ARs.mono M.le _ (ARs_sb N.le hd xs r)⟩
theorem ECall.frzC {Γ : Ctx} {E : List AV → List AObj → Prop} {dst : Option Tmp} {f : FuncId} {env args : List AV} {σ : List AObj} (l j k : Nat) {sz : Nat} {cs : List AV} {es : List (List D)} (hl : ob σ l = .cells cs) (hj : lk cs j = .own k) (hk : ob σ k = .row sz es) (hne : k ≠ l)
    (h : ECall Γ E dst f (sbs k (.sl es) env) (sbs k (.sl es) args) (so (so σ k .gone) l (.cells (st cs j (.d (.sl es)))))) : ECall Γ E dst f env args σ :=
  .wk (sbs_length _ _ _) (by rw [← sbs_append]; exact Wk.frzC l j k hl hj hk hne) h
end Go.AX
/- Deltas as values: Encode. -/
set_option maxHeartbeats 8000000
set_option linter.unusedVariables false
set_option linter.unusedSimpArgs false
set_option maxRecDepth 20000
namespace Go.AX.De
open Go.Proofs Go.RowKit Go.IntWalk
open Go.AX.Co (Vl vD vDs vDs_eq vA bY FitW encP encode_own encode_ref vD_len number_spec text_spec list_spec decP decode_own decode_ref)
def num (n : Int) : Vl := .mk 1 n [] []
/-- a part as a value -/
def pV (p : Part) : Vl := if 0 < p.n then .mk 3 0 [] [num p.at', num p.n] else .mk 2 0 p.data []
def pVs (l : List Part) : Vl := .mk 3 0 [] (l.map pV)
def encD (l : List Part) : List Int × Int := if valid l ≠ 0 then ([], valid l) else encP (pVs l)
theorem bI_bY : bI = bY := rfl
theorem fit_pV {p : Part} (h : copies p = true ∨ inserts p = true) : FitW (pV p) := by
  have hr := part_range h
  unfold pV
  by_cases q : 0 < p.n
  · rw [if_pos q]
    refine .mk _ _ _ _ (by omega) (by simp) (by simp) fun x hx => ?_
    simp only [List.mem_cons, List.not_mem_nil, or_false] at hx
    rcases hx with rfl | rfl
    · exact .mk _ _ _ _ (by omega) (by simp) (by simp) (by simp)
    · exact .mk _ _ _ _ (by omega) (by simp) (by simp) (by simp)
  · rw [if_neg q]
    have : p.data.length ≤ 2000 := by
      rcases h with h | h
      · unfold copies at h; rw [decide_eq_true_eq] at h; omega
      · unfold inserts at h; rw [decide_eq_true_eq] at h; omega
    exact .mk _ _ _ _ (by omega) (by omega) (by simp) (by simp)
theorem valid_len {l : List Part} (h : valid l = 0) : l.length ≤ 200 := by
  unfold valid at h
  split at h
  · omega
  · omega
theorem fit_pVs {l : List Part} (h : valid l = 0) : FitW (pVs l) := by
  have hl := valid_len h
  refine .mk _ _ _ _ (by omega) (by simp) (by rw [List.length_map]; omega) fun x hx => ?_
  obtain ⟨p, hp, rfl⟩ := List.mem_map.1 hx
  exact fit_pV (valid_parts h p hp)
theorem deltaNumber_own (n : Int) (h : -9223372036854775808 ≤ n ∧ n ≤ 9223372036854775807) : Spec Try.prog 36 [.d (.int .i64 n)] [] (vA (num n)) [] := by
  have w : IntKind.i64.wrap n = n := i64_in _ h
  refine spec_of_ev (fn := Try.f36) DX_ok 3000 Try.func36 rfl rfl (Nat.le_of_ble_eq_true rfl) ?_
  simp (maxSteps := 4000000) -implicitDefEqProofs only [Try.f36, go_sem]
  simp (maxSteps := 4000000) -implicitDefEqProofs only [go_sem, w, Option.some.injEq, forall_eq', and_true, true_and, Bool.not_true, Bool.not_false, decide_true, Nat.reduceAdd, Nat.reduceSub, Nat.reduceLT, Nat.reduceLeDiff, Nat.reduceEqDiff, ↓reduceIte]
  exact wk_dat (by simp only [go_sem]; rfl) (by simp only [num, vA, List.map_nil]) (by simp only [go_sem, num, vA, List.map_nil])
theorem deltaEncode_own (l : List Part) (hl : Sm l.length) : Spec Try.prog 21 [.d (.sl (l.map pD))] [] (.tup [.d (.sl ((encD l).1.map bY)), .d (.int .i64 (encD l).2)]) [] := by
  have c1 := valid_own l hl
  generalize hR : encD l = R
  unfold encD at hR
  have hf := fit_pVs (l := l)
  have hv := valid_parts (l := l)
  have hn := valid_len (l := l)
  have c2 := fun h => encode_own (pVs l) (hf h)
  generalize valid l = V at c1 hR hf hv hn c2
  generalize encP (pVs l) = E at c2 hR
  unfold pVs at c2
  simp only [vA, List.map_nil] at c2
  refine spec_of_ev (fn := Try.f21) DX_ok 3000 Try.func21 rfl rfl (Nat.le_of_ble_eq_true rfl) ?_
  simp (maxSteps := 4000000) -implicitDefEqProofs only [Try.f21, go_sem]
  refine .all _ _ (c1.lift0 _ (by simp only [go_sem]) (by simp only [go_sem])) ?_
  by_cases h0 : V = 0
  case neg =>
    have z1 : (V != 0) = true := by simp [h0]
    rw [if_pos h0] at hR
    subst hR
    simp (maxSteps := 4000000) -implicitDefEqProofs only [go_sem, z1, Option.some.injEq, forall_eq', and_true, true_and, Bool.not_true, Bool.not_false, decide_true, Nat.reduceAdd, Nat.reduceSub, Nat.reduceLT, Nat.reduceLeDiff, Nat.reduceEqDiff, ↓reduceIte]
    exact wk_dat (by simp only [go_sem]; rfl) (by rfl) (by simp only [go_sem])
  have z1 : (V != 0) = false := by simp [h0]
  rw [if_neg (fun h => h h0)] at hR
  subst hR
  have hv := hv h0
  have hn := hn h0
  have c2 := c2 h0
  clear hf c1
  simp (maxSteps := 4000000) -implicitDefEqProofs only [go_sem, z1, Option.some.injEq, forall_eq', and_true, true_and, Bool.not_true, Bool.not_false, decide_true, Nat.reduceAdd, Nat.reduceSub, Nat.reduceLT, Nat.reduceLeDiff, Nat.reduceEqDiff, ↓reduceIte]
  refine eloop (S := Nat) (fun i => mkE 46 [(5, .ptr 0 0), (15, .d (.sl (l.map pD))), (16, .d (.int .i64 l.length)), (17, .d (.int .i64 i))]) (fun i => [.cells [.d (.int .u8 3), .d (.int .i64 0), .nil, .own 1], .row 4 (((l.take i).map pV).map vD)])
    (fun i => i ≤ l.length) (fun i => l.length - i) 0 (by omega) (Wk.trans (Wk.nilC 0 3 4 rfl rfl) (Wk.sub (by (simp only [go_sem]) <;> trivial))) ?_
  intro i h1
  rcases Nat.lt_or_ge i l.length with hi | hi
  case inr =>
    have f1 : decide ((i : Int) < l.length) = false := by simp; omega
    rw [List.take_of_length_le hi]
    simp (maxSteps := 4000000) -implicitDefEqProofs only [go_sem, f1, Option.some.injEq, forall_eq', and_true, true_and, Bool.not_true, Bool.not_false, decide_true, Nat.reduceAdd, Nat.reduceSub, Nat.reduceLT, Nat.reduceLeDiff, Nat.reduceEqDiff, ↓reduceIte]
    refine ECall.dat (by simp only [go_sem]; rfl) (by rfl) ?_
    refine .all _ _ (c2.lift0 _ (by simp only [go_sem]) (by simp only [go_sem])) ?_
    simp (maxSteps := 4000000) -implicitDefEqProofs only [go_sem, Nat.reduceAdd, Nat.reduceSub, Nat.reduceLT, Nat.reduceLeDiff, Nat.reduceEqDiff, ↓reduceIte]
    exact wk_dat (by simp only [go_sem]; rfl) (by rfl) (by simp only [go_sem])
  have f1 : decide ((i : Int) < l.length) = true := by simp; omega
  obtain ⟨p, hpi⟩ : ∃ x, l[i]? = some x := ⟨l[i]'hi, List.getElem?_eq_getElem _⟩
  have hpm := hv p (List.mem_of_getElem? hpi)
  have hr := part_range hpm
  have n1 : (0 ≤ (i : Int) ∧ (i : Int) < l.length) = True := eq_true (by omega)
  have n2 : (i < l.length) = True := eq_true hi
  have w1 : IntKind.i64.wrap ((i : Int) + 1) = ((i + 1 : Nat) : Int) := by rw [i64_in _ (by omega)]; simp
  have htk : l.take (i + 1) = l.take i ++ [p] := by rw [List.take_add_one, hpi]; rfl
  have hlt : (l.take i).length ≤ 200 := by rw [List.length_take]; omega
  by_cases hq : 0 < p.n
  · have d1 : decide (0 < p.n) = true := decide_eq_true hq
    have c3 := deltaNumber_own p.at' (by omega)
    have c4 := deltaNumber_own p.n (by omega)
    have hvd : (((l.take i).map pV).map vD ++ [[.int .u8 3, .int .i64 0, .sl [], .sl [[.int .u8 1, .int .i64 p.at', .sl [], .sl []], [.int .u8 1, .int .i64 p.n, .sl [], .sl []]]]] : List (List D)) = ((l.take (i + 1)).map pV).map vD := by
      rw [htk, List.map_append, List.map_append]
      simp only [List.map_cons, List.map_nil, pV, if_pos hq, num, vD, vDs]
    simp only [num, vA, List.map_nil] at c3 c4
    simp (maxSteps := 4000000) -implicitDefEqProofs only [go_sem, f1, n1, n2, hpi, d1, Option.some.injEq, forall_eq', and_true, true_and, Bool.not_true, Bool.not_false, decide_true, Nat.reduceAdd, Nat.reduceSub, Nat.reduceLT, Nat.reduceLeDiff, Nat.reduceEqDiff, ↓reduceIte]
    refine DX.plain (.take 0 false (.take 1 false (.take 2 false (.take 3 false (.take 4 false (.take 5 false (.run [6] (fun _ => []) fun _ => (.take 7 false (.run [8] (fun _ => []) fun _ => .done))))))))) (by kernel_rfl) (by kernel_rfl) Ty.mixed ?_
    simp (maxSteps := 4000000) -implicitDefEqProofs only [go_sem, hq, Option.some.injEq, forall_eq', and_true, true_and, Bool.not_true, Bool.not_false, decide_true, Nat.reduceAdd, Nat.reduceSub, Nat.reduceLT, Nat.reduceLeDiff, Nat.reduceEqDiff, ↓reduceIte]
    refine ⟨_, _, c3.lift0 _ (by simp only [go_sem]) (by simp only [go_sem]), rfl, ?_⟩
    refine ⟨_, _, c4.lift0 _ (by simp only [go_sem]) (by simp only [go_sem]), rfl, ?_⟩
    simp (maxSteps := 4000000) -implicitDefEqProofs only [go_sem, w1, Option.some.injEq, forall_eq', and_true, true_and, Bool.not_true, Bool.not_false, decide_true, Nat.reduceAdd, Nat.reduceSub, Nat.reduceLT, Nat.reduceLeDiff, Nat.reduceEqDiff, ↓reduceIte]
    refine ⟨by decide, by decide, ⟨fun e he => by simp at he; subst he; rfl, by omega, by omega⟩, ?_⟩
    exact .mk (i + 1) (by omega) (by omega) (by rw [hvd]; exact (Wk.via [0, 6] (by (simp only [go_sem, ↓reduceIte]) <;> trivial) (by first | (simp (maxSteps := 4000000) -implicitDefEqProofs only [go_sem, Nat.reduceAdd, Nat.reduceSub, Nat.reduceLT, Nat.reduceLeDiff, Nat.reduceEqDiff, ↓reduceIte]; done) | ((simp (maxSteps := 4000000) -implicitDefEqProofs only [go_sem, Nat.reduceAdd, Nat.reduceSub, Nat.reduceLT, Nat.reduceLeDiff, Nat.reduceEqDiff, ↓reduceIte]) <;> omega)) (by simp) (by first | (simp; done) | (simp [so]; done)) (by (simp (maxSteps := 4000000) -implicitDefEqProofs only [go_sem, Nat.reduceAdd, Nat.reduceSub, Nat.reduceLT, Nat.reduceLeDiff, Nat.reduceEqDiff, ↓reduceIte]) <;> trivial) (by first | (simp only [go_sem]; done) | ((simp (maxSteps := 4000000) -implicitDefEqProofs only [go_sem, Nat.reduceAdd, Nat.reduceSub, Nat.reduceLT, Nat.reduceLeDiff, Nat.reduceEqDiff, ↓reduceIte]) <;> omega)) (Nat.zero_le _) (fun i h => absurd h (Nat.not_lt_zero i))))
  · have d1 : decide (0 < p.n) = false := decide_eq_false hq
    have hvd : (((l.take i).map pV).map vD ++ [[.int .u8 2, .int .i64 0, .sl (p.data.map bI), .sl []]] : List (List D)) = ((l.take (i + 1)).map pV).map vD := by
      rw [htk, List.map_append, List.map_append]
      simp only [List.map_cons, List.map_nil, pV, if_neg hq, num, vD, vDs, bI_bY]
    simp (maxSteps := 4000000) -implicitDefEqProofs only [go_sem, f1, n1, n2, hpi, d1, w1, Option.some.injEq, forall_eq', and_true, true_and, Bool.not_true, Bool.not_false, decide_true, Nat.reduceAdd, Nat.reduceSub, Nat.reduceLT, Nat.reduceLeDiff, Nat.reduceEqDiff, ↓reduceIte]
    refine ⟨by decide, ⟨fun e he => by simp at he; subst he; rfl, by omega, by omega⟩, ?_⟩
    exact .mk (i + 1) (by omega) (by omega) (by rw [hvd]; exact (Wk.via [0, 5] (by (simp only [go_sem, ↓reduceIte]) <;> trivial) (by first | (simp (maxSteps := 4000000) -implicitDefEqProofs only [go_sem, Nat.reduceAdd, Nat.reduceSub, Nat.reduceLT, Nat.reduceLeDiff, Nat.reduceEqDiff, ↓reduceIte]; done) | ((simp (maxSteps := 4000000) -implicitDefEqProofs only [go_sem, Nat.reduceAdd, Nat.reduceSub, Nat.reduceLT, Nat.reduceLeDiff, Nat.reduceEqDiff, ↓reduceIte]) <;> omega)) (by simp) (by first | (simp; done) | (simp [so]; done)) (by (simp (maxSteps := 4000000) -implicitDefEqProofs only [go_sem, Nat.reduceAdd, Nat.reduceSub, Nat.reduceLT, Nat.reduceLeDiff, Nat.reduceEqDiff, ↓reduceIte]) <;> trivial) (by first | (simp only [go_sem]; done) | ((simp (maxSteps := 4000000) -implicitDefEqProofs only [go_sem, Nat.reduceAdd, Nat.reduceSub, Nat.reduceLT, Nat.reduceLeDiff, Nat.reduceEqDiff, ↓reduceIte]) <;> omega)) (Nat.zero_le _) (fun i h => absurd h (Nat.not_lt_zero i))))
theorem deltaEncode_ref (l : List Part) (hl : Sm l.length) : Spec Try.prog 22 [.d (.sl (l.map pD))] [] (.tup [.d (.sl ((encD l).1.map bY)), .d (.int .i64 (encD l).2)]) [] := by
  have c1 := valid_ref l hl
  generalize hR : encD l = R
  unfold encD at hR
  have hf := fit_pVs (l := l)
  have hv := valid_parts (l := l)
  have hn := valid_len (l := l)
  have c2 := fun h => encode_ref (pVs l) (hf h)
  have c5 := list_spec (l.map pV)
  generalize valid l = V at c1 hR hf hv hn c2
  generalize encP (pVs l) = E at c2 hR
  unfold pVs at c2
  simp only [vA, List.map_nil] at c2 c5
  refine spec_of_ev (fn := Try.f22) DX_ok 3000 Try.func22 rfl rfl (Nat.le_of_ble_eq_true rfl) ?_
  simp (maxSteps := 4000000) -implicitDefEqProofs only [Try.f22, go_sem]
  refine .all _ _ (c1.lift0 _ (by simp only [go_sem]) (by simp only [go_sem])) ?_
  by_cases h0 : V = 0
  case neg =>
    have z1 : (V != 0) = true := by simp [h0]
    rw [if_pos h0] at hR
    subst hR
    simp (maxSteps := 4000000) -implicitDefEqProofs only [go_sem, z1, Option.some.injEq, forall_eq', and_true, true_and, Bool.not_true, Bool.not_false, decide_true, Nat.reduceAdd, Nat.reduceSub, Nat.reduceLT, Nat.reduceLeDiff, Nat.reduceEqDiff, ↓reduceIte]
    refine .all _ _ (c1.lift0 _ (by simp only [go_sem]) (by simp only [go_sem])) ?_
    simp (maxSteps := 4000000) -implicitDefEqProofs only [go_sem, Nat.reduceAdd, Nat.reduceSub, Nat.reduceLT, Nat.reduceLeDiff, Nat.reduceEqDiff, ↓reduceIte]
    exact wk_dat (by simp only [go_sem]; rfl) (by rfl) (by simp only [go_sem])
  have z1 : (V != 0) = false := by simp [h0]
  rw [if_neg (fun h => h h0)] at hR
  subst hR
  have hv := hv h0
  have hn := hn h0
  have c2 := c2 h0
  clear hf c1
  simp (maxSteps := 4000000) -implicitDefEqProofs only [go_sem, z1, Option.some.injEq, forall_eq', and_true, true_and, Bool.not_true, Bool.not_false, decide_true, Nat.reduceAdd, Nat.reduceSub, Nat.reduceLT, Nat.reduceLeDiff, Nat.reduceEqDiff, ↓reduceIte]
  refine eloop (S := Nat) (fun i => mkE 53 [(0, .d (.sl (l.map pD))), (4, .own 0), (5, .d (.int .i64 i))]) (fun i => [.row 4 (((l.take i).map pV).map vD)])
    (fun i => i ≤ l.length) (fun i => l.length - i) 0 (by omega) (Wk.trans (Wk.nil 4 4 rfl) (Wk.sub (by (simp only [go_sem]) <;> trivial))) ?_
  intro i h1
  rcases Nat.lt_or_ge i l.length with hi | hi
  case inr =>
    have f1 : decide ((i : Int) < l.length) = false := by simp; omega
    rw [List.take_of_length_le hi]
    simp (maxSteps := 4000000) -implicitDefEqProofs only [go_sem, f1, Option.some.injEq, forall_eq', and_true, true_and, Bool.not_true, Bool.not_false, decide_true, Nat.reduceAdd, Nat.reduceSub, Nat.reduceLT, Nat.reduceLeDiff, Nat.reduceEqDiff, ↓reduceIte]
    refine ECall.dat (by simp only [go_sem]; rfl) (by rfl) ?_
    refine .all _ _ (c5.lift0 _ (by simp only [go_sem]) (by simp only [go_sem])) ?_
    simp (maxSteps := 4000000) -implicitDefEqProofs only [go_sem, Nat.reduceAdd, Nat.reduceSub, Nat.reduceLT, Nat.reduceLeDiff, Nat.reduceEqDiff, ↓reduceIte]
    refine .all _ _ (c2.lift0 _ (by simp only [go_sem]) (by simp only [go_sem])) ?_
    simp (maxSteps := 4000000) -implicitDefEqProofs only [go_sem, Nat.reduceAdd, Nat.reduceSub, Nat.reduceLT, Nat.reduceLeDiff, Nat.reduceEqDiff, ↓reduceIte]
    exact wk_dat (by simp only [go_sem]; rfl) (by rfl) (by simp only [go_sem])
  have f1 : decide ((i : Int) < l.length) = true := by simp; omega
  obtain ⟨p, hpi⟩ : ∃ x, l[i]? = some x := ⟨l[i]'hi, List.getElem?_eq_getElem _⟩
  have hpm := hv p (List.mem_of_getElem? hpi)
  have hr := part_range hpm
  have n1 : (0 ≤ (i : Int) ∧ (i : Int) < l.length) = True := eq_true (by omega)
  have n2 : (i < l.length) = True := eq_true hi
  have w1 : IntKind.i64.wrap ((i : Int) + 1) = ((i + 1 : Nat) : Int) := by rw [i64_in _ (by omega)]; simp
  have htk : l.take (i + 1) = l.take i ++ [p] := by rw [List.take_add_one, hpi]; rfl
  have hlt : (l.take i).length ≤ 200 := by rw [List.length_take]; omega
  have cc := copies_ref p
  have hcp : copies p = decide (0 < p.n) := by
    rcases hpm with h | h
    · rw [h]; unfold copies at h; rw [decide_eq_true_eq] at h; exact (decide_eq_true (by omega)).symm
    · unfold inserts at h; rw [decide_eq_true_eq] at h
      rw [decide_eq_false (by omega : ¬ 0 < p.n)]; unfold copies; exact decide_eq_false (by omega)
  rw [hcp] at cc
  by_cases hq : 0 < p.n
  · rw [decide_eq_true hq] at cc
    have c3 := number_spec p.at'
    have c4 := number_spec p.n
    have c6 := list_spec [num p.at', num p.n]
    have wa : IntKind.i64.wrap p.at' = p.at' := i64_in _ (by omega)
    have wn : IntKind.i64.wrap p.n = p.n := i64_in _ (by omega)
    have hvd : (((l.take i).map pV).map vD ++ [[.int .u8 3, .int .i64 0, .sl [], .sl [[.int .u8 1, .int .i64 p.at', .sl [], .sl []], [.int .u8 1, .int .i64 p.n, .sl [], .sl []]]]] : List (List D)) = ((l.take (i + 1)).map pV).map vD := by
      rw [htk, List.map_append, List.map_append]
      simp only [List.map_cons, List.map_nil, pV, if_pos hq, num, vD, vDs]
    simp only [num, vA, List.map_nil, List.map_cons, vD, vDs] at c3 c4 c6
    unfold pA at cc
    simp (maxSteps := 4000000) -implicitDefEqProofs only [go_sem, f1, n1, n2, hpi, Option.some.injEq, forall_eq', and_true, true_and, Bool.not_true, Bool.not_false, decide_true, Nat.reduceAdd, Nat.reduceSub, Nat.reduceLT, Nat.reduceLeDiff, Nat.reduceEqDiff, ↓reduceIte]
    refine .all _ _ (cc.lift0 _ (by simp only [go_sem]) (by simp only [go_sem])) ?_
    simp (maxSteps := 4000000) -implicitDefEqProofs only [go_sem, Nat.reduceAdd, Nat.reduceSub, Nat.reduceLT, Nat.reduceLeDiff, Nat.reduceEqDiff, ↓reduceIte]
    refine DX.plain (.take 0 true (.take 1 false (.take 2 false (.take 3 false (.take 4 false (.take 5 false (.take 6 false (.take 7 false (.take 8 false (.take 9 false (.take 10 false (.take 11 false (.take 12 false (.run [13] (fun _ => [true]) fun _ => (.run [14] (fun _ => [true]) fun _ => (.run [15] (fun _ => [true]) fun _ => (.run [16] (fun _ => [false]) fun _ => (.take 17 false .done)))))))))))))))))) (by kernel_rfl) (by kernel_rfl) Ty.mixed ?_
    simp (maxSteps := 4000000) -implicitDefEqProofs only [go_sem, n1, n2, hpi, wa, wn, Option.some.injEq, forall_eq', and_true, true_and, Bool.not_true, Bool.not_false, decide_true, Nat.reduceAdd, Nat.reduceSub, Nat.reduceLT, Nat.reduceLeDiff, Nat.reduceEqDiff, ↓reduceIte]
    refine ⟨_, _, c3.lift0 _ (by simp only [go_sem]) (by simp only [go_sem]), rfl, ?_⟩
    simp (maxSteps := 4000000) -implicitDefEqProofs only [go_sem, n1, n2, hpi, wa, wn, Option.some.injEq, forall_eq', and_true, true_and, Bool.not_true, Bool.not_false, decide_true, Nat.reduceAdd, Nat.reduceSub, Nat.reduceLT, Nat.reduceLeDiff, Nat.reduceEqDiff, ↓reduceIte]
    refine ⟨_, _, c4.lift0 _ (by simp only [go_sem]) (by simp only [go_sem]), rfl, ?_⟩
    simp (maxSteps := 4000000) -implicitDefEqProofs only [go_sem, Nat.reduceAdd, Nat.reduceSub, Nat.reduceLT, Nat.reduceLeDiff, Nat.reduceEqDiff, ↓reduceIte]
    refine ⟨by decide, ?_⟩
    refine ⟨_, _, Spec.frz 1 rfl (c6.lift0 _ (by simp only [go_sem]) (by simp only [go_sem])), ?_⟩
    simp (maxSteps := 4000000) -implicitDefEqProofs only [go_sem, w1, Option.some.injEq, forall_eq', and_true, true_and, Bool.not_true, Bool.not_false, decide_true, Nat.reduceAdd, Nat.reduceSub, Nat.reduceLT, Nat.reduceLeDiff, Nat.reduceEqDiff, ↓reduceIte]
    refine ⟨by decide, ⟨fun e he => by simp at he; subst he; rfl, by omega, by omega⟩, ?_⟩
    exact .mk (i + 1) (by omega) (by omega) (by rw [hvd]; exact (Wk.via [3] (by (simp only [go_sem, ↓reduceIte]) <;> trivial) (by first | (simp (maxSteps := 4000000) -implicitDefEqProofs only [go_sem, Nat.reduceAdd, Nat.reduceSub, Nat.reduceLT, Nat.reduceLeDiff, Nat.reduceEqDiff, ↓reduceIte]; done) | ((simp (maxSteps := 4000000) -implicitDefEqProofs only [go_sem, Nat.reduceAdd, Nat.reduceSub, Nat.reduceLT, Nat.reduceLeDiff, Nat.reduceEqDiff, ↓reduceIte]) <;> omega)) (by simp) (by first | (simp; done) | (simp [so]; done)) (by (simp (maxSteps := 4000000) -implicitDefEqProofs only [go_sem, Nat.reduceAdd, Nat.reduceSub, Nat.reduceLT, Nat.reduceLeDiff, Nat.reduceEqDiff, ↓reduceIte]) <;> trivial) (by first | (simp only [go_sem]; done) | ((simp (maxSteps := 4000000) -implicitDefEqProofs only [go_sem, Nat.reduceAdd, Nat.reduceSub, Nat.reduceLT, Nat.reduceLeDiff, Nat.reduceEqDiff, ↓reduceIte]) <;> omega)) (Nat.zero_le _) (fun i h => absurd h (Nat.not_lt_zero i))))
  · rw [decide_eq_false hq] at cc
    have c3 := text_spec p.data (by
      have : p.data.length ≤ 2000 := by
        rcases hpm with h | h
        · unfold copies at h; rw [decide_eq_true_eq] at h; omega
        · unfold inserts at h; rw [decide_eq_true_eq] at h; omega
      omega)
    have hvd : (((l.take i).map pV).map vD ++ [[.int .u8 2, .int .i64 0, .sl (p.data.map bI), .sl []]] : List (List D)) = ((l.take (i + 1)).map pV).map vD := by
      rw [htk, List.map_append, List.map_append]
      simp only [List.map_cons, List.map_nil, pV, if_neg hq, num, vD, vDs, bI_bY]
    simp only [vA, List.map_nil, ← bI_bY] at c3
    unfold pA at cc
    simp (maxSteps := 4000000) -implicitDefEqProofs only [go_sem, f1, n1, n2, hpi, Option.some.injEq, forall_eq', and_true, true_and, Bool.not_true, Bool.not_false, decide_true, Nat.reduceAdd, Nat.reduceSub, Nat.reduceLT, Nat.reduceLeDiff, Nat.reduceEqDiff, ↓reduceIte]
    refine .all _ _ (cc.lift0 _ (by simp only [go_sem]) (by simp only [go_sem])) ?_
    simp (maxSteps := 4000000) -implicitDefEqProofs only [go_sem, n1, n2, hpi, Option.some.injEq, forall_eq', and_true, true_and, Bool.not_true, Bool.not_false, decide_true, Nat.reduceAdd, Nat.reduceSub, Nat.reduceLT, Nat.reduceLeDiff, Nat.reduceEqDiff, ↓reduceIte]
    refine .all _ _ (c3.lift0 _ (by simp only [go_sem]) (by simp only [go_sem])) ?_
    simp (maxSteps := 4000000) -implicitDefEqProofs only [go_sem, w1, Option.some.injEq, forall_eq', and_true, true_and, Bool.not_true, Bool.not_false, decide_true, Nat.reduceAdd, Nat.reduceSub, Nat.reduceLT, Nat.reduceLeDiff, Nat.reduceEqDiff, ↓reduceIte]
    refine ⟨by decide, ⟨fun e he => by simp at he; subst he; rfl, by omega, by omega⟩, ?_⟩
    exact .mk (i + 1) (by omega) (by omega) (by rw [hvd]; exact (Wk.via [2] (by (simp only [go_sem, ↓reduceIte]) <;> trivial) (by first | (simp (maxSteps := 4000000) -implicitDefEqProofs only [go_sem, Nat.reduceAdd, Nat.reduceSub, Nat.reduceLT, Nat.reduceLeDiff, Nat.reduceEqDiff, ↓reduceIte]; done) | ((simp (maxSteps := 4000000) -implicitDefEqProofs only [go_sem, Nat.reduceAdd, Nat.reduceSub, Nat.reduceLT, Nat.reduceLeDiff, Nat.reduceEqDiff, ↓reduceIte]) <;> omega)) (by simp) (by first | (simp; done) | (simp [so]; done)) (by (simp (maxSteps := 4000000) -implicitDefEqProofs only [go_sem, Nat.reduceAdd, Nat.reduceSub, Nat.reduceLT, Nat.reduceLeDiff, Nat.reduceEqDiff, ↓reduceIte]) <;> trivial) (by first | (simp only [go_sem]; done) | ((simp (maxSteps := 4000000) -implicitDefEqProofs only [go_sem, Nat.reduceAdd, Nat.reduceSub, Nat.reduceLT, Nat.reduceLeDiff, Nat.reduceEqDiff, ↓reduceIte]) <;> omega)) (Nat.zero_le _) (fun i h => absurd h (Nat.not_lt_zero i))))
end Go.AX.De
/- Deltas as values: Decode; what is inverse (plain law). -/
set_option maxHeartbeats 8000000
set_option linter.unusedVariables false
set_option linter.unusedSimpArgs false
set_option maxRecDepth 20000
namespace Go.AX.De
open Go.Proofs Go.RowKit Go.IntWalk
open Go.AX.Co (Vl vD vDs vDs_eq vA bY FitW encP encode_own encode_ref vD_len number_spec text_spec list_spec decP decode_own decode_ref rightP v0)
def cpP : List Vl → Option Part
  | [.mk k1 n1 _ _, .mk k2 n2 _ _] => if k1 = 1 ∧ k2 = 1 ∧ copies ⟨n1, n2, []⟩ = true then some ⟨n1, n2, []⟩ else none
  | _ => none
/-- the part of a value -/
def partP : Vl → Option Part
  | .mk k n b l => if k = 2 then (if inserts ⟨0, 0, b⟩ then some ⟨0, 0, b⟩ else none)
    else if k = 3 then cpP l else none
def partsP : List Vl → Option (List Part)
  | [] => some []
  | x :: r => match partP x, partsP r with
    | some p, some l => some (p :: l)
    | _, _ => none
def kdV : Vl → Int
  | .mk k _ _ _ => k
def liV : Vl → List Vl
  | .mk _ _ _ l => l
def decL (k : Int) (l : List Vl) : List Part × Int := if k ≠ 3 ∨ 200 < l.length then ([], 12) else match partsP l with
    | some m => (m, 0)
    | none => ([], 12)
def decD (b : List Int) : List Part × Int := if (decP b).2 ≠ 0 then ([], 12) else decL (kdV (decP b).1) (liV (decP b).1)
theorem copies_data {p : Part} (h : copies p = true) : p = ⟨p.at', p.n, []⟩ ∧ 0 < p.n := by
  unfold copies at h
  rw [decide_eq_true_eq] at h
  refine ⟨?_, by omega⟩
  have : p.data = [] := List.length_eq_zero_iff.1 (by omega)
  cases p; simp only at this; rw [this]
theorem inserts_data {p : Part} (h : inserts p = true) : p = ⟨0, 0, p.data⟩ ∧ ¬ 0 < p.n := by
  unfold inserts at h
  rw [decide_eq_true_eq] at h
  refine ⟨?_, by omega⟩
  cases p; simp only at h; rw [h.1, h.2.1]
theorem partP_pV {p : Part} (h : copies p = true ∨ inserts p = true) : partP (pV p) = some p := by
  unfold pV
  rcases h with h | h
  · obtain ⟨e, q⟩ := copies_data h
    rw [if_pos q, partP, if_neg (by omega), if_pos rfl]
    show cpP [.mk 1 p.at' [] [], .mk 1 p.n [] []] = _
    rw [cpP, ← e, if_pos ⟨rfl, rfl, h⟩]
  · obtain ⟨e, q⟩ := inserts_data h
    rw [if_neg q, partP, if_pos rfl, ← e, if_pos h]
theorem partsP_pV : ∀ {l : List Part}, (∀ p ∈ l, copies p = true ∨ inserts p = true) → partsP (l.map pV) = some l
  | [], _ => rfl
  | p :: l, h => by
    rw [List.map_cons, partsP, partP_pV (h p (by simp)), partsP_pV fun q hq => h q (List.mem_cons_of_mem _ hq)]
theorem num_right {d : Nat} {k n : Int} {b : List Int} {l : List Vl} (h : rightP d (.mk k n b l) = true) (hk : k = 1) : Vl.mk k n b l = num n := by
  cases d with
  | zero => cases h
  | succ d =>
    rcases Co.right_kind h with q | q | q
    · rw [hk, q.2.1, q.2.2]; rfl
    · omega
    · omega
theorem partP_inv {d : Nat} {x : Vl} {p : Part} (hr : rightP d x = true) (h : partP x = some p) : x = pV p ∧ (copies p = true ∨ inserts p = true) := by
  obtain ⟨k, n, b, l⟩ := x
  cases d with
  | zero => cases hr
  | succ d =>
  have q := Co.right_kind hr
  rw [partP] at h
  by_cases k2 : k = 2
  · rw [if_pos k2] at h
    split at h
    · next hi =>
      obtain rfl := Option.some.inj h
      refine ⟨?_, .inr hi⟩
      unfold pV
      obtain ⟨_, rfl, rfl⟩ : k = 2 ∧ n = 0 ∧ l = [] := by rcases q with q | q | q <;> first | exact q | (exfalso; omega)
      rw [if_neg (by simp), k2]
    · cases h
  rw [if_neg k2] at h
  by_cases k3 : k = 3
  · rw [if_pos k3] at h
    obtain ⟨_, rfl, rfl, hx⟩ : k = 3 ∧ n = 0 ∧ b = [] ∧ ∀ x ∈ l, rightP d x = true := by rcases q with q | q | q <;> first | exact q | (exfalso; omega)
    unfold cpP at h
    split at h
    · next k1 n1 b1 l1 k2 n2 b2 l2 =>
      split at h
      · next hc =>
        obtain rfl := Option.some.inj h
        refine ⟨?_, .inl hc.2.2⟩
        have e1 := num_right (hx (.mk k1 n1 b1 l1) (by simp)) hc.1
        have e2 := num_right (hx (.mk k2 n2 b2 l2) (by simp)) hc.2.1
        have hp := (copies_data hc.2.2).2
        unfold pV
        rw [if_pos hp, k3, e1, e2]
      · cases h
    · cases h
  · rw [if_neg k3] at h; cases h
theorem partsP_inv {d : Nat} : ∀ {l : List Vl} {m : List Part}, (∀ x ∈ l, rightP d x = true) → partsP l = some m → l = m.map pV ∧ ∀ p ∈ m, copies p = true ∨ inserts p = true
  | [], m, _, h => by simp [partsP] at h; subst h; simp
  | x :: l, m, hr, h => by
    rw [partsP] at h
    split at h
    · next p m' h1 h2 =>
      obtain rfl := Option.some.inj h
      obtain ⟨e1, e2⟩ := partP_inv (hr x (by simp)) h1
      obtain ⟨e3, e4⟩ := partsP_inv (fun y hy => hr y (List.mem_cons_of_mem _ hy)) h2
      refine ⟨by rw [e1, e3]; rfl, fun q hq => ?_⟩
      rcases List.mem_cons.1 hq with rfl | hq
      · exact e2
      · exact e4 q hq
    · cases h
/-- what is encoded is decoded -/
theorem dec_encD {l : List Part} (h : (encD l).2 = 0) : decD (encD l).1 = (l, 0) := by
  unfold encD at h ⊢
  by_cases hv : valid l = 0
  case neg => rw [if_pos hv] at h; exact absurd h hv
  rw [if_neg (fun q => q hv)] at h ⊢
  have hd := (Co.dec_enc (fit_pVs hv) h).1
  unfold decD
  rw [hd, if_neg (by simp)]
  have hl := valid_len hv
  show decL 3 (l.map pV) = _
  unfold decL
  rw [if_neg (by simp; omega), partsP_pV (valid_parts hv)]
theorem enc_decD {b : List Int} (hB : Co.Bytes b) (hl : b.length ≤ 900000) (h : (decD b).2 = 0) : encD (decD b).1 = (b, 0) := by
  unfold decD at h ⊢
  by_cases h0 : (decP b).2 = 0
  case neg => rw [if_pos h0] at h; cases h
  rw [if_neg (fun q => q h0)] at h ⊢
  have he := Co.enc_dec hB hl h0
  have hr := Co.enc_right (v := (decP b).1) (by rw [he])
  generalize (decP b).1 = v at h he hr ⊢
  obtain ⟨k, n, b', l⟩ := v
  simp only [kdV, liV] at h ⊢
  unfold decL at h ⊢
  by_cases hk : k ≠ 3 ∨ 200 < l.length
  · rw [if_pos hk] at h; cases h
  rw [if_neg hk] at h ⊢
  have hk3 : k = 3 := Decidable.byContradiction fun q => hk (.inl q)
  have q := Co.right_kind hr
  obtain ⟨_, rfl, rfl, hx⟩ : k = 3 ∧ n = 0 ∧ b' = [] ∧ ∀ x ∈ l, rightP 5 x = true := by rcases q with q | q | q <;> first | exact q | (exfalso; omega)
  split at h
  · next m hm =>
    obtain ⟨e1, e2⟩ := partsP_inv hx hm
    have hlen : m.length ≤ 200 := by
      have := congrArg List.length e1
      rw [List.length_map] at this; omega
    have hv : valid m = 0 := by
      unfold valid
      rw [if_neg (by omega), if_neg]
      rw [Bool.not_eq_true, List.any_eq_false]
      intro p hp
      unfold bad
      rcases e2 p hp with h | h <;> simp [h]
    unfold encD
    simp only
    rw [if_neg (fun q => q hv)]
    unfold pVs
    rw [← e1, ← hk3]
    exact he
  · cases h
end Go.AX.De
/- Deltas as values: Decode of the program. -/
set_option maxHeartbeats 8000000
set_option linter.unusedVariables false
set_option linter.unusedSimpArgs false
set_option maxRecDepth 20000
namespace Go.AX.De
open Go.Proofs Go.RowKit Go.IntWalk
open Go.AX.Co (Vl vD vDs vDs_eq vA bY FitW FitB encP encode_own encode_ref vD_len number_spec text_spec list_spec decP decode_own decode_ref rightP v0)
theorem partsP_none {l : List Vl} {i : Nat} {x : Vl} (hx : l[i]? = some x) (h : partP x = none) : partsP l = none := by
  induction l generalizing i with
  | nil => simp at hx
  | cons y l ih =>
    rw [partsP]
    cases i with
    | zero => simp at hx; subst hx; rw [h]
    | succ i =>
      simp at hx
      rw [ih hx]
      cases partP y <;> rfl
theorem partsP_some : ∀ {l : List Vl} {m : List Part}, m.length = l.length → (∀ (i : Nat) (x : Vl) (p : Part), l[i]? = some x → m[i]? = some p → partP x = some p) → partsP l = some m
  | [], [], _, _ => rfl
  | x :: l, p :: m, hl, h => by
    rw [partsP, h 0 x p rfl rfl, partsP_some (by simpa using hl) fun i y q hy hq => h (i + 1) y q (by simpa using hy) (by simpa using hq)]
  | [], _ :: _, hl, _ => by simp at hl
  | _ :: _, [], hl, _ => by simp at hl
theorem snoc_all {α β : Type} {l : List α} {m : List β} {i : Nat} {x : α} {p : β} {Q : α → β → Prop} (hm : m.length = i) (hx : l[i]? = some x) (hp : Q x p) (h : ∀ (j : Nat) (y : α) (q : β), l[j]? = some y → m[j]? = some q → Q y q) : ∀ (j : Nat) (y : α) (q : β), l[j]? = some y → (m ++ [p])[j]? = some q → Q y q := fun j y q hy hq => by
  rcases Nat.lt_or_ge j m.length with h1 | h1
  · rw [List.getElem?_append_left h1] at hq; exact h j y q hy hq
  · rw [List.getElem?_append_right h1] at hq
    rcases Nat.eq_or_lt_of_le h1 with e | e
    · rw [← e, hm, hx] at hy; rw [← e] at hq
      simp at hq hy
      subst hy hq; exact hp
    · rw [List.getElem?_eq_none (by simp; omega)] at hq; simp at hq
theorem deltaDecode_own (b : List Int) (hr : b.length ≤ 900000) (hB : Co.Bytes b) : Spec Try.prog 23 [.d (.sl (b.map bY))] [] (.tup [.d (.sl ((decD b).1.map pD)), .d (.int .i64 (decD b).2)]) [] := by
  have c1 := decode_own b (by omega) hB
  have hf := Co.decP_fit hr hB
  generalize hR : decD b = R
  unfold decD at hR
  generalize decP b = w at c1 hf hR
  obtain ⟨⟨k, n, b', l⟩, e⟩ := w
  simp only [kdV, liV] at hR
  obtain ⟨_, _, _, _, _, _, hl, hx⟩ := hf
  simp only [vA] at c1
  have fail : ∀ τ : List AObj, Wk 0 [.tup [.nil, .d (.int .i64 12)]] τ [.tup [.d (.sl (([] : List Part).map pD)), .d (.int .i64 12)]] [] := fun τ =>
    wk_dat (by simp only [go_sem]; rfl) (by simp only [List.map_nil]) (by simp only [go_sem, List.map_nil])
  have b1 : (!true) = false := rfl
  have b2 : (!false) = true := rfl
  refine spec_of_ev (fn := Try.f23) DX_ok 3000 Try.func23 rfl rfl (Nat.le_of_ble_eq_true rfl) ?_
  simp (maxSteps := 4000000) -implicitDefEqProofs only [Try.f23, go_sem]
  refine .all _ _ (c1.lift0 _ (by simp only [go_sem]) (by simp only [go_sem])) ?_
  by_cases h0 : e = 0
  case neg =>
    have z1 : (e != 0) = true := by simp [h0]
    rw [if_pos h0] at hR
    subst hR
    simp (maxSteps := 4000000) -implicitDefEqProofs only [go_sem, z1, Option.some.injEq, forall_eq', and_true, true_and, Bool.not_true, Bool.not_false, decide_true, Nat.reduceAdd, Nat.reduceSub, Nat.reduceLT, Nat.reduceLeDiff, Nat.reduceEqDiff, ↓reduceIte]
    exact fail _
  have z1 : (e != 0) = false := by simp [h0]
  rw [if_neg (fun h => h h0)] at hR
  unfold decL at hR
  by_cases hk : k = 3
  case neg =>
    have z2 : (k != 3) = true := by simp [hk]
    rw [if_pos (.inl hk)] at hR
    subst hR
    simp (maxSteps := 4000000) -implicitDefEqProofs only [go_sem, z1, z2, Option.some.injEq, forall_eq', and_true, true_and, Bool.not_true, Bool.not_false, decide_true, Nat.reduceAdd, Nat.reduceSub, Nat.reduceLT, Nat.reduceLeDiff, Nat.reduceEqDiff, ↓reduceIte]
    exact fail _
  have z2 : (k != 3) = false := by simp [hk]
  have d2 : decide (200 < (l.length : Int)) = decide (200 < l.length) := by rw [Bool.eq_iff_iff]; simp; omega
  by_cases hll : 200 < l.length
  · rw [decide_eq_true hll] at d2
    rw [if_pos (.inr hll)] at hR
    subst hR
    simp (maxSteps := 4000000) -implicitDefEqProofs only [go_sem, z1, z2, d2, Option.some.injEq, forall_eq', and_true, true_and, Bool.not_true, Bool.not_false, decide_true, Nat.reduceAdd, Nat.reduceSub, Nat.reduceLT, Nat.reduceLeDiff, Nat.reduceEqDiff, ↓reduceIte]
    exact fail _
  rw [decide_eq_false hll] at d2
  rw [if_neg (fun h => h.elim (fun h => h hk) hll)] at hR
  simp (maxSteps := 4000000) -implicitDefEqProofs only [go_sem, z1, z2, d2, Option.some.injEq, forall_eq', and_true, true_and, Bool.not_true, Bool.not_false, decide_true, Nat.reduceAdd, Nat.reduceSub, Nat.reduceLT, Nat.reduceLeDiff, Nat.reduceEqDiff, ↓reduceIte]
  refine eloop (S := Nat × List Part) (fun s => mkE 108 [(6, .own 1), (33, .d (.sl (l.map vD))), (34, .d (.int .i64 l.length)), (35, .d (.int .i64 s.1))]) (fun s => [.cells [.d (.int .u8 k), .d (.int .i64 n), .d (.sl (b'.map bY)), .d (.sl (l.map vD))], .row 3 (s.2.map pD)])
    (fun s => s.1 ≤ l.length ∧ s.2.length = s.1 ∧ ∀ (j : Nat) (x : Vl) (p : Part), l[j]? = some x → s.2[j]? = some p → partP x = some p) (fun s => l.length - s.1) ((0, []) : Nat × List Part) ⟨Nat.zero_le _, rfl, fun j x p _ h => by simp at h⟩ (Wk.trans (Wk.nil 6 3 rfl) (Wk.sub (by (simp only [go_sem]) <;> trivial))) ?_
  intro s hs
  obtain ⟨i, m⟩ := s
  simp only at hs ⊢
  have h1 := hs.1
  have h2 := hs.2.1
  have h3 := hs.2.2
  rcases Nat.lt_or_ge i l.length with hi | hi
  case inr =>
    have f1 : decide ((i : Int) < l.length) = false := by simp; omega
    rw [partsP_some (by omega) h3] at hR
    subst hR
    simp (maxSteps := 4000000) -implicitDefEqProofs only [go_sem, f1, Option.some.injEq, forall_eq', and_true, true_and, Bool.not_true, Bool.not_false, decide_true, Nat.reduceAdd, Nat.reduceSub, Nat.reduceLT, Nat.reduceLeDiff, Nat.reduceEqDiff, ↓reduceIte]
    exact wk_dat (by simp only [go_sem]; rfl) (by rfl) (by simp only [go_sem])
  have f1 : decide ((i : Int) < l.length) = true := by simp; omega
  obtain ⟨x, hxi⟩ : ∃ x, l[i]? = some x := ⟨l[i]'hi, List.getElem?_eq_getElem _⟩
  have hxf := hx x (List.mem_of_getElem? hxi)
  have n1 : (0 ≤ (i : Int) ∧ (i : Int) < l.length) = True := eq_true (by omega)
  have n2 : (i < l.length) = True := eq_true hi
  have w1 : IntKind.i64.wrap ((i : Int) + 1) = ((i + 1 : Nat) : Int) := by rw [i64_in _ (by omega)]; simp
  have hno : partP x = none → R = ([], 12) := fun h => by rw [← hR, partsP_none hxi h]
  have hyes := fun (p : Part) (h : partP x = some p) => snoc_all (Q := fun x p => partP x = some p) h2 hxi h h3
  clear hR
  obtain ⟨xk, xn, xb, xl⟩ := x
  obtain ⟨_, _, _, _, hxn, hxb, hxll, hxx⟩ := hxf
  rw [partP] at hno hyes
  have ci := inserts_own ⟨0, 0, xb⟩
  unfold pA at ci
  simp only [bI_bY] at ci
  by_cases k2 : xk = 2
  · have q2 : (xk == 2) = true := by simp [k2]
    have q3 : (xk == 3) = false := by simp [k2]
    rw [if_pos k2] at hno hyes
    generalize inserts ⟨0, 0, xb⟩ = B at ci hno hyes
    have hvd : (m.map pD ++ [[.int .i64 0, .int .i64 0, .sl (xb.map bY)]] : List (List D)) = (m ++ [(⟨0, 0, xb⟩ : Part)]).map pD := by
      rw [List.map_append]; simp only [List.map_cons, List.map_nil, pD, bI_bY]
    simp (maxSteps := 4000000) -implicitDefEqProofs only [go_sem, f1, n1, n2, hxi, vD, vDs_eq, q2, Option.some.injEq, forall_eq', and_true, true_and, Bool.not_true, Bool.not_false, decide_true, Nat.reduceAdd, Nat.reduceSub, Nat.reduceLT, Nat.reduceLeDiff, Nat.reduceEqDiff, ↓reduceIte]
    refine .all _ _ (ci.lift0 _ (by simp only [go_sem]) (by simp only [go_sem])) ?_
    cases B with
    | false =>
      rw [hno rfl]
      simp (maxSteps := 4000000) -implicitDefEqProofs only [go_sem, q3, b2, Option.some.injEq, forall_eq', and_true, true_and, Bool.not_true, Bool.not_false, decide_true, Nat.reduceAdd, Nat.reduceSub, Nat.reduceLT, Nat.reduceLeDiff, Nat.reduceEqDiff, ↓reduceIte]
      exact fail _
    | true =>
      have hyes := hyes ⟨0, 0, xb⟩ rfl
      simp (maxSteps := 4000000) -implicitDefEqProofs only [go_sem, q3, b1, w1, Option.some.injEq, forall_eq', and_true, true_and, Bool.not_true, Bool.not_false, decide_true, Nat.reduceAdd, Nat.reduceSub, Nat.reduceLT, Nat.reduceLeDiff, Nat.reduceEqDiff, ↓reduceIte]
      refine ⟨by decide, ⟨fun e he => by simp at he; subst he; rfl, by omega, by omega⟩, ?_⟩
      exact .mk ((i + 1, m ++ [(⟨0, 0, xb⟩ : Part)]) : Nat × List Part) ⟨by show i + 1 ≤ l.length; omega, by show (m ++ [(⟨0, 0, xb⟩ : Part)]).length = i + 1; simp; omega, hyes⟩ (by show l.length - (i + 1) < l.length - i; omega) (by rw [hvd]; exact (Wk.via [0, 5] (by (simp only [go_sem, ↓reduceIte]) <;> trivial) (by first | (simp (maxSteps := 4000000) -implicitDefEqProofs only [go_sem, Nat.reduceAdd, Nat.reduceSub, Nat.reduceLT, Nat.reduceLeDiff, Nat.reduceEqDiff, ↓reduceIte]; done) | ((simp (maxSteps := 4000000) -implicitDefEqProofs only [go_sem, Nat.reduceAdd, Nat.reduceSub, Nat.reduceLT, Nat.reduceLeDiff, Nat.reduceEqDiff, ↓reduceIte]) <;> omega)) (by simp) (by first | (simp; done) | (simp [so]; done)) (by (simp (maxSteps := 4000000) -implicitDefEqProofs only [go_sem, Nat.reduceAdd, Nat.reduceSub, Nat.reduceLT, Nat.reduceLeDiff, Nat.reduceEqDiff, ↓reduceIte]) <;> trivial) (by first | (simp only [go_sem]; done) | ((simp (maxSteps := 4000000) -implicitDefEqProofs only [go_sem, Nat.reduceAdd, Nat.reduceSub, Nat.reduceLT, Nat.reduceLeDiff, Nat.reduceEqDiff, ↓reduceIte]) <;> omega)) (Nat.zero_le _) (fun i h => absurd h (Nat.not_lt_zero i))))
  have q2 : (xk == 2) = false := by simp [k2]
  rw [if_neg k2] at hno hyes
  by_cases k3 : xk = 3
  case neg =>
    have q3 : (xk == 3) = false := by simp [k3]
    rw [if_neg k3] at hno
    rw [hno rfl]
    simp (maxSteps := 4000000) -implicitDefEqProofs only [go_sem, f1, n1, n2, hxi, vD, vDs_eq, q2, q3, b2, Option.some.injEq, forall_eq', and_true, true_and, Bool.not_true, Bool.not_false, decide_true, Nat.reduceAdd, Nat.reduceSub, Nat.reduceLT, Nat.reduceLeDiff, Nat.reduceEqDiff, ↓reduceIte]
    exact fail _
  have q3 : (xk == 3) = true := by simp [k3]
  rw [if_pos k3] at hno hyes
  have dl2 : ((xl.length : Int) == 2) = decide (xl.length = 2) := by rw [Bool.eq_iff_iff]; simp; omega
  by_cases hl2 : xl.length = 2
  case neg =>
    rw [decide_eq_false hl2] at dl2
    have : cpP xl = none := by
      unfold cpP
      split
      · simp at hl2
      · rfl
    rw [hno this]
    simp (maxSteps := 4000000) -implicitDefEqProofs only [go_sem, f1, n1, n2, hxi, vD, vDs_eq, q2, q3, dl2, b2, Option.some.injEq, forall_eq', and_true, true_and, Bool.not_true, Bool.not_false, decide_true, Nat.reduceAdd, Nat.reduceSub, Nat.reduceLT, Nat.reduceLeDiff, Nat.reduceEqDiff, ↓reduceIte]
    exact fail _
  rw [decide_eq_true hl2] at dl2
  apply Exists.elim (show ∃ y z, xl = [y, z] by
    match xl, hl2 with
    | [y, z], _ => exact ⟨y, z, rfl⟩)
  intro y hy
  apply Exists.elim hy
  intro z hxl
  obtain ⟨k1, m1, b1', l1⟩ := y
  obtain ⟨k4, m2, b2', l2⟩ := z
  have hx0 : xl[0]? = some (.mk k1 m1 b1' l1) := by rw [hxl]; rfl
  have hx1 : xl[1]? = some (.mk k4 m2 b2' l2) := by rw [hxl]; rfl
  have hcp : cpP xl = if k1 = 1 ∧ k4 = 1 ∧ copies ⟨m1, m2, []⟩ = true then some ⟨m1, m2, []⟩ else none := by rw [hxl, cpP]
  rw [hcp] at hno hyes
  have r1 : -9223372036854775808 ≤ m1 ∧ m1 ≤ 9223372036854775807 := by
    obtain ⟨_, _, _, _, hn, _⟩ := hxx (.mk k1 m1 b1' l1) (by rw [hxl]; simp); exact hn
  have r2 : -9223372036854775808 ≤ m2 ∧ m2 ≤ 9223372036854775807 := by
    obtain ⟨_, _, _, _, hn, _⟩ := hxx (.mk k4 m2 b2' l2) (by rw [hxl]; simp); exact hn
  have i1 : IntKind.i64.wrap m1 = m1 := i64_in _ r1
  have i2 : IntKind.i64.wrap m2 = m2 := i64_in _ r2
  have cc := copies_own ⟨m1, m2, []⟩
  unfold pA at cc
  simp only [List.map_nil] at cc
  have z0 : (0 ≤ (0 : Int) ∧ (0 : Int) < (xl.length : Int)) = True := eq_true (by omega)
  have z01 : (0 ≤ (1 : Int) ∧ (1 : Int) < (xl.length : Int)) = True := eq_true (by omega)
  have z02 : (0 < xl.length) = True := eq_true (by omega)
  have z03 : (1 < xl.length) = True := eq_true (by omega)
  simp (maxSteps := 4000000) -implicitDefEqProofs only [go_sem, f1, n1, n2, hxi, vD, vDs_eq, q2, q3, dl2, Option.some.injEq, forall_eq', and_true, true_and, Bool.not_true, Bool.not_false, decide_true, Nat.reduceAdd, Nat.reduceSub, Nat.reduceLT, Nat.reduceLeDiff, Nat.reduceEqDiff, ↓reduceIte]
  refine DX.join (mkE 108 [(6, .own 1), (9, .ptr 2 0), (11, .ptr 3 0), (12, .ptr 4 0), (33, .d (.sl (l.map vD))), (34, .d (.int .i64 l.length)), (35, .d (.int .i64 i))])
    [.cells [.d (.int .u8 k), .d (.int .i64 n), .d (.sl (b'.map bY)), .d (.sl (l.map vD))], .row 3 (m.map pD), .cells [.d (.int .i64 0), .d (.int .i64 0), .d (.sl (xb.map bY))], .cells [.d (.int .u8 k1), .d (.int .i64 m1), .d (.sl (b1'.map bY)), .d (.sl (l1.map vD))], .cells [.d (.int .u8 k4), .d (.int .i64 m2), .d (.sl (b2'.map bY)), .d (.sl (l2.map vD))]]
    (.take 0 true (.take 1 true (.take 2 true (.take 3 true (.take 4 true (.take 5 true (.take 6 true (.take 7 true (.run [8, 9] (fun _ => [true, true, true, true, true, true, true, true]) fun i => .run [17 - i] (fun _ => [true, true, true, true, true, true, true, true]) fun _ => .run [10] (fun _ => [true, true, true, true, false, false, false, false]) fun _ => .run [11] (fun _ => [false, false, false, false]) fun _ => .done))))))))) (by kernel_rfl) (by kernel_rfl) Ty.mixed ?_ ?_
  · have a0 : (∃ e, (xl.map vD)[0]? = some e ∧ e.length = 4 ∧ AV.eptr e = AV.eptr [.int .u8 k1, .int .i64 m1, .sl (b1'.map bY), .sl (l1.map vD)]) = True := eq_true ⟨_, by rw [List.getElem?_map, hx0]; rfl, by rw [vD]; rfl, by rw [vD, vDs_eq]⟩
    have a1 : (∃ e, (xl.map vD)[1]? = some e ∧ e.length = 4 ∧ AV.eptr e = AV.eptr [.int .u8 k4, .int .i64 m2, .sl (b2'.map bY), .sl (l2.map vD)]) = True := eq_true ⟨_, by rw [List.getElem?_map, hx1]; rfl, by rw [vD]; rfl, by rw [vD, vDs_eq]⟩
    simp (maxSteps := 4000000) -implicitDefEqProofs only [go_sem, z0, z01, z02, z03, hx0, hx1, vD, vDs_eq, a0, a1, Option.some.injEq, forall_eq', and_true, true_and, Bool.not_true, Bool.not_false, decide_true, Nat.reduceAdd, Nat.reduceSub, Nat.reduceLT, Nat.reduceLeDiff, Nat.reduceEqDiff, ↓reduceIte]
    exact ⟨(Wk.via [0, 1, 3, 4, 5] (by (simp only [go_sem, ↓reduceIte]) <;> trivial) (by first | (simp (maxSteps := 4000000) -implicitDefEqProofs only [go_sem, Nat.reduceAdd, Nat.reduceSub, Nat.reduceLT, Nat.reduceLeDiff, Nat.reduceEqDiff, ↓reduceIte]; done) | ((simp (maxSteps := 4000000) -implicitDefEqProofs only [go_sem, Nat.reduceAdd, Nat.reduceSub, Nat.reduceLT, Nat.reduceLeDiff, Nat.reduceEqDiff, ↓reduceIte]) <;> omega)) (by simp) (by first | (simp; done) | (simp [so]; done)) (by (simp (maxSteps := 4000000) -implicitDefEqProofs only [go_sem, Nat.reduceAdd, Nat.reduceSub, Nat.reduceLT, Nat.reduceLeDiff, Nat.reduceEqDiff, ↓reduceIte]) <;> trivial) (by first | (simp only [go_sem]; done) | ((simp (maxSteps := 4000000) -implicitDefEqProofs only [go_sem, Nat.reduceAdd, Nat.reduceSub, Nat.reduceLT, Nat.reduceLeDiff, Nat.reduceEqDiff, ↓reduceIte]) <;> omega)) (Nat.zero_le _) (fun i h => absurd h (Nat.not_lt_zero i))), (Wk.via [0, 1, 3, 5, 4] (by (simp only [go_sem, ↓reduceIte]) <;> trivial) (by first | (simp (maxSteps := 4000000) -implicitDefEqProofs only [go_sem, Nat.reduceAdd, Nat.reduceSub, Nat.reduceLT, Nat.reduceLeDiff, Nat.reduceEqDiff, ↓reduceIte]; done) | ((simp (maxSteps := 4000000) -implicitDefEqProofs only [go_sem, Nat.reduceAdd, Nat.reduceSub, Nat.reduceLT, Nat.reduceLeDiff, Nat.reduceEqDiff, ↓reduceIte]) <;> omega)) (by simp) (by first | (simp; done) | (simp [so]; done)) (by (simp (maxSteps := 4000000) -implicitDefEqProofs only [go_sem, Nat.reduceAdd, Nat.reduceSub, Nat.reduceLT, Nat.reduceLeDiff, Nat.reduceEqDiff, ↓reduceIte]) <;> trivial) (by first | (simp only [go_sem]; done) | ((simp (maxSteps := 4000000) -implicitDefEqProofs only [go_sem, Nat.reduceAdd, Nat.reduceSub, Nat.reduceLT, Nat.reduceLeDiff, Nat.reduceEqDiff, ↓reduceIte]) <;> omega)) (Nat.zero_le _) (fun i h => absurd h (Nat.not_lt_zero i)))⟩
  have q1 : (k1 == 1) = decide (k1 = 1) := by rw [Bool.eq_iff_iff]; simp
  have q4 : (k4 == 1) = decide (k4 = 1) := by rw [Bool.eq_iff_iff]; simp
  have dx : decide ((if m1 < m2 then m2 else m1) ≤ 2000) = decide (m1 ≤ 2000 ∧ m2 ≤ 2000) := by rw [Bool.eq_iff_iff]; simp only [decide_eq_true_eq]; split <;> omega
  have dn : decide (0 ≤ (if m2 < m1 then m2 else m1)) = decide (0 ≤ m1 ∧ 0 ≤ m2) := by rw [Bool.eq_iff_iff]; simp only [decide_eq_true_eq]; split <;> omega
  have hcs : copies ⟨m1, m2, []⟩ = true → (m1 ≤ 2000 ∧ m2 ≤ 2000) ∧ (0 ≤ m1 ∧ 0 ≤ m2) := fun h => by
    unfold copies at h; rw [decide_eq_true_eq] at h; simp only at h; omega
  have hvd : (m.map pD ++ [[.int .i64 m1, .int .i64 m2, .sl []]] : List (List D)) = (m ++ [(⟨m1, m2, []⟩ : Part)]).map pD := by
    rw [List.map_append]; simp only [List.map_cons, List.map_nil, pD]
  generalize copies ⟨m1, m2, []⟩ = B at cc hno hyes hcs
  have bad : ¬ (k1 = 1 ∧ k4 = 1 ∧ B = true) → R = ([], 12) := fun h => hno (if_neg h)
  by_cases hP : m1 ≤ 2000 ∧ m2 ≤ 2000
  case neg =>
    rw [decide_eq_false hP] at dx
    rw [bad (fun h => hP (hcs h.2.2).1)]
    by_cases p1 : k1 = 1 <;> by_cases p4 : k4 = 1
    all_goals first | rw [decide_eq_true p1] at q1 | rw [decide_eq_false p1] at q1
    all_goals first | rw [decide_eq_true p4] at q4 | rw [decide_eq_false p4] at q4
    all_goals (simp (maxSteps := 4000000) -implicitDefEqProofs only [go_sem, dx, q1, q4, b1, b2, Option.some.injEq, forall_eq', and_true, true_and, Bool.not_true, Bool.not_false, decide_true, Nat.reduceAdd, Nat.reduceSub, Nat.reduceLT, Nat.reduceLeDiff, Nat.reduceEqDiff, ↓reduceIte])
    all_goals exact fail _
  rw [decide_eq_true hP] at dx
  by_cases hQ : 0 ≤ m1 ∧ 0 ≤ m2
  case neg =>
    rw [decide_eq_false hQ] at dn
    rw [bad (fun h => hQ (hcs h.2.2).2)]
    by_cases p1 : k1 = 1 <;> by_cases p4 : k4 = 1
    all_goals first | rw [decide_eq_true p1] at q1 | rw [decide_eq_false p1] at q1
    all_goals first | rw [decide_eq_true p4] at q4 | rw [decide_eq_false p4] at q4
    all_goals (simp (maxSteps := 4000000) -implicitDefEqProofs only [go_sem, dx, dn, q1, q4, b1, b2, Option.some.injEq, forall_eq', and_true, true_and, Bool.not_true, Bool.not_false, decide_true, Nat.reduceAdd, Nat.reduceSub, Nat.reduceLT, Nat.reduceLeDiff, Nat.reduceEqDiff, ↓reduceIte])
    all_goals exact fail _
  rw [decide_eq_true hQ] at dn
  by_cases p1 : k1 = 1
  case neg =>
    rw [bad (fun h => p1 h.1)]
    rw [decide_eq_false p1] at q1
    simp (maxSteps := 4000000) -implicitDefEqProofs only [go_sem, dx, dn, q1, b1, b2, Option.some.injEq, forall_eq', and_true, true_and, Bool.not_true, Bool.not_false, decide_true, Nat.reduceAdd, Nat.reduceSub, Nat.reduceLT, Nat.reduceLeDiff, Nat.reduceEqDiff, ↓reduceIte]
    exact fail _
  rw [decide_eq_true p1] at q1
  by_cases p4 : k4 = 1
  case neg =>
    rw [bad (fun h => p4 h.2.1)]
    rw [decide_eq_false p4] at q4
    simp (maxSteps := 4000000) -implicitDefEqProofs only [go_sem, dx, dn, q1, q4, b1, b2, Option.some.injEq, forall_eq', and_true, true_and, Bool.not_true, Bool.not_false, decide_true, Nat.reduceAdd, Nat.reduceSub, Nat.reduceLT, Nat.reduceLeDiff, Nat.reduceEqDiff, ↓reduceIte]
    exact fail _
  rw [decide_eq_true p4] at q4
  simp (maxSteps := 4000000) -implicitDefEqProofs only [go_sem, dx, dn, q1, q4, b1, b2, Option.some.injEq, forall_eq', and_true, true_and, Bool.not_true, Bool.not_false, decide_true, Nat.reduceAdd, Nat.reduceSub, Nat.reduceLT, Nat.reduceLeDiff, Nat.reduceEqDiff, ↓reduceIte]
  refine ECall.dat (by simp only [go_sem]; rfl) (by rfl) ?_
  refine .all _ _ (cc.lift0 _ (by simp only [go_sem]) (by simp only [go_sem])) ?_
  cases B with
  | false =>
    rw [bad (fun h => by cases h.2.2)]
    simp (maxSteps := 4000000) -implicitDefEqProofs only [go_sem, b2, Option.some.injEq, forall_eq', and_true, true_and, Bool.not_true, Bool.not_false, decide_true, Nat.reduceAdd, Nat.reduceSub, Nat.reduceLT, Nat.reduceLeDiff, Nat.reduceEqDiff, ↓reduceIte]
    exact fail _
  | true =>
    have hyes := hyes ⟨m1, m2, []⟩ (if_pos ⟨p1, p4, rfl⟩)
    simp (maxSteps := 4000000) -implicitDefEqProofs only [go_sem, b1, w1, Option.some.injEq, forall_eq', and_true, true_and, Bool.not_true, Bool.not_false, decide_true, Nat.reduceAdd, Nat.reduceSub, Nat.reduceLT, Nat.reduceLeDiff, Nat.reduceEqDiff, ↓reduceIte]
    refine ⟨by decide, ⟨fun e he => by simp at he; subst he; rfl, by omega, by omega⟩, ?_⟩
    exact .mk ((i + 1, m ++ [(⟨m1, m2, []⟩ : Part)]) : Nat × List Part) ⟨by show i + 1 ≤ l.length; omega, by show (m ++ [(⟨m1, m2, []⟩ : Part)]).length = i + 1; simp; omega, hyes⟩ (by show l.length - (i + 1) < l.length - i; omega) (by rw [hvd]; exact (Wk.via [0, 6] (by (simp only [go_sem, ↓reduceIte]) <;> trivial) (by first | (simp (maxSteps := 4000000) -implicitDefEqProofs only [go_sem, Nat.reduceAdd, Nat.reduceSub, Nat.reduceLT, Nat.reduceLeDiff, Nat.reduceEqDiff, ↓reduceIte]; done) | ((simp (maxSteps := 4000000) -implicitDefEqProofs only [go_sem, Nat.reduceAdd, Nat.reduceSub, Nat.reduceLT, Nat.reduceLeDiff, Nat.reduceEqDiff, ↓reduceIte]) <;> omega)) (by simp) (by first | (simp; done) | (simp [so]; done)) (by (simp (maxSteps := 4000000) -implicitDefEqProofs only [go_sem, Nat.reduceAdd, Nat.reduceSub, Nat.reduceLT, Nat.reduceLeDiff, Nat.reduceEqDiff, ↓reduceIte]) <;> trivial) (by first | (simp only [go_sem]; done) | ((simp (maxSteps := 4000000) -implicitDefEqProofs only [go_sem, Nat.reduceAdd, Nat.reduceSub, Nat.reduceLT, Nat.reduceLeDiff, Nat.reduceEqDiff, ↓reduceIte]) <;> omega)) (Nat.zero_le _) (fun i h => absurd h (Nat.not_lt_zero i))))
end Go.AX.De
/- Deltas as values: Decode of the reference. -/
set_option maxHeartbeats 8000000
set_option linter.unusedVariables false
set_option linter.unusedSimpArgs false
set_option maxRecDepth 20000
namespace Go.AX.De
open Go.Proofs Go.RowKit Go.IntWalk
open Go.AX.Co (Vl vD vDs vDs_eq vA bY FitW FitB encP encode_own encode_ref vD_len number_spec text_spec list_spec decP decode_own decode_ref rightP v0)
theorem deltaDecode_ref (b : List Int) (hr : b.length ≤ 900000) (hB : Co.Bytes b) : Spec Try.prog 24 [.d (.sl (b.map bY))] [] (.tup [.d (.sl ((decD b).1.map pD)), .d (.int .i64 (decD b).2)]) [] := by
  have c1 := decode_ref b (by omega) hB
  have hf := Co.decP_fit hr hB
  generalize hR : decD b = R
  unfold decD at hR
  generalize decP b = w at c1 hf hR
  obtain ⟨⟨k, n, b', l⟩, e⟩ := w
  simp only [kdV, liV] at hR
  obtain ⟨_, _, _, _, _, _, hl, hx⟩ := hf
  simp only [vA] at c1
  have fail : ∀ τ : List AObj, Wk 0 [.tup [.nil, .d (.int .i64 12)]] τ [.tup [.d (.sl (([] : List Part).map pD)), .d (.int .i64 12)]] [] := fun τ =>
    wk_dat (by simp only [go_sem]; rfl) (by simp only [List.map_nil]) (by simp only [go_sem, List.map_nil])
  have b1 : (!true) = false := rfl
  have b2 : (!false) = true := rfl
  refine spec_of_ev (fn := Try.f24) DX_ok 3000 Try.func24 rfl rfl (Nat.le_of_ble_eq_true rfl) ?_
  simp (maxSteps := 4000000) -implicitDefEqProofs only [Try.f24, go_sem]
  refine .all _ _ (c1.lift0 _ (by simp only [go_sem]) (by simp only [go_sem])) ?_
  by_cases h0 : e = 0
  case neg =>
    have z1 : (e != 0) = true := by simp [h0]
    rw [if_pos h0] at hR
    subst hR
    simp (maxSteps := 4000000) -implicitDefEqProofs only [go_sem, z1, Option.some.injEq, forall_eq', and_true, true_and, Bool.not_true, Bool.not_false, decide_true, Nat.reduceAdd, Nat.reduceSub, Nat.reduceLT, Nat.reduceLeDiff, Nat.reduceEqDiff, ↓reduceIte]
    exact fail _
  have z1 : (e != 0) = false := by simp [h0]
  rw [if_neg (fun h => h h0)] at hR
  unfold decL at hR
  by_cases hk : k = 3
  case neg =>
    have z2 : (k != 3) = true := by simp [hk]
    rw [if_pos (.inl hk)] at hR
    subst hR
    simp (maxSteps := 4000000) -implicitDefEqProofs only [go_sem, z1, z2, Option.some.injEq, forall_eq', and_true, true_and, Bool.not_true, Bool.not_false, decide_true, Nat.reduceAdd, Nat.reduceSub, Nat.reduceLT, Nat.reduceLeDiff, Nat.reduceEqDiff, ↓reduceIte]
    exact fail _
  have z2 : (k != 3) = false := by simp [hk]
  have d2 : decide (200 < (l.length : Int)) = decide (200 < l.length) := by rw [Bool.eq_iff_iff]; simp; omega
  by_cases hll : 200 < l.length
  · rw [decide_eq_true hll] at d2
    rw [if_pos (.inr hll)] at hR
    subst hR
    simp (maxSteps := 4000000) -implicitDefEqProofs only [go_sem, z1, z2, d2, Option.some.injEq, forall_eq', and_true, true_and, Bool.not_true, Bool.not_false, decide_true, Nat.reduceAdd, Nat.reduceSub, Nat.reduceLT, Nat.reduceLeDiff, Nat.reduceEqDiff, ↓reduceIte]
    exact fail _
  rw [decide_eq_false hll] at d2
  rw [if_neg (fun h => h.elim (fun h => h hk) hll)] at hR
  simp (maxSteps := 4000000) -implicitDefEqProofs only [go_sem, z1, z2, d2, Option.some.injEq, forall_eq', and_true, true_and, Bool.not_true, Bool.not_false, decide_true, Nat.reduceAdd, Nat.reduceSub, Nat.reduceLT, Nat.reduceLeDiff, Nat.reduceEqDiff, ↓reduceIte]
  refine eloop (S := Nat × List Part) (fun s => mkE 113 [(4, .ptr 0 0), (6, .own 1), (7, .d (.int .i64 s.1))]) (fun s => [.cells [.d (.int .u8 k), .d (.int .i64 n), .d (.sl (b'.map bY)), .d (.sl (l.map vD))], .row 3 (s.2.map pD)])
    (fun s => s.1 ≤ l.length ∧ s.2.length = s.1 ∧ ∀ (j : Nat) (x : Vl) (p : Part), l[j]? = some x → s.2[j]? = some p → partP x = some p) (fun s => l.length - s.1) ((0, []) : Nat × List Part) ⟨Nat.zero_le _, rfl, fun j x p _ h => by simp at h⟩ (Wk.trans (Wk.nil 6 3 rfl) (Wk.sub (by (simp only [go_sem]) <;> trivial))) ?_
  intro s hs
  obtain ⟨i, m⟩ := s
  simp only at hs ⊢
  have h1 := hs.1
  have h2 := hs.2.1
  have h3 := hs.2.2
  rcases Nat.lt_or_ge i l.length with hi | hi
  case inr =>
    have f1 : decide ((i : Int) < l.length) = false := by simp; omega
    rw [partsP_some (by omega) h3] at hR
    subst hR
    simp (maxSteps := 4000000) -implicitDefEqProofs only [go_sem, f1, Option.some.injEq, forall_eq', and_true, true_and, Bool.not_true, Bool.not_false, decide_true, Nat.reduceAdd, Nat.reduceSub, Nat.reduceLT, Nat.reduceLeDiff, Nat.reduceEqDiff, ↓reduceIte]
    exact wk_dat (by simp only [go_sem]; rfl) (by rfl) (by simp only [go_sem])
  have f1 : decide ((i : Int) < l.length) = true := by simp; omega
  obtain ⟨x, hxi⟩ : ∃ x, l[i]? = some x := ⟨l[i]'hi, List.getElem?_eq_getElem _⟩
  have hxf := hx x (List.mem_of_getElem? hxi)
  have n1 : (0 ≤ (i : Int) ∧ (i : Int) < l.length) = True := eq_true (by omega)
  have n2 : (i < l.length) = True := eq_true hi
  have w1 : IntKind.i64.wrap ((i : Int) + 1) = ((i + 1 : Nat) : Int) := by rw [i64_in _ (by omega)]; simp
  have hno : partP x = none → R = ([], 12) := fun h => by rw [← hR, partsP_none hxi h]
  have hyes := fun (p : Part) (h : partP x = some p) => snoc_all (Q := fun x p => partP x = some p) h2 hxi h h3
  clear hR
  obtain ⟨xk, xn, xb, xl⟩ := x
  obtain ⟨_, _, _, _, hxn, hxb, hxll, hxx⟩ := hxf
  rw [partP] at hno hyes
  have ci := inserts_ref ⟨0, 0, xb⟩
  unfold pA at ci
  simp only [bI_bY] at ci
  have qn2 : (xk != 2) = !decide (xk = 2) := by rw [Bool.eq_iff_iff]; simp
  by_cases k2 : xk = 2
  · have q3 : (xk == 3) = false := by simp [k2]
    rw [decide_eq_true k2] at qn2
    rw [if_pos k2] at hno hyes
    generalize inserts ⟨0, 0, xb⟩ = B at ci hno hyes
    have hvd : (m.map pD ++ [[.int .i64 0, .int .i64 0, .sl (xb.map bY)]] : List (List D)) = (m ++ [(⟨0, 0, xb⟩ : Part)]).map pD := by
      rw [List.map_append]; simp only [List.map_cons, List.map_nil, pD, bI_bY]
    simp (maxSteps := 4000000) -implicitDefEqProofs only [go_sem, f1, n1, n2, hxi, vD, vDs_eq, q3, qn2, b1, Option.some.injEq, forall_eq', and_true, true_and, Bool.not_true, Bool.not_false, decide_true, Nat.reduceAdd, Nat.reduceSub, Nat.reduceLT, Nat.reduceLeDiff, Nat.reduceEqDiff, ↓reduceIte]
    refine ⟨⟨by omega, by omega⟩, ?_⟩
    refine ECall.frzC 5 2 4 rfl rfl rfl (by decide) ?_
    simp only [go_sem, ↓reduceIte]
    refine .all _ _ (ci.lift0 _ (by simp only [go_sem]) (by simp only [go_sem])) ?_
    cases B with
    | false =>
      rw [hno rfl]
      simp (maxSteps := 4000000) -implicitDefEqProofs only [go_sem, b2, Option.some.injEq, forall_eq', and_true, true_and, Bool.not_true, Bool.not_false, decide_true, Nat.reduceAdd, Nat.reduceSub, Nat.reduceLT, Nat.reduceLeDiff, Nat.reduceEqDiff, ↓reduceIte]
      exact fail _
    | true =>
      have hyes := hyes ⟨0, 0, xb⟩ rfl
      simp (maxSteps := 4000000) -implicitDefEqProofs only [go_sem, b1, w1, Option.some.injEq, forall_eq', and_true, true_and, Bool.not_true, Bool.not_false, decide_true, Nat.reduceAdd, Nat.reduceSub, Nat.reduceLT, Nat.reduceLeDiff, Nat.reduceEqDiff, ↓reduceIte]
      refine ⟨by decide, ⟨fun e he => by simp at he; subst he; rfl, by omega, by omega⟩, ?_⟩
      exact .mk ((i + 1, m ++ [(⟨0, 0, xb⟩ : Part)]) : Nat × List Part) ⟨by show i + 1 ≤ l.length; omega, by show (m ++ [(⟨0, 0, xb⟩ : Part)]).length = i + 1; simp; omega, hyes⟩ (by show l.length - (i + 1) < l.length - i; omega) (by rw [hvd]; exact (Wk.via [0, 7] (by (simp only [go_sem, ↓reduceIte]) <;> trivial) (by first | (simp (maxSteps := 4000000) -implicitDefEqProofs only [go_sem, Nat.reduceAdd, Nat.reduceSub, Nat.reduceLT, Nat.reduceLeDiff, Nat.reduceEqDiff, ↓reduceIte]; done) | ((simp (maxSteps := 4000000) -implicitDefEqProofs only [go_sem, Nat.reduceAdd, Nat.reduceSub, Nat.reduceLT, Nat.reduceLeDiff, Nat.reduceEqDiff, ↓reduceIte]) <;> omega)) (by simp) (by first | (simp; done) | (simp [so]; done)) (by (simp (maxSteps := 4000000) -implicitDefEqProofs only [go_sem, Nat.reduceAdd, Nat.reduceSub, Nat.reduceLT, Nat.reduceLeDiff, Nat.reduceEqDiff, ↓reduceIte]) <;> trivial) (by first | (simp only [go_sem]; done) | ((simp (maxSteps := 4000000) -implicitDefEqProofs only [go_sem, Nat.reduceAdd, Nat.reduceSub, Nat.reduceLT, Nat.reduceLeDiff, Nat.reduceEqDiff, ↓reduceIte]) <;> omega)) (Nat.zero_le _) (fun i h => absurd h (Nat.not_lt_zero i))))
  rw [decide_eq_false k2] at qn2
  rw [if_neg k2] at hno hyes
  by_cases k3 : xk = 3
  case neg =>
    have q3 : (xk == 3) = false := by simp [k3]
    rw [if_neg k3] at hno
    rw [hno rfl]
    simp (maxSteps := 4000000) -implicitDefEqProofs only [go_sem, f1, n1, n2, hxi, vD, vDs_eq, q3, qn2, b2, Option.some.injEq, forall_eq', and_true, true_and, Bool.not_true, Bool.not_false, decide_true, Nat.reduceAdd, Nat.reduceSub, Nat.reduceLT, Nat.reduceLeDiff, Nat.reduceEqDiff, ↓reduceIte]
    refine ⟨⟨by omega, by omega⟩, ?_⟩
    exact fail _
  have q3 : (xk == 3) = true := by simp [k3]
  rw [if_pos k3] at hno hyes
  have dl2 : ((xl.length : Int) == 2) = decide (xl.length = 2) := by rw [Bool.eq_iff_iff]; simp; omega
  by_cases hl2 : xl.length = 2
  case neg =>
    rw [decide_eq_false hl2] at dl2
    have : cpP xl = none := by
      unfold cpP
      split
      · simp at hl2
      · rfl
    rw [hno this]
    simp (maxSteps := 4000000) -implicitDefEqProofs only [go_sem, f1, n1, n2, hxi, vD, vDs_eq, q3, dl2, qn2, b2, Option.some.injEq, forall_eq', and_true, true_and, Bool.not_true, Bool.not_false, decide_true, Nat.reduceAdd, Nat.reduceSub, Nat.reduceLT, Nat.reduceLeDiff, Nat.reduceEqDiff, ↓reduceIte]
    refine ⟨⟨by omega, by omega⟩, ?_⟩
    exact fail _
  rw [decide_eq_true hl2] at dl2
  apply Exists.elim (show ∃ y z, xl = [y, z] by
    match xl, hl2 with
    | [y, z], _ => exact ⟨y, z, rfl⟩)
  intro y hy
  apply Exists.elim hy
  intro z hxl
  obtain ⟨k1, m1, b1', l1⟩ := y
  obtain ⟨k4, m2, b2', l2⟩ := z
  have hx0 : xl[0]? = some (.mk k1 m1 b1' l1) := by rw [hxl]; rfl
  have hx1 : xl[1]? = some (.mk k4 m2 b2' l2) := by rw [hxl]; rfl
  have hcp : cpP xl = if k1 = 1 ∧ k4 = 1 ∧ copies ⟨m1, m2, []⟩ = true then some ⟨m1, m2, []⟩ else none := by rw [hxl, cpP]
  rw [hcp] at hno hyes
  have r1 : -9223372036854775808 ≤ m1 ∧ m1 ≤ 9223372036854775807 := by
    obtain ⟨_, _, _, _, hn, _⟩ := hxx (.mk k1 m1 b1' l1) (by rw [hxl]; simp); exact hn
  have r2 : -9223372036854775808 ≤ m2 ∧ m2 ≤ 9223372036854775807 := by
    obtain ⟨_, _, _, _, hn, _⟩ := hxx (.mk k4 m2 b2' l2) (by rw [hxl]; simp); exact hn
  have i1 : IntKind.i64.wrap m1 = m1 := i64_in _ r1
  have i2 : IntKind.i64.wrap m2 = m2 := i64_in _ r2
  have cc := copies_ref ⟨m1, m2, []⟩
  unfold pA at cc
  simp only [List.map_nil] at cc
  have z0 : (0 ≤ (0 : Int) ∧ (0 : Int) < (xl.length : Int)) = True := eq_true (by omega)
  have z01 : (0 ≤ (1 : Int) ∧ (1 : Int) < (xl.length : Int)) = True := eq_true (by omega)
  have z02 : (0 < xl.length) = True := eq_true (by omega)
  have z03 : (1 < xl.length) = True := eq_true (by omega)
  have q1 : (k1 == 1) = decide (k1 = 1) := by rw [Bool.eq_iff_iff]; simp
  have q4 : (k4 == 1) = decide (k4 = 1) := by rw [Bool.eq_iff_iff]; simp
  have hcs : copies ⟨m1, m2, []⟩ = true → m1 ≤ 2000 ∧ m2 ≤ 2000 := fun h => by
    unfold copies at h; rw [decide_eq_true_eq] at h; simp only at h; omega
  have hvd : (m.map pD ++ [[.int .i64 m1, .int .i64 m2, .sl []]] : List (List D)) = (m ++ [(⟨m1, m2, []⟩ : Part)]).map pD := by
    rw [List.map_append]; simp only [List.map_cons, List.map_nil, pD]
  generalize copies ⟨m1, m2, []⟩ = B at cc hno hyes hcs
  have bad : ¬ (k1 = 1 ∧ k4 = 1 ∧ B = true) → R = ([], 12) := fun h => hno (if_neg h)
  by_cases p1 : k1 = 1
  case neg =>
    rw [bad (fun h => p1 h.1)]
    rw [decide_eq_false p1] at q1
    simp (maxSteps := 4000000) -implicitDefEqProofs only [go_sem, f1, n1, n2, hxi, vD, vDs_eq, q3, dl2, qn2, b2, z0, z01, z02, z03, hx0, hx1, q1, Option.some.injEq, forall_eq', and_true, true_and, Bool.not_true, Bool.not_false, decide_true, Nat.reduceAdd, Nat.reduceSub, Nat.reduceLT, Nat.reduceLeDiff, Nat.reduceEqDiff, ↓reduceIte]
    refine ⟨⟨by omega, by omega⟩, ?_⟩
    exact fail _
  rw [decide_eq_true p1] at q1
  by_cases p4 : k4 = 1
  case neg =>
    rw [bad (fun h => p4 h.2.1)]
    rw [decide_eq_false p4] at q4
    simp (maxSteps := 4000000) -implicitDefEqProofs only [go_sem, f1, n1, n2, hxi, vD, vDs_eq, q3, dl2, qn2, b2, z0, z01, z02, z03, hx0, hx1, q1, q4, Option.some.injEq, forall_eq', and_true, true_and, Bool.not_true, Bool.not_false, decide_true, Nat.reduceAdd, Nat.reduceSub, Nat.reduceLT, Nat.reduceLeDiff, Nat.reduceEqDiff, ↓reduceIte]
    refine ⟨⟨by omega, by omega⟩, ?_⟩
    exact fail _
  rw [decide_eq_true p4] at q4
  by_cases c1 : m1 ≤ 2000
  case neg =>
    have d1 : decide (m1 ≤ 2000) = false := decide_eq_false c1
    rw [bad (fun h => c1 (hcs h.2.2).1)]
    simp (maxSteps := 4000000) -implicitDefEqProofs only [go_sem, f1, n1, n2, hxi, vD, vDs_eq, q3, dl2, qn2, b2, z0, z01, z02, z03, hx0, hx1, q1, q4, d1, Option.some.injEq, forall_eq', and_true, true_and, Bool.not_true, Bool.not_false, decide_true, Nat.reduceAdd, Nat.reduceSub, Nat.reduceLT, Nat.reduceLeDiff, Nat.reduceEqDiff, ↓reduceIte]
    refine ⟨⟨by omega, by omega⟩, ?_⟩
    exact fail _
  have d1 : decide (m1 ≤ 2000) = true := decide_eq_true c1
  by_cases c2 : m2 ≤ 2000
  case neg =>
    have d2 : decide (m2 ≤ 2000) = false := decide_eq_false c2
    rw [bad (fun h => c2 (hcs h.2.2).2)]
    simp (maxSteps := 4000000) -implicitDefEqProofs only [go_sem, f1, n1, n2, hxi, vD, vDs_eq, q3, dl2, qn2, b2, z0, z01, z02, z03, hx0, hx1, q1, q4, d1, d2, Option.some.injEq, forall_eq', and_true, true_and, Bool.not_true, Bool.not_false, decide_true, Nat.reduceAdd, Nat.reduceSub, Nat.reduceLT, Nat.reduceLeDiff, Nat.reduceEqDiff, ↓reduceIte]
    refine ⟨⟨by omega, by omega⟩, ?_⟩
    exact fail _
  have d2 : decide (m2 ≤ 2000) = true := decide_eq_true c2
  simp (maxSteps := 4000000) -implicitDefEqProofs only [go_sem, f1, n1, n2, hxi, vD, vDs_eq, q3, dl2, qn2, b2, z0, z01, z02, z03, hx0, hx1, q1, q4, d1, d2, Option.some.injEq, forall_eq', and_true, true_and, Bool.not_true, Bool.not_false, decide_true, Nat.reduceAdd, Nat.reduceSub, Nat.reduceLT, Nat.reduceLeDiff, Nat.reduceEqDiff, ↓reduceIte]
  refine ⟨⟨by omega, by omega⟩, ?_⟩
  refine DX.plain (.take 0 false (.take 1 false (.take 2 false (.take 3 false (.take 4 false (.take 5 false (.take 6 false (.take 7 false (.take 8 false (.take 9 false (.take 10 false (.run [11] (fun _ => []) fun _ => .done)))))))))))) (by kernel_rfl) (by kernel_rfl) Ty.mixed ?_
  simp (maxSteps := 4000000) -implicitDefEqProofs only [go_sem, z0, z01, z02, z03, hx0, hx1, vD, vDs_eq, i1, i2, Option.some.injEq, forall_eq', and_true, true_and, Bool.not_true, Bool.not_false, decide_true, Nat.reduceAdd, Nat.reduceSub, Nat.reduceLT, Nat.reduceLeDiff, Nat.reduceEqDiff, ↓reduceIte]
  refine ECall.dat (by simp only [go_sem]; rfl) (by rfl) ?_
  refine .all _ _ (cc.lift0 _ (by simp only [go_sem]) (by simp only [go_sem])) ?_
  cases B with
  | false =>
    rw [bad (fun h => by cases h.2.2)]
    simp (maxSteps := 4000000) -implicitDefEqProofs only [go_sem, b2, Option.some.injEq, forall_eq', and_true, true_and, Bool.not_true, Bool.not_false, decide_true, Nat.reduceAdd, Nat.reduceSub, Nat.reduceLT, Nat.reduceLeDiff, Nat.reduceEqDiff, ↓reduceIte]
    exact fail _
  | true =>
    have hyes := hyes ⟨m1, m2, []⟩ (if_pos ⟨p1, p4, rfl⟩)
    simp (maxSteps := 4000000) -implicitDefEqProofs only [go_sem, b1, w1, Option.some.injEq, forall_eq', and_true, true_and, Bool.not_true, Bool.not_false, decide_true, Nat.reduceAdd, Nat.reduceSub, Nat.reduceLT, Nat.reduceLeDiff, Nat.reduceEqDiff, ↓reduceIte]
    refine ⟨by decide, ⟨fun e he => by simp at he; subst he; rfl, by omega, by omega⟩, ?_⟩
    exact .mk ((i + 1, m ++ [(⟨m1, m2, []⟩ : Part)]) : Nat × List Part) ⟨by show i + 1 ≤ l.length; omega, by show (m ++ [(⟨m1, m2, []⟩ : Part)]).length = i + 1; simp; omega, hyes⟩ (by show l.length - (i + 1) < l.length - i; omega) (by rw [hvd]; exact (Wk.via [0, 7] (by (simp only [go_sem, ↓reduceIte]) <;> trivial) (by first | (simp (maxSteps := 4000000) -implicitDefEqProofs only [go_sem, Nat.reduceAdd, Nat.reduceSub, Nat.reduceLT, Nat.reduceLeDiff, Nat.reduceEqDiff, ↓reduceIte]; done) | ((simp (maxSteps := 4000000) -implicitDefEqProofs only [go_sem, Nat.reduceAdd, Nat.reduceSub, Nat.reduceLT, Nat.reduceLeDiff, Nat.reduceEqDiff, ↓reduceIte]) <;> omega)) (by simp) (by first | (simp; done) | (simp [so]; done)) (by (simp (maxSteps := 4000000) -implicitDefEqProofs only [go_sem, Nat.reduceAdd, Nat.reduceSub, Nat.reduceLT, Nat.reduceLeDiff, Nat.reduceEqDiff, ↓reduceIte]) <;> trivial) (by first | (simp only [go_sem]; done) | ((simp (maxSteps := 4000000) -implicitDefEqProofs only [go_sem, Nat.reduceAdd, Nat.reduceSub, Nat.reduceLT, Nat.reduceLeDiff, Nat.reduceEqDiff, ↓reduceIte]) <;> omega)) (Nat.zero_le _) (fun i h => absurd h (Nat.not_lt_zero i))))
end Go.AX.De

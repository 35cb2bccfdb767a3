/- QueueAsks: whatever the input, the law returns true, and its arguments read as they did. No condition. -/
import Derived.Test.YtejipcfaedookaaGreatK9
import Derived.Test.YtejipcfaedookaaGreatRows
import Derived.Shelf.RegionOpenPlain
import Derived.WalkKit
import Derived.Deep.LoopGhost
import Derived.Deep.RegionLaw
import Derived.Lib.Walk
import Derived.Lib.SliceRun
set_option maxHeartbeats 8000000
set_option linter.unusedVariables false
set_option linter.unusedSimpArgs false
set_option maxRecDepth 20000
namespace Go.AX.Qu
open Go.Proofs Go.RowKit Go.IntWalk Go.AX.Br
theorem int_of {n : Nat} {d : List D} (h : Tyd Tryz.prog (n + 1) 3 d) : ∃ i : Int, d = [.int .i64 i] ∧ (-9223372036854775808 ≤ i ∧ i ≤ 9223372036854775807) := by
  obtain ⟨i, rfl, hw⟩ := h.int Ty.under_3
  exact ⟨i, rfl, wf_i64 hw⟩
theorem u8_of {n : Nat} {d : List D} (h : Tyd Tryz.prog (n + 1) 5 d) : ∃ i : Int, d = [.int .u8 i] ∧ (0 ≤ i ∧ i ≤ 255) := by
  obtain ⟨i, rfl, hw⟩ := h.int Ty.under_5
  exact ⟨i, rfl, wf_u8 hw⟩
theorem bool_of {n : Nat} {d : List D} (h : Tyd Tryz.prog (n + 1) 4 d) : ∃ b : Bool, d = [.bool b] := h.bool Ty.under_4
theorem str_of {n : Nat} {d : List D} (h : Tyd Tryz.prog (n + 1) 9 d) : ∃ s : ByteArray, d = [.str s] ∧ Sm s.size := by
  obtain ⟨i, rfl, hw⟩ := h.str Ty.under_9
  exact ⟨i, rfl, hw⟩
theorem request_of {n : Nat} {x : List D} (h : Tyd Tryz.prog (n + 2) 46 x) : ∃ r : Rq, x = rD r ∧ (0 ≤ r.st ∧ r.st ≤ 255) ∧ (-9223372036854775808 ≤ r.tr ∧ r.tr ≤ 9223372036854775807) := by
  obtain ⟨f0, f1, f2, f3, f4, hu, e0, e1, e2, e3, e4⟩ : ∃ f0 f1 f2 f3 f4 : Field, Tryz.prog.underlying 46 = some (.struct #[f0, f1, f2, f3, f4]) ∧ f0.type = 9 ∧ f1.type = 9 ∧ f2.type = 5 ∧ f3.type = 4 ∧ f4.type = 3 := ⟨_, _, _, _, _, by rfl, rfl, rfl, rfl, rfl, rfl⟩
  have this := h.struct hu
  simp only [List.map_cons, List.map_nil, Sq] at this
  obtain ⟨a0, b0, rfl, k0, a1, b1, rfl, k1, a2, b2, rfl, k2, a3, b3, rfl, k3, a4, b4, rfl, k4, rfl⟩ := this
  rw [e0] at k0; rw [e1] at k1; rw [e2] at k2; rw [e3] at k3; rw [e4] at k4
  obtain ⟨i, rfl, _⟩ := str_of k0
  obtain ⟨j, rfl, _⟩ := str_of k1
  obtain ⟨s, rfl, hs⟩ := u8_of k2
  obtain ⟨o, rfl⟩ := bool_of k3
  obtain ⟨t, rfl, ht⟩ := int_of k4
  exact ⟨⟨i, j, s, o, t⟩, rfl, hs, ht⟩
theorem requests_of {n : Nat} {d : List D} (h : Tyd Tryz.prog (n + 3) 27 d) : ∃ q : List Rq, d = [.sl (q.map rD)] ∧ Sm q.length ∧ ∀ r ∈ q, (0 ≤ r.st ∧ r.st ≤ 255) ∧ (-9223372036854775808 ≤ r.tr ∧ r.tr ≤ 9223372036854775807) := by
  obtain ⟨es, rfl, h1, h2⟩ := h.slice Ty.under_27
  obtain ⟨l, rfl, hl⟩ := rows_ofP (g := rD) fun x hx => request_of (h2 x hx)
  refine ⟨l, rfl, ?_, hl⟩
  have hb : Tryz.prog.bytesOf 46 = 48 := by kernel_rfl
  rw [hb, List.length_map] at h1
  unfold Sm; omega
end Go.AX.Qu
namespace Go.AX.Qu
open Go.Proofs Go.Shelf Go.RowKit Go.Lib
set_option maxHeartbeats 4000000
set_option maxRecDepth 1000000
theorem set_cells_row (b o : Nat) (ty : TypeId) (vs : Array Value) (w : World) (news : List Value) (hb : w.heap[b]? = some (.cells vs ty (0, 0))) (hl : o + news.length ≤ vs.size) (h1 : ∀ v ∈ news, v.oneCell' = true) :
    w.setCells b o news = w.setRow b (vs.toList.take o ++ news ++ vs.toList.drop (o + news.length)).toArray := by
  have e1 := run_storeCells_at Tryz.prog b o ty news 0 vs w hb (by simpa using hl) h1
  have e2 := run_storeCells_cells (P := Tryz.prog) b o news 0 w (fun j hj => by simp [World.cell?, hb]; omega) (fun j hj => by simp [World.frozen?, hb]) h1
  simp only [Nat.add_zero] at e1 e2
  have := e1.symm.trans e2
  injection this with _ h
  exact h.symm
theorem del (b cap n i j : Nat) (vs : Array Value) (ty : TypeId) (w : World) (hij : i < j) (hj : j ≤ n) (hn : n ≤ cap) (hm : n ≤ 9223372036854775807) (hb : w.heap[b]? = some (.cells vs ty (0, 0))) (hs : vs.size = cap * 5)
    (h1 : ∀ (k : Nat) (u : Value), vs[k]? = some u → k < n * 5 → u.oneCell' = true) (zs : List Value)
    (hcl : ∀ ty' W1, W1 = w.drew.setCells b (0 + i * 5) ((vs.toList.drop (j * 5)).take ((n - j) * 5)) → (Builtin.clear_ #[27] ty' #[.slice (some ⟨b, (i + (n - j)) * 5, none⟩) (n - (i + (n - j))) (cap - (i + (n - j)))]).run Tryz.prog W1 = .ok (.tuple #[]) (W1.setCells b ((i + (n - j)) * 5) zs)) :
    Calls Tryz.prog 88 #[.slice (some ⟨b, 0, none⟩) n cap, .int .i64 i, .int .i64 j] w fun e w' => e = .returned (.slice (some ⟨b, 0, none⟩) (i + (n - j)) cap) ∧ w' = (w.drew.setCells b (0 + i * 5) ((vs.toList.drop (j * 5)).take ((n - j) * 5))).setCells b ((i + (n - j)) * 5) zs := by
  have t22 : Tryz.prog.underlying 27 = some (.slice 46) := Ty.under_27
  have mixed : Tryz.prog.follows .mixedOrders = true := Ty.mixed
  obtain ⟨d0, i0, hu0, hi0, ha0, hz0⟩ := tk_spec Ty.tk_46
  obtain ⟨news, hnews⟩ : ∃ news, news = (vs.toList.drop (j * 5)).take ((n - j) * 5) := ⟨_, rfl⟩
  rw [← hnews] at hcl ⊢
  have hvl : vs.toList.length = cap * 5 := by simp [hs]
  have hlen : news.length = (n - j) * 5 := by rw [hnews, List.length_take, List.length_drop, hvl]; omega
  have hget : ∀ t, t < (n - j) * 5 → news[t]? = vs[j * 5 + t]? := fun t ht => by
    rw [hnews, List.getElem?_take_of_lt ht, List.getElem?_drop, Array.getElem?_toList]
  have cell : ∀ k, k < cap * 5 → w.drew.cell? ⟨b, k, none⟩ = vs[k]? := fun k hk => by
    show w.cell? _ = _
    simp [World.cell?, hb]
  obtain ⟨A, hA, hsrc⟩ : ∃ A : Addr, (if cap = j then some (⟨b, 0, none⟩ : Addr) else some ⟨b, j * 5, none⟩) = some A ∧ Hid (∀ t u, news[t]? = some u → w.drew.cell? (A.add t) = some u) := by
    by_cases h : cap = j
    · refine ⟨⟨b, 0, none⟩, by simp [h], fun t u hu => ?_⟩
      have h0 : news.length = 0 := by rw [hlen]; omega
      rw [List.length_eq_zero_iff.1 h0] at hu
      simp at hu
    · refine ⟨⟨b, j * 5, none⟩, by simp [h], fun t u hu => ?_⟩
      have ht : t < (n - j) * 5 := by
        have := (List.getElem?_eq_some_iff.1 hu).1
        rwa [hlen] at this
      rw [hget t ht] at hu
      rw [show (⟨b, j * 5, none⟩ : Addr).add t = ⟨b, j * 5 + t, none⟩ by simp [Addr.add]]
      rw [cell _ (by omega)]; exact hu
  have s1 : Hid (news.length = (n - j) * 5) := hlen
  have s2 : Hid (∀ u ∈ news, u.oneCell' = true) := by
    intro u hu
    obtain ⟨t, ht⟩ := List.mem_iff_getElem?.1 hu
    have hlt := some_lt ht
    rw [hlen] at hlt
    rw [hget t hlt] at ht
    exact h1 _ u ht (by omega)
  have s3 : Hid (∀ t, t < news.length → (w.drew.cell? ⟨b, 0 + i * 5 + t, none⟩).isSome = true ∧ w.drew.frozen? ⟨b, 0 + i * 5 + t, none⟩ = false) := by
    intro t ht
    rw [hlen] at ht
    refine ⟨?_, ?_⟩
    · rw [cell _ (by omega), Array.getElem?_eq_getElem (by omega)]; rfl
    · show w.frozen? _ = false
      simp [World.frozen?, hb]
  obtain ⟨W1, hW1⟩ : ∃ W1, W1 = w.drew.setCells b (0 + i * 5) news := ⟨_, rfl⟩
  have hcl' := fun ty' => hcl ty' W1 hW1
  have hW : Hid (W1 = w.drew.setCells b (0 + i * 5) news) := hW1
  rw [← hW1]
  have hic : i ≤ cap := by omega
  have hjc : j ≤ cap := by omega
  have hlt : i < j := hij
  clear hcl hget hnews cell hlen hb h1 hs hvl hW1
  go_enter Tryz.func88, Tryz.ntmps88
  go_wp2_with fail
  go_region_law_o (refine step_append_room rfl (.tmp 22) (.tmp 25) 27 rfl 46 i0 5 t22 hi0 hz0 b 0 i cap (by simp [Act.eval, Act.put]) A (n - j) (cap - j) news (by simp [Act.eval, Act.put]) s1.out hsrc.out s2.out (by omega) s3.out ?_; rw [← hW.out])
  go_wp2
  go_ret; exact ⟨rfl, rfl⟩
theorem clear5 (P : Program) (t e : TypeId) (z : Value) (w0 : World) (ht : P.underlying t = some (.slice e)) (hv : ∀ w, (zeroValue e).run P w = .ok z w) (h1 : ∀ u ∈ z.cells.toList, u.oneCell' = true) (b o n c : Nat) (ty : TypeId) (W : World) (hn : 0 < n)
    (vs : Array Value) (tb : TypeId) (hb : W.heap[b]? = some (.cells vs tb (0, 0))) (hl : o + n * z.cells.size ≤ vs.size) :
    (Builtin.zeroCells z.cells n).toList.length = n * z.cells.size ∧ (∀ u ∈ (Builtin.zeroCells z.cells n).toList, u.oneCell' = true) ∧ (Builtin.clear_ #[t] ty #[.slice (some ⟨b, o, none⟩) n c]).run P W = .ok (.tuple #[]) (W.setCells b o (Builtin.zeroCells z.cells n).toList) := by
  have hl1 : (Builtin.zeroCells z.cells n).toList.length = n * z.cells.size := by simp [Builtin.zeroCells]
  have hone : ∀ u ∈ (Builtin.zeroCells z.cells n).toList, u.oneCell' = true := by
    intro u hu
    simp only [Builtin.zeroCells, Array.toList_map, List.mem_map, Array.toList_range, List.mem_range] at hu
    obtain ⟨k, hk, rfl⟩ := hu
    have h0 : 0 < z.cells.size := by
      rcases Nat.eq_zero_or_pos z.cells.size with h | h
      · rw [h] at hk; simp at hk
      · exact h
    have hm := Nat.mod_lt k h0
    apply h1
    rw [getElem!_pos z.cells _ hm]
    simp
  refine ⟨hl1, hone, ?_⟩
  have hst := run_storeCells_cells (P := P) b o (Builtin.zeroCells z.cells n).toList 0 W (by rw [hl1]; intro j hj; simp [World.cell?, hb]; omega) (by intro j hj; simp [World.frozen?, hb]) hone
  simp only [Nat.add_zero] at hst
  obtain ⟨m, rfl⟩ : ∃ m, n = m + 1 := ⟨n - 1, by omega⟩
  simp [Builtin.clear_, run_underlying ht, hv, hst]
theorem ARs_one {c : Cf} : ∀ {xs : List D} {vs : List Value}, ARs c (xs.map .d) vs → ∀ u ∈ vs, u.oneCell' = true
  | [], vs, h, u, hu => by rw [ARs_nil_left h] at hu; simp at hu
  | x :: xs, vs, h, u, hu => by
    obtain ⟨v, r, rfl, h1, h2⟩ := ARs_cons_left h
    simp only [AR] at h1
    rcases List.mem_cons.1 hu with rfl | h3
    · exact (DR_cells h1).2
    · exact ARs_one h2 u h3
theorem flat_take (es : List (List D)) (h : ∀ e ∈ es, e.length = 5) (n : Nat) : (es.take n).flatten = es.flatten.take (n * 5) := by
  have hl := flatten_len (es := es.take n) (sz := 5) fun e he => h e (List.mem_of_mem_take he)
  have e : es.flatten = (es.take n).flatten ++ (es.drop n).flatten := by rw [← List.flatten_append, List.take_append_drop]
  rcases Nat.le_total n es.length with h2 | h2
  · rw [e]; exact (take_left' (by rw [hl, List.length_take]; omega)).symm
  · rw [List.take_of_length_le h2, List.take_of_length_le]
    rw [flatten_len (sz := 5) h]; omega
theorem flat_drop (es : List (List D)) (h : ∀ e ∈ es, e.length = 5) (n : Nat) : (es.drop n).flatten = es.flatten.drop (n * 5) := by
  have hl := flatten_len (es := es.take n) (sz := 5) fun e he => h e (List.mem_of_mem_take he)
  have e : es.flatten = (es.take n).flatten ++ (es.drop n).flatten := by rw [← List.flatten_append, List.take_append_drop]
  rcases Nat.le_total n es.length with h2 | h2
  · rw [e]; exact (List.drop_left' (by rw [hl, List.length_take]; omega)).symm
  · rw [List.drop_of_length_le h2, List.drop_of_length_le]
    · rfl
    rw [flatten_len (sz := 5) h]; omega
theorem row_del {c : Cf} {es : List (List D)} {i j cap : Nat} {vs : Array Value} {ty : TypeId} {zs : List Value} (H : Holds c [.row 5 es]) (hij : i < j) (hj : j ≤ es.length) (h0 : 0 < cap) (hu : c.u 0 = .slice (some ⟨c.ν 0, 0, none⟩) es.length cap) (hcap : es.length ≤ cap)
    (hb : c.w.heap[c.ν 0]? = some (.cells vs ty (0, 0))) (hvs : vs.size = cap * 5) (hes : ∀ e ∈ es, e.length = 5) (hd : DRs c.h es.flatten (vs.toList.take (es.length * 5))) (hzl : zs.length = (es.length - (i + (es.length - j))) * 5) (hzo : ∀ u ∈ zs, u.oneCell' = true) :
    ∃ W1 W2 cur1, W1 = c.w.drew.setCells (c.ν 0) (0 + i * 5) ((vs.toList.drop (j * 5)).take ((es.length - j) * 5)) ∧ W1.heap[c.ν 0]? = some (.cells cur1 ty (0, 0)) ∧ cur1.size = cap * 5 ∧ W2 = W1.setCells (c.ν 0) ((i + (es.length - j)) * 5) zs ∧
      ∃ c', c'.w = W2 ∧ AR c' (.own 1) (.slice (some ⟨c.ν 0, 0, none⟩) (i + (es.length - j)) cap) ∧ Nxt c [.row 5 es] c' [.gone, .row 5 (es.take i ++ es.drop j)] := by
  have hO : ([AObj.row 5 es])[0]? = some (.row 5 es) := rfl
  have hone := DRs_one hd
  obtain ⟨news, hnews⟩ : ∃ news, news = (vs.toList.drop (j * 5)).take ((es.length - j) * 5) := ⟨_, rfl⟩
  have hvl : vs.toList.length = cap * 5 := by simp [hvs]
  have hnl : news.length = (es.length - j) * 5 := by rw [hnews, List.length_take, List.length_drop, hvl]; omega
  have hnd : news = (vs.toList.take (es.length * 5)).drop (j * 5) := by
    rw [hnews, List.drop_take]; congr 1; omega
  have hn1 : ∀ u ∈ news, u.oneCell' = true := fun u hu => hone u (by rw [hnd] at hu; exact List.mem_of_mem_drop hu)
  have hb' : c.w.drew.heap[c.ν 0]? = some (.cells vs ty (0, 0)) := hb
  have hw1 := set_cells_row (c.ν 0) (0 + i * 5) ty vs c.w.drew news hb' (by rw [hnl, hvs]; omega) hn1
  obtain ⟨cur1, hc1⟩ : ∃ q : Array Value, q = (vs.toList.take (0 + i * 5) ++ news ++ vs.toList.drop (0 + i * 5 + news.length)).toArray := ⟨_, rfl⟩
  rw [← hc1] at hw1
  have hc1s : cur1.size = cap * 5 := by rw [hc1]; simp [hnl, hvs]; omega
  have hb1 := setRow_heap c.w.drew (c.ν 0) vs cur1 ty (0, 0) hb'
  have hw2 := set_cells_row (c.ν 0) ((i + (es.length - j)) * 5) ty cur1 (c.w.drew.setRow (c.ν 0) cur1) zs hb1 (by rw [hzl, hc1s]; omega) hzo
  obtain ⟨cur2, hc2⟩ : ∃ q : Array Value, q = (cur1.toList.take ((i + (es.length - j)) * 5) ++ zs ++ cur1.toList.drop ((i + (es.length - j)) * 5 + zs.length)).toArray := ⟨_, rfl⟩
  rw [← hc2] at hw2
  have hc2s : cur2.size = cap * 5 := by rw [hc2]; simp [hzl, hc1s]; omega
  have hb2 := setRow_heap (c.w.drew.setRow (c.ν 0) cur1) (c.ν 0) cur1 cur2 ty (0, 0) hb1
  have N0 := Nxt.drew H
  have hh0 : Has (c.at c.w.drew) 0 (.row 5 es) := ⟨_, _, _, hu, h0⟩
  have hpre : RowB ((c.at c.w.drew).put (c.at c.w.drew).w ((c.at c.w.drew).ν 0) (.slice (some ⟨c.ν 0, 0, none⟩) (i + (es.length - j)) cap)) (c.at c.w.drew).n 5 (es.take (i + (es.length - j))) := by
    refine ⟨cap, vs, ty, h0, by simp [Cf.put, Cf.at]; omega, by simp; omega, ?_, hvs, fun e he => hes e (List.mem_of_mem_take he), ?_⟩
    · have : ((c.at c.w.drew).put (c.at c.w.drew).w ((c.at c.w.drew).ν 0) (.slice (some ⟨c.ν 0, 0, none⟩) (i + (es.length - j)) cap)).ν (c.at c.w.drew).n = c.ν 0 := by simp [Cf.put, Cf.at]
      rw [this]; exact hb'
    · have e1 : (es.take (i + (es.length - j))).length = i + (es.length - j) := by simp; omega
      rw [e1, flat_take es hes]
      have := DRs_take ((i + (es.length - j)) * 5) hd
      rw [List.take_take, Nat.min_eq_left (by omega)] at this
      exact this
  have N1 := Nxt.take N0.hold (l := 0) hO hh0 (.slice (some ⟨c.ν 0, 0, none⟩) (i + (es.length - j)) cap) (o' := .row 5 (es.take (i + (es.length - j)))) (.inr hpre)
  obtain ⟨c1, hcc⟩ : ∃ c1, c1 = (c.at c.w.drew).put (c.at c.w.drew).w ((c.at c.w.drew).ν 0) (.slice (some ⟨c.ν 0, 0, none⟩) (i + (es.length - j)) cap) := ⟨_, rfl⟩
  rw [← hcc] at N1 hpre
  have cn : c.n = 1 := H.n
  have c1w : c1.w = c.w.drew := by rw [hcc]; rfl
  have c1u : c1.u 1 = .slice (some ⟨c.ν 0, 0, none⟩) (i + (es.length - j)) cap := by rw [hcc]; simp [Cf.put, Cf.at, cn]
  have c1v : c1.ν 1 = c.ν 0 := by rw [hcc]; simp [Cf.put, Cf.at, cn]
  have c1n : c1.n = 2 := by rw [hcc]; simp [Cf.put, Cf.at, cn]
  have c1h : c1.h = c.h := by rw [hcc]; rfl
  have hne : (es.take i ++ es.drop j).length = i + (es.length - j) := by simp; omega
  have hall : ∀ e ∈ es.take i ++ es.drop j, e.length = 5 := fun e he => by
    rcases List.mem_append.1 he with q | q
    · exact hes e (List.mem_of_mem_take q)
    · exact hes e (List.mem_of_mem_drop q)
  have hdata : DRs c.h (es.take i ++ es.drop j).flatten (vs.toList.take (i * 5) ++ news) := by
    rw [List.flatten_append, flat_take es hes, flat_drop es hes]
    refine DRs_append ?_ ?_
    · have := DRs_take (i * 5) hd
      rw [List.take_take, Nat.min_eq_left (by omega)] at this
      exact this
    · rw [hnd]; exact DRs_drop (j * 5) hd
  have hlen1 : (vs.toList.take (i * 5) ++ news).length = (i + (es.length - j)) * 5 := by simp [hnl, hvl]; omega
  have hk1 : cur1.toList.take ((i + (es.length - j)) * 5) = vs.toList.take (i * 5) ++ news := by
    rw [hc1]; simp only [Nat.zero_add]; exact take_left' hlen1
  have hk2 : cur2.toList.take ((i + (es.length - j)) * 5) = vs.toList.take (i * 5) ++ news := by
    rw [hc2, ← hk1]; simp only [List.append_assoc]; exact take_left' (by rw [hk1]; exact hlen1)
  have mk : ∀ (w : World) (cur : Array Value), cur.size = cap * 5 → w.heap[c.ν 0]? = some (.cells cur ty (0, 0)) → cur.toList.take ((i + (es.length - j)) * 5) = vs.toList.take (i * 5) ++ news → RowB (c1.at w) 1 5 (es.take i ++ es.drop j) := fun w cur q1 q2 q3 => by
    refine ⟨cap, cur, ty, h0, ?_, by rw [hne]; omega, ?_, q1, hall, ?_⟩
    · show c1.u 1 = _
      rw [c1u, hne]; show _ = Value.slice (some ⟨c1.ν 1, 0, none⟩) _ _; rw [c1v]
    · show w.heap[c1.ν 1]? = _
      rw [c1v]; exact q2
    · rw [hne, q3]; show DRs c1.h _ _; rw [c1h]; exact hdata
  have hO1 : ((([AObj.row 5 es]).set 0 .gone) ++ [AObj.row 5 (es.take (i + (es.length - j)))])[1]? = some (.row 5 (es.take (i + (es.length - j)))) := rfl
  have N2 := Nxt.upd N1.hold (l := 1) hO1 ⟨_, _, _, c1u, h0⟩ (c.w.drew.setRow (c.ν 0) cur1) (fun b hb => by rw [c1w]; rw [c1v] at hb; exact heap_same b hb) (by rw [c1w]; simp) (by rw [c1w]; rfl) (by rw [c1w]; rfl) (by rw [c1w]; rfl) (o' := .row 5 (es.take i ++ es.drop j)) (.inr (mk _ cur1 hc1s hb1 hk1))
  have hO2 : ((([AObj.row 5 es]).set 0 .gone ++ [AObj.row 5 (es.take (i + (es.length - j)))]).set 1 (.row 5 (es.take i ++ es.drop j)))[1]? = some (.row 5 (es.take i ++ es.drop j)) := rfl
  have N3 := Nxt.upd N2.hold (l := 1) hO2 ⟨_, _, _, c1u, h0⟩ ((c.w.drew.setRow (c.ν 0) cur1).setRow (c.ν 0) cur2) (fun b hb => by replace hb : b ≠ c1.ν 1 := hb; rw [c1v] at hb; exact heap_same b hb) (by show _ = (c.w.drew.setRow (c.ν 0) cur1).heap.size; simp) rfl rfl rfl (o' := .row 5 (es.take i ++ es.drop j)) (.inr (mk _ cur2 hc2s hb2 hk2))
  refine ⟨c.w.drew.setRow (c.ν 0) cur1, (c.w.drew.setRow (c.ν 0) cur1).setRow (c.ν 0) cur2, cur1, by rw [← hnews]; exact hw1.symm, hb1, hc1s, hw2.symm, (c1.at (c.w.drew.setRow (c.ν 0) cur1)).at ((c.w.drew.setRow (c.ν 0) cur1).setRow (c.ν 0) cur2), rfl, ?_, ((N0.trans N1).trans N2).trans N3⟩
  simp only [AR]
  refine ⟨?_, ?_, _, _, _, rfl⟩
  · show 1 < c1.n; omega
  · show _ = c1.u 1; rw [c1u]
theorem clear_rq (c : Cf) (m : Nat) (hm : 0 < m) : ∃ zs : List Value, zs.length = m * 5 ∧ (∀ u ∈ zs, u.oneCell' = true) ∧ ∀ (b o n : Nat) (ty : TypeId) (W : World) (cur : Array Value) (tb : TypeId), W.heap[b]? = some (.cells cur tb (0, 0)) → o + m * 5 ≤ cur.size →
    (Builtin.clear_ #[27] ty #[.slice (some ⟨b, o, none⟩) m n]).run Tryz.prog W = .ok (.tuple #[]) (W.setCells b o zs) := by
  obtain ⟨e, ie, z, g1, g2, g3, g4, g5, g6, g7⟩ := ei_spec Ty.ei_27
  have ht : e = 46 := by
    have := g1.symm.trans Ty.under_27
    simpa using this
  subst ht
  have hz : ∀ w, (zeroValue 46).run Tryz.prog w = .ok z w := fun w => by simp [zeroValue, typeInfo, g2, g3]
  have hz1 : ∀ u ∈ z.cells.toList, u.oneCell' = true := by
    obtain ⟨z', hz', hzA⟩ := zv_spec Ty.zv_46 c c.w
    have : z' = z := by
      have := hz'.symm.trans (hz c.w)
      injection this
    subst this
    simp only [dv, if_true, AR] at hzA
    obtain ⟨us, rfl, hus⟩ := hzA
    exact ARs_one hus
  have key := fun b o n ty W cur tb h1 h2 => clear5 Tryz.prog 27 _ z c.w g1 hz hz1 b o m n ty W hm cur tb h1 h2
  have hl1 : (Builtin.zeroCells z.cells m).toList.length = m * z.cells.size := by simp [Builtin.zeroCells]
  rw [g4] at hl1
  refine ⟨_, hl1, ?_, fun b o n ty W cur tb h1 h2 => (key b o n ty W cur tb h1 (by rw [g4]; exact h2)).2.2⟩
  exact (key 0 0 0 0 { c.w with heap := #[.cells (Array.replicate (m * z.cells.size) undef) 0 (0, 0)] } _ 0 rfl (by simp)).2.1
theorem delete_core {c : Cf} {es : List (List D)} {i j cap : Nat} {vs : Array Value} {ty : TypeId} (H : Holds c [.row 5 es]) (hij : i < j) (hj : j ≤ es.length) (h0 : 0 < cap) (hu : c.u 0 = .slice (some ⟨c.ν 0, 0, none⟩) es.length cap) (hcap : es.length ≤ cap)
    (hb : c.w.heap[c.ν 0]? = some (.cells vs ty (0, 0))) (hvs : vs.size = cap * 5) (hes : ∀ e ∈ es, e.length = 5) (hd : DRs c.h es.flatten (vs.toList.take (es.length * 5))) (hm : es.length ≤ 1000000) :
    Calls Tryz.prog 88 #[.slice (some ⟨c.ν 0, 0, none⟩) es.length cap, .int .i64 i, .int .i64 j] c.w fun e w' => ∃ c' v, c'.w = w' ∧ e = .returned v ∧ AR c' (.own 1) v ∧ Nxt c [.row 5 es] c' [.gone, .row 5 (es.take i ++ es.drop j)] := by
  obtain ⟨m, hmm⟩ : ∃ m, m = es.length - (i + (es.length - j)) := ⟨_, rfl⟩
  obtain ⟨zs, z1, z2, z3⟩ := clear_rq c m (by omega)
  have hone := DRs_one hd
  have h1 : ∀ (k : Nat) (u : Value), vs[k]? = some u → k < es.length * 5 → u.oneCell' = true := fun k u hk hlt => by
    apply hone u
    rw [← Array.getElem?_toList] at hk
    exact List.mem_of_getElem? ((List.getElem?_take_of_lt hlt).trans hk)
  obtain ⟨W1, W2, cur1, hW1, hh1, hc1, hW2, c', hc', ha, hN⟩ := row_del H hij hj h0 hu hcap hb hvs hes hd (by rw [z1, hmm]) z2
  have h3 : ∀ ty' W, W = c.w.drew.setCells (c.ν 0) (0 + i * 5) ((vs.toList.drop (j * 5)).take ((es.length - j) * 5)) → (Builtin.clear_ #[27] ty' #[.slice (some ⟨c.ν 0, (i + (es.length - j)) * 5, none⟩) (es.length - (i + (es.length - j))) (cap - (i + (es.length - j)))]).run Tryz.prog W = .ok (.tuple #[]) (W.setCells (c.ν 0) ((i + (es.length - j)) * 5) zs) := by
    intro ty' W hW
    rw [← hW1] at hW
    rw [hW, ← hmm]
    exact z3 (c.ν 0) ((i + (es.length - j)) * 5) (cap - (i + (es.length - j))) ty' W1 cur1 ty hh1 (by rw [hc1]; omega)
  have hm2 : es.length ≤ 9223372036854775807 := by omega
  have hdel := del (c.ν 0) cap es.length i j vs ty c.w hij hj hcap hm2 hb hvs h1 zs h3
  refine Calls.mono hdel fun e w' h => ?_
  obtain ⟨h4, h5⟩ := h
  exact ⟨c', _, by rw [hc', hW2, hW1]; exact h5.symm, h4, ha, hN⟩
theorem delete_rq (es : List (List D)) (i j : Nat) (hij : i < j) (hj : j ≤ es.length) (hm : es.length ≤ 1000000) : Spec Tryz.prog 88 [.own 0, .d (.int .i64 i), .d (.int .i64 j)] [.row 5 es] (.own 1) [.gone, .row 5 (es.take i ++ es.drop j)] := by
  refine ⟨⟨_, rfl, rfl, rfl⟩, fun c avs H hA => ?_⟩
  obtain ⟨v0, r0, e0, a0, hA⟩ := ARs_cons_left hA
  obtain ⟨v1, r1, rfl, a1, hA⟩ := ARs_cons_left hA
  obtain ⟨v2, r2, rfl, a2, hA⟩ := ARs_cons_left hA
  have := ARs_nil_left hA; subst this
  have hav : avs = #[v0, v1, v2] := Array.ext' e0
  simp only [AR, DR] at a0 a1 a2
  obtain ⟨_, rfl, _⟩ := a0
  subst a1; subst a2
  have hO : ([AObj.row 5 es])[0]? = some (.row 5 es) := rfl
  rcases H.obj 0 _ hO with ⟨rfl, _⟩ | ⟨cap, vs, ty, h0, hu, hcap, hb, hvs, hes, hd⟩
  · simp at hj; omega
  rw [hav, hu]
  exact delete_core H hij hj h0 hu hcap hb hvs hes hd hm
end Go.AX.Qu
namespace Go.AX.Qu
open Go.Proofs Go.RowKit Go.IntWalk Go.AX.Br
abbrev Ru := ByteArray × Int × Int
def sAp : ByteArray := ⟨#[97, 112, 112, 114, 111, 118, 101]⟩
def sRe : ByteArray := ⟨#[114, 101, 106, 101, 99, 116]⟩
def sCa : ByteArray := ⟨#[99, 97, 110, 99, 101, 108]⟩
def sTr : ByteArray := ⟨#[114, 101, 116, 114, 121]⟩
def ruL : List Ru := [(sAp, 1, 2), (sRe, 1, 3), (sRe, 2, 3), (sCa, 1, 4), (sCa, 2, 4), (sCa, 7, 4), (sTr, 3, 1), (sTr, 7, 2)]
def ruD (r : Ru) : List D := [.str r.1, .int .u8 r.2.1, .int .u8 r.2.2]
attribute [go_sem] ruD
theorem ruD_len {l : List Ru} : (∀ e ∈ l.map ruD, e.length = 3) = True := eq_true (map_len (g := ruD) fun _ => rfl)
attribute [go_sem] ruD_len
def ruFit (mv : ByteArray) (st : Int) (r : Ru) : Bool := decide (r.1 = mv) && decide (r.2.1 = st)
def movR (T : List Rq → Nat → List Rq × Int) (q : List Rq) (i : Int) (mv : ByteArray) : List Rq × Int :=
  if qcheck q ≠ 0 then ([], qcheck q) else if i < 0 ∨ (q.length : Int) ≤ i then ([], 2) else
    match q[i.toNat]? with
    | none => ([], 2)
    | some x => match ruL.find? (ruFit mv x.st) with
      | none => ([], 36)
      | some r => T (q.modify i.toNat fun y => setSt y r.2.2) i.toNat
theorem find_at {α : Type} {p : α → Bool} : ∀ {l : List α} {k : Nat} {x : α}, (∀ (j : Nat) (y : α), l[j]? = some y → j < k → p y = false) → l[k]? = some x → p x = true → l.find? p = some x
  | [], k, x, _, h, _ => by simp at h
  | y :: ys, 0, x, _, h, hp => by simp at h; subst h; simp [hp]
  | y :: ys, k + 1, x, hj, h, hp => by
    have h0 := hj 0 y rfl (by omega)
    rw [List.find?_cons, h0]
    exact find_at (k := k) (fun j z hz hlt => hj (j + 1) z (by simpa using hz) (Nat.succ_lt_succ hlt)) (by simpa using h) hp
theorem find_no {α : Type} {p : α → Bool} {l : List α} (h : ∀ (j : Nat) (y : α), l[j]? = some y → j < l.length → p y = false) : l.find? p = none := by
  rw [List.find?_eq_none]
  intro x hx
  obtain ⟨j, hj⟩ := List.mem_iff_getElem?.1 hx
  simp [h j x hj (some_lt hj)]
theorem rules_own : Spec Tryz.prog 117 [] [] (.own 0) [.row 3 (ruL.map ruD)] := by
  refine spec_of_ev (fn := Tryz.f117) DX_ok 3000 Tryz.func117 rfl rfl (Nat.le_of_ble_eq_true rfl) ?_
  simp (maxSteps := 4000000) -implicitDefEqProofs only [Tryz.f117, go_sem]
  simp (maxSteps := 4000000) -implicitDefEqProofs only [go_sem, Nat.reduceAdd, Nat.reduceSub, Nat.reduceLT, Nat.reduceLeDiff, Nat.reduceEqDiff, ↓reduceIte]
  try refine ⟨by omega, ?_⟩
  exact Wk.refl _ _ _
theorem valid_tr {x : Rq} (h : valid x = true) : 0 ≤ x.tr ∧ x.tr ≤ 5 := by
  simp only [valid, Bool.and_eq_true, decide_eq_true_eq] at h
  exact ⟨h.1.2, h.2⟩
theorem mod_tr {q : List Rq} {i : Nat} {s : Int} (h : qcheck q = 0) : ∀ x ∈ q.modify i (fun y => setSt y s), 0 ≤ x.tr ∧ x.tr ≤ 5 := fun x hx => by
  obtain ⟨j, hj⟩ := List.mem_iff_getElem?.1 hx
  rw [List.getElem?_modify] at hj
  cases hq : q[j]? with
  | none => simp [hq] at hj
  | some y =>
    have hy := valid_tr (qcheck_valid h y (List.mem_of_getElem? hq))
    rw [hq] at hj
    by_cases e : i = j
    · simp [e] at hj; subst hj; exact hy
    · simp [e] at hj; subst hj; exact hy
theorem moved_own (T : List Rq → Nat → List Rq × Int) (g : Nat) (hth : ∀ (l : List Rq) (i : Nat), l.length ≤ 30 → i < l.length → (∀ x ∈ l, 0 ≤ x.tr ∧ x.tr ≤ 5) → Spec Tryz.prog g [.own 0, .d (.int .i64 i)] [.row 5 (l.map rD)] (.tup [.d (.sl ((T l i).1.map rD)), .d (.int .i64 (T l i).2)]) [.gone])
    (q : List Rq) (i : Int) (mv : ByteArray) (hq : Sm q.length) : Spec Tryz.prog 86 [.d (.sl (q.map rD)), .d (.int .i64 i), .d (.str mv), .fn g []] [] (.tup [.d (.sl ((movR T q i mv).1.map rD)), .d (.int .i64 (movR T q i mv).2)]) [] := by
  obtain ⟨R, hR⟩ : ∃ R, R = movR T q i mv := ⟨_, rfl⟩
  rw [← hR]
  unfold movR at hR
  refine spec_of_ev (fn := Tryz.f86) DX_ok 3000 Tryz.func86 rfl rfl (Nat.le_of_ble_eq_true rfl) ?_
  simp (maxSteps := 4000000) -implicitDefEqProofs only [Tryz.f86, go_sem]
  refine ecall0 _ (qcheck_own q hq) (by simp only [go_sem]) (by simp only [go_sem]) ?_
  simp (maxSteps := 4000000) -implicitDefEqProofs only [go_sem, Nat.reduceAdd, Nat.reduceSub, Nat.reduceLT, Nat.reduceLeDiff, Nat.reduceEqDiff, ↓reduceIte]
  by_cases h1 : qcheck q = 0
  case neg =>
    have d1 : (qcheck q != 0) = true := by simp [h1]
    rw [if_pos h1] at hR
    simp (maxSteps := 4000000) -implicitDefEqProofs only [go_sem, d1, Option.some.injEq, forall_eq', and_true, true_and, Bool.not_true, Bool.not_false, decide_true, Nat.reduceAdd, Nat.reduceSub, Nat.reduceLT, Nat.reduceLeDiff, Nat.reduceEqDiff, ↓reduceIte]
    rw [hR]
    exact wk_dat (r' := .tup [.d (.sl []), .d (.int .i64 (qcheck q))]) (by simp only [go_sem]; rfl) rfl (by simp only [go_sem])
  have d1 : (qcheck q != 0) = false := by simp [h1]
  have hl := qcheck_len h1
  rw [if_neg (by omega)] at hR
  rcases Int.lt_or_le i 0 with h2 | h2
  · have d2 := decide_eq_true h2
    rw [if_pos (.inl h2)] at hR
    simp (maxSteps := 4000000) -implicitDefEqProofs only [go_sem, d1, d2, Option.some.injEq, forall_eq', and_true, true_and, Bool.not_true, Bool.not_false, decide_true, Nat.reduceAdd, Nat.reduceSub, Nat.reduceLT, Nat.reduceLeDiff, Nat.reduceEqDiff, ↓reduceIte]
    rw [hR]
    exact wk_dat (r' := .tup [.d (.sl []), .d (.int .i64 2)]) (by simp only [go_sem]; rfl) rfl (by simp only [go_sem])
  have d2 := decide_eq_false (Int.not_lt.2 h2)
  rcases Int.lt_or_le i q.length with h3 | h3
  case inr =>
    have d3 := decide_eq_true h3
    rw [if_pos (.inr h3)] at hR
    simp (maxSteps := 4000000) -implicitDefEqProofs only [go_sem, d1, d2, d3, Option.some.injEq, forall_eq', and_true, true_and, Bool.not_true, Bool.not_false, decide_true, Nat.reduceAdd, Nat.reduceSub, Nat.reduceLT, Nat.reduceLeDiff, Nat.reduceEqDiff, ↓reduceIte]
    rw [hR]
    exact wk_dat (r' := .tup [.d (.sl []), .d (.int .i64 2)]) (by simp only [go_sem]; rfl) rfl (by simp only [go_sem])
  have d3 := decide_eq_false (Int.not_le.2 h3)
  rw [if_neg (by omega)] at hR
  obtain ⟨i, rfl⟩ : ∃ n : Nat, i = n := ⟨i.toNat, by omega⟩
  simp only [Int.toNat_natCast] at hR
  have h3' : i < q.length := by omega
  obtain ⟨x, hx⟩ : ∃ x, q[i]? = some x := ⟨q[i]'h3', List.getElem?_eq_getElem _⟩
  rw [hx] at hR
  simp only at hR
  have n1 : (0 ≤ (i : Int) ∧ (i : Int) < q.length) = True := eq_true (by omega)
  have n2 : (i < q.length) = True := eq_true (by omega)
  simp (maxSteps := 4000000) -implicitDefEqProofs only [go_sem, d1, d2, d3, Option.some.injEq, forall_eq', and_true, true_and, Bool.not_true, Bool.not_false, decide_true, Nat.reduceAdd, Nat.reduceSub, Nat.reduceLT, Nat.reduceLeDiff, Nat.reduceEqDiff, ↓reduceIte]
  refine ecallN _ _ rules_own (by simp only [go_sem]) ?_
  simp (maxSteps := 4000000) -implicitDefEqProofs only [go_sem, Nat.reduceAdd, Nat.reduceSub, Nat.reduceLT, Nat.reduceLeDiff, Nat.reduceEqDiff, ↓reduceIte]
  refine eloop (S := Nat) (fun k => mkE 62 [(0, .d (.sl (q.map rD))), (1, .d (.int .i64 i)), (2, .d (.str mv)), (3, .fn g []), (27, .own 0), (28, .d (.int .i64 (ruL.length : Nat))), (29, .d (.int .i64 k))]) (fun k => [.row 3 (ruL.map ruD)]) (fun k => k ≤ ruL.length ∧ ∀ (j : Nat) (y : Ru), ruL[j]? = some y → j < k → ruFit mv x.st y = false) (fun k => ruL.length - k) 0 ⟨by omega, by omega⟩ (Wk.sub (by (simp only [go_sem]) <;> trivial)) ?_
  rintro k ⟨hk, hj⟩
  have hll : ruL.length = 8 := rfl
  rcases Nat.lt_or_ge k ruL.length with k2 | k2
  case inr =>
    have d4 : decide ((k : Int) < ruL.length) = false := by simp; omega
    simp (maxSteps := 4000000) -implicitDefEqProofs only [go_sem, d4, Option.some.injEq, forall_eq', and_true, true_and, Bool.not_true, Bool.not_false, decide_true, Nat.reduceAdd, Nat.reduceSub, Nat.reduceLT, Nat.reduceLeDiff, Nat.reduceEqDiff, ↓reduceIte]
    have hk8 : k = ruL.length := by omega
    subst hk8
    rw [find_no hj] at hR
    rw [hR]
    exact wk_dat (r' := .tup [.d (.sl []), .d (.int .i64 36)]) (by simp only [go_sem]; rfl) rfl (by simp only [go_sem])
  have d4 : decide ((k : Int) < ruL.length) = true := by simp; omega
  obtain ⟨r, hr⟩ : ∃ r, ruL[k]? = some r := ⟨ruL[k]'k2, List.getElem?_eq_getElem _⟩
  have n3 : (0 ≤ (k : Int) ∧ (k : Int) < ruL.length) = True := eq_true (by omega)
  have n4 : (k < ruL.length) = True := eq_true k2
  have w1 : IntKind.i64.wrap ((k : Int) + 1) = k + 1 := i64_in _ (by omega)
  have step : ruFit mv x.st r = false → (k + 1 ≤ ruL.length ∧ ∀ (j : Nat) (y : Ru), ruL[j]? = some y → j < k + 1 → ruFit mv x.st y = false) := fun hf => ⟨k2, fun j y hy hlt => by
    rcases Nat.lt_or_ge j k with q1 | q1
    · exact hj j y hy q1
    · have : j = k := by omega
      subst this
      rw [hr] at hy; cases hy; exact hf⟩
  by_cases e1 : r.1 = mv
  case neg =>
    have f1 : decide (r.1 = mv) = false := decide_eq_false e1
    simp (maxSteps := 4000000) -implicitDefEqProofs only [go_sem, d4, n3, n4, hr, Option.some.injEq, forall_eq', and_true, true_and, Bool.not_true, Bool.not_false, decide_true, Nat.reduceAdd, Nat.reduceSub, Nat.reduceLT, Nat.reduceLeDiff, Nat.reduceEqDiff, ↓reduceIte]
    refine DX.plain (.take 0 false (.take 1 false (.take 2 false (.take 3 false (.take 4 false (.take 5 false (.take 6 false (.take 7 false (.take 8 false (.take 9 false (.take 10 false (.take 11 false (.take 12 false (.take 13 false .done)))))))))))))) (by kernel_rfl) (by kernel_rfl) Ty.mixed ?_
    simp (maxSteps := 4000000) -implicitDefEqProofs only [go_sem, f1, Option.some.injEq, forall_eq', and_true, true_and, Bool.not_true, Bool.not_false, decide_true, Nat.reduceAdd, Nat.reduceSub, Nat.reduceLT, Nat.reduceLeDiff, Nat.reduceEqDiff, ↓reduceIte]
    simp (maxSteps := 4000000) -implicitDefEqProofs only [go_sem, w1, Option.some.injEq, forall_eq', and_true, true_and, Bool.not_true, Bool.not_false, decide_true, Nat.reduceAdd, Nat.reduceSub, Nat.reduceLT, Nat.reduceLeDiff, Nat.reduceEqDiff, ↓reduceIte]
    exact .mk (k + 1) (step (by simp [ruFit, e1])) (by omega) (Wk.via [0] (by (simp only [go_sem, ↓reduceIte]) <;> trivial) (by first | (simp (maxSteps := 4000000) -implicitDefEqProofs only [go_sem, Nat.reduceAdd, Nat.reduceSub, Nat.reduceLT, Nat.reduceLeDiff, Nat.reduceEqDiff, ↓reduceIte]; done) | ((simp (maxSteps := 4000000) -implicitDefEqProofs only [go_sem, Nat.reduceAdd, Nat.reduceSub, Nat.reduceLT, Nat.reduceLeDiff, Nat.reduceEqDiff, ↓reduceIte]) <;> omega)) (by simp) (by first | (simp; done) | (simp [so]; done)) (by (simp (maxSteps := 4000000) -implicitDefEqProofs only [go_sem, Nat.reduceAdd, Nat.reduceSub, Nat.reduceLT, Nat.reduceLeDiff, Nat.reduceEqDiff, ↓reduceIte]) <;> trivial) (by first | (simp only [go_sem]; done) | ((simp (maxSteps := 4000000) -implicitDefEqProofs only [go_sem, Nat.reduceAdd, Nat.reduceSub, Nat.reduceLT, Nat.reduceLeDiff, Nat.reduceEqDiff, ↓reduceIte]) <;> omega)) (Nat.zero_le _) (fun i h => absurd h (Nat.not_lt_zero i)))
  have f1 : decide (r.1 = mv) = true := decide_eq_true e1
  by_cases e2 : r.2.1 = x.st
  case neg =>
    have f2 : (r.2.1 == x.st) = false := by simp [e2]
    simp (maxSteps := 4000000) -implicitDefEqProofs only [go_sem, d4, n3, n4, hr, Option.some.injEq, forall_eq', and_true, true_and, Bool.not_true, Bool.not_false, decide_true, Nat.reduceAdd, Nat.reduceSub, Nat.reduceLT, Nat.reduceLeDiff, Nat.reduceEqDiff, ↓reduceIte]
    refine DX.plain (.take 0 false (.take 1 false (.take 2 false (.take 3 false (.take 4 false (.take 5 false (.take 6 false (.take 7 false (.take 8 false (.take 9 false (.take 10 false (.take 11 false (.take 12 false (.take 13 false .done)))))))))))))) (by kernel_rfl) (by kernel_rfl) Ty.mixed ?_
    simp (maxSteps := 4000000) -implicitDefEqProofs only [go_sem, f1, f2, n1, n2, hx, Option.some.injEq, forall_eq', and_true, true_and, Bool.not_true, Bool.not_false, decide_true, Nat.reduceAdd, Nat.reduceSub, Nat.reduceLT, Nat.reduceLeDiff, Nat.reduceEqDiff, ↓reduceIte]
    simp (maxSteps := 4000000) -implicitDefEqProofs only [go_sem, w1, Option.some.injEq, forall_eq', and_true, true_and, Bool.not_true, Bool.not_false, decide_true, Nat.reduceAdd, Nat.reduceSub, Nat.reduceLT, Nat.reduceLeDiff, Nat.reduceEqDiff, ↓reduceIte]
    exact .mk (k + 1) (step (by simp [ruFit, e2])) (by omega) (Wk.via [0] (by (simp only [go_sem, ↓reduceIte]) <;> trivial) (by first | (simp (maxSteps := 4000000) -implicitDefEqProofs only [go_sem, Nat.reduceAdd, Nat.reduceSub, Nat.reduceLT, Nat.reduceLeDiff, Nat.reduceEqDiff, ↓reduceIte]; done) | ((simp (maxSteps := 4000000) -implicitDefEqProofs only [go_sem, Nat.reduceAdd, Nat.reduceSub, Nat.reduceLT, Nat.reduceLeDiff, Nat.reduceEqDiff, ↓reduceIte]) <;> omega)) (by simp) (by first | (simp; done) | (simp [so]; done)) (by (simp (maxSteps := 4000000) -implicitDefEqProofs only [go_sem, Nat.reduceAdd, Nat.reduceSub, Nat.reduceLT, Nat.reduceLeDiff, Nat.reduceEqDiff, ↓reduceIte]) <;> trivial) (by first | (simp only [go_sem]; done) | ((simp (maxSteps := 4000000) -implicitDefEqProofs only [go_sem, Nat.reduceAdd, Nat.reduceSub, Nat.reduceLT, Nat.reduceLeDiff, Nat.reduceEqDiff, ↓reduceIte]) <;> omega)) (Nat.zero_le _) (fun i h => absurd h (Nat.not_lt_zero i)))
  have f2 : (r.2.1 == x.st) = true := by simp [e2]
  rw [find_at hj hr (by simp [ruFit, e1, e2])] at hR
  simp only at hR
  simp (maxSteps := 4000000) -implicitDefEqProofs only [go_sem, d4, n3, n4, hr, Option.some.injEq, forall_eq', and_true, true_and, Bool.not_true, Bool.not_false, decide_true, Nat.reduceAdd, Nat.reduceSub, Nat.reduceLT, Nat.reduceLeDiff, Nat.reduceEqDiff, ↓reduceIte]
  refine DX.plain (.take 0 false (.take 1 false (.take 2 false (.take 3 false (.take 4 false (.take 5 false (.take 6 false (.take 7 false (.take 8 false (.take 9 false (.take 10 false (.take 11 false (.take 12 false (.take 13 false .done)))))))))))))) (by kernel_rfl) (by kernel_rfl) Ty.mixed ?_
  simp (maxSteps := 4000000) -implicitDefEqProofs only [go_sem, f1, f2, n1, n2, hx, Option.some.injEq, forall_eq', and_true, true_and, Bool.not_true, Bool.not_false, decide_true, Nat.reduceAdd, Nat.reduceSub, Nat.reduceLT, Nat.reduceLeDiff, Nat.reduceEqDiff, ↓reduceIte]
  refine ecallN _ _ (clone_rq q (by omega)) (by simp only [go_sem]) ?_
  simp (maxSteps := 4000000) -implicitDefEqProofs only [go_sem, n1, n2, hx, Option.some.injEq, forall_eq', and_true, true_and, Bool.not_true, Bool.not_false, decide_true, Nat.reduceAdd, Nat.reduceSub, Nat.reduceLT, Nat.reduceLeDiff, Nat.reduceEqDiff, ↓reduceIte]
  rw [set_mod hx]
  refine .mk [2] [.own 0, .d (.int .i64 i)] [.row 5 ((q.modify i fun y => setSt y r.2.2).map rD)] _ _ rfl (by simp [bds, bd]) (by simp) (by simp) rfl (by simp [bdOs, bdO]) (hth _ i (by rw [mod_len]; omega) (by rw [mod_len]; omega) (mod_tr h1)) ?_
  simp (maxSteps := 4000000) -implicitDefEqProofs only [go_sem, Nat.reduceAdd, Nat.reduceSub, Nat.reduceLT, Nat.reduceLeDiff, Nat.reduceEqDiff, ↓reduceIte]
  rw [hR]
  exact wk_dat (r' := .tup [.d (.sl ((T (q.modify i fun y => setSt y r.2.2) i).1.map rD)), .d (.int .i64 (T (q.modify i fun y => setSt y r.2.2) i).2)]) (by simp only [go_sem]; rfl) rfl (by simp only [go_sem])
def stayR (l : List Rq) (_ : Nat) : List Rq × Int := (l, 0)
mutual
theorem bd_mono {k m : Nat} (h : k ≤ m) : ∀ x : AV, bd k x → bd m x
  | .agg cs, e => bds_mono h cs (by simpa [bd] using e)
  | .tup cs, e => bds_mono h cs (by simpa [bd] using e)
  | .own l, e => by simp only [bd] at e ⊢; omega
  | .ptr l _, e => by simp only [bd] at e ⊢; omega
  | .rptr l _ _ _, e => by simp only [bd] at e ⊢; omega
  | .mp l, e => by simp only [bd] at e ⊢; omega
  | .fn _ caps, e => bds_mono h caps (by simpa [bd] using e)
  | .osl l _ _ _, e => by simp only [bd] at e ⊢; omega
  | .any, _ => trivial
  | .d _, _ => trivial
  | .eptr _, _ => trivial
  | .nil, _ => trivial
  | .raw _, _ => trivial
theorem bds_mono {k m : Nat} (h : k ≤ m) : ∀ xs : List AV, bds k xs → bds m xs
  | [], _ => trivial
  | x :: xs, e => ⟨bd_mono h x e.1, bds_mono h xs e.2⟩
end
theorem wk_dat1 {r r' r'' : AV} {τ τ' : List AObj} (h : dat τ r = some (r', τ')) (he : r' = r'') (hb : bd 0 r'') (hl : 0 < τ'.length) : Wk 1 [r] τ [r''] [.gone] := by
  subst he
  refine Wk.trans (dat_sound r h 1) (Wk.via [0] ?_ ⟨bd_mono (Nat.zero_le _) _ hb, trivial⟩ (by simp) (by simpa using hl) ?_ (by simp [bdOs, bdO]) (by simp) ?_)
  · have : rens (at0 [0]) [r'] = [r'] := by simp [rens, ren_id hb]
    rw [this]; exact wkE_refl _
  · simp [obs, mapO, renO, wkOs, wkO]
  · intro i hi
    have : i = 0 := by omega
    subst this; rfl
def more (r : Rq) : Rq := ⟨r.br, r.ch, r.st, r.ov, r.tr + 1⟩
def againR (l : List Rq) (i : Nat) : List Rq × Int :=
  match l[i]? with
  | none => ([], 2)
  | some x => if x.tr = 5 then ([], 4) else
    if qcheck (l.take i ++ l.drop (i + 1) ++ [more x]) ≠ 0 then ([], qcheck (l.take i ++ l.drop (i + 1) ++ [more x])) else (l.take i ++ l.drop (i + 1) ++ [more x], 0)
theorem again_own (l : List Rq) (i : Nat) (hl : l.length ≤ 30) (hi : i < l.length) (ht : ∀ x ∈ l, 0 ≤ x.tr ∧ x.tr ≤ 5) : Spec Tryz.prog 87 [.own 0, .d (.int .i64 i)] [.row 5 (l.map rD)] (.tup [.d (.sl ((againR l i).1.map rD)), .d (.int .i64 (againR l i).2)]) [.gone] := by
  obtain ⟨R, hR⟩ : ∃ R, R = againR l i := ⟨_, rfl⟩
  rw [← hR]
  unfold againR at hR
  obtain ⟨x, hx⟩ : ∃ x, l[i]? = some x := ⟨l[i]'hi, List.getElem?_eq_getElem _⟩
  rw [hx] at hR
  simp only at hR
  have n1 : (0 ≤ (i : Int) ∧ (i : Int) < l.length) = True := eq_true (by omega)
  have n2 : (i < l.length) = True := eq_true (by omega)
  refine spec_of_ev (fn := Tryz.f87) DX_ok 3000 Tryz.func87 rfl rfl (Nat.le_of_ble_eq_true rfl) ?_
  simp (maxSteps := 4000000) -implicitDefEqProofs only [Tryz.f87, go_sem]
  have hxt := ht x (List.mem_of_getElem? hx)
  by_cases h5 : x.tr = 5
  · have d5 : (x.tr == 5) = true := by simp [h5]
    rw [if_pos h5] at hR
    simp (maxSteps := 4000000) -implicitDefEqProofs only [go_sem, n1, n2, hx, d5, Option.some.injEq, forall_eq', and_true, true_and, Bool.not_true, Bool.not_false, decide_true, Nat.reduceAdd, Nat.reduceSub, Nat.reduceLT, Nat.reduceLeDiff, Nat.reduceEqDiff, ↓reduceIte]
    rw [hR]
    exact wk_dat1 (r' := .tup [.d (.sl []), .d (.int .i64 4)]) (by simp only [go_sem]; rfl) rfl (by simp only [go_sem]) (by simp)
  have d5 : (x.tr == 5) = false := by simp [h5]
  rw [if_neg h5] at hR
  have w1 : IntKind.i64.wrap (x.tr + 1) = x.tr + 1 := i64_in _ (by omega)
  have w2 : IntKind.i64.wrap ((i : Int) + 1) = ((i + 1 : Nat) : Int) := by rw [i64_in _ (by omega)]; simp
  simp (maxSteps := 4000000) -implicitDefEqProofs only [go_sem, n1, n2, hx, d5, w1, w2, Option.some.injEq, forall_eq', and_true, true_and, Bool.not_true, Bool.not_false, decide_true, Nat.reduceAdd, Nat.reduceSub, Nat.reduceLT, Nat.reduceLeDiff, Nat.reduceEqDiff, ↓reduceIte]
  have hdel := fun σ => Spec.frame (σ := .row 5 (l.map rD) :: σ) [0] (delete_rq (l.map rD) i (i + 1) (by omega) (by simp; omega) (by simp; omega)) (by simp [bds, bd]) (by simp) (by simp) rfl (by simp [bdOs, bdO])
  simp only [go_sem, Nat.lt_irrefl, ↓reduceIte, Nat.sub_self, Nat.add_zero] at hdel
  refine DX.plain (.take 0 true (.take 1 true (.take 2 true (.take 3 true (.take 5 true (.run [4, 6] (fun i => if i = 4 then [true, false, false, false, false] else [false, true, true, true, true]) (fun i => if i = 4 then .run [6] (fun _ => [false]) (fun _ => .run [7] (fun _ => []) (fun _ => .take 8 false .done)) else .run [4] (fun _ => [false, false, false, false]) (fun _ => .run [7] (fun _ => []) (fun _ => .take 8 false .done))))))))) (by kernel_rfl) (by kernel_rfl) Ty.mixed ?_
  simp (maxSteps := 4000000) -implicitDefEqProofs only [go_sem, w1, w2, Option.some.injEq, forall_eq', and_true, true_and, Bool.not_true, Bool.not_false, decide_true, Nat.reduceAdd, Nat.reduceSub, Nat.reduceLT, Nat.reduceLeDiff, Nat.reduceEqDiff, ↓reduceIte]
  obtain ⟨L, hL⟩ : ∃ L, L = l.take i ++ l.drop (i + 1) := ⟨_, rfl⟩
  rw [← hL] at hdel hR
  have hLl : L.length + 1 = l.length := by rw [hL]; simp; omega
  have ea : L.map rD ++ [[D.str x.br, D.str x.ch, D.int .u8 x.st, D.bool x.ov, D.int .i64 (x.tr + 1)]] = (L ++ [more x]).map rD := by simp [rD, more]
  obtain ⟨X, hX⟩ : ∃ X, X = L ++ [more x] := ⟨_, rfl⟩
  have hXl : X.length = l.length := by rw [hX]; simp; omega
  refine ⟨⟨_, _, hdel _, ?_⟩, ⟨by omega, _, _, hdel _, ?_⟩⟩
  · simp (maxSteps := 4000000) -implicitDefEqProofs only [go_sem, Nat.reduceAdd, Nat.reduceSub, Nat.reduceLT, Nat.reduceLeDiff, Nat.reduceEqDiff, ↓reduceIte]
    refine ⟨by omega, ⟨by simp, by omega, by omega⟩, ?_⟩
    rw [ea]
    refine ECall.frz 4 rfl ?_
    rw [← hX] at hR ⊢
    simp (maxSteps := 4000000) -implicitDefEqProofs only [go_sem, Nat.reduceAdd, Nat.reduceSub, Nat.reduceLT, Nat.reduceLeDiff, Nat.reduceEqDiff, ↓reduceIte]
    refine ecall0 _ (qcheck_own X (by unfold Sm; omega)) (by simp only [go_sem]) (by simp only [go_sem]) ?_
    simp (maxSteps := 4000000) -implicitDefEqProofs only [go_sem, Nat.reduceAdd, Nat.reduceSub, Nat.reduceLT, Nat.reduceLeDiff, Nat.reduceEqDiff, ↓reduceIte]
    by_cases h6 : qcheck X = 0
    · have d6 : (qcheck X != 0) = false := by simp [h6]
      rw [if_neg (by omega)] at hR
      simp (maxSteps := 4000000) -implicitDefEqProofs only [go_sem, d6, Option.some.injEq, forall_eq', and_true, true_and, Bool.not_true, Bool.not_false, decide_true, Nat.reduceAdd, Nat.reduceSub, Nat.reduceLT, Nat.reduceLeDiff, Nat.reduceEqDiff, ↓reduceIte]
      rw [hR]
      exact wk_dat1 (r' := .tup [.d (.sl (X.map rD)), .d (.int .i64 0)]) (by simp only [go_sem]; rfl) rfl (by simp only [go_sem]) (by simp)
    · have d6 : (qcheck X != 0) = true := by simp [h6]
      rw [if_pos h6] at hR
      simp (maxSteps := 4000000) -implicitDefEqProofs only [go_sem, d6, Option.some.injEq, forall_eq', and_true, true_and, Bool.not_true, Bool.not_false, decide_true, Nat.reduceAdd, Nat.reduceSub, Nat.reduceLT, Nat.reduceLeDiff, Nat.reduceEqDiff, ↓reduceIte]
      rw [hR]
      exact wk_dat1 (r' := .tup [.d (.sl []), .d (.int .i64 (qcheck X))]) (by simp only [go_sem]; rfl) rfl (by simp only [go_sem]) (by simp)
  · simp (maxSteps := 4000000) -implicitDefEqProofs only [go_sem, Nat.reduceAdd, Nat.reduceSub, Nat.reduceLT, Nat.reduceLeDiff, Nat.reduceEqDiff, ↓reduceIte]
    refine ⟨⟨by simp, by omega, by omega⟩, ?_⟩
    rw [ea]
    refine ECall.frz 4 rfl ?_
    rw [← hX] at hR ⊢
    simp (maxSteps := 4000000) -implicitDefEqProofs only [go_sem, Nat.reduceAdd, Nat.reduceSub, Nat.reduceLT, Nat.reduceLeDiff, Nat.reduceEqDiff, ↓reduceIte]
    refine ecall0 _ (qcheck_own X (by unfold Sm; omega)) (by simp only [go_sem]) (by simp only [go_sem]) ?_
    simp (maxSteps := 4000000) -implicitDefEqProofs only [go_sem, Nat.reduceAdd, Nat.reduceSub, Nat.reduceLT, Nat.reduceLeDiff, Nat.reduceEqDiff, ↓reduceIte]
    by_cases h6 : qcheck X = 0
    · have d6 : (qcheck X != 0) = false := by simp [h6]
      rw [if_neg (by omega)] at hR
      simp (maxSteps := 4000000) -implicitDefEqProofs only [go_sem, d6, Option.some.injEq, forall_eq', and_true, true_and, Bool.not_true, Bool.not_false, decide_true, Nat.reduceAdd, Nat.reduceSub, Nat.reduceLT, Nat.reduceLeDiff, Nat.reduceEqDiff, ↓reduceIte]
      rw [hR]
      exact wk_dat1 (r' := .tup [.d (.sl (X.map rD)), .d (.int .i64 0)]) (by simp only [go_sem]; rfl) rfl (by simp only [go_sem]) (by simp)
    · have d6 : (qcheck X != 0) = true := by simp [h6]
      rw [if_pos h6] at hR
      simp (maxSteps := 4000000) -implicitDefEqProofs only [go_sem, d6, Option.some.injEq, forall_eq', and_true, true_and, Bool.not_true, Bool.not_false, decide_true, Nat.reduceAdd, Nat.reduceSub, Nat.reduceLT, Nat.reduceLeDiff, Nat.reduceEqDiff, ↓reduceIte]
      rw [hR]
      exact wk_dat1 (r' := .tup [.d (.sl []), .d (.int .i64 (qcheck X))]) (by simp only [go_sem]; rfl) rfl (by simp only [go_sem]) (by simp)
theorem retry_own (q : List Rq) (i : Int) (hq : Sm q.length) : Spec Tryz.prog 43 [.d (.sl (q.map rD)), .d (.int .i64 i)] [] (.tup [.d (.sl ((movR againR q i sTr).1.map rD)), .d (.int .i64 (movR againR q i sTr).2)]) [] := by
  obtain ⟨R, hR⟩ : ∃ R, R = movR againR q i sTr := ⟨_, rfl⟩
  have h := moved_own againR _ again_own q i sTr hq
  rw [← hR] at h ⊢
  refine spec_of_ev (fn := Tryz.f43) DX_ok 3000 Tryz.func43 rfl rfl (Nat.le_of_ble_eq_true rfl) ?_
  simp (maxSteps := 4000000) -implicitDefEqProofs only [Tryz.f43, go_sem]
  refine ecall0 _ h (by simp only [go_sem]) (by simp only [go_sem]) ?_
  simp (maxSteps := 4000000) -implicitDefEqProofs only [go_sem, Nat.reduceAdd, Nat.reduceSub, Nat.reduceLT, Nat.reduceLeDiff, Nat.reduceEqDiff, ↓reduceIte]
  exact wk_dat (r' := .tup [.d (.sl (R.1.map rD)), .d (.int .i64 R.2)]) (by simp only [go_sem]; rfl) rfl (by simp only [go_sem])
end Go.AX.Qu
namespace Go.AX.Qu
open Go.Proofs Go.RowKit Go.IntWalk Go.AX.Br
def uD (n : Int) : List D := [.int .u8 n]
attribute [go_sem] uD
theorem uD_len {l : List Int} : (∀ e ∈ l.map uD, e.length = 1) = True := eq_true (map_len (g := uD) fun _ => rfl)
attribute [go_sem] uD_len
def refR (q : List Rq) (i : Int) (fr : List Int) (to : Int) : List Rq × Int :=
  if qcheck q ≠ 0 then ([], qcheck q) else if i < 0 ∨ (q.length : Int) ≤ i then ([], 2) else
    match q[i.toNat]? with
    | none => ([], 2)
    | some x => if x.st ∈ fr then (q.modify i.toNat fun y => setSt y to, 0) else ([], 36)
theorem names_ne : (sAp = sRe) = False ∧ (sAp = sCa) = False ∧ (sAp = sTr) = False ∧ (sRe = sAp) = False ∧ (sRe = sCa) = False ∧ (sRe = sTr) = False ∧ (sCa = sAp) = False ∧ (sCa = sRe) = False ∧ (sCa = sTr) = False ∧ (sTr = sAp) = False ∧ (sTr = sRe) = False ∧ (sTr = sCa) = False := by
  refine ⟨?_, ?_, ?_, ?_, ?_, ?_, ?_, ?_, ?_, ?_, ?_, ?_⟩ <;> exact eq_false (by decide)
def moreR (q : List Rq) (i : Nat) (x : Rq) : List Rq := q.take i ++ q.drop (i + 1) ++ [more (setSt x (if x.st = 3 then 1 else 2))]
def retR (q : List Rq) (i : Int) : List Rq × Int :=
  if qcheck q ≠ 0 then ([], qcheck q) else if i < 0 ∨ (q.length : Int) ≤ i then ([], 2) else
    match q[i.toNat]? with
    | none => ([], 2)
    | some x => if x.st = 3 ∨ x.st = 7 then
        if x.tr = 5 then ([], 4) else if qcheck (moreR q i.toNat x) ≠ 0 then ([], 14) else (moreR q i.toNat x, 0)
      else ([], 36)
end Go.AX.Qu
namespace Go.AX.Qu
open Go.Proofs Go.RowKit Go.IntWalk Go.AX.Br
theorem mod_take {q : List Rq} {i : Nat} {f : Rq → Rq} : (q.modify i f).take i = q.take i := by
  apply List.ext_getElem?; intro j
  rw [List.getElem?_take, List.getElem?_take]
  split
  · next hj =>
    have : i ≠ j := by omega
    rw [List.getElem?_modify]; simp [this]
  · rfl
theorem mod_drop {q : List Rq} {i : Nat} {f : Rq → Rq} : (q.modify i f).drop (i + 1) = q.drop (i + 1) := by
  apply List.ext_getElem?; intro j
  have : i ≠ i + 1 + j := by omega
  rw [List.getElem?_drop, List.getElem?_drop, List.getElem?_modify]; simp [this]
theorem more_len {q : List Rq} {i : Nat} {x : Rq} (hx : q[i]? = some x) : (moreR q i x).length = q.length := by
  have := some_lt hx
  simp [moreR]; omega
theorem more_14 {q : List Rq} {i : Nat} {x : Rq} (h : qcheck q = 0) (hx : q[i]? = some x) (ht : x.tr ≠ 5) : qcheck (moreR q i x) = 0 ∨ qcheck (moreR q i x) = 14 := by
  have hl := qcheck_len h
  have hv := qcheck_valid h
  have hxv := hv x (List.mem_of_getElem? hx)
  have hal : (moreR q i x).any (fun r => !valid r) = false := by
    rw [List.any_eq_false]
    intro r hr
    simp only [moreR, List.mem_append, List.mem_singleton] at hr
    rcases hr with (hr | hr) | rfl
    · simp [hv r (List.mem_of_mem_take hr)]
    · simp [hv r (List.mem_of_mem_drop hr)]
    · simp only [valid, Bool.and_eq_true, decide_eq_true_eq] at hxv
      have hg : ∀ s, 1 ≤ s → s ≤ 7 → valid (more (setSt x s)) = true := fun s q1 q2 => by
        simp only [valid, more, setSt, Bool.and_eq_true, decide_eq_true_eq]
        exact ⟨⟨⟨⟨⟨hxv.1.1.1.1.1, hxv.1.1.1.1.2⟩, decide_eq_true q1⟩, decide_eq_true q2⟩, decide_eq_true (by omega)⟩, decide_eq_true (by omega)⟩
      have := hg (if x.st = 3 then 1 else 2) (by split <;> omega) (by split <;> omega)
      simp [this]
  simp only [qcheck]
  rw [more_len hx, if_neg (by omega), hal]
  simp only [Bool.false_eq_true, if_false]
  split
  · exact .inr rfl
  · exact .inl rfl
theorem ret_eq (q : List Rq) (i : Int) : retR q i = movR againR q i sTr := by
  unfold retR movR
  split
  · rfl
  next h0 =>
  have h0 : qcheck q = 0 := by omega
  split
  · rfl
  obtain ⟨n, hn⟩ : ∃ n, n = i.toNat := ⟨_, rfl⟩
  rw [← hn]
  cases hx : q[n]? with
  | none => rfl
  | some x =>
    have key : ∀ s, (x.st = 3 ∧ s = 1) ∨ (x.st = 7 ∧ s = 2) → (if x.tr = 5 then (([], 4) : List Rq × Int) else if qcheck (moreR q n x) ≠ 0 then ([], 14) else (moreR q n x, 0)) = againR (q.modify n fun y => setSt y s) n := by
      intro s hs
      have e : (q.modify n fun y => setSt y s)[n]? = some (setSt x s) := by rw [List.getElem?_modify, hx]; simp
      unfold againR
      rw [e, mod_take, mod_drop]
      have e2 : q.take n ++ q.drop (n + 1) ++ [more (setSt x s)] = moreR q n x := by
        unfold moreR
        rcases hs with ⟨h1, rfl⟩ | ⟨h1, rfl⟩ <;> simp [h1]
      simp only [e2]
      show _ = if x.tr = 5 then _ else _
      split
      · rfl
      next h5 =>
      rcases more_14 h0 hx h5 with h | h <;> simp [h]
    have hs1 : ruL.find? (ruFit sTr 3) = some (sTr, 3, 1) := by simp [ruL, ruFit, List.find?_cons, names_ne]
    have hs2 : ruL.find? (ruFit sTr 7) = some (sTr, 7, 2) := by simp [ruL, ruFit, List.find?_cons, names_ne]
    simp only
    by_cases e3 : x.st = 3
    · rw [if_pos (.inl e3), key 1 (.inl ⟨e3, rfl⟩), e3, hs1]
    by_cases e7 : x.st = 7
    · rw [if_pos (.inr e7), key 2 (.inr ⟨e7, rfl⟩), e7, hs2]
    · have : ruL.find? (ruFit sTr x.st) = none := by simp [ruL, ruFit, List.find?_cons, names_ne, Ne.symm e3, Ne.symm e7]
      rw [this, if_neg (by omega)]
end Go.AX.Qu

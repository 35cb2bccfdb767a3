/- Queues: slices.Delete of a queue's requests, in place. -/
import Derived.Test.YtamlleliapmhmaaQf
import Derived.Shelf.RegionOpenPlain
import Derived.WalkKit
import Derived.Deep.LoopGhost
import Derived.Deep.RegionLaw
import Derived.Lib.Walk
import Derived.Lib.SliceRun
namespace Go.AX.Qu
open Go.Proofs Go.Shelf Go.RowKit Go.Lib
set_option maxHeartbeats 4000000
set_option maxRecDepth 1000000
set_option linter.unusedVariables false
set_option linter.unusedSimpArgs false
theorem set_cells_row (b o : Nat) (ty : TypeId) (vs : Array Value) (w : World) (news : List Value) (hb : w.heap[b]? = some (.cells vs ty (0, 0))) (hl : o + news.length ≤ vs.size) (h1 : ∀ v ∈ news, v.oneCell' = true) :
    w.setCells b o news = w.setRow b (vs.toList.take o ++ news ++ vs.toList.drop (o + news.length)).toArray := by
  have e1 := run_storeCells_at Try.prog b o ty news 0 vs w hb (by simpa using hl) h1
  have e2 := run_storeCells_cells (P := Try.prog) b o news 0 w (fun j hj => by simp [World.cell?, hb]; omega) (fun j hj => by simp [World.frozen?, hb]) h1
  simp only [Nat.add_zero] at e1 e2
  have := e1.symm.trans e2
  injection this with _ h
  exact h.symm
theorem del (b cap n i j : Nat) (vs : Array Value) (ty : TypeId) (w : World) (hij : i < j) (hj : j ≤ n) (hn : n ≤ cap) (hm : n ≤ 9223372036854775807) (hb : w.heap[b]? = some (.cells vs ty (0, 0))) (hs : vs.size = cap * 5)
    (h1 : ∀ (k : Nat) (u : Value), vs[k]? = some u → k < n * 5 → u.oneCell' = true) (zs : List Value)
    (hcl : ∀ ty' W1, W1 = w.drew.setCells b (0 + i * 5) ((vs.toList.drop (j * 5)).take ((n - j) * 5)) → (Builtin.clear_ #[22] ty' #[.slice (some ⟨b, (i + (n - j)) * 5, none⟩) (n - (i + (n - j))) (cap - (i + (n - j)))]).run Try.prog W1 = .ok (.tuple #[]) (W1.setCells b ((i + (n - j)) * 5) zs)) :
    Calls Try.prog 44 #[.slice (some ⟨b, 0, none⟩) n cap, .int .i64 i, .int .i64 j] w fun e w' => e = .returned (.slice (some ⟨b, 0, none⟩) (i + (n - j)) cap) ∧ w' = (w.drew.setCells b (0 + i * 5) ((vs.toList.drop (j * 5)).take ((n - j) * 5))).setCells b ((i + (n - j)) * 5) zs := by
  have t22 : Try.prog.underlying 22 = some (.slice 52) := Ty.under_22
  have mixed : Try.prog.follows .mixedOrders = true := Ty.mixed
  obtain ⟨d0, i0, hu0, hi0, ha0, hz0⟩ := tk_spec Ty.tk_52
  obtain ⟨news, hnews⟩ : ∃ news, news = (vs.toList.drop (j * 5)).take ((n - j) * 5) := ⟨_, rfl⟩
  rw [← hnews] at hcl ⊢
  have hvl : vs.toList.length = cap * 5 := by simp [hs]
  have hlen : news.length = (n - j) * 5 := by rw [hnews, List.length_take, List.length_drop, hvl]; omega
  have hget : ∀ t, t < (n - j) * 5 → news[t]? = vs[j * 5 + t]? := fun t ht => by
    rw [hnews, List.getElem?_take_of_lt ht, List.getElem?_drop, Array.getElem?_toList]
  have cell : ∀ k, k < cap * 5 → w.drew.cell? ⟨b, k, none⟩ = vs[k]? := fun k hk => by
    show w.cell? _ = _
    simp [World.cell?, hb]
  obtain ⟨A, hA, hsrc⟩ : ∃ A : Addr, (if cap = j then some (⟨b, 0, none⟩ : Addr) else some ⟨b, j * 5, none⟩) = some A ∧ Hid (∀ t u, news[t]? = some u → w.drew.cell? (A.add t) = some u) := by
    by_cases h : cap = j
    · refine ⟨⟨b, 0, none⟩, by simp [h], fun t u hu => ?_⟩
      have h0 : news.length = 0 := by rw [hlen]; omega
      rw [List.length_eq_zero_iff.1 h0] at hu
      simp at hu
    · refine ⟨⟨b, j * 5, none⟩, by simp [h], fun t u hu => ?_⟩
      have ht : t < (n - j) * 5 := by
        have := (List.getElem?_eq_some_iff.1 hu).1
        rwa [hlen] at this
      rw [hget t ht] at hu
      rw [show (⟨b, j * 5, none⟩ : Addr).add t = ⟨b, j * 5 + t, none⟩ by simp [Addr.add]]
      rw [cell _ (by omega)]; exact hu
  have s1 : Hid (news.length = (n - j) * 5) := hlen
  have s2 : Hid (∀ u ∈ news, u.oneCell' = true) := by
    intro u hu
    obtain ⟨t, ht⟩ := List.mem_iff_getElem?.1 hu
    have hlt := some_lt ht
    rw [hlen] at hlt
    rw [hget t hlt] at ht
    exact h1 _ u ht (by omega)
  have s3 : Hid (∀ t, t < news.length → (w.drew.cell? ⟨b, 0 + i * 5 + t, none⟩).isSome = true ∧ w.drew.frozen? ⟨b, 0 + i * 5 + t, none⟩ = false) := by
    intro t ht
    rw [hlen] at ht
    refine ⟨?_, ?_⟩
    · rw [cell _ (by omega), Array.getElem?_eq_getElem (by omega)]; rfl
    · show w.frozen? _ = false
      simp [World.frozen?, hb]
  obtain ⟨W1, hW1⟩ : ∃ W1, W1 = w.drew.setCells b (0 + i * 5) news := ⟨_, rfl⟩
  have hcl' := fun ty' => hcl ty' W1 hW1
  have hW : Hid (W1 = w.drew.setCells b (0 + i * 5) news) := hW1
  rw [← hW1]
  have hic : i ≤ cap := by omega
  have hjc : j ≤ cap := by omega
  have hlt : i < j := hij
  clear hcl hget hnews cell hlen hb h1 hs hvl hW1
  go_enter Try.func44, Try.ntmps44
  go_wp2_with fail
  go_region_law_o (refine step_append_room rfl (.tmp 22) (.tmp 25) 22 rfl 52 i0 5 t22 hi0 hz0 b 0 i cap (by simp [Act.eval, Act.put]) A (n - j) (cap - j) news (by simp [Act.eval, Act.put]) s1.out hsrc.out s2.out (by omega) s3.out ?_; rw [← hW.out])
  go_wp2
  go_ret; exact ⟨rfl, rfl⟩
theorem clear5 (P : Program) (t e : TypeId) (z : Value) (w0 : World) (ht : P.underlying t = some (.slice e)) (hv : ∀ w, (zeroValue e).run P w = .ok z w) (h1 : ∀ u ∈ z.cells.toList, u.oneCell' = true) (b o n c : Nat) (ty : TypeId) (W : World) (hn : 0 < n)
    (vs : Array Value) (tb : TypeId) (hb : W.heap[b]? = some (.cells vs tb (0, 0))) (hl : o + n * z.cells.size ≤ vs.size) :
    (Builtin.zeroCells z.cells n).toList.length = n * z.cells.size ∧ (∀ u ∈ (Builtin.zeroCells z.cells n).toList, u.oneCell' = true) ∧ (Builtin.clear_ #[t] ty #[.slice (some ⟨b, o, none⟩) n c]).run P W = .ok (.tuple #[]) (W.setCells b o (Builtin.zeroCells z.cells n).toList) := by
  have hl1 : (Builtin.zeroCells z.cells n).toList.length = n * z.cells.size := by simp [Builtin.zeroCells]
  have hone : ∀ u ∈ (Builtin.zeroCells z.cells n).toList, u.oneCell' = true := by
    intro u hu
    simp only [Builtin.zeroCells, Array.toList_map, List.mem_map, Array.toList_range, List.mem_range] at hu
    obtain ⟨k, hk, rfl⟩ := hu
    have h0 : 0 < z.cells.size := by
      rcases Nat.eq_zero_or_pos z.cells.size with h | h
      · rw [h] at hk; simp at hk
      · exact h
    have hm := Nat.mod_lt k h0
    apply h1
    rw [getElem!_pos z.cells _ hm]
    simp
  refine ⟨hl1, hone, ?_⟩
  have hst := run_storeCells_cells (P := P) b o (Builtin.zeroCells z.cells n).toList 0 W (by rw [hl1]; intro j hj; simp [World.cell?, hb]; omega) (by intro j hj; simp [World.frozen?, hb]) hone
  simp only [Nat.add_zero] at hst
  obtain ⟨m, rfl⟩ : ∃ m, n = m + 1 := ⟨n - 1, by omega⟩
  simp [Builtin.clear_, run_underlying ht, hv, hst]
theorem ARs_one {c : Cf} : ∀ {xs : List D} {vs : List Value}, ARs c (xs.map .d) vs → ∀ u ∈ vs, u.oneCell' = true
  | [], vs, h, u, hu => by rw [ARs_nil_left h] at hu; simp at hu
  | x :: xs, vs, h, u, hu => by
    obtain ⟨v, r, rfl, h1, h2⟩ := ARs_cons_left h
    simp only [AR] at h1
    rcases List.mem_cons.1 hu with rfl | h3
    · exact (DR_cells h1).2
    · exact ARs_one h2 u h3
theorem flat_take (es : List (List D)) (h : ∀ e ∈ es, e.length = 5) (n : Nat) : (es.take n).flatten = es.flatten.take (n * 5) := by
  have hl := flatten_len (es := es.take n) (sz := 5) fun e he => h e (List.mem_of_mem_take he)
  have e : es.flatten = (es.take n).flatten ++ (es.drop n).flatten := by rw [← List.flatten_append, List.take_append_drop]
  rcases Nat.le_total n es.length with h2 | h2
  · rw [e]; exact (take_left' (by rw [hl, List.length_take]; omega)).symm
  · rw [List.take_of_length_le h2, List.take_of_length_le]
    rw [flatten_len (sz := 5) h]; omega
theorem flat_drop (es : List (List D)) (h : ∀ e ∈ es, e.length = 5) (n : Nat) : (es.drop n).flatten = es.flatten.drop (n * 5) := by
  have hl := flatten_len (es := es.take n) (sz := 5) fun e he => h e (List.mem_of_mem_take he)
  have e : es.flatten = (es.take n).flatten ++ (es.drop n).flatten := by rw [← List.flatten_append, List.take_append_drop]
  rcases Nat.le_total n es.length with h2 | h2
  · rw [e]; exact (List.drop_left' (by rw [hl, List.length_take]; omega)).symm
  · rw [List.drop_of_length_le h2, List.drop_of_length_le]
    · rfl
    rw [flatten_len (sz := 5) h]; omega
theorem row_del {c : Cf} {es : List (List D)} {i j cap : Nat} {vs : Array Value} {ty : TypeId} {zs : List Value} (H : Holds c [.row 5 es]) (hij : i < j) (hj : j ≤ es.length) (h0 : 0 < cap) (hu : c.u 0 = .slice (some ⟨c.ν 0, 0, none⟩) es.length cap) (hcap : es.length ≤ cap)
    (hb : c.w.heap[c.ν 0]? = some (.cells vs ty (0, 0))) (hvs : vs.size = cap * 5) (hes : ∀ e ∈ es, e.length = 5) (hd : DRs c.h es.flatten (vs.toList.take (es.length * 5))) (hzl : zs.length = (es.length - (i + (es.length - j))) * 5) (hzo : ∀ u ∈ zs, u.oneCell' = true) :
    ∃ W1 W2 cur1, W1 = c.w.drew.setCells (c.ν 0) (0 + i * 5) ((vs.toList.drop (j * 5)).take ((es.length - j) * 5)) ∧ W1.heap[c.ν 0]? = some (.cells cur1 ty (0, 0)) ∧ cur1.size = cap * 5 ∧ W2 = W1.setCells (c.ν 0) ((i + (es.length - j)) * 5) zs ∧
      ∃ c', c'.w = W2 ∧ AR c' (.own 1) (.slice (some ⟨c.ν 0, 0, none⟩) (i + (es.length - j)) cap) ∧ Nxt c [.row 5 es] c' [.gone, .row 5 (es.take i ++ es.drop j)] := by
  have hO : ([AObj.row 5 es])[0]? = some (.row 5 es) := rfl
  have hone := DRs_one hd
  obtain ⟨news, hnews⟩ : ∃ news, news = (vs.toList.drop (j * 5)).take ((es.length - j) * 5) := ⟨_, rfl⟩
  have hvl : vs.toList.length = cap * 5 := by simp [hvs]
  have hnl : news.length = (es.length - j) * 5 := by rw [hnews, List.length_take, List.length_drop, hvl]; omega
  have hnd : news = (vs.toList.take (es.length * 5)).drop (j * 5) := by
    rw [hnews, List.drop_take]; congr 1; omega
  have hn1 : ∀ u ∈ news, u.oneCell' = true := fun u hu => hone u (by rw [hnd] at hu; exact List.mem_of_mem_drop hu)
  have hb' : c.w.drew.heap[c.ν 0]? = some (.cells vs ty (0, 0)) := hb
  have hw1 := set_cells_row (c.ν 0) (0 + i * 5) ty vs c.w.drew news hb' (by rw [hnl, hvs]; omega) hn1
  obtain ⟨cur1, hc1⟩ : ∃ q : Array Value, q = (vs.toList.take (0 + i * 5) ++ news ++ vs.toList.drop (0 + i * 5 + news.length)).toArray := ⟨_, rfl⟩
  rw [← hc1] at hw1
  have hc1s : cur1.size = cap * 5 := by rw [hc1]; simp [hnl, hvs]; omega
  have hb1 := setRow_heap c.w.drew (c.ν 0) vs cur1 ty (0, 0) hb'
  have hw2 := set_cells_row (c.ν 0) ((i + (es.length - j)) * 5) ty cur1 (c.w.drew.setRow (c.ν 0) cur1) zs hb1 (by rw [hzl, hc1s]; omega) hzo
  obtain ⟨cur2, hc2⟩ : ∃ q : Array Value, q = (cur1.toList.take ((i + (es.length - j)) * 5) ++ zs ++ cur1.toList.drop ((i + (es.length - j)) * 5 + zs.length)).toArray := ⟨_, rfl⟩
  rw [← hc2] at hw2
  have hc2s : cur2.size = cap * 5 := by rw [hc2]; simp [hzl, hc1s]; omega
  have hb2 := setRow_heap (c.w.drew.setRow (c.ν 0) cur1) (c.ν 0) cur1 cur2 ty (0, 0) hb1
  -- the steps
  have N0 := Nxt.drew H
  have hh0 : Has (c.at c.w.drew) 0 (.row 5 es) := ⟨_, _, _, hu, h0⟩
  have hpre : RowB ((c.at c.w.drew).put (c.at c.w.drew).w ((c.at c.w.drew).ν 0) (.slice (some ⟨c.ν 0, 0, none⟩) (i + (es.length - j)) cap)) (c.at c.w.drew).n 5 (es.take (i + (es.length - j))) := by
    refine ⟨cap, vs, ty, h0, by simp [Cf.put, Cf.at]; omega, by simp; omega, ?_, hvs, fun e he => hes e (List.mem_of_mem_take he), ?_⟩
    · have : ((c.at c.w.drew).put (c.at c.w.drew).w ((c.at c.w.drew).ν 0) (.slice (some ⟨c.ν 0, 0, none⟩) (i + (es.length - j)) cap)).ν (c.at c.w.drew).n = c.ν 0 := by simp [Cf.put, Cf.at]
      rw [this]; exact hb'
    · have e1 : (es.take (i + (es.length - j))).length = i + (es.length - j) := by simp; omega
      rw [e1, flat_take es hes]
      have := DRs_take ((i + (es.length - j)) * 5) hd
      rw [List.take_take, Nat.min_eq_left (by omega)] at this
      exact this
  have N1 := Nxt.take N0.hold (l := 0) hO hh0 (.slice (some ⟨c.ν 0, 0, none⟩) (i + (es.length - j)) cap) (o' := .row 5 (es.take (i + (es.length - j)))) (.inr hpre)
  obtain ⟨c1, hcc⟩ : ∃ c1, c1 = (c.at c.w.drew).put (c.at c.w.drew).w ((c.at c.w.drew).ν 0) (.slice (some ⟨c.ν 0, 0, none⟩) (i + (es.length - j)) cap) := ⟨_, rfl⟩
  rw [← hcc] at N1 hpre
  have cn : c.n = 1 := H.n
  have c1w : c1.w = c.w.drew := by rw [hcc]; rfl
  have c1u : c1.u 1 = .slice (some ⟨c.ν 0, 0, none⟩) (i + (es.length - j)) cap := by rw [hcc]; simp [Cf.put, Cf.at, cn]
  have c1v : c1.ν 1 = c.ν 0 := by rw [hcc]; simp [Cf.put, Cf.at, cn]
  have c1n : c1.n = 2 := by rw [hcc]; simp [Cf.put, Cf.at, cn]
  have c1h : c1.h = c.h := by rw [hcc]; rfl
  have hne : (es.take i ++ es.drop j).length = i + (es.length - j) := by simp; omega
  have hall : ∀ e ∈ es.take i ++ es.drop j, e.length = 5 := fun e he => by
    rcases List.mem_append.1 he with q | q
    · exact hes e (List.mem_of_mem_take q)
    · exact hes e (List.mem_of_mem_drop q)
  have hdata : DRs c.h (es.take i ++ es.drop j).flatten (vs.toList.take (i * 5) ++ news) := by
    rw [List.flatten_append, flat_take es hes, flat_drop es hes]
    refine DRs_append ?_ ?_
    · have := DRs_take (i * 5) hd
      rw [List.take_take, Nat.min_eq_left (by omega)] at this
      exact this
    · rw [hnd]; exact DRs_drop (j * 5) hd
  have hlen1 : (vs.toList.take (i * 5) ++ news).length = (i + (es.length - j)) * 5 := by simp [hnl, hvl]; omega
  have hk1 : cur1.toList.take ((i + (es.length - j)) * 5) = vs.toList.take (i * 5) ++ news := by
    rw [hc1]; simp only [Nat.zero_add]; exact take_left' hlen1
  have hk2 : cur2.toList.take ((i + (es.length - j)) * 5) = vs.toList.take (i * 5) ++ news := by
    rw [hc2, ← hk1]; simp only [List.append_assoc]; exact take_left' (by rw [hk1]; exact hlen1)
  have mk : ∀ (w : World) (cur : Array Value), cur.size = cap * 5 → w.heap[c.ν 0]? = some (.cells cur ty (0, 0)) → cur.toList.take ((i + (es.length - j)) * 5) = vs.toList.take (i * 5) ++ news → RowB (c1.at w) 1 5 (es.take i ++ es.drop j) := fun w cur q1 q2 q3 => by
    refine ⟨cap, cur, ty, h0, ?_, by rw [hne]; omega, ?_, q1, hall, ?_⟩
    · show c1.u 1 = _
      rw [c1u, hne]; show _ = Value.slice (some ⟨c1.ν 1, 0, none⟩) _ _; rw [c1v]
    · show w.heap[c1.ν 1]? = _
      rw [c1v]; exact q2
    · rw [hne, q3]; show DRs c1.h _ _; rw [c1h]; exact hdata
  have hO1 : ((([AObj.row 5 es]).set 0 .gone) ++ [AObj.row 5 (es.take (i + (es.length - j)))])[1]? = some (.row 5 (es.take (i + (es.length - j)))) := rfl
  have N2 := Nxt.upd N1.hold (l := 1) hO1 ⟨_, _, _, c1u, h0⟩ (c.w.drew.setRow (c.ν 0) cur1) (fun b hb => by rw [c1w]; rw [c1v] at hb; exact heap_same b hb) (by rw [c1w]; simp) (by rw [c1w]; rfl) (by rw [c1w]; rfl) (by rw [c1w]; rfl) (o' := .row 5 (es.take i ++ es.drop j)) (.inr (mk _ cur1 hc1s hb1 hk1))
  have hO2 : ((([AObj.row 5 es]).set 0 .gone ++ [AObj.row 5 (es.take (i + (es.length - j)))]).set 1 (.row 5 (es.take i ++ es.drop j)))[1]? = some (.row 5 (es.take i ++ es.drop j)) := rfl
  have N3 := Nxt.upd N2.hold (l := 1) hO2 ⟨_, _, _, c1u, h0⟩ ((c.w.drew.setRow (c.ν 0) cur1).setRow (c.ν 0) cur2) (fun b hb => by replace hb : b ≠ c1.ν 1 := hb; rw [c1v] at hb; exact heap_same b hb) (by show _ = (c.w.drew.setRow (c.ν 0) cur1).heap.size; simp) rfl rfl rfl (o' := .row 5 (es.take i ++ es.drop j)) (.inr (mk _ cur2 hc2s hb2 hk2))
  refine ⟨c.w.drew.setRow (c.ν 0) cur1, (c.w.drew.setRow (c.ν 0) cur1).setRow (c.ν 0) cur2, cur1, by rw [← hnews]; exact hw1.symm, hb1, hc1s, hw2.symm, (c1.at (c.w.drew.setRow (c.ν 0) cur1)).at ((c.w.drew.setRow (c.ν 0) cur1).setRow (c.ν 0) cur2), rfl, ?_, ((N0.trans N1).trans N2).trans N3⟩
  simp only [AR]
  refine ⟨?_, ?_, _, _, _, rfl⟩
  · show 1 < c1.n; omega
  · show _ = c1.u 1; rw [c1u]
theorem clear_rq (c : Cf) (m : Nat) (hm : 0 < m) : ∃ zs : List Value, zs.length = m * 5 ∧ (∀ u ∈ zs, u.oneCell' = true) ∧ ∀ (b o n : Nat) (ty : TypeId) (W : World) (cur : Array Value) (tb : TypeId), W.heap[b]? = some (.cells cur tb (0, 0)) → o + m * 5 ≤ cur.size →
    (Builtin.clear_ #[22] ty #[.slice (some ⟨b, o, none⟩) m n]).run Try.prog W = .ok (.tuple #[]) (W.setCells b o zs) := by
  obtain ⟨e, ie, z, g1, g2, g3, g4, g5, g6, g7⟩ := ei_spec Ty.ei_22
  have ht : e = 52 := by
    have := g1.symm.trans Ty.under_22
    simpa using this
  subst ht
  have hz : ∀ w, (zeroValue 52).run Try.prog w = .ok z w := fun w => by simp [zeroValue, typeInfo, g2, g3]
  have hz1 : ∀ u ∈ z.cells.toList, u.oneCell' = true := by
    obtain ⟨z', hz', hzA⟩ := zv_spec Ty.zv_52 c c.w
    have : z' = z := by
      have := hz'.symm.trans (hz c.w)
      injection this
    subst this
    simp only [dv, if_true, AR] at hzA
    obtain ⟨us, rfl, hus⟩ := hzA
    exact ARs_one hus
  have key := fun b o n ty W cur tb h1 h2 => clear5 Try.prog 22 _ z c.w g1 hz hz1 b o m n ty W hm cur tb h1 h2
  have hl1 : (Builtin.zeroCells z.cells m).toList.length = m * z.cells.size := by simp [Builtin.zeroCells]
  rw [g4] at hl1
  refine ⟨_, hl1, ?_, fun b o n ty W cur tb h1 h2 => (key b o n ty W cur tb h1 (by rw [g4]; exact h2)).2.2⟩
  exact (key 0 0 0 0 { c.w with heap := #[.cells (Array.replicate (m * z.cells.size) undef) 0 (0, 0)] } _ 0 rfl (by simp)).2.1
theorem delete_core {c : Cf} {es : List (List D)} {i j cap : Nat} {vs : Array Value} {ty : TypeId} (H : Holds c [.row 5 es]) (hij : i < j) (hj : j ≤ es.length) (h0 : 0 < cap) (hu : c.u 0 = .slice (some ⟨c.ν 0, 0, none⟩) es.length cap) (hcap : es.length ≤ cap)
    (hb : c.w.heap[c.ν 0]? = some (.cells vs ty (0, 0))) (hvs : vs.size = cap * 5) (hes : ∀ e ∈ es, e.length = 5) (hd : DRs c.h es.flatten (vs.toList.take (es.length * 5))) (hm : es.length ≤ 1000000) :
    Calls Try.prog 44 #[.slice (some ⟨c.ν 0, 0, none⟩) es.length cap, .int .i64 i, .int .i64 j] c.w fun e w' => ∃ c' v, c'.w = w' ∧ e = .returned v ∧ AR c' (.own 1) v ∧ Nxt c [.row 5 es] c' [.gone, .row 5 (es.take i ++ es.drop j)] := by
  obtain ⟨m, hmm⟩ : ∃ m, m = es.length - (i + (es.length - j)) := ⟨_, rfl⟩
  obtain ⟨zs, z1, z2, z3⟩ := clear_rq c m (by omega)
  have hone := DRs_one hd
  have h1 : ∀ (k : Nat) (u : Value), vs[k]? = some u → k < es.length * 5 → u.oneCell' = true := fun k u hk hlt => by
    apply hone u
    rw [← Array.getElem?_toList] at hk
    exact List.mem_of_getElem? ((List.getElem?_take_of_lt hlt).trans hk)
  obtain ⟨W1, W2, cur1, hW1, hh1, hc1, hW2, c', hc', ha, hN⟩ := row_del H hij hj h0 hu hcap hb hvs hes hd (by rw [z1, hmm]) z2
  have h3 : ∀ ty' W, W = c.w.drew.setCells (c.ν 0) (0 + i * 5) ((vs.toList.drop (j * 5)).take ((es.length - j) * 5)) → (Builtin.clear_ #[22] ty' #[.slice (some ⟨c.ν 0, (i + (es.length - j)) * 5, none⟩) (es.length - (i + (es.length - j))) (cap - (i + (es.length - j)))]).run Try.prog W = .ok (.tuple #[]) (W.setCells (c.ν 0) ((i + (es.length - j)) * 5) zs) := by
    intro ty' W hW
    rw [← hW1] at hW
    rw [hW, ← hmm]
    exact z3 (c.ν 0) ((i + (es.length - j)) * 5) (cap - (i + (es.length - j))) ty' W1 cur1 ty hh1 (by rw [hc1]; omega)
  have hm2 : es.length ≤ 9223372036854775807 := by omega
  have hdel := del (c.ν 0) cap es.length i j vs ty c.w hij hj hcap hm2 hb hvs h1 zs h3
  refine Calls.mono hdel fun e w' h => ?_
  obtain ⟨h4, h5⟩ := h
  exact ⟨c', _, by rw [hc', hW2, hW1]; exact h5.symm, h4, ha, hN⟩
theorem delete_rq (es : List (List D)) (i j : Nat) (hij : i < j) (hj : j ≤ es.length) (hm : es.length ≤ 1000000) : Spec Try.prog 44 [.own 0, .d (.int .i64 i), .d (.int .i64 j)] [.row 5 es] (.own 1) [.gone, .row 5 (es.take i ++ es.drop j)] := by
  refine ⟨⟨_, rfl, rfl, rfl⟩, fun c avs H hA => ?_⟩
  obtain ⟨v0, r0, e0, a0, hA⟩ := ARs_cons_left hA
  obtain ⟨v1, r1, rfl, a1, hA⟩ := ARs_cons_left hA
  obtain ⟨v2, r2, rfl, a2, hA⟩ := ARs_cons_left hA
  have := ARs_nil_left hA; subst this
  have hav : avs = #[v0, v1, v2] := Array.ext' e0
  simp only [AR, DR] at a0 a1 a2
  obtain ⟨_, rfl, _⟩ := a0
  subst a1; subst a2
  have hO : ([AObj.row 5 es])[0]? = some (.row 5 es) := rfl
  rcases H.obj 0 _ hO with ⟨rfl, _⟩ | ⟨cap, vs, ty, h0, hu, hcap, hb, hvs, hes, hd⟩
  · simp at hj; omega
  rw [hav, hu]
  exact delete_core H hij hj h0 hu hcap hb hvs hes hd hm
end Go.AX.Qu

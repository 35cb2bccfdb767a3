/- Trains: a law's arguments. TrainSteps: whatever the input, the law returns true, and its arguments read as they did. No condition. -/
import Derived.Test.YtknofchgacbamaaK8
set_option maxHeartbeats 8000000
set_option linter.unusedVariables false
set_option linter.unusedSimpArgs false
set_option maxRecDepth 20000
namespace Go.AX.Tr
open Go.Proofs Go.RowKit Go.IntWalk Go.AX.Br Go.AX.Lg Go.AX.Qu Go.AX.Wn
theorem bool_of {n : Nat} {d : List D} (h : Tyd Try.prog (n + 1) 4 d) : ∃ b : Bool, d = [.bool b] := h.bool Ty.under_4
theorem request_of {n : Nat} {x : List D} (h : Tyd Try.prog (n + 2) 73 x) : ∃ r : Rq, x = rD r := by
  obtain ⟨f0, f1, f2, f3, f4, hu, e0, e1, e2, e3, e4⟩ : ∃ f0 f1 f2 f3 f4 : Field, Try.prog.underlying 73 = some (.struct #[f0, f1, f2, f3, f4]) ∧ f0.type = 9 ∧ f1.type = 9 ∧ f2.type = 5 ∧ f3.type = 4 ∧ f4.type = 3 := ⟨_, _, _, _, _, by rfl, rfl, rfl, rfl, rfl, rfl⟩
  have this := h.struct hu
  simp only [List.map_cons, List.map_nil, Sq] at this
  obtain ⟨a0, b0, rfl, k0, a1, b1, rfl, k1, a2, b2, rfl, k2, a3, b3, rfl, k3, a4, b4, rfl, k4, rfl⟩ := this
  rw [e0] at k0; rw [e1] at k1; rw [e2] at k2; rw [e3] at k3; rw [e4] at k4
  obtain ⟨i, rfl, _⟩ := Lg.str_of k0
  obtain ⟨j, rfl, _⟩ := Lg.str_of k1
  obtain ⟨s, rfl, hs⟩ := Lg.u8_of k2
  obtain ⟨o, rfl⟩ := bool_of k3
  obtain ⟨t, rfl, ht⟩ := Lg.int_of k4
  exact ⟨⟨i, j, s, o, t⟩, rfl⟩
theorem hold_of {n : Nat} {x : List D} (h : Tyd Try.prog (n + 2) 76 x) : ∃ r : Hd, x = hD r := by
  obtain ⟨f0, f1, f2, f3, hu, e0, e1, e2, e3⟩ : ∃ f0 f1 f2 f3 : Field, Try.prog.underlying 76 = some (.struct #[f0, f1, f2, f3]) ∧ f0.type = 9 ∧ f1.type = 3 ∧ f2.type = 3 ∧ f3.type = 9 := ⟨_, _, _, _, rfl, rfl, rfl, rfl, rfl⟩
  have this := h.struct hu
  simp only [List.map_cons, List.map_nil, Sq] at this
  obtain ⟨a0, b0, rfl, k0, a1, b1, rfl, k1, a2, b2, rfl, k2, a3, b3, rfl, k3, rfl⟩ := this
  rw [e0] at k0; rw [e1] at k1; rw [e2] at k2; rw [e3] at k3
  obtain ⟨i, rfl, _⟩ := Lg.str_of k0
  obtain ⟨j, rfl, hj⟩ := Lg.int_of k1
  obtain ⟨s, rfl, _⟩ := Lg.int_of k2
  obtain ⟨t, rfl, _⟩ := Lg.str_of k3
  exact ⟨⟨i, j, s, t⟩, rfl⟩
theorem clash_of {n : Nat} {x : List D} (h : Tyd Try.prog (n + 2) 55 x) : ∃ r : Cl, x = clD r := by
  obtain ⟨f0, f1, hu, e0, e1⟩ : ∃ f0 f1 : Field, Try.prog.underlying 55 = some (.struct #[f0, f1]) ∧ f0.type = 9 ∧ f1.type = 9 := ⟨_, _, by rfl, rfl, rfl⟩
  have this := h.struct hu
  simp only [List.map_cons, List.map_nil, Sq] at this
  obtain ⟨a0, b0, rfl, k0, a1, b1, rfl, k1, rfl⟩ := this
  rw [e0] at k0; rw [e1] at k1
  obtain ⟨i, rfl, _⟩ := Lg.str_of k0
  obtain ⟨j, rfl, _⟩ := Lg.str_of k1
  exact ⟨⟨i, j⟩, rfl⟩
theorem rows_ofT {α : Type} {g : α → List D} : ∀ {es : List (List D)}, (∀ x ∈ es, ∃ a, x = g a) → ∃ l : List α, es = l.map g
  | [], _ => ⟨[], rfl⟩
  | x :: es, h => by
    obtain ⟨a, rfl⟩ := h x (by simp)
    obtain ⟨l, rfl⟩ := rows_ofT (es := es) fun y hy => h y (List.mem_cons_of_mem _ hy)
    exact ⟨a :: l, rfl⟩
theorem requests_of {n : Nat} {d : List D} (h : Tyd Try.prog (n + 3) 27 d) : ∃ q : List Rq, d = [.sl (q.map rD)] ∧ Sm q.length := by
  obtain ⟨es, rfl, h1, h2⟩ := h.slice Ty.under_27
  obtain ⟨l, rfl⟩ := rows_ofT (g := rD) fun x hx => request_of (h2 x hx)
  refine ⟨l, rfl, ?_⟩
  have hb : Try.prog.bytesOf 73 = 48 := by kernel_rfl
  rw [hb, List.length_map] at h1
  unfold Sm; omega
theorem holds_of {n : Nat} {d : List D} (h : Tyd Try.prog (n + 3) 28 d) : ∃ q : List Hd, d = [.sl (q.map hD)] ∧ Sm q.length := by
  obtain ⟨es, rfl, h1, h2⟩ := h.slice Ty.under_28
  obtain ⟨l, rfl⟩ := rows_ofT (g := hD) fun x hx => hold_of (h2 x hx)
  refine ⟨l, rfl, ?_⟩
  have hb : Try.prog.bytesOf 76 = 48 := by kernel_rfl
  rw [hb, List.length_map] at h1
  unfold Sm; omega
theorem clashes_of {n : Nat} {d : List D} (h : Tyd Try.prog (n + 3) 29 d) : ∃ q : List Cl, d = [.sl (q.map clD)] ∧ Sm q.length := by
  obtain ⟨es, rfl, h1, h2⟩ := h.slice Ty.under_29
  obtain ⟨l, rfl⟩ := rows_ofT (g := clD) fun x hx => clash_of (h2 x hx)
  refine ⟨l, rfl, ?_⟩
  have hb : Try.prog.bytesOf 55 = 32 := by kernel_rfl
  rw [hb, List.length_map] at h1
  unfold Sm; omega
theorem train_of {n : Nat} {x : List D} (h : Tyd Try.prog (n + 6) 31 x) : ∃ t : Tr, x = [.sl (t.lg.kn.map kD), .sl (t.lg.br.map bD), .sl (t.lg.ev.map esD), .sl (t.q.map rD), .sl (t.hs.map hD), .sl (t.cl.map clD)] ∧ TSm t := by
  obtain ⟨f0, f1, f2, f3, hu, e0, e1, e2, e3⟩ : ∃ f0 f1 f2 f3 : Field, Try.prog.underlying 31 = some (.struct #[f0, f1, f2, f3]) ∧ f0.type = 26 ∧ f1.type = 27 ∧ f2.type = 28 ∧ f3.type = 29 := ⟨_, _, _, _, by rfl, rfl, rfl, rfl, rfl⟩
  have this := h.struct hu
  simp only [List.map_cons, List.map_nil, Sq] at this
  obtain ⟨a0, b0, rfl, k0, a1, b1, rfl, k1, a2, b2, rfl, k2, a3, b3, rfl, k3, rfl⟩ := this
  rw [e0] at k0; rw [e1] at k1; rw [e2] at k2; rw [e3] at k3
  obtain ⟨l, rfl, hl⟩ := Lg.ledger_of k0
  obtain ⟨q, rfl, hq⟩ := requests_of (n := n + 2) k1
  obtain ⟨w, rfl, hw⟩ := holds_of (n := n + 2) k2
  obtain ⟨c, rfl, hc⟩ := clashes_of (n := n + 2) k3
  exact ⟨⟨l, q, w, c⟩, rfl, hl.k, hl.b, hl.e, hl.s, hq, hw, hc⟩
theorem int_of {n : Nat} {d : List D} (h : Tyd Try.prog (n + 1) 3 d) : ∃ i : Int, d = [.int .i64 i] ∧ (-9223372036854775808 ≤ i ∧ i ≤ 9223372036854775807) := Lg.int_of h
theorem str_of {n : Nat} {d : List D} (h : Tyd Try.prog (n + 1) 9 d) : ∃ s : ByteArray, d = [.str s] ∧ Sm s.size := Lg.str_of h
theorem tfit_of {t : Tr} (h : tgreat t = false) : TFit t := by
  simp only [tgreat, Bool.or_eq_false_iff, decide_eq_false_iff_not] at h
  obtain ⟨-, ⟨⟨h1, h2⟩, h3⟩, h4⟩ := h
  have f := fit_of h1
  simp only [wgreat, Bool.or_eq_false_iff, decide_eq_false_iff_not] at h2
  simp only [qgreat, Bool.or_eq_false_iff, decide_eq_false_iff_not] at h3
  exact ⟨by have := f.k; omega, by have := f.b; omega, by have := f.e; omega, fun s hs => by have := f.s s hs; omega, by omega, by omega, by omega⟩
end Go.AX.Tr

/- The opening of a law that leans on the library's variable; what DeltaMakes' walk needs. -/
import Derived.Test.YtmffhidhmbncbaaK15
import Derived.Test.YtmffhidhmbncbaaRows
import Derived.HandedShaped
import Derived.Shelf.Vars
import Derived.KernelRfl
set_option maxHeartbeats 8000000
set_option linter.unusedVariables false
set_option linter.unusedSimpArgs false
set_option maxRecDepth 20000
namespace Go.AX
open Go.Proofs Go.RowKit Go.AX.De Go.ChangeShapes
/-- data that cannot lie in a block of one number -/
def no64 : D → Bool
  | .int .i64 _ => false
  | _ => true
mutual
def nz : D → Prop
  | .sl es => nzR es
  | _ => True
def nzR : List (List D) → Prop
  | [] => True
  | e :: es => (e.any no64 = true ∧ nzC e) ∧ nzR es
def nzC : List D → Prop
  | [] => True
  | x :: xs => nz x ∧ nzC xs
end
theorem no64_DR {h : Snap} {x : D} {v : Value} {m : Int} (h1 : no64 x = true) (h2 : DR h x v) (h3 : v = .int .i64 m) : False := by
  subst h3
  cases x with
  | int k n => simp only [DR] at h2; cases h2; simp [no64] at h1
  | bool b => simp only [DR] at h2; cases h2
  | str s => simp only [DR] at h2; cases h2
  | sl es => simp only [DR] at h2; obtain ⟨A, c, sz, e, _⟩ := h2; cases e
theorem cells_nz {h : Snap} (hi : ∀ k v, h 0 k = some v → ∃ m, v = .int .i64 m) : ∀ {e : List D} {a : Addr} {k : Nat}, DCells h e (some a) k → e.any no64 = true → a.block ≠ 0
  | [], a, k, _, h1 => by simp at h1
  | x :: xs, a, k, h0, h1 => by
    simp only [DCells] at h0
    obtain ⟨⟨a', v, e1, _, e3, e4⟩, h2⟩ := h0
    simp only [Option.some.injEq] at e1
    subst e1
    rw [List.any_cons, Bool.or_eq_true] at h1
    rcases h1 with h1 | h1
    · intro hz
      rw [hz] at e3
      obtain ⟨m, hm⟩ := hi _ _ e3
      exact no64_DR h1 e4 hm
    · exact cells_nz hi h2 h1
mutual
theorem DR_nz {h h0 : Snap} (hh : ∀ b k, b ≠ 0 → h0 b k = h b k) (hi : ∀ k v, h 0 k = some v → ∃ m, v = .int .i64 m) : ∀ (x : D) (v : Value), nz x → DR h x v → DR h0 x v
  | .int _ _, _, _, e => by simpa only [DR] using e
  | .bool _, _, _, e => by simpa only [DR] using e
  | .str _, _, _, e => by simpa only [DR] using e
  | .sl es, v, hn, e => by
    simp only [DR] at e ⊢
    obtain ⟨A, c, sz, e1, e2, e3, e4, e5⟩ := e
    exact ⟨A, c, sz, e1, e2, e3, e4, DRows_nz hh hi es A sz 0 (by simpa only [nz] using hn) e5⟩
theorem DRows_nz {h h0 : Snap} (hh : ∀ b k, b ≠ 0 → h0 b k = h b k) (hi : ∀ k v, h 0 k = some v → ∃ m, v = .int .i64 m) : ∀ (es : List (List D)) (A : Option Addr) (sz k : Nat), nzR es → DRows h es A sz k → DRows h0 es A sz k
  | [], _, _, _, _, _ => by simp only [DRows]
  | e :: es, A, sz, k, hn, r => by
    simp only [nzR] at hn
    simp only [DRows] at r ⊢
    refine ⟨r.1, ?_, DRows_nz hh hi es A sz (k + sz) hn.2 r.2.2⟩
    cases A with
    | none =>
      have : e = [] := by
        cases e with
        | nil => rfl
        | cons x xs => have := r.2.1; simp only [DCells] at this; obtain ⟨⟨a, v, e1, _⟩, _⟩ := this; cases e1
      subst this
      simp only [DCells]
    | some a => exact DCells_nz hh hi e a k (cells_nz hi r.2.1 hn.1.1) hn.1.2 r.2.1
theorem DCells_nz {h h0 : Snap} (hh : ∀ b k, b ≠ 0 → h0 b k = h b k) (hi : ∀ k v, h 0 k = some v → ∃ m, v = .int .i64 m) : ∀ (e : List D) (a : Addr) (k : Nat), a.block ≠ 0 → nzC e → DCells h e (some a) k → DCells h0 e (some a) k
  | [], _, _, _, _, _ => by simp only [DCells]
  | x :: xs, a, k, ha, hn, r => by
    simp only [nzC] at hn
    simp only [DCells] at r ⊢
    obtain ⟨⟨a', v, e1, e2, e3, e4⟩, r2⟩ := r
    simp only [Option.some.injEq] at e1
    subst e1
    exact ⟨⟨a, v, rfl, e2, by rw [hh _ _ ha]; exact e3, DR_nz hh hi x v hn.1 e4⟩, DCells_nz hh hi xs a (k + 1) ha hn.2 r2⟩
end
theorem ARs_nz {c c0 : Cf} (hh : ∀ b k, b ≠ 0 → c0.h b k = c.h b k) (hi : ∀ k v, c.h 0 k = some v → ∃ m, v = .int .i64 m) : ∀ (l : List AV) (vs : List Value), (∀ a ∈ l, ∃ x, a = .d x ∧ nz x) → ARs c l vs → ARs c0 l vs
  | [], [], _, _ => by simp only [ARs]
  | [], _ :: _, _, r => by simp only [ARs] at r
  | _ :: _, [], _, r => by simp only [ARs] at r
  | a :: l, v :: vs, hn, r => by
    simp only [ARs] at r ⊢
    obtain ⟨x, rfl, hx⟩ := hn a (by simp)
    exact ⟨by simp only [AR] at r ⊢; exact DR_nz hh hi x v hx r.1, ARs_nz hh hi l vs (fun a ha => hn a (by simp [ha])) r.2⟩
theorem glob_of {P : Program} {w : World} {t : TypeId} {zero : Array Value} (h : w.ShapedOpen P) (hg : 0 < P.globals.size) (h0 : ((begin P (fun _ _ => 0) default).world.heap[0]?).bind Obj.row? = some (zero, t)) (hz : zero.size = 1)
    (hb : P.buildable t = true) (hc : P.cellTypes P.depth t = some [t]) (hu : P.underlying t = some (.int .i64)) :
    ∃ o, w.heap[0]? = some o ∧ GlO o ∧ ∀ k v, w.cell? ⟨0, k, none⟩ = some v → ∃ m, v = .int .i64 m := by
  obtain ⟨m, hm⟩ := cell_of_shapedOpen_int h hg h0 hz hb hc hu
  obtain ⟨cs, hh, hs, _⟩ := h.1 0 zero t hg h0
  refine ⟨_, hh, ⟨m, fun w' hw' => ?_⟩, fun k v hv => ?_⟩
  · simp only [World.cell?, hh] at hm
    simp only [World.cell?, hw']
    exact hm
  · have hk : k = 0 := by
      simp only [World.cell?, hh] at hv
      have := (Array.getElem?_eq_some_iff.1 (by simpa using hv)).1
      omega
    subst hk
    rw [hm] at hv
    exact ⟨m, (Option.some.inj hv).symm⟩
/-- FROM A SPEC TO THE LAW's ROW, where the law leans on block 0. -/
theorem liftedG {ti : TypeId} {zero : Array Value} {C : Checked} (gg : 0 < C.prog.globals.size) (g0 : ((begin C.prog (fun _ _ => 0) default).world.heap[0]?).bind Obj.row? = some (zero, ti)) (gz : zero.size = 1)
    (gb : C.prog.buildable ti = true) (gc : C.prog.cellTypes C.prog.depth ti = some [ti]) (gu : C.prog.underlying ti = some (.int .i64))
    {f : FuncId} {fn : Func} {s : ChangeSpec} {conds : List PathCond} {rt : TypeId} {n : Nat} (own : ownKnob C.prog.godebug = none) (noInit : C.prog.inits.idxOf? f = none) (hfn : C.prog.funcs[f]? = some fn)
    (hvars : s.vars = []) (hs : ∀ (H : Type) (ds : List (DataW H)), ds.length = fn.params.toList.length → s.fn H ds = { results := [.lit (.bool true)], args := ds })
    (hrt : fn.resultTypes = #[rt]) (hb : C.prog.underlying rt = some .bool) (hl : laidOutB C.prog = true) (hr : (fn.params.toList.all fun t => C.prog.readableRec t && decide (t < C.prog.types.size)) = true) (hp : (fn.params.toList.all (plainT C.prog n)) = true)
    (os : Os) (started : os.Started) (H : Type) (enc : TypeId × Value → H)
    (witness : ∃ (w : World) (tape : Tape) (i : Input), w.os = os ∧ (w.forCall tape i).Shaped C.prog ∧ i.vars = [] ∧ Input.okWide C.prog (w.forCall tape i) .any w.heap.size f i ∧
      s.pre6 enc C.prog fn conds false (w.forCall tape i).memory i.args ∧ Assume.holds {} C.prog (lone (Frame.enter C.prog f i.args .normal) [] (w.forCall tape i)))
    (spec : ∀ o, GlO o → ∀ xs, Tyds C.prog n fn.params.toList xs → (∀ a ∈ avs C.prog fn.params.toList xs, ∃ x, a = .d x ∧ nz x) ∧ Spec C.prog f (avs C.prog fn.params.toList xs) [.obj 0 o] (.d (.bool true)) [.obj 0 o]) :
    ReturnsInHanded {} C os f .any (s.pre6 enc C.prog fn conds false) (s.post enc C.prog fn false true false false) := by
  refine returnsInHanded_of_change_shaped own started noInit hfn witness ?_
  intro W base args ds gs before hval hW hcnd hsz hsh _
  have hW' := hW
  obtain ⟨p, q, hA, hV, rfl, hfz, hnd⟩ := hW
  rw [hvars] at hV
  obtain ⟨rfl, rfl⟩ := trodVars_none hV
  have hvt : s.plain.varTypes C.prog = [] := by simp [ChangeSpec.plain, DataSpec.varTypes, hvars]
  rw [hvt, List.append_nil, List.append_nil] at hsz
  obtain ⟨o, ho, hgo, h64⟩ := glob_of hsh gg g0 gz gb gc gu
  let c : Cf := ⟨W, full W, 0, fun _ => 0, fun _ => undef⟩
  let c0 : Cf := ⟨W, fun b k => if b = 0 then none else full W b k, 1, fun _ => 0, fun _ => undef⟩
  obtain ⟨xs, h1, h2⟩ := open_args (c := c) (n := n) rfl hA hp (fun k hk => by have := List.all_eq_true.1 hsz k hk; simpa using this) (fun j t v e1 e2 => ⟨base, hval j t v (by simpa using e1) (by simpa using e2)⟩)
  obtain ⟨hnz, hsp⟩ := spec o hgo xs h1
  have h2' : ARs c0 (avs C.prog fn.params.toList xs) args.toList := ARs_nz (c := c) (fun b k hb => if_neg hb) h64 _ _ hnz h2
  have hH : Holds c0 [.obj 0 o] := by
    refine ⟨rfl, fun b k v h => ?_, fun l q hq => ?_, fun l q l' q' e1 e2 _ _ hne => ?_, fun l q _ _ k => (by show (if (0 : Nat) = 0 then none else full W 0 k) = none; rw [if_pos rfl]), fun l q _ _ => ?_⟩
    · simp only [c0] at h
      split at h
      · cases h
      · exact h
    · have : l = 0 := by have := some_lt hq; simpa using this
      subst this
      simp at hq; subst hq
      exact ⟨rfl, ho⟩
    · have h1 := some_lt e1
      have h2 := some_lt e2
      simp at h1 h2; omega
    · exact (Array.getElem?_eq_some_iff.1 ho).1
  refine (hsp.2 c0 args hH h2').mono ?_
  rintro e w' ⟨c', v, rfl, rfl, hv, N⟩
  simp only [AR, DR] at hv
  subst hv
  have hdl : ds.length = fn.params.toList.length := by
    have : ∀ {ts : List TypeId} {vs : List Value} {ds : List (DataW H)} {ps : List MemPlace}, DataW.TrodAll enc C.prog W 0 (fun _ => true) true ts vs ds ps → ds.length = ts.length := by
      intro ts
      induction ts with
      | nil => intro vs ds ps h; cases vs <;> cases ds <;> simp_all [DataW.TrodAll]
      | cons t ts ih => intro vs ds ps h; cases vs <;> cases ds <;> simp_all [DataW.TrodAll]; obtain ⟨p, q, _, h2, _⟩ := h; exact ih h2
    exact this hA
  have below : RowKit.Below W.heap.size W c'.w := by
    refine ⟨N.os, N.tape, N.output, N.size, fun k hk => ?_⟩
    by_cases hk0 : k = 0
    · subst hk0
      have := N.hold.obj 0 _ rfl
      rw [this.2]; exact ho.symm
    · exact N.kept k hk (by
        rintro ⟨l, q, _, _, e⟩
        exact hk0 e.symm)
  refine ⟨_, rfl, ds, [], _, [], p, [], hW', ?_, ?_, ?_, below.frame _, fun h => by cases h⟩
  · rw [List.append_nil, hs H ds hdl, hrt]
    exact trodAll_mk1 (RowKit.shut_bool hb true)
  · rw [List.append_nil, hs H ds hdl]
    exact trodAll_carry hl below hA hr
  · rw [hvars]; rw [List.append_nil, hs H ds hdl]; rfl
end Go.AX
/- The makes laws' own functions: Long, Same; what Make answers is small. -/
set_option maxHeartbeats 8000000
set_option linter.unusedVariables false
set_option linter.unusedSimpArgs false
set_option maxRecDepth 20000
namespace Go.AX.De
open Go.Proofs Go.RowKit Go.IntWalk
open Go.AX.Co (bY)
/-- the same delta on both sides -/
theorem same_parts (l : List Part) (hl : l.length ≤ 300) (hx : ∀ p ∈ l, p.data.length ≤ 900000) : Spec Try.prog 20 [.d (.sl (l.map pD)), .d (.sl (l.map pD))] [] (.d (.bool true)) [] := by
  have zn : ∀ n : Int, (n != n) = false := fun n => by simp
  have his : ∀ es, evConv.isStr (.d (.sl es)) = false := fun _ => rfl
  have hby : ∀ l : List Int, (∀ e ∈ l.map bI, isByte e) = True := fun l => eq_true fun e he => by obtain ⟨x, _, rfl⟩ := List.mem_map.1 he; trivial
  refine spec_of_ev (fn := Try.f20) DX_ok 3000 Try.func20 rfl rfl (Nat.le_of_ble_eq_true rfl) ?_
  simp (maxSteps := 4000000) -implicitDefEqProofs only [Try.f20, go_sem, zn]
  refine eloop (S := Nat) (fun i => mkE 56 [(0, .d (.sl (l.map pD))), (1, .d (.sl (l.map pD))), (5, .d (.int .i64 i))]) (fun i => []) (fun i => i ≤ l.length) (fun i => l.length - i) 0 (by omega) (Wk.forget (by (simp only [go_sem]) <;> trivial) (by simp only [go_sem])) ?_
  intro i h1
  rcases Nat.lt_or_ge i l.length with hi | hi
  case inr =>
    have f1 : decide ((i : Int) < l.length) = false := by simp; omega
    simp (maxSteps := 4000000) -implicitDefEqProofs only [go_sem, f1, Option.some.injEq, forall_eq', and_true, true_and, Bool.not_true, Bool.not_false, decide_true, Nat.reduceAdd, Nat.reduceSub, Nat.reduceLT, Nat.reduceLeDiff, Nat.reduceEqDiff, ↓reduceIte]
    exact wk_bool rfl
  have f1 : decide ((i : Int) < l.length) = true := by simp; omega
  obtain ⟨p, hpi⟩ : ∃ x, l[i]? = some x := ⟨l[i]'hi, List.getElem?_eq_getElem _⟩
  have n1 : (0 ≤ (i : Int) ∧ (i : Int) < l.length) = True := eq_true (by omega)
  have n2 : (i < l.length) = True := eq_true hi
  have w1 : IntKind.i64.wrap ((i : Int) + 1) = ((i + 1 : Nat) : Int) := by rw [i64_in _ (by omega)]; simp
  simp (maxSteps := 4000000) -implicitDefEqProofs only [go_sem, f1, Option.some.injEq, forall_eq', and_true, true_and, Bool.not_true, Bool.not_false, decide_true, Nat.reduceAdd, Nat.reduceSub, Nat.reduceLT, Nat.reduceLeDiff, Nat.reduceEqDiff, ↓reduceIte]
  refine DX.plain (.take 0 false (.take 1 false (.take 2 false (.take 3 false (.take 4 false (.take 5 false (.take 6 false (.take 7 false (.take 8 false (.take 9 false (.take 10 false (.take 11 false (.take 12 false (.take 13 false (.take 14 false (.take 15 false (.take 16 false (.take 17 false (.take 18 false (.take 19 false (.take 20 false (.take 21 false (.take 22 false (.take 23 false (.take 24 false (.take 25 false (.take 26 false (.take 27 false (.take 28 false (.take 29 false (.take 30 false (.take 31 false (.take 32 false (.take 33 false (.take 34 false (.take 35 false (.take 36 false (.take 37 false (.take 38 false .done))))))))))))))))))))))))))))))))))))))) (by kernel_rfl) (by kernel_rfl) Ty.mixed ?_
  simp (maxSteps := 4000000) -implicitDefEqProofs only [go_sem, n1, n2, hpi, zn, w1, his, hby, Option.some.injEq, forall_eq', and_true, true_and, Bool.not_true, Bool.not_false, decide_true, Nat.reduceAdd, Nat.reduceSub, Nat.reduceLT, Nat.reduceLeDiff, Nat.reduceEqDiff, ↓reduceIte]
  exact .mk (i + 1) (by omega) (by omega) (Wk.forget (by (simp only [go_sem]) <;> trivial) (by simp only [go_sem]))
theorem u8_of {n : Nat} {d : List D} (h : Tyd Try.prog (n + 1) 5 d) : ∃ i : Int, d = bY i ∧ 0 ≤ i ∧ i ≤ 255 := Co.u8_of h
theorem bytes_of {n : Nat} {d : List D} (h : Tyd Try.prog (n + 2) 22 d) : ∃ l : List Int, d = [.sl (l.map bY)] ∧ Sm l.length ∧ Co.Bytes l := Co.bytes_of h
theorem under_part : ∃ f0 f1 f2 : Field, Try.prog.underlying 52 = some (.struct #[f0, f1, f2]) ∧ f0.type = 3 ∧ f1.type = 3 ∧ f2.type = 22 := ⟨_, _, _, by rfl, rfl, rfl, rfl⟩
theorem part_of {n : Nat} {x : List D} (h : Tyd Try.prog (n + 3) 52 x) : ∃ p : Part, x = pD p ∧ Co.Bytes p.data := by
  obtain ⟨f0, f1, f2, hu, e0, e1, e2⟩ := under_part
  have this := h.struct hu
  simp only [List.map_cons, List.map_nil, Sq] at this
  obtain ⟨a0, b0, rfl, k0, a1, b1, rfl, k1, a2, b2, rfl, k2, rfl⟩ := this
  rw [e0] at k0; rw [e1] at k1; rw [e2] at k2
  obtain ⟨i, rfl, _⟩ := k0.int Ty.under_3
  obtain ⟨j, rfl, _⟩ := k1.int Ty.under_3
  obtain ⟨bs, rfl, _, hB⟩ := bytes_of k2
  exact ⟨⟨i, j, bs⟩, rfl, hB⟩
theorem parts_of {n : Nat} {d : List D} (h : Tyd Try.prog (n + 4) 23 d) : ∃ l : List Part, d = [.sl (l.map pD)] ∧ Sm l.length ∧ ∀ p ∈ l, Co.Bytes p.data := by
  obtain ⟨es, rfl, h1, h2⟩ := h.slice Ty.under_23
  obtain ⟨l, rfl, hl⟩ := Co.rows_ofP (g := pD) (Q := fun p => Co.Bytes p.data) fun x hx => part_of (h2 x hx)
  refine ⟨l, rfl, ?_, hl⟩
  have hb : Try.prog.bytesOf 52 = 40 := by kernel_rfl
  rw [hb, List.length_map] at h1
  unfold Sm; omega
theorem mkP_small (b : List Int) : ∀ (d : Nat) (s : List Int), (mkP b d s).length ≤ d ∧ ∀ p ∈ mkP b d s, p.data.length ≤ s.length
  | 0, s => by simp [mkP]
  | d + 1, s => by
    rw [mkP]
    by_cases h : s = []
    · rw [if_pos h]; simp
    · rw [if_neg h]
      by_cases h2 : 0 < fir b s
      · rw [if_pos h2]
        have ih := mkP_small b d (s.drop (fir b s).toNat)
        refine ⟨by simp; exact ih.1, fun p hp => ?_⟩
        rcases List.mem_cons.1 hp with rfl | hp
        · simp
        · have := ih.2 p hp; rw [List.length_drop] at this; omega
      · rw [if_neg h2]
        have ih := mkP_small b d (s.drop (-(fir b s)).toNat)
        refine ⟨by simp; exact ih.1, fun p hp => ?_⟩
        rcases List.mem_cons.1 hp with rfl | hp
        · simp only [List.length_take]; omega
        · have := ih.2 p hp; rw [List.length_drop] at this; omega
def long (l : List Int) : Bool := decide ((80 < l.length ∧ l.length ≤ 300) ∨ 2100 < l.length)
theorem nz_bytes (l : List Int) : nz (.sl (l.map bY)) := by
  simp only [nz]
  induction l with
  | nil => simp only [List.map_nil, nzR]
  | cons x l ih => simp only [List.map_cons, nzR, bY, List.any_cons, no64, nzC, nz, Bool.true_or, true_and, ih]
theorem nz_parts (l : List Part) : nz (.sl (l.map pD)) := by
  simp only [nz]
  induction l with
  | nil => simp only [List.map_nil, nzR]
  | cons p l ih =>
    have := nz_bytes p.data
    simp only [nz] at this
    simp only [List.map_cons, nzR, pD, bIY, List.any_cons, no64, nzC, nz, Bool.true_or, Bool.or_true, Bool.false_or, true_and, ih, this, and_true]
theorem nz_int (k : IntKind) (i : Int) : nz (.int k i) := by simp only [nz]
end Go.AX.De

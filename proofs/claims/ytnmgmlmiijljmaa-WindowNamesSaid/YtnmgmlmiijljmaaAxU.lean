/- AX, part U: what the evaluator is unfolded with. -/
import Derived.Test.YtnmgmlmiijljmaaAxT
import Derived.IntWalk
set_option linter.unusedVariables false
set_option linter.unusedSimpArgs false
namespace Go.AX
def mkE (n : Nat) (l : List (Nat × AV)) : List AV := l.foldl (fun e x => st e x.1 x.2) (List.replicate n .any)
theorem dat_d (σ : List AObj) (x : D) : dat σ (.d x) = some (.d x, σ) := by simp [dat]
theorem lk_nil (n : Nat) : lk [] n = .any := rfl
theorem lk_0 (x : AV) (xs : List AV) : lk (x :: xs) 0 = x := rfl
theorem lk_S (x : AV) (xs : List AV) (n : Nat) : lk (x :: xs) (n + 1) = lk xs n := rfl
theorem st_nil (n : Nat) (v : AV) : st [] n v = [] := rfl
theorem st_0 (x : AV) (xs : List AV) (v : AV) : st (x :: xs) 0 v = v :: xs := rfl
theorem st_S (x : AV) (xs : List AV) (n : Nat) (v : AV) : st (x :: xs) (n + 1) v = x :: st xs n v := rfl
theorem lk16 (a0 a1 a2 a3 a4 a5 a6 a7 a8 a9 a10 a11 a12 a13 a14 a15 : AV) (xs : List AV) (n : Nat) : lk (a0 :: a1 :: a2 :: a3 :: a4 :: a5 :: a6 :: a7 :: a8 :: a9 :: a10 :: a11 :: a12 :: a13 :: a14 :: a15 :: xs) (n + 16) = lk xs n := rfl
theorem st16 (a0 a1 a2 a3 a4 a5 a6 a7 a8 a9 a10 a11 a12 a13 a14 a15 : AV) (xs : List AV) (n : Nat) (v : AV) : st (a0 :: a1 :: a2 :: a3 :: a4 :: a5 :: a6 :: a7 :: a8 :: a9 :: a10 :: a11 :: a12 :: a13 :: a14 :: a15 :: xs) (n + 16) v = a0 :: a1 :: a2 :: a3 :: a4 :: a5 :: a6 :: a7 :: a8 :: a9 :: a10 :: a11 :: a12 :: a13 :: a14 :: a15 :: st xs n v := rfl
theorem get16 {α : Type} (a0 a1 a2 a3 a4 a5 a6 a7 a8 a9 a10 a11 a12 a13 a14 a15 : α) (xs : List α) (n : Nat) : (a0 :: a1 :: a2 :: a3 :: a4 :: a5 :: a6 :: a7 :: a8 :: a9 :: a10 :: a11 :: a12 :: a13 :: a14 :: a15 :: xs)[n + 16]? = xs[n]? := rfl
attribute [go_sem high] lk16 st16 get16
attribute [go_sem] lk_nil lk_0 lk_S st_nil st_0 st_S mkE List.foldl_cons List.foldl_nil List.replicate
attribute [go_sem] ev_nil ev_ops0 ev_ops ev_code ev_blk ev_back
attribute [go_sem] cv1 cv evO isAggD cellsOf oneC ob so spl ldD ldA toO drA drD evLoadO evLoadR evLoad asD asDs evStoreP evStoreR1 evStoreR obind evStore evNew evFill evParts evBuild shiftA evFieldAddr evField evIx evIdxS evIndexAddr evIndex evPick evNilCheck evExtract evAll evMakeFunc evInt evShift isShift evStr deq deqs dk toV dsOf evEqA evBin evUn src evAppend2 evAppend1 evAppend dropL evLen1 evLen2 evLen3 evLen mnA mxA toI evMn evMx evBd bdLo bdHi evSliceS evSliceD evSlice1 isBad evSlice2 evSlice noCall evMake1 evMake evLits evLit2 evBuildSlice evCall evRange evNext2 evNext evConvB evConv vv keyOf evMakeMap oEv evLookup2 evLookup evMapUp2 evMapUp evNil isNil evBin2 evBuiltin evCallee evOp ren rens renO bd bds bdO at0 obs setAll mapO bdOs back rn putO evG1 evG gslot evOper resV resVs one endR endP popTo goto evC1 evC evCode wkE wkO wkOs sb sbs dat dats
attribute [go_sem] List.set_cons_zero List.set_cons_succ List.length_cons List.length_nil List.nil_append List.cons_append List.append_nil List.map_cons List.map_nil Nat.zero_add
section
variable {Γ : Ctx} {E : List AV → List AObj → Prop} {dst : Option Tmp} {env : List AV} {σ : List AObj}
theorem fin_to {v : AV} {σ' : List AObj} : fin Γ E dst env σ (.to v σ') = E (putO env dst v) σ' := rfl
theorem fin_need {p : Prop} {r : R1} : fin Γ E dst env σ (.need p r) = (p ∧ fin Γ E dst env σ r) := rfl
theorem fin_all {es : List (List D)} {i : Nat} {k : List D → R1} : fin Γ E dst env σ (.all es i k) = ∀ e, es[i]? = some e → fin Γ E dst env σ (k e) := rfl
theorem fin_ite {t : Bool} {x y : R1} : fin Γ E dst env σ (.ite t x y) = ((t = true → fin Γ E dst env σ x) ∧ (t = false → fin Γ E dst env σ y)) := rfl
theorem fin_ite_t {x y : R1} : fin Γ E dst env σ (.ite true x y) = fin Γ E dst env σ x := by simp [fin]
theorem fin_ite_f {x y : R1} : fin Γ E dst env σ (.ite false x y) = fin Γ E dst env σ y := by simp [fin]
theorem fin_call {f : FuncId} {args : List AV} : fin Γ E dst env σ (.call f args) = ECall Γ E dst f env args σ := rfl
theorem fin_ex {p : Bool → Prop} {k : Bool → R1} : fin Γ E dst env σ (.ex p k) = ∀ b, p b → fin Γ E dst env σ (k b) := rfl
end
section
variable {Γ : Ctx} {E : List It → List AV → List AObj → Prop} {F : List AV → List AObj → Prop} {o : Oper} {x y : Code} {k : List It} {d : Tmp} {env : List AV} {σ : List AObj}
theorem cb_t : evCb E x y k d env σ true = E (.code x :: k) (st env d (.d (.bool true))) σ := rfl
theorem cb_f : evCb E x y k d env σ false = E (.code y :: k) (st env d (.d (.bool false))) σ := rfl
theorem gb_tt : evGb Γ F o d env σ true true = fin Γ F o.dst (st env d (.d (.bool true))) σ (evOp Γ.P (st env d (.d (.bool true))) σ o.op) := rfl
theorem gb_ff : evGb Γ F o d env σ false false = fin Γ F o.dst (st env d (.d (.bool false))) σ (evOp Γ.P (st env d (.d (.bool false))) σ o.op) := rfl
theorem gb_tf : evGb Γ F o d env σ true false = F (putO (st env d (.d (.bool true))) o.dst (.tup [])) σ := rfl
theorem gb_ft : evGb Γ F o d env σ false true = F (putO (st env d (.d (.bool false))) o.dst (.tup [])) σ := rfl
end
attribute [go_sem] cb_t cb_f gb_tt gb_ff gb_tf gb_ft ite_true ite_false Bool.false_eq_true
attribute [go_sem high] fin_ite_t fin_ite_f
attribute [go_sem] fin_to fin_need fin_ite fin_call fin_ex
attribute [go_sem low] fin_all
theorem fin_all_map {Γ : Ctx} {E : List AV → List AObj → Prop} {dst : Option Tmp} {env : List AV} {σ : List AObj} {α : Type} {l : List α} {g : α → List D} {i : Nat} {k : List D → R1} :
    fin Γ E dst env σ (.all (l.map g) i k) = ∀ x, l[i]? = some x → fin Γ E dst env σ (k (g x)) := by
  simp only [fin, List.getElem?_map]
  refine propext ⟨fun h x hx => h _ (by simp [hx]), fun h e he => ?_⟩
  cases q : l[i]? with
  | none => simp [q] at he
  | some x => simp [q] at he; subst he; exact h x q
attribute [go_sem] fin_all_map
attribute [go_sem] Int.toNat_natCast List.length_map true_and and_true
theorem Wk.dataZ {r r' : AV} {σ τ : List AObj} (h : dat σ r' = some (r, τ)) (hb : bd 0 r) : Wk 0 [r'] σ [r] [] := Wk.data h hb (ren_id hb)
end Go.AX

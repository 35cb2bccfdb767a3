/- What is known of blocks: a row in a cell, as data; operations, none left. -/
import Derived.Test.YtioihldhnhlpnaaK10
set_option maxHeartbeats 8000000
set_option linter.unusedVariables false
set_option linter.unusedSimpArgs false
set_option maxRecDepth 20000
namespace Go.AX
open Go.Proofs Go.RowKit
theorem EvS.none {Γ : Ctx} {all : Array Oper} {k : List It} {env : List AV} {σ : List AObj} (h : EvS Γ k env σ) : EvS Γ (.ops [] all :: k) env σ := fun c0 σ0 Q0 hn hQ hY c a G => by
  have := h c0 σ0 Q0 hn hQ hY c a G
  simp only [SemK]
  simpa only [wpListIn] using this
theorem Wk.frzC {n0 : Nat} {xs : List AV} {σ : List AObj} (l j k : Nat) {sz : Nat} {cs : List AV} {es : List (List D)} (hl : ob σ l = .cells cs) (hj : lk cs j = .own k) (hk : ob σ k = .row sz es) (hne : k ≠ l) :
    Wk n0 xs σ (sbs k (.sl es) xs) (so (so σ k .gone) l (.cells (st cs j (.d (.sl es))))) := Wk.ofNxt fun c vs H r => by
  have hs := ob_some hl (by simp)
  have hks := ob_some hk (by simp)
  obtain ⟨ws, ty, e1, e2⟩ := H.obj l _ hs
  have hj2 : cs[j]? = some (.own k) := by
    rw [lk_eq] at hj
    cases q : cs[j]? with
    | none => rw [q] at hj; simp at hj
    | some x => rw [q] at hj; simp at hj; rw [hj]
  obtain ⟨v, hv, ha⟩ := ARs_get e2 j hj2
  have hls : (σ.set k .gone)[l]? = some (.cells cs) := by rw [List.getElem?_set_ne hne]; exact hs
  rw [so_eq, so_eq]
  rcases H.obj k _ hks with ⟨rfl, A, e⟩ | hb
  · have N := Nxt.drop H k
    have hd : ∀ v, AR c (.own k) v → DR c.h (.sl []) v := fun v hv => by
      simp only [AR] at hv
      rw [hv.2.1, e]; simp only [DR]
      exact ⟨A, 0, 0, rfl, Nat.le_refl _, fun h => absurd rfl h, by simp, by simp [DRows]⟩
    have M := Nxt.upd N.hold (l := l) (o := .cells cs) (o' := .cells (st cs j (.d (.sl [])))) hls trivial c.w (fun _ _ => rfl) rfl rfl rfl rfl ⟨ws, ty, e1, ARs_st_same (ARs.mono (Cf.le_at _ _) _ e2) j hv (by simp only [AR]; exact hd v ha)⟩
    exact ⟨c.at c.w, rfl, N.trans M, ARs.mono M.le _ (ARs_sb (.refl c) hd xs r)⟩
  · have hb' := hb
    obtain ⟨cap, us, ty', h0, h1, _⟩ := hb'
    have hh : Has c k (.row sz es) := ⟨_, _, _, h1, h0⟩
    have N := Nxt.froze H hks hh
    have hd0 := hb.data H.snap
    have hd : ∀ v, AR c (.own k) v → DR (c.froze (c.ν k)).h (.sl es) v := fun v hv => by
      simp only [AR] at hv
      rw [hv.2.1]; exact hd0
    have M := Nxt.upd N.hold (l := l) (o := .cells cs) (o' := .cells (st cs j (.d (.sl es)))) hls trivial (c.froze (c.ν k)).w (fun _ _ => rfl) rfl rfl rfl rfl ⟨ws, ty, e1, ARs_st_same (ARs.mono (N.le.trans (Cf.le_at _ _)) _ e2) j hv (by simp only [AR]; exact hd v ha)⟩
    exact ⟨(c.froze (c.ν k)).at (c.froze (c.ν k)).w, rfl, N.trans M, ARs.mono M.le _ (ARs_sb N.le hd xs r)⟩
theorem ECall.frzC {Γ : Ctx} {E : List AV → List AObj → Prop} {dst : Option Tmp} {f : FuncId} {env args : List AV} {σ : List AObj} (l j k : Nat) {sz : Nat} {cs : List AV} {es : List (List D)} (hl : ob σ l = .cells cs) (hj : lk cs j = .own k) (hk : ob σ k = .row sz es) (hne : k ≠ l)
    (h : ECall Γ E dst f (sbs k (.sl es) env) (sbs k (.sl es) args) (so (so σ k .gone) l (.cells (st cs j (.d (.sl es)))))) : ECall Γ E dst f env args σ :=
  .wk (sbs_length _ _ _) (by rw [← sbs_append]; exact Wk.frzC l j k hl hj hk hne) h
end Go.AX

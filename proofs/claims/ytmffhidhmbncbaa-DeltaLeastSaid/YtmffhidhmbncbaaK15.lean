/- The reference's Least. -/
import Derived.Test.YtmffhidhmbncbaaK14
set_option maxHeartbeats 8000000
set_option linter.unusedVariables false
set_option linter.unusedSimpArgs false
set_option maxRecDepth 20000
namespace Go.AX.De
open Go.Proofs Go.RowKit Go.IntWalk Go.AX.Co
/-- how much can be copied, of each end -/
def lgs (b : List Int) : List Int → List Int
  | [] => [0]
  | t :: ts => (lg b (t :: ts) : Int) :: lgs b ts
theorem lst_all (b : List Int) : ∀ (s : List Int) (i : Nat), i ≤ s.length → (lst b s)[i]? = some ((lst b (s.drop i)).headD 0)
  | [], 0, _ => by simp [lst]
  | [], i + 1, h => by simp at h
  | t :: ts, 0, h => by simp [lst]
  | t :: ts, i + 1, h => by simpa [lst] using lst_all b ts i (by simpa using h)
/-- how long the beginnings of each end of the base are -/
def smR : List Int → List Int → List Int
  | [], _ => [0]
  | x :: b, s => (pre (x :: b) s : Int) :: smR b s
/-- the first k of them -/
def nR (b s : List Int) (k : Nat) : List Int := (smR b s).take k ++ List.replicate (b.length + 1 - k) 0
def gA (b s : List Int) (j : Nat) : List Int := List.replicate j 0 ++ lgs b (s.drop j)
end Go.AX.De
/- The reference's place. -/
set_option maxHeartbeats 8000000
set_option linter.unusedVariables false
set_option linter.unusedSimpArgs false
set_option maxRecDepth 20000
namespace Go.AX.De
open Go.Proofs Go.RowKit Go.IntWalk Go.AX.Co
theorem u8_inj {x y : Int} (hx : 0 ≤ x ∧ x ≤ 255) (hy : 0 ≤ y ∧ y ≤ 255) : (x.toNat.toUInt8 == y.toNat.toUInt8) = decide (x = y) := by
  rw [Bool.eq_iff_iff, beq_iff_eq, decide_eq_true_eq]
  constructor
  · intro h
    have := congrArg UInt8.toNat h
    have e1 : x.toNat.toUInt8.toNat = x.toNat := by simp; omega
    have e2 : y.toNat.toUInt8.toNat = y.toNat := by simp; omega
    omega
  · rintro rfl; rfl
theorem pref_eq : ∀ (a p : List Int), Bytes a → Bytes p → (u8s p).isPrefixOf (u8s a) = decide (pre a p = p.length)
  | a, [], _, _ => by simp [u8s, pre_nil_r]
  | [], y :: p, _, _ => by simp [u8s, pre]
  | x :: a, y :: p, ha, hp => by
    have ih := pref_eq a p (fun e he => ha e (by simp [he])) (fun e he => hp e (by simp [he]))
    have e := u8_inj (ha x (by simp)) (hp y (by simp))
    have e' : (y.toNat.toUInt8 == x.toNat.toUInt8) = decide (x = y) := by rw [← e, Bool.eq_iff_iff, beq_iff_eq, beq_iff_eq]; exact eq_comm
    unfold u8s at ih ⊢
    rw [List.map_cons, List.map_cons, List.isPrefixOf, ih, e', pre, List.length_cons]
    by_cases h : x = y
    · rw [if_pos h, decide_eq_true h, Bool.true_and, Bool.eq_iff_iff, decide_eq_true_eq, decide_eq_true_eq]; omega
    · rw [if_neg h, decide_eq_false h, Bool.false_and]; simp
theorem index_of {b p : List Int} (hB : Bytes b) (hP : Bytes p) {i : Nat} (hi : i ≤ b.length) (h : pre (b.drop i) p = p.length) (hj : ∀ j, j < i → pre (b.drop j) p ≠ p.length) : Lib.index (u8s b) (u8s p) = i := by
  have hd : ∀ j, (u8s b).drop j = u8s (b.drop j) := fun j => by unfold u8s; rw [List.map_drop]
  have hb : ∀ j, Bytes (b.drop j) := fun j e he => hB e (List.mem_of_mem_drop he)
  refine Lib.index_first (by unfold u8s; rw [List.length_map]; exact hi) ?_ fun j hlt => ?_
  · rw [Lib.occAt, hd, pref_eq _ _ (hb i) hP, decide_eq_true h]
  · rw [Lib.occAt, hd, pref_eq _ _ (hb j) hP, decide_eq_false (hj j hlt)]
theorem pre_take : ∀ (a s : List Int) (k : Nat), k ≤ pre a s → pre a (s.take k) = (s.take k).length
  | a, s, 0, _ => by simp [pre_nil_r]
  | [], s, k + 1, h => by simp [pre] at h
  | x :: a, [], k + 1, h => by simp [pre] at h
  | x :: a, y :: s, k + 1, h => by
    rw [pre] at h
    by_cases e : x = y
    · rw [if_pos e] at h
      rw [List.take_succ_cons, pre, if_pos e, pre_take a s k (by omega), List.length_cons]
    · rw [if_neg e] at h; omega
theorem lg_some : ∀ (b s : List Int), 0 < lg b s → ∃ j, j < b.length ∧ pre (b.drop j) s = lg b s
  | [], s, h => by simp [lg] at h
  | x :: b, s, h => by
    rw [lg] at h ⊢
    by_cases q : lg b s ≤ pre (x :: b) s
    · exact ⟨0, by simp, by rw [List.drop_zero]; omega⟩
    · obtain ⟨j, h1, h2⟩ := lg_some b s (by omega)
      exact ⟨j + 1, by simp; omega, by rw [List.drop_succ_cons, h2]; omega⟩
theorem lg_take {b s : List Int} {k : Nat} (h0 : 0 < k) (h : k ≤ lg b s) : ∃ j, j < b.length ∧ pre (b.drop j) (s.take k) = (s.take k).length := by
  obtain ⟨j, h1, h2⟩ := lg_some b s (by omega)
  exact ⟨j, h1, pre_take _ _ _ (by omega)⟩
end Go.AX.De
/- The reference's Make. -/
set_option maxHeartbeats 8000000
set_option linter.unusedVariables false
set_option linter.unusedSimpArgs false
set_option maxRecDepth 20000
namespace Go.AX.De
open Go.Proofs Go.RowKit Go.IntWalk Go.AX.Co
end Go.AX.De

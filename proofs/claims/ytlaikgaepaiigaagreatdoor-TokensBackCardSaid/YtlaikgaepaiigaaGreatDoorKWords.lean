/- A name stands among the words just where it stands between blanks in their text. Plain Lean, no program in sight. -/
import Derived.Test.YtlaikgaepaiigaaGreatDoorKBase
import Derived.Lib.IndexMore
namespace Go.Proofs.YtlaikgaepaiigaaGreatDoor.K
open Go Go.RowKit
set_option linter.unusedVariables false
set_option linter.unusedSimpArgs false
def joinW : List (List UInt8) → List UInt8
  | [] => []
  | w :: ws => w ++ (32 :: joinW ws)
theorem pre_eq : ∀ (s w r : List UInt8), 32 ∉ s → 32 ∉ w → (s ++ [32]).isPrefixOf (w ++ 32 :: r) = true → s = w
  | [], [], _, _, _, _ => rfl
  | [], b :: w, r, _, hw, h => by simp at h; exact absurd h (by simp at hw; exact hw.1)
  | a :: s, [], r, hs, _, h => by simp at h; exact absurd h.1.symm (by simp at hs; exact hs.1)
  | a :: s, b :: w, r, hs, hw, h => by
    simp only [List.mem_cons, not_or] at hs hw
    simp only [List.cons_append, List.isPrefixOf_cons_cons, Bool.and_eq_true, beq_iff_eq] at h
    rw [h.1, pre_eq s w r hs.2 hw.2 h.2]
theorem pre_self (s r : List UInt8) : (s ++ [32]).isPrefixOf (s ++ 32 :: r) = true := by
  induction s with
  | nil => simp
  | cons a s ih => simp
theorem occ_iff (s : List UInt8) (hs : 32 ∉ s) : ∀ (ws : List (List UInt8)), (∀ w ∈ ws, 32 ∉ w) → ((∃ i, Lib.occAt (32 :: joinW ws) (32 :: (s ++ [32])) i = true) ↔ s ∈ ws)
  | [], _ => by
    simp only [List.not_mem_nil, iff_false, not_exists, joinW]
    intro i
    cases i with
    | zero => cases s <;> simp [Lib.occAt]
    | succ i => simp [Lib.occAt]
  | w :: ws, hw => by
    have hw0 := hw w (by simp)
    have ih := occ_iff s hs ws (fun v hv => hw v (by simp [hv]))
    have key : ∀ (v r : List UInt8) (i : Nat), 32 ∉ v → i < v.length → (32 :: (s ++ [32])).isPrefixOf ((v ++ r).drop i) = false := by
      intro v r i hv hi
      have h1 : i < (v ++ r).length := by rw [List.length_append]; omega
      rw [List.drop_eq_getElem_cons h1, List.getElem_append_left hi]
      have : v[i] ≠ 32 := fun e => hv (e ▸ List.getElem_mem hi)
      simp [List.isPrefixOf_cons_cons, Ne.symm this]
    constructor
    · rintro ⟨i, h⟩
      unfold Lib.occAt at h
      cases i with
      | zero =>
        simp only [List.drop_zero, joinW, List.isPrefixOf_cons_cons, Bool.and_eq_true] at h
        rw [pre_eq s w _ hs hw0 h.2]
        simp
      | succ i =>
        simp only [List.drop_succ_cons, joinW] at h
        rcases Nat.lt_or_ge i w.length with hi | hi
        · rw [key w _ i hw0 hi] at h
          cases h
        · have e : (w ++ 32 :: joinW ws).drop i = (32 :: joinW ws).drop (i - w.length) := by
            rw [List.drop_append, List.drop_eq_nil_of_le hi, List.nil_append]
          rw [e] at h
          exact List.mem_cons_of_mem _ (ih.1 ⟨_, h⟩)
    · intro h
      rcases List.mem_cons.1 h with rfl | h
      · exact ⟨0, by simp [Lib.occAt, joinW, List.isPrefixOf_cons_cons, pre_self]⟩
      · obtain ⟨i, hi⟩ := ih.2 h
        refine ⟨i + (w.length + 1), ?_⟩
        unfold Lib.occAt at hi ⊢
        have e : (32 :: joinW (w :: ws)).drop (i + (w.length + 1)) = (32 :: joinW ws).drop i := by
          have : i + (w.length + 1) = (i + w.length) + 1 := by omega
          rw [this, List.drop_succ_cons, joinW, List.drop_append, List.drop_eq_nil_of_le (by omega), List.nil_append]
          congr 1
          omega
        rw [e]
        exact hi
theorem occ_le {s sub : List UInt8} {i : Nat} (h : Lib.occAt s sub i = true) (hn : sub ≠ []) : i ≤ s.length := by
  rcases Nat.lt_or_ge s.length i with h1 | h1
  · unfold Lib.occAt at h
    rw [List.drop_eq_nil_of_le (by omega)] at h
    cases sub with
    | nil => exact absurd rfl hn
    | cons a t => simp at h
  · exact h1
theorem contains_words (ws : List (List UInt8)) (hw : ∀ w ∈ ws, 32 ∉ w) (s : List UInt8) (hs : 32 ∉ s) : Lib.contains (32 :: joinW ws) (32 :: (s ++ [32])) = ws.contains s := by
  have h := occ_iff s hs ws hw
  unfold Lib.contains
  rw [Bool.eq_iff_iff, decide_eq_true_eq, List.contains_iff_mem, ← h]
  rcases Lib.index_spec (32 :: joinW ws) (32 :: (s ++ [32])) with ⟨h1, h2⟩ | ⟨i, h1, h2, h3, _⟩
  · rw [h1]
    refine ⟨fun h => absurd h (by decide), fun ⟨i, hi⟩ => ?_⟩
    rw [h2 i (occ_le hi (by simp))] at hi
    cases hi
  · exact ⟨fun _ => ⟨i, h3⟩, fun _ => by omega⟩
end Go.Proofs.YtlaikgaepaiigaaGreatDoor.K

/- The first mark that stands at a place is the longest one. Plain Lean, no program in sight. -/
import Derived.Test.YtlaikgaepaiigaaGreatDoorKRefW
namespace Go.Proofs.YtlaikgaepaiigaaGreatDoor.K
open Go Go.RowKit
set_option linter.unusedVariables false
set_option linter.unusedSimpArgs false
theorem firstM_app (s : ByteArray) (q : Nat) : ∀ a b, firstM s q (a ++ b) = (firstM s q a).or (firstM s q b)
  | [], b => by simp [firstM]
  | m :: r, b => by
    rw [List.cons_append, firstM, firstM]
    split
    · rfl
    · exact firstM_app s q r b
theorem isAt_iff {s : ByteArray} {q : Nat} {m : List UInt8} : isAt s q ⟨m.toArray⟩ = true ↔ q + m.length ≤ s.size ∧ (s.extract q (q + m.length)).data.toList = m := by
  unfold isAt
  rw [Bool.and_eq_true, decide_eq_true_eq, beq_iff_eq, ByteArray.toList_eq, ByteArray.toList_eq]
  exact Iff.rfl
theorem firstM_len (s : ByteArray) (q k : Nat) : ∀ l : List (List UInt8), (∀ m ∈ l, m.length = k) → firstM s q l = if q + k ≤ s.size ∧ l.contains (s.extract q (q + k)).data.toList = true then some (s.extract q (q + k)).data.toList else none
  | [], _ => by simp [firstM]
  | m :: r, h => by
    have hm := h m (by simp)
    have ih := firstM_len s q k r (fun x hx => h x (List.mem_cons_of_mem _ hx))
    rw [firstM, ih]
    by_cases h1 : isAt s q ⟨m.toArray⟩ = true
    · obtain ⟨a, b⟩ := isAt_iff.1 h1
      rw [hm] at a b
      rw [if_pos h1, b, if_pos ⟨a, by simp⟩]
    · rw [if_neg h1]
      by_cases h2 : q + k ≤ s.size
      · have hne : (s.extract q (q + k)).data.toList ≠ m := fun e => h1 (isAt_iff.2 (by rw [hm]; exact ⟨h2, e⟩))
        generalize (s.extract q (q + k)).data.toList = X at *
        have hne2 : (X == m) = false := by simpa using hne
        simp only [List.contains_cons, hne2, Bool.false_or]
      · simp only [h2, false_and, if_false]
theorem firstM_mark (s : ByteArray) (q : Nat) : firstM s q marksL = if markLen s q = 0 then none else some (s.extract q (q + markLen s q)).data.toList := by
  have h2 : ∀ m ∈ marks2, m.length = 2 := by decide +kernel
  have h1 : ∀ m ∈ marks1, m.length = 1 := by decide +kernel
  unfold marksL
  rw [firstM_app, firstM_len s q 2 marks2 h2, firstM_len s q 1 marks1 h1]
  have hl : ∀ k, q + k ≤ s.size → (s.extract q (q + k)).data.toList.length = k := fun k hk => by
    rw [Array.length_toList]
    show (s.extract q (q + k)).size = k
    rw [ByteArray.size_extract]
    omega
  unfold markLen marksL
  have m2 : ∀ x : List UInt8, x.length = 2 → (marks2 ++ marks1).contains x = marks2.contains x := fun x hx => by
    rw [Bool.eq_iff_iff, List.contains_iff_mem, List.contains_iff_mem, List.mem_append]
    exact ⟨fun h => h.elim id (fun h => by have := h1 x h; omega), .inl⟩
  have m1 : ∀ x : List UInt8, x.length = 1 → (marks2 ++ marks1).contains x = marks1.contains x := fun x hx => by
    rw [Bool.eq_iff_iff, List.contains_iff_mem, List.contains_iff_mem, List.mem_append]
    exact ⟨fun h => h.elim (fun h => by have := h2 x h; omega) id, .inr⟩
  by_cases a : q + 2 ≤ s.size
  · rw [m2 _ (hl 2 a), m1 _ (hl 1 (by omega))]
    by_cases b : marks2.contains (s.extract q (q + 2)).data.toList = true
    · simp only [a, b, and_self, and_true, true_and, and_false, false_and, if_true, if_false, ite_true, ite_false, reduceIte, Option.or, Option.none_or, Option.some_or, Bool.false_eq_true, Nat.reduceEqDiff, Nat.one_ne_zero, (by decide : ¬ (2:Nat) = 0), (by decide : ¬ (1:Nat) = 0)]
    · by_cases d : marks1.contains (s.extract q (q + 1)).data.toList = true
      · simp only [a, b, d, show q + 1 ≤ s.size by omega, and_self, and_true, true_and, and_false, false_and, if_true, if_false, ite_true, ite_false, reduceIte, Option.or, Option.none_or, Option.some_or, Bool.false_eq_true, Nat.reduceEqDiff, Nat.one_ne_zero, (by decide : ¬ (2:Nat) = 0), (by decide : ¬ (1:Nat) = 0)]
      · simp only [a, b, d, and_self, and_true, true_and, and_false, false_and, if_true, if_false, ite_true, ite_false, reduceIte, Option.or, Option.none_or, Option.some_or, Bool.false_eq_true, Nat.reduceEqDiff, Nat.one_ne_zero, (by decide : ¬ (2:Nat) = 0), (by decide : ¬ (1:Nat) = 0)]
  · by_cases e : q + 1 ≤ s.size
    · rw [m1 _ (hl 1 e)]
      by_cases d : marks1.contains (s.extract q (q + 1)).data.toList = true
      · simp only [a, e, d, and_self, and_true, true_and, and_false, false_and, if_true, if_false, ite_true, ite_false, reduceIte, Option.or, Option.none_or, Option.some_or, Bool.false_eq_true, Nat.reduceEqDiff, Nat.one_ne_zero, (by decide : ¬ (2:Nat) = 0), (by decide : ¬ (1:Nat) = 0)]
      · simp only [a, d, and_self, and_true, true_and, and_false, false_and, if_true, if_false, ite_true, ite_false, reduceIte, Option.or, Option.none_or, Option.some_or, Bool.false_eq_true, Nat.reduceEqDiff, Nat.one_ne_zero, (by decide : ¬ (2:Nat) = 0), (by decide : ¬ (1:Nat) = 0)]
    · simp only [a, e, and_self, and_true, true_and, and_false, false_and, if_true, if_false, ite_true, ite_false, reduceIte, Option.or, Option.none_or, Option.some_or, Bool.false_eq_true, Nat.reduceEqDiff, Nat.one_ne_zero, (by decide : ¬ (2:Nat) = 0), (by decide : ¬ (1:Nat) = 0)]
end Go.Proofs.YtlaikgaepaiigaaGreatDoor.K

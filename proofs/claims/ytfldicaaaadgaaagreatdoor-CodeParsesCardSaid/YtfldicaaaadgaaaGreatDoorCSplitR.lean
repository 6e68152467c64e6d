/- How the reference cuts a text and reads a number, step by step. Plain Lean. -/
import Derived.Test.YtfldicaaaadgaaaGreatDoorCSplit
namespace Go.Proofs.YtfldicaaaadgaaaGreatDoor.Code
open Go
set_option linter.unusedVariables false
set_option linter.unusedSimpArgs false
theorem splitC_none {c : UInt8} : ∀ {a : List UInt8}, c ∉ a → splitC c a = [a]
  | [], _ => rfl
  | b :: l, h => by
    have h1 : ¬ b = c := fun e => h (by simp [e])
    rw [splitC, if_neg h1, splitC_none (fun e => h (by simp [e]))]
    rfl
theorem splitC_app {c : UInt8} : ∀ {a b : List UInt8}, c ∉ a → splitC c (a ++ c :: b) = a :: splitC c b
  | [], b, _ => by rw [List.nil_append, splitC, if_pos rfl]
  | x :: l, b, h => by
    have h1 : ¬ x = c := fun e => h (by simp [e])
    rw [List.cons_append, splitC, if_neg h1, splitC_app (fun e => h (by simp [e]))]
    rfl
/-- What has been cut so far: the pieces, where the next one begins. -/
structure Cutting (c : UInt8) (s : List UInt8) (acc : List (List UInt8)) (fr i : Nat) : Prop where
  le : fr ≤ i
  all : acc ++ splitC c (s.drop fr) = splitC c s
  no : c ∉ (s.drop fr).take (i - fr)
theorem Cutting.start (c : UInt8) (s : List UInt8) : Cutting c s [] 0 0 := ⟨Nat.le_refl _, by simp, by simp⟩
theorem Cutting.hit {c : UInt8} {s : List UInt8} {acc : List (List UInt8)} {fr i : Nat} (h : Cutting c s acc fr i) (hi : i < s.length) (hc : s.getD i 0 = c) : Cutting c s (acc ++ [(s.drop fr).take (i - fr)]) (i + 1) (i + 1) := by
  have hle := h.le
  have hd : s.drop fr = (s.drop fr).take (i - fr) ++ c :: s.drop (i + 1) := by
    have e1 : (s.drop fr).drop (i - fr) = s.drop i := by rw [List.drop_drop]; congr 1; omega
    have e2 : s.drop i = c :: s.drop (i + 1) := by
      rw [List.drop_eq_getElem_cons hi, ← hc, List.getD_eq_getElem?_getD, List.getElem?_eq_getElem hi]
      rfl
    rw [← e2, ← e1, List.take_append_drop]
  refine ⟨Nat.le_refl _, ?_, by simp⟩
  have := h.all
  rw [hd, splitC_app h.no] at this
  rw [← this, List.append_assoc]
  rfl
theorem Cutting.skip {c : UInt8} {s : List UInt8} {acc : List (List UInt8)} {fr i : Nat} (h : Cutting c s acc fr i) (hi : i < s.length) (hc : s.getD i 0 ≠ c) : Cutting c s acc fr (i + 1) := by
  have hle := h.le
  refine ⟨by omega, h.all, ?_⟩
  rw [show i + 1 - fr = (i - fr) + 1 by omega, List.take_add_one]
  intro hm
  rcases List.mem_append.1 hm with hm | hm
  · exact h.no hm
  · rw [List.getElem?_drop, show fr + (i - fr) = i by omega, List.getElem?_eq_getElem hi] at hm
    rw [List.getD_eq_getElem?_getD, List.getElem?_eq_getElem hi] at hc
    simp at hm hc
    exact hc hm.symm
theorem Cutting.stop {c : UInt8} {s : List UInt8} {acc : List (List UInt8)} {fr : Nat} (h : Cutting c s acc fr s.length) : splitC c s = acc ++ [s.drop fr] := by
  rw [← h.all, splitC_none]
  have := h.no
  rwa [List.take_of_length_le (by simp)] at this
theorem Cutting.len {c : UInt8} {s : List UInt8} {acc : List (List UInt8)} {fr i : Nat} (h : Cutting c s acc fr i) : acc.length ≤ s.length + 1 := by
  have := splitC_len c s
  rw [← h.all, List.length_append] at this
  omega
/-! ### Numbers -/
theorem valL_app (a b : List UInt8) (acc : Nat) : valL acc (a ++ b) = valL (valL acc a) b := List.foldl_append
theorem badNum_iff (s : List UInt8) : badNum s = true ↔ s = [] ∨ s.all isDig = false ∨ (1 < s.length ∧ s.headD 0 = 48) ∨ most63 < valL 0 s := by
  unfold badNum
  simp only [Bool.or_eq_true, Bool.and_eq_true, decide_eq_true_eq, beq_iff_eq, Bool.not_eq_true', or_assoc]
theorem numL_none {s : List UInt8} (h : s = [] ∨ s.all isDig = false ∨ (1 < s.length ∧ s.headD 0 = 48) ∨ most63 < valL 0 s) : numL s = none := if_pos ((badNum_iff s).2 h)
theorem numL_some {s : List UInt8} (h0 : s ≠ []) (h1 : s.all isDig = true) (h2 : ¬ (1 < s.length ∧ s.headD 0 = 48)) (h3 : valL 0 s ≤ most63) : numL s = some (valL 0 s : Int) := by
  have hb : badNum s = false := by
    rw [Bool.eq_false_iff]
    intro h
    rcases (badNum_iff s).1 h with h | h | h | h
    · exact h0 h
    · rw [h1] at h; cases h
    · exact h2 h
    · omega
  unfold numL
  rw [hb, if_neg (by decide)]
theorem notDig_at {s : List UInt8} {i : Nat} (hi : i < s.length) (h : isDig (s.getD i 0) = false) : s.all isDig = false := by
  rw [Bool.eq_false_iff]
  intro ha
  rw [List.all_eq_true] at ha
  rw [List.getD_eq_getElem?_getD, List.getElem?_eq_getElem hi] at h
  have := ha _ (List.getElem_mem hi)
  simp at h
  rw [h] at this
  cases this
/-- What has been read so far of a number. -/
structure Reading (s : List UInt8) (i n : Nat) : Prop where
  le : i ≤ s.length
  dig : (s.take i).all isDig = true
  val : valL 0 (s.take i) = n
  most : n ≤ most63
theorem take_snocU {s : List UInt8} {i : Nat} (hi : i < s.length) : s.take (i + 1) = s.take i ++ [s.getD i 0] := by
  rw [List.take_succ_eq_append_getElem hi, List.getD_eq_getElem?_getD, List.getElem?_eq_getElem hi]
  rfl
theorem Reading.start (s : List UInt8) : Reading s 0 0 := ⟨Nat.zero_le _, by simp, by simp [valL_nil], Nat.zero_le _⟩
theorem Reading.step {s : List UInt8} {i n : Nat} (h : Reading s i n) (hi : i < s.length) (hd : isDig (s.getD i 0) = true) (hm : 10 * n + ((s.getD i 0).toNat - 48) ≤ most63) : Reading s (i + 1) (10 * n + ((s.getD i 0).toNat - 48)) := by
  refine ⟨hi, ?_, ?_, hm⟩
  · rw [take_snocU hi, List.all_append, h.dig]
    simpa using hd
  · rw [take_snocU hi, valL_snoc, h.val, Nat.mul_comm]
theorem Reading.over {s : List UInt8} {i n : Nat} (h : Reading s i n) (hi : i < s.length) (hm : most63 < 10 * n + ((s.getD i 0).toNat - 48)) : most63 < valL 0 s := by
  have e : s = s.take (i + 1) ++ s.drop (i + 1) := (List.take_append_drop _ _).symm
  have h1 : valL 0 (s.take (i + 1)) = 10 * n + ((s.getD i 0).toNat - 48) := by rw [take_snocU hi, valL_snoc, h.val, Nat.mul_comm]
  have h2 := valL_ge (s.drop (i + 1)) (valL 0 (s.take (i + 1)))
  rw [← valL_app, ← e] at h2
  omega
theorem Reading.done {s : List UInt8} {n : Nat} (h : Reading s s.length n) : s.all isDig = true ∧ valL 0 s = n := by
  have h1 := h.dig
  have h2 := h.val
  rw [List.take_length] at h1 h2
  exact ⟨h1, h2⟩
end Go.Proofs.YtfldicaaaadgaaaGreatDoor.Code

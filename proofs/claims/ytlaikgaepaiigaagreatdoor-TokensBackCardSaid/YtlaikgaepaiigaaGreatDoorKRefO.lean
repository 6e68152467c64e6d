/- The contract of the reference's one. -/
import Derived.Test.YtlaikgaepaiigaaGreatDoorKRefT
namespace Go.Proofs.YtlaikgaepaiigaaGreatDoor.K
open Go Go.RowKit
set_option linter.unusedVariables false
set_option linter.unusedSimpArgs false
theorem Upd.far {g : Nat} {w w1 : World} (h : Upd g w w1) {k : Nat} (hk : w.heap.size ≤ k) (i : Nat) (u : Value) (hg : g ≤ k := by omega) : Upd g w (w1.setCell ⟨k, i, none⟩ u) :=
  ⟨h.1.setCell hg u, fun b h1 h2 => (Below.heap_setCell w1 ⟨k, i, none⟩ u b (by simp; omega)).trans (h.2 b h1 h2)⟩
def oneAt (s : ByteArray) (q : Nat) : OneR := if s.size ≤ q then .ok (endTk s) q else tokAt s q
theorem tok_name {s : ByteArray} {q : Nat} (h : q < s.size) (hc : classI (bt s q) = 2) : oneAt s q = nameAt s q := by unfold oneAt tokAt; rw [if_neg (by omega), if_pos hc]
theorem tok_num {s : ByteArray} {q : Nat} (h : q < s.size) (hc : classI (bt s q) = 4) : oneAt s q = numberAt s q := by unfold oneAt tokAt; rw [if_neg (by omega), if_neg (by omega), if_pos hc]
theorem tok_text {s : ByteArray} {q : Nat} (h : q < s.size) (hc : classI (bt s q) = 5) : oneAt s q = textAt s q := by unfold oneAt tokAt; rw [if_neg (by omega), if_neg (by omega), if_neg (by omega), if_pos hc]
theorem tok_mark {s : ByteArray} {q : Nat} (h : q < s.size) (h1 : classI (bt s q) ≠ 2) (h2 : classI (bt s q) ≠ 4) (h3 : classI (bt s q) ≠ 5) : oneAt s q = markAt s q := by unfold oneAt tokAt; rw [if_neg (by omega), if_neg h1, if_neg h2, if_neg h3]
theorem cls4 (c : Int) : (smallI c = true ∧ classI c = 2) ∨ (smallI c = false ∧ digitI c = true ∧ classI c = 4) ∨ (smallI c = false ∧ digitI c = false ∧ c = 34 ∧ classI c = 5) ∨
    (smallI c = false ∧ digitI c = false ∧ (c == 34) = false ∧ classI c ≠ 2 ∧ classI c ≠ 4 ∧ classI c ≠ 5) := by
  have key : partI c = false → smallI c = false ∧ digitI c = false := by
    intro h
    unfold partI at h
    simp only [Bool.or_eq_false_iff] at h
    exact ⟨h.1.1, h.2⟩
  rcases class_cases c with ⟨hb, a, hp⟩ | ⟨_, hS, a, _⟩ | ⟨_, hS, hg, a, _⟩ | ⟨_, hS, _, hD, a, _⟩ | ⟨_, hS, _, hD, hq, a, _⟩ | ⟨_, hS, _, hD, hq, a, _⟩
  · obtain ⟨h1, h2⟩ := key hp
    refine .inr (.inr (.inr ⟨h1, h2, ?_, by omega, by omega, by omega⟩))
    refine ne_b ?_
    rintro rfl
    revert hb
    decide
  · exact .inl ⟨hS, a⟩
  · have hD : digitI c = false := by
      simp only [greatI, Bool.or_eq_true, Bool.and_eq_true, decide_eq_true_eq, beq_iff_eq] at hg
      simp only [digitI, Bool.and_eq_false_iff, decide_eq_false_iff_not]
      omega
    refine .inr (.inr (.inr ⟨hS, hD, ?_, by omega, by omega, by omega⟩))
    refine ne_b ?_
    rintro rfl
    revert hg
    decide
  · exact .inr (.inl ⟨hS, hD, a⟩)
  · exact .inr (.inr (.inl ⟨hS, hD, hq, a⟩))
  · exact .inr (.inr (.inr ⟨hS, hD, hq, by omega, by omega, by omega⟩))
theorem name_eq (s : ByteArray) (q : Nat) : nameAt s q = if 32 < whileOf partI s q - q then .bad q else .ok ⟨1, s.extract q (whileOf partI s q), 0, q⟩ (whileOf partI s q) := rfl
theorem num_eq (s : ByteArray) (q : Nat) : (∃ p : Nat, numberAt s q = .bad p ∧ numBad s q (digTo s q) (-1) = p) ∨ (numberAt s q = .ok ⟨2, empB, (valRes s q (digTo s q - q)).1, q⟩ (digTo s q) ∧ numBad s q (digTo s q) (-1) = -1) := by
  unfold numberAt numBad valRes
  by_cases h1 : 9223372036854775807 < numOf s q (digTo s q - q)
  · exact .inl ⟨q, by simp only [if_pos h1], by rw [if_pos h1]⟩
  · by_cases h2 : digTo s q < s.size ∧ partI (bt s (digTo s q)) = true
    · exact .inl ⟨digTo s q, by simp only [if_neg h1, if_pos h2], by rw [if_neg h1, if_pos h2]⟩
    · exact .inr ⟨by simp only [if_neg h1, if_neg h2], by rw [if_neg h1, if_neg h2]⟩
theorem text_bad {s : ByteArray} {q p : Nat} (h : textRes s q = (none, p)) : textAt s q = .bad p := by
  unfold textRes at h
  unfold textAt
  rw [h]
theorem text_ok {s : ByteArray} {q p : Nat} {out : List UInt8} (h : textRes s q = (some out, p)) : textAt s q = .ok ⟨3, ⟨out.toArray⟩, 0, q⟩ p := by
  unfold textRes at h
  unfold textAt
  rw [h]
theorem mark_none {s : ByteArray} {q : Nat} (h : firstM s q marksL = none) : markAt s q = .bad q := by
  rw [firstM_mark] at h
  unfold markAt
  split at h
  · rename_i h1; rw [if_pos h1]
  · cases h
theorem mark_some {s : ByteArray} {q : Nat} {m : List UInt8} (hq : q < s.size) (h : firstM s q marksL = some m) : markAt s q = .ok ⟨4, ⟨m.toArray⟩, 0, q⟩ (q + m.length) := by
  rw [firstM_mark] at h
  unfold markAt
  split at h
  · cases h
  · rename_i h1
    rw [if_neg h1]
    have hm := Option.some.inj h
    have hl : m.length = markLen s q := by
      rw [← hm, Array.length_toList]
      show (s.extract q (q + markLen s q)).size = _
      rw [ByteArray.size_extract]
      have := (markLen_bd hq).2
      omega
    rw [hl, ← hm]
end Go.Proofs.YtlaikgaepaiigaaGreatDoor.K

/- The contract of the reference's number. -/
import Derived.Test.YtlaikgaepaiigaaGreatDoorKRefV
namespace Go.Proofs.YtlaikgaepaiigaaGreatDoor.K
open Go Go.RowKit
set_option linter.unusedVariables false
set_option linter.unusedSimpArgs false
def numBad (s : ByteArray) (q Q : Nat) (bad : Int) : Int := if 9223372036854775807 < numOf s q (Q - q) then (q : Int) else if Q < s.size ∧ partI (bt s Q) = true then (Q : Int) else bad
theorem numBad_f {s : ByteArray} {q Q : Nat} {bad V : Int} (h : valRes s q (Q - q) = (V, false)) : numBad s q Q bad = q := by
  unfold valRes at h
  unfold numBad
  split at h
  · rename_i h1; rw [if_pos h1]
  · simp at h
theorem numBad_p {s : ByteArray} {q Q : Nat} {bad V : Int} (h : valRes s q (Q - q) = (V, true)) (h1 : Q < s.size) (h2 : partI (bt s Q) = true) : numBad s q Q bad = Q := by
  unfold valRes at h
  unfold numBad
  split at h
  · simp at h
  · rename_i h3; rw [if_neg h3, if_pos ⟨h1, h2⟩]
theorem numBad_n {s : ByteArray} {q Q : Nat} {bad V : Int} (h : valRes s q (Q - q) = (V, true)) (h1 : ¬ (Q < s.size ∧ partI (bt s Q) = true)) : numBad s q Q bad = bad := by
  unfold valRes at h
  unfold numBad
  split at h
  · simp at h
  · rename_i h3; rw [if_neg h3, if_neg h1]
end Go.Proofs.YtlaikgaepaiigaaGreatDoor.K

/- The contract of the reference's mark. -/
import Derived.Test.YtlaikgaepaiigaaGreatDoorKRefK
import Derived.StillTailTactics
namespace Go.Proofs.YtlaikgaepaiigaaGreatDoor.K
open Go Go.RowKit
set_option linter.unusedVariables false
set_option linter.unusedSimpArgs false
def firstM (s : ByteArray) (q : Nat) : List (List UInt8) → Option (List UInt8)
  | [] => none
  | m :: r => if isAt s q ⟨m.toArray⟩ then some m else firstM s q r
theorem marks_sz : ∀ m ∈ marksL, 0 < m.length ∧ m.length ≤ 2 := by decide +kernel
theorem marks_len : marksL.length = 22 := by decide +kernel
end Go.Proofs.YtlaikgaepaiigaaGreatDoor.K

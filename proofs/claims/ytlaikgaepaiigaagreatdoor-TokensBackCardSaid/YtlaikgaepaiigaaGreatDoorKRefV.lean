/- The contract of the reference's value. -/
import Derived.Test.YtlaikgaepaiigaaGreatDoorKRefN
namespace Go.Proofs.YtlaikgaepaiigaaGreatDoor.K
open Go Go.RowKit
set_option linter.unusedVariables false
set_option linter.unusedSimpArgs false
theorem numOf_mono (s : ByteArray) (q i : Nat) : ∀ j, numOf s q i ≤ numOf s q (i + j)
  | 0 => Nat.le_refl _
  | j + 1 => by
    have h := numOf_mono s q i j
    rw [← Nat.add_assoc, numOf]
    omega
def valRes (s : ByteArray) (q k : Nat) : Int × Bool := if 9223372036854775807 < numOf s q k then (0, false) else (numOf s q k, true)
end Go.Proofs.YtlaikgaepaiigaaGreatDoor.K

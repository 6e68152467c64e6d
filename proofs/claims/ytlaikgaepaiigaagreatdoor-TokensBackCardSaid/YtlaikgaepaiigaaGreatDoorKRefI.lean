/- The contract of the reference's is. -/
import Derived.Test.YtlaikgaepaiigaaGreatDoorKRefA
namespace Go.Proofs.YtlaikgaepaiigaaGreatDoor.K
open Go Go.RowKit
set_option linter.unusedVariables false
set_option linter.unusedSimpArgs false
def isAt (s : ByteArray) (q : Nat) (t : ByteArray) : Bool := decide (q + t.size ≤ s.size) && ((s.extract q (q + t.size)).toList == t.toList)
end Go.Proofs.YtlaikgaepaiigaaGreatDoor.K

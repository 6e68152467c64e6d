/- The contract of the reference's name. -/
import Derived.Test.YtlaikgaepaiigaaGreatDoorKRefP
namespace Go.Proofs.YtlaikgaepaiigaaGreatDoor.K
open Go Go.RowKit
set_option linter.unusedVariables false
set_option linter.unusedSimpArgs false
end Go.Proofs.YtlaikgaepaiigaaGreatDoor.K

/- The contract of the reference's marks. -/
import Derived.Test.YtlaikgaepaiigaaGreatDoorKRefM
namespace Go.Proofs.YtlaikgaepaiigaaGreatDoor.K
open Go Go.RowKit
set_option linter.unusedVariables false
set_option linter.unusedSimpArgs false
def markVals : Array Value := (marksL.map fun l => Value.string ⟨l.toArray⟩).toArray
def MarksPost (w : World) (e : Ending) (w' : World) : Prop := e = .returned (.slice (some ⟨w.heap.size, 0, none⟩) 22 22) ∧ w' = w.alloc (.cells markVals 9)
set_option maxRecDepth 100000 in
set_option maxHeartbeats 2000000 in
theorem marks_any (w : World) : Calls Tryz.prog 49 #[] w (MarksPost w) := by
  go_enter Tryz.func49, Tryz.ntmps49
  go_wp2_with fail
  go_ret
  exact ⟨rfl, rfl⟩
end Go.Proofs.YtlaikgaepaiigaaGreatDoor.K

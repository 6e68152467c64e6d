/- The contract of code.operands where there are none. -/
import Derived.Test.YtfldicaaaadgaaaDoorCOpd
import Derived.Deep.RegionHeld3
namespace Go.Proofs.YtfldicaaaadgaaaDoor.Code
open Go.RowKit
set_option linter.unusedVariables false
set_option linter.unusedSimpArgs false
set_option maxRecDepth 100000 in
set_option maxHeartbeats 2000000 in
theorem opd0T (xa xo : Int) (w : World) : Calls Tryd.prog 58 #[(Ins.mk xa xo 0 0 0).val, .int .i64 0] w (OpdPost w [] true) := by
  unfold Ins.val
  go_enter Tryd.func58, Tryd.ntmps58
  go_wp2
  go_quiet (fail)
  all_goals go_wp2
  all_goals go_ret2
  all_goals exact ⟨.slice none 0 0, rfl, by repeat (first | (with_reducible apply Bl.al) | (with_reducible apply Below.drew) | (with_reducible apply Bl.dn) | (with_reducible exact Below.refl _ _)), fun _ => World.ownsRow_nil _ _ _ _⟩
end Go.Proofs.YtfldicaaaadgaaaDoor.Code

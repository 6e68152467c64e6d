/- The contract of code.operands where there are none, but a number is given. -/
import Derived.Test.YtfldicaaaadgaaaGreatDoorCOpd
import Derived.Deep.RegionHeld3
namespace Go.Proofs.YtfldicaaaadgaaaGreatDoor.Code
open Go.RowKit
set_option linter.unusedVariables false
set_option linter.unusedSimpArgs false
set_option maxRecDepth 100000 in
set_option maxHeartbeats 2000000 in
theorem opd0A (xa xo a b c : Int) (w : World) (h : a ≠ 0) : Calls Tryz.prog 43 #[(Ins.mk xa xo a b c).val, .int .i64 0] w (OpdPost w [] false) := by
  unfold Ins.val
  have hv : (a == 0) = false := by simpa using h
  clear h
  go_enter Tryz.func43, Tryz.ntmps43
  go_wp2
  go_quiet (fail)
  all_goals go_wp2
  all_goals go_ret2
  all_goals exact ⟨.slice none 0 0, rfl, by repeat (first | (with_reducible apply Bl.al) | (with_reducible apply Below.drew) | (with_reducible apply Bl.dn) | (with_reducible exact Below.refl _ _)), fun h => by cases h⟩
set_option maxRecDepth 100000 in
set_option maxHeartbeats 2000000 in
theorem opd0B (xa xo b c : Int) (w : World) (h : b ≠ 0) : Calls Tryz.prog 43 #[(Ins.mk xa xo 0 b c).val, .int .i64 0] w (OpdPost w [] false) := by
  unfold Ins.val
  have hv : (b == 0) = false := by simpa using h
  clear h
  go_enter Tryz.func43, Tryz.ntmps43
  go_wp2
  go_quiet (fail)
  all_goals go_wp2
  all_goals go_ret2
  all_goals exact ⟨.slice none 0 0, rfl, by repeat (first | (with_reducible apply Bl.al) | (with_reducible apply Below.drew) | (with_reducible apply Bl.dn) | (with_reducible exact Below.refl _ _)), fun h => by cases h⟩
set_option maxRecDepth 100000 in
set_option maxHeartbeats 2000000 in
theorem opd0C (xa xo c : Int) (w : World) (h : c ≠ 0) : Calls Tryz.prog 43 #[(Ins.mk xa xo 0 0 c).val, .int .i64 0] w (OpdPost w [] false) := by
  unfold Ins.val
  have hv : (c == 0) = false := by simpa using h
  clear h
  go_enter Tryz.func43, Tryz.ntmps43
  go_wp2
  go_quiet (fail)
  all_goals go_wp2
  all_goals go_ret2
  all_goals exact ⟨.slice none 0 0, rfl, by repeat (first | (with_reducible apply Bl.al) | (with_reducible apply Below.drew) | (with_reducible apply Bl.dn) | (with_reducible exact Below.refl _ _)), fun h => by cases h⟩
end Go.Proofs.YtfldicaaaadgaaaGreatDoor.Code

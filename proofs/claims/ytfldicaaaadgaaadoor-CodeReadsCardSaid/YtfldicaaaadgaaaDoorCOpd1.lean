/- The contract of code.operands at one kind (printed by genopd.py). -/
import Derived.Test.YtfldicaaaadgaaaDoorCOpd
import Derived.Deep.RegionHeld3
namespace Go.Proofs.YtfldicaaaadgaaaDoor.Code
open Go.RowKit
set_option linter.unusedVariables false
set_option linter.unusedSimpArgs false
set_option maxRecDepth 100000 in
set_option maxHeartbeats 2000000 in
theorem opd1T (xa xo a : Int) (w : World) (h1 : 0 ≤ a ∧ a < 256) :
    Calls Tryd.prog 58 #[(Ins.mk xa xo a 0 0).val, .int .i64 1] w (OpdPost w [.int .u8 a] true) := by
  unfold Ins.val
  have hd : decide (0 ≤ a ∧ a < 256) = true := by simpa using h1
  have hB := fun W => byteOf_any a W
  simp only [hd] at hB
  have HB := Lib.hid hB
  clear hB hd
  go_enter Tryd.func58, Tryd.ntmps58
  go_wp2
  go_region_held3 (fun w' => w'.cell? ⟨w.heap.size, 2, none⟩ = some (.int .i64 a) ∧ w'.cell? ⟨w.heap.size, 3, none⟩ = some (.int .i64 0) ∧ w'.cell? ⟨w.heap.size, 4, none⟩ = some (.int .i64 0)) (go_keep) ((go_at_call 76; refine (HB.out _).mono ?_; rintro e w' ⟨rfl, rfl⟩))
  all_goals go_wp2
  all_goals go_ret2
  all_goals exact ⟨_, rfl, by repeat (first | (with_reducible apply Bl.al) | (with_reducible apply Below.drew) | (with_reducible exact Below.refl _ _)), fun _ => by rw [u8_wrap a h1.1 h1.2]; exact (own_new _ [.int .u8 a] 5 _ _ (by simp) (by simp) (by simp [maxLen])).drew⟩
end Go.Proofs.YtfldicaaaadgaaaDoor.Code

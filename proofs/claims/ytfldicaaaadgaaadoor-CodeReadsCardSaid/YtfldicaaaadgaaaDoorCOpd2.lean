/- The contract of code.operands at one kind (printed by genopd.py). -/
import Derived.Test.YtfldicaaaadgaaaDoorCOpd
import Derived.Deep.RegionHeld3
namespace Go.Proofs.YtfldicaaaadgaaaDoor.Code
open Go.RowKit
set_option linter.unusedVariables false
set_option linter.unusedSimpArgs false
set_option maxRecDepth 100000 in
set_option maxHeartbeats 2000000 in
theorem opd2T (xa xo a : Int) (w : World) (h1 : 0 ≤ a ∧ a < 65536) :
    Calls Tryd.prog 58 #[(Ins.mk xa xo a 0 0).val, .int .i64 2] w (OpdPost w [.int .u8 (a / 256), .int .u8 (a % 256)] true) := by
  unfold Ins.val
  have hd : decide (0 ≤ a ∧ a < 65536) = true := by simpa using h1
  have hB := fun W => pair_any a W
  simp only [hd] at hB
  have HB := Lib.hid hB
  clear hB hd
  go_enter Tryd.func58, Tryd.ntmps58
  go_wp2
  go_region_held3 (fun w' => w'.cell? ⟨w.heap.size, 2, none⟩ = some (.int .i64 a) ∧ w'.cell? ⟨w.heap.size, 3, none⟩ = some (.int .i64 0) ∧ w'.cell? ⟨w.heap.size, 4, none⟩ = some (.int .i64 0)) (go_keep) ((go_at_call 77; refine (HB.out _).mono ?_; rintro e w' ⟨rfl, rfl⟩))
  all_goals go_wp2
  all_goals go_ret2
  all_goals exact ⟨_, rfl, by repeat (first | (with_reducible apply Bl.al) | (with_reducible apply Below.drew) | (with_reducible exact Below.refl _ _)), fun _ => by rw [u8_low (a / 256), u8_low a, Int.emod_eq_of_lt (by omega) (by omega)]; exact (own_new _ [.int .u8 (a / 256), .int .u8 (a % 256)] 5 _ _ (by simp) (by simp) (by simp [maxLen])).drew⟩
end Go.Proofs.YtfldicaaaadgaaaDoor.Code

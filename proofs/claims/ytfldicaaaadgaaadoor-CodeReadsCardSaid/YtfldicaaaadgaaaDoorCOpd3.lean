/- The contract of code.operands at three of them. -/
import Derived.Test.YtfldicaaaadgaaaDoorCOpd
import Derived.Deep.RegionHeld3
namespace Go.Proofs.YtfldicaaaadgaaaDoor.Code
open Go.RowKit
set_option linter.unusedVariables false
set_option linter.unusedSimpArgs false
set_option maxRecDepth 100000 in
set_option maxHeartbeats 4000000 in
theorem opd3T (xa xo a b c : Int) (w : World) (h1 : 0 ≤ a ∧ a < 256) (h2 : 0 ≤ b ∧ b < 256) (h3 : 0 ≤ c ∧ c < 65536) :
    Calls Tryd.prog 58 #[(Ins.mk xa xo a b c).val, .int .i64 3] w (OpdPost w [.int .u8 a, .int .u8 b, .int .u8 (c / 256), .int .u8 (c % 256)] true) := by
  unfold Ins.val
  have hA : ∀ n, 0 ≤ n ∧ n < 256 → ∀ W, Calls Tryd.prog 76 #[.int .i64 n] W fun e w' => e = .returned (.bool true) ∧ W = w' := fun n hn W => by
    have := byteOf_any n W
    rw [show decide (0 ≤ n ∧ n < 256) = true by simpa using hn] at this
    exact this
  have hC := fun W => pair_any c W
  rw [show decide (0 ≤ c ∧ c < 65536) = true by simpa using h3] at hC
  have HA := Lib.hid hA
  have HC := Lib.hid hC
  clear hA hC
  go_enter Tryd.func58, Tryd.ntmps58
  go_wp2
  go_region_held3 (fun w' => w'.cell? ⟨w.heap.size, 2, none⟩ = some (.int .i64 a) ∧ w'.cell? ⟨w.heap.size, 3, none⟩ = some (.int .i64 b) ∧ w'.cell? ⟨w.heap.size, 4, none⟩ = some (.int .i64 c)) (go_keep) ((first | (go_at_call 76; refine (HA.out _ (by assumption) _).mono ?_; rintro e w' ⟨rfl, rfl⟩) | (go_at_call 77; refine (HC.out _).mono ?_; rintro e w' ⟨rfl, rfl⟩)))
  all_goals go_wp2
  all_goals go_ret2
  all_goals exact ⟨_, rfl, by repeat (first | (with_reducible apply Bl.al) | (with_reducible apply Below.drew) | (with_reducible exact Below.refl _ _)), fun _ => by rw [u8_wrap a h1.1 h1.2, u8_wrap b h2.1 h2.2, u8_low (c / 256), u8_low c, Int.emod_eq_of_lt (by omega) (by omega)]; exact (own_new _ [.int .u8 a, .int .u8 b, .int .u8 (c / 256), .int .u8 (c % 256)] 5 _ _ (by simp) (by simp) (by simp [maxLen])).drew⟩
end Go.Proofs.YtfldicaaaadgaaaDoor.Code

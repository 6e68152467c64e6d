/- The contract of tableauref00.num. -/
import Derived.Test.YtlaikgaepaiigaaDoorWords
import Derived.Test.YtlaikgaepaiigaaDoorProg
namespace Go.Proofs.YtlaikgaepaiigaaDoor.G
open Go Go.RowKit
set_option linter.unusedVariables false
set_option linter.unusedSimpArgs false
set_option maxHeartbeats 400000 in
theorem num_any (n i : Nat) (w : World) (hn : n ≤ 1024) (hi : i ≤ 2199023255552) : Calls Tryd.prog 62 #[.int .i64 n, .int .i64 i] w fun e w' => e = .returned (.int .i64 (1048576 * (n : Int) + (i : Int) + 1)) ∧ w = w' := by
  go_enter Tryd.func62, Tryd.ntmps62
  go_wp2
  go_ret
  exact ⟨rfl, rfl⟩
theorem num_still (n i : Nat) (w : World) (hn : n ≤ 1024) (hi : i ≤ 2199023255552) : Calls Tryd.prog 62 #[.int .i64 n, .int .i64 i] w fun e w' => e = .returned (.int .i64 (1048576 * (n : Int) + (i : Int) + 1)) ∧ w' = w :=
  (num_any n i w hn hi).mono fun _ _ h => ⟨h.1, h.2.symm⟩
end Go.Proofs.YtlaikgaepaiigaaDoor.G

/- The law CodeSizes answers true. -/
import Derived.Test.YtfldicaaaadgaaaDoorCWorks
import Derived.Test.YtfldicaaaadgaaaDoorCRefB
namespace Go.Proofs.YtfldicaaaadgaaaDoor.Code
open Go.RowKit
set_option linter.unusedVariables false
set_option linter.unusedSimpArgs false
set_option maxRecDepth 100000 in
set_option maxHeartbeats 2000000 in
theorem sizes_walk (w : World) (hit : ItoaIn w) : Calls Tryd.prog 5 #[] w fun e w' => e = .returned (.bool true) ∧ Below w.heap.size w w' := by
  have HIT := Lib.hid hit
  clear hit
  go_enter Tryd.func5, Tryd.ntmps5
  go_wp2_with fail
  go_loopw [1] (fun i wr => ∃ k : Nat, k ≤ 256 ∧ i = .int .i64 k ∧ Below w.heap.size w wr) (fun i _ => 256 - (intOf i).toNat)
  case atStart => exact ⟨0, by omega, rfl, Below.refl _ _⟩
  case round =>
    obtain ⟨k, hk, rfl, hbel⟩ := hrel
    by_cases hlt : k < 256
    · have hw : IntKind.u8.wrap (k : Int) = k := IntWalk.u8_in _ (by omega)
      have e1 : (sizeOf (k : Int) != sizeOf (k : Int)) = false := by simp
      have h0 : (0 : Int) ≤ k := by omega
      have h1 : (k : Int) < 256 := by omega
      go_wp2_with (first
        | (go_at_call 27; refine (Size_any _ _ h0 h1).mono ?_; rintro e w1 ⟨rfl, hb1⟩)
        | (go_at_call 28; refine (refSize_any _ _ h0 h1).mono ?_; rintro e w2 ⟨rfl, hb2⟩)
        | (go_at_call 29; refine (Name_any _ _ h0 h1).mono ?_; rintro e w3 ⟨rfl, hb3⟩)
        | (go_at_call 30; refine (refName_any _ _ h0 h1).mono ?_; rintro e w4 ⟨rfl, hb4⟩))
      go_roundw
      case rel => exact ⟨k + 1, by omega, by go_num, Bl.tr (Bl.tr (Bl.tr (Bl.tr hbel hb1) hb2) hb3) hb4⟩
      case measure => simp [intOf]; omega
    · go_wp2_with (go_at_call 8; refine (works_any _ (fun n W h0 h1 hb => HIT.out n W h0 h1 (Bl.tr hbel hb))).mono ?_; rintro e w1 ⟨rfl, hb1⟩)
      go_ret
      exact ⟨rfl, Bl.tr hbel hb1⟩
end Go.Proofs.YtfldicaaaadgaaaDoor.Code

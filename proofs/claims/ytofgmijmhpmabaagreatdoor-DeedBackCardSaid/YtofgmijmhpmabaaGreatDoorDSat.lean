/- The contracts of sat.ends, sat.Clamp, sat.Add at int64. Printed by gen_sat.py. -/
import Derived.Test.YtofgmijmhpmabaaGreatDoorDTurn
namespace Go.Proofs.YtofgmijmhpmabaaGreatDoor.D
open Go Go.RowKit
set_option linter.unusedVariables false
set_option linter.unusedSimpArgs false
set_option maxRecDepth 100000 in
set_option maxHeartbeats 4000000 in
theorem ends_any (w : World) : Calls Tryz.prog 140 #[] w (fun e w' => w' = w ∧ e = .returned (.tuple #[.int .i64 (-9223372036854775808), .int .i64 9223372036854775807])) := by
  go_enter Tryz.func140, Tryz.ntmps140
  go_wp2
  go_loop [1] (fun i => ∃ k : Nat, k ≤ 62 ∧ i = .int .i64 (2 ^ (k + 1) - 1)) (fun i => (9223372036854775807 - intOf i).toNat)
  case atStart => exact ⟨0, by omega, rfl⟩
  case round =>
    obtain ⟨k, hk, rfl⟩ := hrel
    have hk3 : k = 0 ∨ k = 1 ∨ k = 2 ∨ k = 3 ∨ k = 4 ∨ k = 5 ∨ k = 6 ∨ k = 7 ∨ k = 8 ∨ k = 9 ∨ k = 10 ∨ k = 11 ∨ k = 12 ∨ k = 13 ∨ k = 14 ∨ k = 15 ∨ k = 16 ∨ k = 17 ∨ k = 18 ∨ k = 19 ∨ k = 20 ∨ k = 21 ∨ k = 22 ∨ k = 23 ∨ k = 24 ∨ k = 25 ∨ k = 26 ∨ k = 27 ∨ k = 28 ∨ k = 29 ∨ k = 30 ∨ k = 31 ∨ k = 32 ∨ k = 33 ∨ k = 34 ∨ k = 35 ∨ k = 36 ∨ k = 37 ∨ k = 38 ∨ k = 39 ∨ k = 40 ∨ k = 41 ∨ k = 42 ∨ k = 43 ∨ k = 44 ∨ k = 45 ∨ k = 46 ∨ k = 47 ∨ k = 48 ∨ k = 49 ∨ k = 50 ∨ k = 51 ∨ k = 52 ∨ k = 53 ∨ k = 54 ∨ k = 55 ∨ k = 56 ∨ k = 57 ∨ k = 58 ∨ k = 59 ∨ k = 60 ∨ k = 61 ∨ k = 62 := by omega
    rcases hk3 with rfl | rfl | rfl | rfl | rfl | rfl | rfl | rfl | rfl | rfl | rfl | rfl | rfl | rfl | rfl | rfl | rfl | rfl | rfl | rfl | rfl | rfl | rfl | rfl | rfl | rfl | rfl | rfl | rfl | rfl | rfl | rfl | rfl | rfl | rfl | rfl | rfl | rfl | rfl | rfl | rfl | rfl | rfl | rfl | rfl | rfl | rfl | rfl | rfl | rfl | rfl | rfl | rfl | rfl | rfl | rfl | rfl | rfl | rfl | rfl | rfl | rfl | rfl
    · go_wp2
      go_round
      case rel => exact ⟨1, by omega, by rfl⟩
      case measure => simp [intOf]; decide
    · go_wp2
      go_round
      case rel => exact ⟨2, by omega, by rfl⟩
      case measure => simp [intOf]; decide
    · go_wp2
      go_round
      case rel => exact ⟨3, by omega, by rfl⟩
      case measure => simp [intOf]; decide
    · go_wp2
      go_round
      case rel => exact ⟨4, by omega, by rfl⟩
      case measure => simp [intOf]; decide
    · go_wp2
      go_round
      case rel => exact ⟨5, by omega, by rfl⟩
      case measure => simp [intOf]; decide
    · go_wp2
      go_round
      case rel => exact ⟨6, by omega, by rfl⟩
      case measure => simp [intOf]; decide
    · go_wp2
      go_round
      case rel => exact ⟨7, by omega, by rfl⟩
      case measure => simp [intOf]; decide
    · go_wp2
      go_round
      case rel => exact ⟨8, by omega, by rfl⟩
      case measure => simp [intOf]; decide
    · go_wp2
      go_round
      case rel => exact ⟨9, by omega, by rfl⟩
      case measure => simp [intOf]; decide
    · go_wp2
      go_round
      case rel => exact ⟨10, by omega, by rfl⟩
      case measure => simp [intOf]; decide
    · go_wp2
      go_round
      case rel => exact ⟨11, by omega, by rfl⟩
      case measure => simp [intOf]; decide
    · go_wp2
      go_round
      case rel => exact ⟨12, by omega, by rfl⟩
      case measure => simp [intOf]; decide
    · go_wp2
      go_round
      case rel => exact ⟨13, by omega, by rfl⟩
      case measure => simp [intOf]; decide
    · go_wp2
      go_round
      case rel => exact ⟨14, by omega, by rfl⟩
      case measure => simp [intOf]; decide
    · go_wp2
      go_round
      case rel => exact ⟨15, by omega, by rfl⟩
      case measure => simp [intOf]; decide
    · go_wp2
      go_round
      case rel => exact ⟨16, by omega, by rfl⟩
      case measure => simp [intOf]; decide
    · go_wp2
      go_round
      case rel => exact ⟨17, by omega, by rfl⟩
      case measure => simp [intOf]; decide
    · go_wp2
      go_round
      case rel => exact ⟨18, by omega, by rfl⟩
      case measure => simp [intOf]; decide
    · go_wp2
      go_round
      case rel => exact ⟨19, by omega, by rfl⟩
      case measure => simp [intOf]; decide
    · go_wp2
      go_round
      case rel => exact ⟨20, by omega, by rfl⟩
      case measure => simp [intOf]; decide
    · go_wp2
      go_round
      case rel => exact ⟨21, by omega, by rfl⟩
      case measure => simp [intOf]; decide
    · go_wp2
      go_round
      case rel => exact ⟨22, by omega, by rfl⟩
      case measure => simp [intOf]; decide
    · go_wp2
      go_round
      case rel => exact ⟨23, by omega, by rfl⟩
      case measure => simp [intOf]; decide
    · go_wp2
      go_round
      case rel => exact ⟨24, by omega, by rfl⟩
      case measure => simp [intOf]; decide
    · go_wp2
      go_round
      case rel => exact ⟨25, by omega, by rfl⟩
      case measure => simp [intOf]; decide
    · go_wp2
      go_round
      case rel => exact ⟨26, by omega, by rfl⟩
      case measure => simp [intOf]; decide
    · go_wp2
      go_round
      case rel => exact ⟨27, by omega, by rfl⟩
      case measure => simp [intOf]; decide
    · go_wp2
      go_round
      case rel => exact ⟨28, by omega, by rfl⟩
      case measure => simp [intOf]; decide
    · go_wp2
      go_round
      case rel => exact ⟨29, by omega, by rfl⟩
      case measure => simp [intOf]; decide
    · go_wp2
      go_round
      case rel => exact ⟨30, by omega, by rfl⟩
      case measure => simp [intOf]; decide
    · go_wp2
      go_round
      case rel => exact ⟨31, by omega, by rfl⟩
      case measure => simp [intOf]; decide
    · go_wp2
      go_round
      case rel => exact ⟨32, by omega, by rfl⟩
      case measure => simp [intOf]; decide
    · go_wp2
      go_round
      case rel => exact ⟨33, by omega, by rfl⟩
      case measure => simp [intOf]; decide
    · go_wp2
      go_round
      case rel => exact ⟨34, by omega, by rfl⟩
      case measure => simp [intOf]; decide
    · go_wp2
      go_round
      case rel => exact ⟨35, by omega, by rfl⟩
      case measure => simp [intOf]; decide
    · go_wp2
      go_round
      case rel => exact ⟨36, by omega, by rfl⟩
      case measure => simp [intOf]; decide
    · go_wp2
      go_round
      case rel => exact ⟨37, by omega, by rfl⟩
      case measure => simp [intOf]; decide
    · go_wp2
      go_round
      case rel => exact ⟨38, by omega, by rfl⟩
      case measure => simp [intOf]; decide
    · go_wp2
      go_round
      case rel => exact ⟨39, by omega, by rfl⟩
      case measure => simp [intOf]; decide
    · go_wp2
      go_round
      case rel => exact ⟨40, by omega, by rfl⟩
      case measure => simp [intOf]; decide
    · go_wp2
      go_round
      case rel => exact ⟨41, by omega, by rfl⟩
      case measure => simp [intOf]; decide
    · go_wp2
      go_round
      case rel => exact ⟨42, by omega, by rfl⟩
      case measure => simp [intOf]; decide
    · go_wp2
      go_round
      case rel => exact ⟨43, by omega, by rfl⟩
      case measure => simp [intOf]; decide
    · go_wp2
      go_round
      case rel => exact ⟨44, by omega, by rfl⟩
      case measure => simp [intOf]; decide
    · go_wp2
      go_round
      case rel => exact ⟨45, by omega, by rfl⟩
      case measure => simp [intOf]; decide
    · go_wp2
      go_round
      case rel => exact ⟨46, by omega, by rfl⟩
      case measure => simp [intOf]; decide
    · go_wp2
      go_round
      case rel => exact ⟨47, by omega, by rfl⟩
      case measure => simp [intOf]; decide
    · go_wp2
      go_round
      case rel => exact ⟨48, by omega, by rfl⟩
      case measure => simp [intOf]; decide
    · go_wp2
      go_round
      case rel => exact ⟨49, by omega, by rfl⟩
      case measure => simp [intOf]; decide
    · go_wp2
      go_round
      case rel => exact ⟨50, by omega, by rfl⟩
      case measure => simp [intOf]; decide
    · go_wp2
      go_round
      case rel => exact ⟨51, by omega, by rfl⟩
      case measure => simp [intOf]; decide
    · go_wp2
      go_round
      case rel => exact ⟨52, by omega, by rfl⟩
      case measure => simp [intOf]; decide
    · go_wp2
      go_round
      case rel => exact ⟨53, by omega, by rfl⟩
      case measure => simp [intOf]; decide
    · go_wp2
      go_round
      case rel => exact ⟨54, by omega, by rfl⟩
      case measure => simp [intOf]; decide
    · go_wp2
      go_round
      case rel => exact ⟨55, by omega, by rfl⟩
      case measure => simp [intOf]; decide
    · go_wp2
      go_round
      case rel => exact ⟨56, by omega, by rfl⟩
      case measure => simp [intOf]; decide
    · go_wp2
      go_round
      case rel => exact ⟨57, by omega, by rfl⟩
      case measure => simp [intOf]; decide
    · go_wp2
      go_round
      case rel => exact ⟨58, by omega, by rfl⟩
      case measure => simp [intOf]; decide
    · go_wp2
      go_round
      case rel => exact ⟨59, by omega, by rfl⟩
      case measure => simp [intOf]; decide
    · go_wp2
      go_round
      case rel => exact ⟨60, by omega, by rfl⟩
      case measure => simp [intOf]; decide
    · go_wp2
      go_round
      case rel => exact ⟨61, by omega, by rfl⟩
      case measure => simp [intOf]; decide
    · go_wp2
      go_round
      case rel => exact ⟨62, by omega, by rfl⟩
      case measure => simp [intOf]; decide
    · have hw : wrap64 18446744073709551614 = -2 := by unfold wrap64; rfl
      go_wp2
      go_ret2
      exact ⟨rfl, rfl⟩
theorem wrap_over {s : Int} (h : 9223372036854775807 < s) (h2 : s < 18446744073709551616) : wrap64 s = s - 18446744073709551616 := by unfold wrap64; omega
theorem wrap_under {s : Int} (h : s < -9223372036854775808) (h2 : -18446744073709551617 < s) : wrap64 s = s + 18446744073709551616 := by unfold wrap64; omega
theorem wrap_in {s : Int} (h : -9223372036854775808 ≤ s) (h2 : s ≤ 9223372036854775807) : wrap64 s = s := by unfold wrap64; omega
set_option maxRecDepth 100000 in
set_option maxHeartbeats 4000000 in
theorem satAdd_any (a b : Int) (w : World) (ha : -9223372036854775808 ≤ a ∧ a ≤ 9223372036854775807) (hb : -9223372036854775808 ≤ b ∧ b ≤ 9223372036854775807) :
    Calls Tryz.prog 106 #[.int .i64 a, .int .i64 b] w (fun e w' => w' = w ∧ e = .returned (.int .i64 (max (-9223372036854775808) (min (a + b) 9223372036854775807)))) := by
  obtain ⟨a1, a2⟩ := ha
  obtain ⟨b1, b2⟩ := hb
  by_cases h1 : 9223372036854775807 < a + b
  · have hw := wrap_over h1 (by omega)
    have h3 : 0 < b := by omega
    have h4 : a + b - 18446744073709551616 < a := by omega
    have h5 : max (-9223372036854775808) (min (a + b) 9223372036854775807) = 9223372036854775807 := by omega
    rw [h5]
    go_enter Tryz.func106, Tryz.ntmps106
    go_wp2_with (go_at_call 140; refine (ends_any _).mono ?_; rintro e w1 ⟨rfl, rfl⟩)
    go_ret
    exact ⟨rfl, rfl⟩
  · by_cases h2 : a + b < -9223372036854775808
    · have hw := wrap_under h2 (by omega)
      have h3 : b < 0 := by omega
      have h3b : ¬ 0 < b := by omega
      have h4 : a < a + b + 18446744073709551616 := by omega
      have h5 : max (-9223372036854775808) (min (a + b) 9223372036854775807) = -9223372036854775808 := by omega
      rw [h5]
      go_enter Tryz.func106, Tryz.ntmps106
      go_wp2_with (go_at_call 140; refine (ends_any _).mono ?_; rintro e w1 ⟨rfl, rfl⟩)
      go_ret
      exact ⟨rfl, rfl⟩
    · have hw := wrap_in (s := a + b) (by omega) (by omega)
      have h5 : max (-9223372036854775808) (min (a + b) 9223372036854775807) = a + b := by omega
      rw [h5]
      by_cases h3 : 0 < b
      · have h4 : ¬ a + b < a := by omega
        have h6 : ¬ b < 0 := by omega
        go_enter Tryz.func106, Tryz.ntmps106
        go_wp2_with (go_at_call 140; refine (ends_any _).mono ?_; rintro e w1 ⟨rfl, rfl⟩)
        go_ret
        exact ⟨rfl, rfl⟩
      · have h4 : ¬ a < a + b := by omega
        go_enter Tryz.func106, Tryz.ntmps106
        by_cases h6 : b < 0
        · go_wp2_with (go_at_call 140; refine (ends_any _).mono ?_; rintro e w1 ⟨rfl, rfl⟩)
          go_ret
          exact ⟨rfl, rfl⟩
        · go_wp2_with (go_at_call 140; refine (ends_any _).mono ?_; rintro e w1 ⟨rfl, rfl⟩)
          go_ret
          exact ⟨rfl, rfl⟩
set_option maxRecDepth 100000 in
set_option maxHeartbeats 4000000 in
theorem satClamp_any (x lo hi : Int) (w : World) : Calls Tryz.prog 105 #[.int .i64 x, .int .i64 lo, .int .i64 hi] w (fun e w' => w' = w ∧ e = .returned (.int .i64 (max lo (min x hi)))) := by
  go_enter Tryz.func105, Tryz.ntmps105
  go_wp2
  all_goals
    go_ret
    refine ⟨rfl, ?_⟩
    refine congrArg (fun z => Ending.returned (Value.int .i64 z)) ?_
    omega
end Go.Proofs.YtofgmijmhpmabaaGreatDoor.D

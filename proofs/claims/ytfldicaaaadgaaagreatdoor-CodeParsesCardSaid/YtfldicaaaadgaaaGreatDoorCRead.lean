/- The contracts of code.two, the four readers of operands, code.Read. -/
import Derived.Test.YtfldicaaaadgaaaGreatDoorCOf
import Derived.Deep.QuietTactic
import Derived.Deep.RegionWith
import Derived.BigQuiet
namespace Go.Proofs.YtfldicaaaadgaaaGreatDoor.Code
open Go.RowKit
set_option linter.unusedVariables false
set_option linter.unusedSimpArgs false
theorem i64_or_byte (x y : Int) (hx0 : 0 ≤ x) (hx1 : x < 256) (hy0 : 0 ≤ y) (hy1 : y < 256) : bits .or .i64 (x * 256) y = x * 256 + y := by
  obtain ⟨a, rfl⟩ := Int.eq_ofNat_of_zero_le hx0
  obtain ⟨c, rfl⟩ := Int.eq_ofNat_of_zero_le hy0
  have h1 : (BitVec.ofInt 64 ((a : Int) * 256)) = BitVec.ofNat 64 (a * 256) := by
    rw [show ((a : Int) * 256) = ((a * 256 : Nat) : Int) by omega]; exact BitVec.ofInt_natCast 64 (a * 256)
  have h2 : (BitVec.ofInt 64 (c : Int)) = BitVec.ofNat 64 c := BitVec.ofInt_natCast 64 c
  have h3 : (a * 256) ||| c = a * 256 + c := by
    have := Nat.shiftLeft_add_eq_or_of_lt (i := 8) (b := c) (by omega) a
    rw [Nat.shiftLeft_eq] at this
    exact this.symm
  show IntKind.i64.wrap ((BitVec.ofInt 64 ((a : Int) * 256)) ||| (BitVec.ofInt 64 (c : Int))).toNat = _
  rw [h1, h2, BitVec.toNat_or, BitVec.toNat_ofNat, BitVec.toNat_ofNat, Nat.mod_eq_of_lt (by omega), Nat.mod_eq_of_lt (by omega), h3]
  rw [IntWalk.i64_in _ (by omega)]
  omega
theorem ret_int {k : IntKind} {a b : Int} (h : a = b) : Ending.returned (.int k a) = .returned (.int k b) := by rw [h]
set_option maxHeartbeats 400000 in
theorem of1_any (v : Value) (w : World) : Calls Tryz.prog 62 #[v] w fun e w' => e = .returned (.tuple #[.int .i64 0, .int .i64 0, .int .i64 0]) ∧ ∃ m, w' = w.drewN m := by
  go_enter Tryz.func62, Tryz.ntmps62
  go_wp2
  go_ret3
  exact ⟨rfl, 0, rfl⟩
set_option maxHeartbeats 400000 in
theorem of2_any (b o n c : Nat) (x : Int) (w : World) (hn : 1 ≤ n) (hx0 : 0 ≤ x) (hx1 : x < 256) (hcx : w.cell? ⟨b, o, none⟩ = some (.int .u8 x)) :
    Calls Tryz.prog 63 #[.slice (some ⟨b, o, none⟩) n c] w fun e w' => e = .returned (.tuple #[.int .i64 x, .int .i64 0, .int .i64 0]) ∧ ∃ m, w' = w.drewN m := by
  have h0 : (0 : Int) < n := by omega
  go_enter Tryz.func63, Tryz.ntmps63
  go_wp2
  go_ret3
  exact ⟨rfl, 0, rfl⟩
set_option maxHeartbeats 400000 in
theorem two_any (b o n c : Nat) (x y : Int) (w : World) (hn : 2 ≤ n) (hx0 : 0 ≤ x) (hx1 : x < 256) (hy0 : 0 ≤ y) (hy1 : y < 256) (hcx : w.cell? ⟨b, o, none⟩ = some (.int .u8 x)) (hcy : w.cell? ⟨b, o + 1, none⟩ = some (.int .u8 y)) :
    Calls Tryz.prog 65 #[.slice (some ⟨b, o, none⟩) n c] w fun e w' => e = .returned (.int .i64 (x * 256 + y)) ∧ ∃ m, w' = w.drewN m := by
  have h0 : (0 : Int) < n := by omega
  have h1 : (1 : Int) < n := by omega
  go_enter Tryz.func65, Tryz.ntmps65
  go_wp2
  go_quiet (fail)
  go_wp2
  go_ret
  exact ⟨ret_int (i64_or_byte x y hx0 hx1 hy0 hy1), _, rfl⟩
set_option maxHeartbeats 400000 in
theorem of3_any (b o n c : Nat) (x y : Int) (w : World) (hn : 2 ≤ n) (hx0 : 0 ≤ x) (hx1 : x < 256) (hy0 : 0 ≤ y) (hy1 : y < 256) (hcx : w.cell? ⟨b, o, none⟩ = some (.int .u8 x)) (hcy : w.cell? ⟨b, o + 1, none⟩ = some (.int .u8 y)) :
    Calls Tryz.prog 64 #[.slice (some ⟨b, o, none⟩) n c] w fun e w' => e = .returned (.tuple #[.int .i64 (x * 256 + y), .int .i64 0, .int .i64 0]) ∧ ∃ m, w' = w.drewN m := by
  go_enter Tryz.func64, Tryz.ntmps64
  go_wp2_with (go_at_call 65; refine (two_any _ _ _ _ x y _ hn hx0 hx1 hy0 hy1 (by assumption) (by assumption)).mono ?_; rintro e w' ⟨rfl, m, rfl⟩)
  go_ret3
  exact ⟨rfl, _, rfl⟩
set_option maxHeartbeats 400000 in
theorem of4_any (b o n c : Nat) (x y p q : Int) (w : World) (hn : 4 ≤ n) (hc : n ≤ c) (hx0 : 0 ≤ x) (hx1 : x < 256) (hy0 : 0 ≤ y) (hy1 : y < 256) (hp0 : 0 ≤ p) (hp1 : p < 256) (hq0 : 0 ≤ q) (hq1 : q < 256)
    (hcx : w.cell? ⟨b, o, none⟩ = some (.int .u8 x)) (hcy : w.cell? ⟨b, o + 1, none⟩ = some (.int .u8 y)) (hcp : w.cell? ⟨b, o + 2, none⟩ = some (.int .u8 p)) (hcq : w.cell? ⟨b, o + 2 + 1, none⟩ = some (.int .u8 q)) :
    Calls Tryz.prog 66 #[.slice (some ⟨b, o, none⟩) n c] w fun e w' => e = .returned (.tuple #[.int .i64 x, .int .i64 y, .int .i64 (p * 256 + q)]) ∧ ∃ m, w' = w.drewN m := by
  have h0 : (0 : Int) < n := by omega
  have h1 : (1 : Int) < n := by omega
  have h2 : (2 : Int) ≤ n := by omega
  have h3 : ¬ c = 2 := by omega
  go_enter Tryz.func66, Tryz.ntmps66
  go_wp2
  go_quiet ((go_at_call 65; exact Calls.quiet_of (two_any _ _ _ _ p q _ (by omega) hp0 hp1 hq0 hq1 (by assumption) (by assumption))))
  go_wp2
  go_ret3
  exact ⟨rfl, _, rfl⟩
end Go.Proofs.YtfldicaaaadgaaaGreatDoor.Code

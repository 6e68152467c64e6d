/- The contract of code.operands. -/
import Derived.Test.YtfldicaaaadgaaaGreatDoorCRdAny
import Derived.Deep.RegionHeld3
namespace Go.Proofs.YtfldicaaaadgaaaGreatDoor.Code
open Go.RowKit
set_option linter.unusedVariables false
set_option linter.unusedSimpArgs false
set_option maxHeartbeats 400000 in
theorem byteOf_any (n : Int) (w : World) : Calls Tryz.prog 67 #[.int .i64 n] w fun e w' => e = .returned (.bool (decide (0 ≤ n ∧ n < 256))) ∧ w = w' := by
  by_cases h : 0 ≤ n
  · by_cases h2 : n < 256
    · go_enter Tryz.func67, Tryz.ntmps67
      go_wp2
      go_ret
      exact ⟨by first | (simp [h, h2]; done) | (simp [h]; omega), rfl⟩
    · go_enter Tryz.func67, Tryz.ntmps67
      go_wp2
      go_ret
      exact ⟨by first | (simp [h, h2]; done) | (simp [h]; omega), rfl⟩
  · go_enter Tryz.func67, Tryz.ntmps67
    go_wp2
    go_ret
    exact ⟨by simp; omega, rfl⟩
set_option maxHeartbeats 400000 in
theorem pair_any (n : Int) (w : World) : Calls Tryz.prog 68 #[.int .i64 n] w fun e w' => e = .returned (.bool (decide (0 ≤ n ∧ n < 65536))) ∧ w = w' := by
  by_cases h : 0 ≤ n
  · by_cases h2 : n < 65536
    · go_enter Tryz.func68, Tryz.ntmps68
      go_wp2
      go_ret
      exact ⟨by first | (simp [h, h2]; done) | (simp [h]; omega), rfl⟩
    · go_enter Tryz.func68, Tryz.ntmps68
      go_wp2
      go_ret
      exact ⟨by first | (simp [h, h2]; done) | (simp [h]; omega), rfl⟩
  · go_enter Tryz.func68, Tryz.ntmps68
    go_wp2
    go_ret
    exact ⟨by simp; omega, rfl⟩
/-- What operands() answers: where the numbers are right, their bytes in new memory. -/
def OpdPost (w : World) (bs : List Value) (ok : Bool) (e : Ending) (w' : World) : Prop :=
  ∃ v, e = .returned (.tuple #[v, .bool ok]) ∧ Below w.heap.size w w' ∧ (ok = true → w'.ownsRow w.heap.size 5 1 v bs.length bs)
theorem own_new (X : World) (l : List Value) (t : TypeId) (n base : Nat) (hn : n = X.heap.size) (hb : base ≤ n) (hl : l.length ≤ maxLen) :
    (X.alloc (.cells l.toArray t)).ownsRow base t 1 (.slice (some ⟨n, 0, none⟩) l.length l.length) l.length l := by
  subst hn
  exact ⟨by simp, .inr ⟨X.heap.size, l.length, l.toArray, rfl, hb, heap_alloc_new X _, Nat.le_refl _, hl, by simp, by simp⟩⟩
theorem u8_wrap (a : Int) (h0 : 0 ≤ a) (h1 : a < 256) : IntKind.u8.wrap a = a := IntWalk.u8_in a (by omega)
theorem u8_low (a : Int) : IntKind.u8.wrap a = a % 256 := IntKind.wrap_u8 a
end Go.Proofs.YtfldicaaaadgaaaGreatDoor.Code

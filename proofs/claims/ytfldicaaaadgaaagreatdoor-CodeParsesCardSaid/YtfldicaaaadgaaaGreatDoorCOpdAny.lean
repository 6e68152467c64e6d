/- The contract of code.operands where the numbers are right. -/
import Derived.Test.YtfldicaaaadgaaaGreatDoorCOpd
import Derived.Deep.RegionHeld3
namespace Go.Proofs.YtfldicaaaadgaaaGreatDoor.Code
section
open Go.RowKit
set_option linter.unusedVariables false
set_option linter.unusedSimpArgs false
set_option maxRecDepth 100000 in
set_option maxHeartbeats 2000000 in
theorem opd0T (xa xo : Int) (w : World) : Calls Tryz.prog 43 #[(Ins.mk xa xo 0 0 0).val, .int .i64 0] w (OpdPost w [] true) := by
  unfold Ins.val
  go_enter Tryz.func43, Tryz.ntmps43
  go_wp2
  go_quiet (fail)
  all_goals go_wp2
  all_goals go_ret2
  all_goals exact ⟨.slice none 0 0, rfl, by repeat (first | (with_reducible apply Bl.al) | (with_reducible apply Below.drew) | (with_reducible apply Bl.dn) | (with_reducible exact Below.refl _ _)), fun _ => World.ownsRow_nil _ _ _ _⟩
end
section
open Go.RowKit
set_option linter.unusedVariables false
set_option linter.unusedSimpArgs false
set_option maxRecDepth 100000 in
set_option maxHeartbeats 2000000 in
theorem opd1T (xa xo a : Int) (w : World) (h1 : 0 ≤ a ∧ a < 256) :
    Calls Tryz.prog 43 #[(Ins.mk xa xo a 0 0).val, .int .i64 1] w (OpdPost w [.int .u8 a] true) := by
  unfold Ins.val
  have hd : decide (0 ≤ a ∧ a < 256) = true := by simpa using h1
  have hB := fun W => byteOf_any a W
  simp only [hd] at hB
  have HB := Lib.hid hB
  clear hB hd
  go_enter Tryz.func43, Tryz.ntmps43
  go_wp2
  go_region_held3 (fun w' => w'.cell? ⟨w.heap.size, 2, none⟩ = some (.int .i64 a) ∧ w'.cell? ⟨w.heap.size, 3, none⟩ = some (.int .i64 0) ∧ w'.cell? ⟨w.heap.size, 4, none⟩ = some (.int .i64 0)) (go_keep) ((go_at_call 67; refine (HB.out _).mono ?_; rintro e w' ⟨rfl, rfl⟩))
  all_goals go_wp2
  all_goals go_ret2
  all_goals exact ⟨_, rfl, by repeat (first | (with_reducible apply Bl.al) | (with_reducible apply Below.drew) | (with_reducible exact Below.refl _ _)), fun _ => by rw [u8_wrap a h1.1 h1.2]; exact (own_new _ [.int .u8 a] 5 _ _ (by simp) (by simp) (by simp [maxLen])).drew⟩
end
section
open Go.RowKit
set_option linter.unusedVariables false
set_option linter.unusedSimpArgs false
set_option maxRecDepth 100000 in
set_option maxHeartbeats 2000000 in
theorem opd2T (xa xo a : Int) (w : World) (h1 : 0 ≤ a ∧ a < 65536) :
    Calls Tryz.prog 43 #[(Ins.mk xa xo a 0 0).val, .int .i64 2] w (OpdPost w [.int .u8 (a / 256), .int .u8 (a % 256)] true) := by
  unfold Ins.val
  have hd : decide (0 ≤ a ∧ a < 65536) = true := by simpa using h1
  have hB := fun W => pair_any a W
  simp only [hd] at hB
  have HB := Lib.hid hB
  clear hB hd
  go_enter Tryz.func43, Tryz.ntmps43
  go_wp2
  go_region_held3 (fun w' => w'.cell? ⟨w.heap.size, 2, none⟩ = some (.int .i64 a) ∧ w'.cell? ⟨w.heap.size, 3, none⟩ = some (.int .i64 0) ∧ w'.cell? ⟨w.heap.size, 4, none⟩ = some (.int .i64 0)) (go_keep) ((go_at_call 68; refine (HB.out _).mono ?_; rintro e w' ⟨rfl, rfl⟩))
  all_goals go_wp2
  all_goals go_ret2
  all_goals exact ⟨_, rfl, by repeat (first | (with_reducible apply Bl.al) | (with_reducible apply Below.drew) | (with_reducible exact Below.refl _ _)), fun _ => by rw [u8_low (a / 256), u8_low a, Int.emod_eq_of_lt (by omega) (by omega)]; exact (own_new _ [.int .u8 (a / 256), .int .u8 (a % 256)] 5 _ _ (by simp) (by simp) (by simp [maxLen])).drew⟩
end
section
open Go.RowKit
set_option linter.unusedVariables false
set_option linter.unusedSimpArgs false
set_option maxRecDepth 100000 in
set_option maxHeartbeats 4000000 in
theorem opd3T (xa xo a b c : Int) (w : World) (h1 : 0 ≤ a ∧ a < 256) (h2 : 0 ≤ b ∧ b < 256) (h3 : 0 ≤ c ∧ c < 65536) :
    Calls Tryz.prog 43 #[(Ins.mk xa xo a b c).val, .int .i64 3] w (OpdPost w [.int .u8 a, .int .u8 b, .int .u8 (c / 256), .int .u8 (c % 256)] true) := by
  unfold Ins.val
  have hA : ∀ n, 0 ≤ n ∧ n < 256 → ∀ W, Calls Tryz.prog 67 #[.int .i64 n] W fun e w' => e = .returned (.bool true) ∧ W = w' := fun n hn W => by
    have := byteOf_any n W
    rw [show decide (0 ≤ n ∧ n < 256) = true by simpa using hn] at this
    exact this
  have hC := fun W => pair_any c W
  rw [show decide (0 ≤ c ∧ c < 65536) = true by simpa using h3] at hC
  have HA := Lib.hid hA
  have HC := Lib.hid hC
  clear hA hC
  go_enter Tryz.func43, Tryz.ntmps43
  go_wp2
  go_region_held3 (fun w' => w'.cell? ⟨w.heap.size, 2, none⟩ = some (.int .i64 a) ∧ w'.cell? ⟨w.heap.size, 3, none⟩ = some (.int .i64 b) ∧ w'.cell? ⟨w.heap.size, 4, none⟩ = some (.int .i64 c)) (go_keep) ((first | (go_at_call 67; refine (HA.out _ (by assumption) _).mono ?_; rintro e w' ⟨rfl, rfl⟩) | (go_at_call 68; refine (HC.out _).mono ?_; rintro e w' ⟨rfl, rfl⟩)))
  all_goals go_wp2
  all_goals go_ret2
  all_goals exact ⟨_, rfl, by repeat (first | (with_reducible apply Bl.al) | (with_reducible apply Below.drew) | (with_reducible exact Below.refl _ _)), fun _ => by rw [u8_wrap a h1.1 h1.2, u8_wrap b h2.1 h2.2, u8_low (c / 256), u8_low c, Int.emod_eq_of_lt (by omega) (by omega)]; exact (own_new _ [.int .u8 a, .int .u8 b, .int .u8 (c / 256), .int .u8 (c % 256)] 5 _ _ (by simp) (by simp) (by simp [maxLen])).drew⟩
end
section
open Go.RowKit
def opBytes (x : Ins) : List Int :=
  if kindOf x.op = 1 then [x.a] else if kindOf x.op = 2 then [x.a / 256, x.a % 256] else if kindOf x.op = 3 then [x.a, x.b, x.c / 256, x.c % 256] else []
def encOf (x : Ins) : List Int := x.op :: opBytes x
/-- An instruction with an opcode and right numbers. -/
def RightI (x : Ins) : Prop :=
  (kindOf x.op = 0 ∧ x.a = 0 ∧ x.b = 0 ∧ x.c = 0) ∨ (kindOf x.op = 1 ∧ (0 ≤ x.a ∧ x.a < 256) ∧ x.b = 0 ∧ x.c = 0) ∨ (kindOf x.op = 2 ∧ (0 ≤ x.a ∧ x.a < 65536) ∧ x.b = 0 ∧ x.c = 0) ∨
    (kindOf x.op = 3 ∧ (0 ≤ x.a ∧ x.a < 256) ∧ (0 ≤ x.b ∧ x.b < 256) ∧ (0 ≤ x.c ∧ x.c < 65536))
theorem RightI.kind {x : Ins} (h : RightI x) : kindOf x.op = 0 ∨ kindOf x.op = 1 ∨ kindOf x.op = 2 ∨ kindOf x.op = 3 := by
  rcases h with h | h | h | h
  · exact .inl h.1
  · exact .inr (.inl h.1)
  · exact .inr (.inr (.inl h.1))
  · exact .inr (.inr (.inr h.1))
theorem RightI.len {x : Ins} (h : RightI x) : ((encOf x).length : Int) = sizeOf x.op ∧ (opBytes x).length ≤ 4 := by
  unfold encOf opBytes sizeOf width
  rcases h with h | h | h | h <;> simp [h.1]
theorem opd_any (x : Ins) (k : Int) (w : World) (hk : kindOf x.op = k) (h : RightI x) :
    Calls Tryz.prog 43 #[x.val, .int .i64 k] w (OpdPost w ((opBytes x).map (Value.int .u8)) true) := by
  subst hk
  obtain ⟨xa, xo, a, b, c⟩ := x
  unfold opBytes
  rcases h with ⟨hk, h⟩ | ⟨hk, h⟩ | ⟨hk, h⟩ | ⟨hk, h⟩
  · simp only at hk h ⊢
    obtain ⟨rfl, rfl, rfl⟩ := h
    simp only [hk]
    exact opd0T xa xo w
  · simp only at hk h ⊢
    obtain ⟨h1, rfl, rfl⟩ := h
    simp only [hk]
    exact opd1T xa xo a w h1
  · simp only at hk h ⊢
    obtain ⟨h1, rfl, rfl⟩ := h
    simp only [hk]
    exact opd2T xa xo a w h1
  · simp only at hk h ⊢
    simp only [hk]
    exact opd3T xa xo a b c w h.1 h.2.1 h.2.2
end
end Go.Proofs.YtfldicaaaadgaaaGreatDoor.Code

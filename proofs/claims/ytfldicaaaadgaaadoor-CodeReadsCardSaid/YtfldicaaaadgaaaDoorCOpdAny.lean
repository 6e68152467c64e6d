/- The contract of code.operands where the numbers are right. -/
import Derived.Test.YtfldicaaaadgaaaDoorCOpd0
import Derived.Test.YtfldicaaaadgaaaDoorCOpd1
import Derived.Test.YtfldicaaaadgaaaDoorCOpd2
import Derived.Test.YtfldicaaaadgaaaDoorCOpd3
namespace Go.Proofs.YtfldicaaaadgaaaDoor.Code
open Go.RowKit
def opBytes (x : Ins) : List Int :=
  if kindOf x.op = 1 then [x.a] else if kindOf x.op = 2 then [x.a / 256, x.a % 256] else if kindOf x.op = 3 then [x.a, x.b, x.c / 256, x.c % 256] else []
def encOf (x : Ins) : List Int := x.op :: opBytes x
/-- An instruction with an opcode and right numbers. -/
def RightI (x : Ins) : Prop :=
  (kindOf x.op = 0 ∧ x.a = 0 ∧ x.b = 0 ∧ x.c = 0) ∨ (kindOf x.op = 1 ∧ (0 ≤ x.a ∧ x.a < 256) ∧ x.b = 0 ∧ x.c = 0) ∨ (kindOf x.op = 2 ∧ (0 ≤ x.a ∧ x.a < 65536) ∧ x.b = 0 ∧ x.c = 0) ∨
    (kindOf x.op = 3 ∧ (0 ≤ x.a ∧ x.a < 256) ∧ (0 ≤ x.b ∧ x.b < 256) ∧ (0 ≤ x.c ∧ x.c < 65536))
theorem RightI.kind {x : Ins} (h : RightI x) : kindOf x.op = 0 ∨ kindOf x.op = 1 ∨ kindOf x.op = 2 ∨ kindOf x.op = 3 := by
  rcases h with h | h | h | h
  · exact .inl h.1
  · exact .inr (.inl h.1)
  · exact .inr (.inr (.inl h.1))
  · exact .inr (.inr (.inr h.1))
theorem RightI.len {x : Ins} (h : RightI x) : ((encOf x).length : Int) = sizeOf x.op ∧ (opBytes x).length ≤ 4 := by
  unfold encOf opBytes sizeOf width
  rcases h with h | h | h | h <;> simp [h.1]
theorem opd_any (x : Ins) (k : Int) (w : World) (hk : kindOf x.op = k) (h : RightI x) :
    Calls Tryd.prog 58 #[x.val, .int .i64 k] w (OpdPost w ((opBytes x).map (Value.int .u8)) true) := by
  subst hk
  obtain ⟨xa, xo, a, b, c⟩ := x
  unfold opBytes
  rcases h with ⟨hk, h⟩ | ⟨hk, h⟩ | ⟨hk, h⟩ | ⟨hk, h⟩
  · simp only at hk h ⊢
    obtain ⟨rfl, rfl, rfl⟩ := h
    simp only [hk]
    exact opd0T xa xo w
  · simp only at hk h ⊢
    obtain ⟨h1, rfl, rfl⟩ := h
    simp only [hk]
    exact opd1T xa xo a w h1
  · simp only at hk h ⊢
    obtain ⟨h1, rfl, rfl⟩ := h
    simp only [hk]
    exact opd2T xa xo a w h1
  · simp only at hk h ⊢
    simp only [hk]
    exact opd3T xa xo a b c w h.1 h.2.1 h.2.2
end Go.Proofs.YtfldicaaaadgaaaDoor.Code

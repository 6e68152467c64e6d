/- The contract of code.operands where a number is not right. -/
import Derived.Test.YtfldicaaaadgaaaGreatDoorCOpdAny
import Derived.Test.YtfldicaaaadgaaaGreatDoorCOpdF0
import Derived.Test.YtfldicaaaadgaaaGreatDoorCOpdF1
import Derived.Test.YtfldicaaaadgaaaGreatDoorCOpdF2
import Derived.Test.YtfldicaaaadgaaaGreatDoorCOpdF3
namespace Go.Proofs.YtfldicaaaadgaaaGreatDoor.Code
open Go.RowKit
theorem opd_bad (x : Ins) (k : Int) (w : World) (hk : kindOf x.op = k) (hk4 : k = 0 ∨ k = 1 ∨ k = 2 ∨ k = 3) (h : ¬ RightI x) : Calls Tryz.prog 43 #[x.val, .int .i64 k] w (OpdPost w [] false) := by
  obtain ⟨xa, xo, a, b, c⟩ := x
  unfold RightI at h
  simp only at h hk
  rcases hk4 with rfl | rfl | rfl | rfl
  · by_cases h1 : a = 0
    · subst h1
      by_cases h2 : b = 0
      · subst h2
        exact opd0C xa xo c w (fun e => h (.inl ⟨hk, rfl, rfl, e⟩))
      · exact opd0B xa xo b c w h2
    · exact opd0A xa xo a b c w h1
  · by_cases h1 : 0 ≤ a ∧ a < 256
    · by_cases h2 : b = 0
      · subst h2
        exact opd1C xa xo a c w h1 (fun e => h (.inr (.inl ⟨hk, h1, rfl, e⟩)))
      · exact opd1B xa xo a b c w h1 h2
    · exact opd1A xa xo a b c w h1
  · by_cases h1 : 0 ≤ a ∧ a < 65536
    · by_cases h2 : b = 0
      · subst h2
        exact opd2C xa xo a c w h1 (fun e => h (.inr (.inr (.inl ⟨hk, h1, rfl, e⟩))))
      · exact opd2B xa xo a b c w h1 h2
    · exact opd2A xa xo a b c w h1
  · by_cases h1 : 0 ≤ a ∧ a < 256
    · by_cases h2 : 0 ≤ b ∧ b < 256
      · exact opd3C xa xo a b c w h1 h2 (fun e => h (.inr (.inr (.inr ⟨hk, h1, h2, e⟩))))
      · exact opd3B xa xo a b c w h1 h2
    · exact opd3A xa xo a b c w h1
end Go.Proofs.YtfldicaaaadgaaaGreatDoor.Code

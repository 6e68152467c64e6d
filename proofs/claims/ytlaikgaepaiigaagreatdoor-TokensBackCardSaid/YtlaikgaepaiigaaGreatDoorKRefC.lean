/- The contract of the reference's Cut. -/
import Derived.Test.YtlaikgaepaiigaaGreatDoorKRefO
namespace Go.Proofs.YtlaikgaepaiigaaGreatDoor.K
open Go Go.RowKit
set_option linter.unusedVariables false
set_option linter.unusedSimpArgs false
theorem oneAt_bad {s : ByteArray} {q p : Nat} (hq : q < s.size) (hb : blankI (bt s q) = false) (hr : remB s q = false) (h : oneAt s q = .bad p) (f : Nat) : cutF s (f + 1) q = .bad p := by
  unfold oneAt at h
  rw [if_neg (by omega)] at h
  exact cf_bad (by omega) hb hr h
theorem oneAt_ok {s : ByteArray} {q p : Nat} {t : Tk} (hq : q < s.size) (hb : blankI (bt s q) = false) (hr : remB s q = false) (h : oneAt s q = .ok t p) (f : Nat) : cutF s (f + 1) q = (cutF s f p).cons t := by
  unfold oneAt at h
  rw [if_neg (by omega)] at h
  exact cf_ok (by omega) hb hr h
theorem oneAt_end {s : ByteArray} {q : Nat} (hq : s.size ≤ q) : oneAt s q = .ok (endTk s) q := if_pos hq
theorem tok_gt {s : ByteArray} {q p : Nat} {t : Tk} (hq : q < s.size) (h : tokAt s q = .ok t p) : q < p ∧ p ≤ s.size ∧ (t.kind == 0) = false := by
  unfold tokAt at h
  split at h
  · rename_i hc
    unfold nameAt at h
    simp only at h
    split at h
    · cases h
    · simp only [OneR.ok.injEq] at h
      obtain ⟨rfl, rfl⟩ := h
      have hp : partI (bt s q) = true := by
        rcases class_cases (bt s q) with ⟨_, a, _⟩ | ⟨_, _, a, b⟩ | ⟨_, _, _, a, _⟩ | ⟨_, _, _, _, a, _⟩ | ⟨_, _, _, _, _, a, _⟩ | ⟨_, _, _, _, _, a, _⟩
        · omega
        · exact b
        all_goals omega
      have h1 := while_step hq hp
      have h2 := while_bd partI s (q + 1)
      have h3 := while_bd partI s q
      exact ⟨by omega, h3.2 (by omega), rfl⟩
  · split at h
    · rename_i hc
      have hd : digitI (bt s q) = true := by
        rcases class_cases (bt s q) with ⟨_, a, _⟩ | ⟨_, _, a, b⟩ | ⟨_, _, _, a, _⟩ | ⟨_, _, _, b, a, _⟩ | ⟨_, _, _, _, _, a, _⟩ | ⟨_, _, _, _, _, a, _⟩
        · omega
        · omega
        · omega
        · exact b
        all_goals omega
      have h2 := digTo_bd hq hd
      rcases num_eq s q with ⟨p', h3, _⟩ | ⟨h3, _⟩
      · rw [h3] at h; cases h
      · rw [h3] at h
        simp only [OneR.ok.injEq] at h
        obtain ⟨rfl, rfl⟩ := h
        exact ⟨h2.1, h2.2.1, rfl⟩
    · split at h
      · unfold textAt at h
        split at h
        · cases h
        · rename_i out q' he
          simp only [OneR.ok.injEq] at h
          obtain ⟨rfl, rfl⟩ := h
          have := textGo_gt _ _ _ _ _ he
          exact ⟨by omega, this.2, rfl⟩
      · unfold markAt at h
        split at h
        · cases h
        · rename_i h0
          simp only [OneR.ok.injEq] at h
          obtain ⟨rfl, rfl⟩ := h
          exact ⟨by omega, (markLen_bd hq).2, rfl⟩
end Go.Proofs.YtlaikgaepaiigaaGreatDoor.K

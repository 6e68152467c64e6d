/- The contracts of tokens.class, part, isMark, mark, and of the reference's bytes. -/
import Derived.Test.YtlaikgaepaiigaaGreatDoorKBase
import Derived.Test.YtlaikgaepaiigaaGreatDoorKWords
import Derived.Test.YtlaikgaepaiigaaGreatDoorShelf
namespace Go.Proofs.YtlaikgaepaiigaaGreatDoor.K
open Go Go.RowKit
set_option linter.unusedVariables false
set_option linter.unusedSimpArgs false
set_option maxHeartbeats 4000000 in
theorem class_any (c : Int) (w : World) (h0 : 0 ≤ c) (h1 : c ≤ 255) : Calls Tryz.prog 24 #[.int .u8 c] w fun e w' => e = .returned (.int .i64 (classI c)) ∧ w = w' := by
  have hc := class_cases c
  rcases hc with ⟨hb, hv, _⟩ | ⟨hb, hs, hv, _⟩ | ⟨hb, hs, hg, hv, _⟩ | ⟨hb, hs, hg, hd, hv, _⟩ | ⟨hb, hs, hg, hd, rfl, hv, _⟩ | ⟨hb, hs, hg, hd, hq, hv, _⟩
  · have HV := Lib.hid hv
    simp only [blankI, Bool.or_eq_true, beq_iff_eq] at hb
    clear hv
    rcases hb with ((rfl | rfl) | rfl) | rfl
    all_goals
      go_enter Tryz.func24, Tryz.ntmps24
      go_wp2
      go_ret
      exact ⟨ret_int HV.out.symm, rfl⟩
  all_goals
    have HV := Lib.hid hv
    simp only [blankI, Bool.or_eq_false_iff] at hb
    obtain ⟨⟨⟨b1, b2⟩, b3⟩, b4⟩ := hb
    clear hv
  · simp only [smallI, Bool.and_eq_true, decide_eq_true_eq] at hs
    obtain ⟨s1, s2⟩ := hs
    go_enter Tryz.func24, Tryz.ntmps24
    go_wp2
    go_ret
    exact ⟨ret_int HV.out.symm, rfl⟩
  · have hs' : c < 97 ∨ 122 < c := by simp [smallI] at hs; omega
    simp only [greatI, Bool.or_eq_true, Bool.and_eq_true, decide_eq_true_eq, beq_iff_eq] at hg
    clear hs
    rcases hg with ⟨g1, g2⟩ | rfl
    · have s1 : ¬ 97 ≤ c := by omega
      clear hs'
      go_enter Tryz.func24, Tryz.ntmps24
      go_wp2
      go_ret
      exact ⟨ret_int HV.out.symm, rfl⟩
    · clear hs'
      go_enter Tryz.func24, Tryz.ntmps24
      go_wp2
      go_ret
      exact ⟨ret_int HV.out.symm, rfl⟩
  · simp only [digitI, Bool.and_eq_true, decide_eq_true_eq] at hd
    obtain ⟨d1, d2⟩ := hd
    have s1 : ¬ 97 ≤ c := by omega
    have g1 : ¬ 65 ≤ c := by omega
    have g2 := ne_b (show ¬ c = 95 by omega)
    clear hs hg
    go_enter Tryz.func24, Tryz.ntmps24
    go_wp2
    go_ret
    exact ⟨ret_int HV.out.symm, rfl⟩
  · go_enter Tryz.func24, Tryz.ntmps24
    go_wp2
    go_ret
    exact ⟨ret_int HV.out.symm, rfl⟩
  · have hs' : c < 97 ∨ (97 ≤ c ∧ ¬ c ≤ 122) := by simp [smallI] at hs; omega
    have hg' : (¬ 65 ≤ c ∨ (65 ≤ c ∧ ¬ c ≤ 90)) ∧ (c == 95) = false := by
      simp only [greatI, Bool.or_eq_false_iff] at hg
      refine ⟨?_, hg.2⟩
      have := hg.1
      simp at this
      omega
    have hd' : ¬ 48 ≤ c ∨ (48 ≤ c ∧ ¬ c ≤ 57) := by simp [digitI] at hd; omega
    obtain ⟨hg1, hg2⟩ := hg'
    clear hs hg hd
    rcases hd' with d1 | ⟨d1, d2⟩
    · have s1 : ¬ 97 ≤ c := by omega
      have g1 : ¬ 65 ≤ c := by omega
      clear hs' hg1
      go_enter Tryz.func24, Tryz.ntmps24
      go_wp2
      go_ret
      exact ⟨ret_int HV.out.symm, rfl⟩
    · rcases hg1 with g1 | ⟨g1, g3⟩
      · have s1 : ¬ 97 ≤ c := by omega
        clear hs'
        go_enter Tryz.func24, Tryz.ntmps24
        go_wp2
        go_ret
        exact ⟨ret_int HV.out.symm, rfl⟩
      · rcases hs' with s1 | ⟨s1, s2⟩
        · have s3 : ¬ 97 ≤ c := by omega
          go_enter Tryz.func24, Tryz.ntmps24
          go_wp2
          go_ret
          exact ⟨ret_int HV.out.symm, rfl⟩
        · go_enter Tryz.func24, Tryz.ntmps24
          go_wp2
          go_ret
          exact ⟨ret_int HV.out.symm, rfl⟩
theorem part_any (c : Int) (w : World) (h0 : 0 ≤ c) (h1 : c ≤ 255) : Calls Tryz.prog 25 #[.int .u8 c] w fun e w' => e = .returned (.bool (partI c)) ∧ w = w' := by
  have HC := Lib.hid (class_any c w h0 h1)
  have hp : (partI c = true ∧ (classI c = 2 ∨ classI c = 3 ∨ classI c = 4)) ∨ (partI c = false ∧ (classI c = 0 ∨ classI c = 1 ∨ classI c = 5)) := by
    rcases class_cases c with ⟨_, a, b⟩ | ⟨_, _, a, b⟩ | ⟨_, _, _, a, b⟩ | ⟨_, _, _, _, a, b⟩ | ⟨_, _, _, _, _, a, b⟩ | ⟨_, _, _, _, _, a, b⟩ <;> simp [a, b]
  generalize classI c = k at HC hp
  generalize partI c = b at hp
  rcases hp with ⟨rfl, rfl | rfl | rfl⟩ | ⟨rfl, rfl | rfl | rfl⟩
  all_goals
    go_enter Tryz.func25, Tryz.ntmps25
    go_wp2_with fail
    refine HC.out.mono ?_
    rintro e wq ⟨rfl, rfl⟩
    go_wp2_with fail
    go_ret
    exact ⟨rfl, rfl⟩
/-! ### Contains, ParseInt in all worlds that follow one -/
structure LibIn (w : World) : Prop where
  cont : ∀ (s sub : ByteArray) (W : World), s.size < 4294967281 → Below w.heap.size w W → Calls Tryz.prog 31 #[.string s, .string sub] W fun e w' => e = .returned (.bool (Lib.contains s.data.toList sub.data.toList)) ∧ W = w'
  rng : ∃ ev, w.cell? ⟨3, 0, none⟩ = some ev ∧ (ev = .nilIface ∨ ∃ te pe, ev = .iface te pe)
theorem LibIn.below {w w' : World} (h : LibIn w) (hb : Below w.heap.size w w') : LibIn w' := by
  obtain ⟨ev, h1, h2⟩ := h.rng
  exact ⟨fun s sub W hs hb2 => h.cont s sub W hs (hb.trans (hb2.mono hb.size)), ev, (hb.cell (World.block_lt_of_cell? _ _ h1)).trans h1, h2⟩
def marksText : ByteArray := ⟨#[32, 61, 61, 32, 33, 61, 32, 60, 61, 32, 62, 61, 32, 38, 38, 32, 124, 124, 32, 123, 32, 125, 32, 40, 32, 41, 32, 59, 32, 44, 32, 46, 32, 61, 32, 33, 32, 60, 32, 62, 32, 43, 32, 45, 32, 42, 32, 47, 32, 37, 32]⟩
theorem marks_clean : ∀ m ∈ marksL, (32 : UInt8) ∉ m := by decide +kernel
theorem marks_join : marksText.data.toList = 32 :: joinW marksL := by decide +kernel
def isMarkB (l : List UInt8) : Bool := marksL.contains l
theorem contains_sp (l : List UInt8) : Lib.contains l [32] = l.contains 32 := by
  unfold Lib.contains
  rw [Bool.eq_iff_iff, decide_eq_true_eq, List.contains_iff_mem]
  rcases Lib.index_spec l [32] with ⟨h1, h2⟩ | ⟨i, h1, h2, h3, _⟩
  · rw [h1]
    refine ⟨fun h => absurd h (by decide), fun hm => ?_⟩
    obtain ⟨i, hi, e⟩ := List.mem_iff_getElem.1 hm
    have h3 := h2 i (by omega)
    unfold Lib.occAt at h3
    rw [List.drop_eq_getElem_cons hi, e] at h3
    simp at h3
  · refine ⟨fun _ => ?_, fun _ => by omega⟩
    unfold Lib.occAt at h3
    cases hd : l.drop i with
    | nil => rw [hd] at h3; simp at h3
    | cons a r =>
      rw [hd] at h3
      simp at h3
      have : a ∈ l.drop i := by rw [hd]; simp
      rw [← h3] at this
      exact List.mem_of_mem_drop this
theorem isMark_big (s : ByteArray) (w : World) (hL : LibIn w) (hs : s.size ≤ 16777216) : Calls Tryz.prog 16 #[.string s] w fun e w' => e = .returned (.bool (isMarkB s.data.toList)) ∧ w = w' := by
  obtain ⟨R, hR⟩ : ∃ R, R = isMarkB s.data.toList := ⟨_, rfl⟩
  rw [← hR]
  by_cases h0 : s = ⟨#[]⟩
  · have HR := Lib.hid (show R = false by rw [hR, h0]; decide +kernel)
    subst h0
    clear hR
    go_enter Tryz.func16, Tryz.ntmps16
    go_wp2
    go_ret
    exact ⟨ret_bool HR.out.symm, rfl⟩
  · have h3 : s.data.toList.isEmpty = false := by
      rw [Bool.eq_false_iff]
      intro e
      apply h0
      apply ByteArray.ext
      apply Array.toList_inj.1
      simpa using e
    have h2 : s.toList.isEmpty = false := by rw [ByteArray.toList_eq]; exact h3
    have h4 : (s.toList == []) = false := by
      rw [ByteArray.toList_eq]
      cases hl : s.data.toList with
      | nil => rw [hl] at h3; cases h3
      | cons a l => rfl
    have H1 := Lib.hid (hL.cont s ⟨#[32]⟩ w (by omega) (Below.refl _ _))
    have H2 := Lib.hid (hL.cont marksText ((⟨#[32]⟩ : ByteArray) ++ s ++ ⟨#[32]⟩) w (by decide) (Below.refl _ _))
    have hsp : Lib.contains s.data.toList (⟨#[32]⟩ : ByteArray).data.toList = s.data.toList.contains 32 := contains_sp _
    rw [hsp] at H1
    cases hc : s.data.toList.contains 32 with
    | true =>
      rw [hc] at H1
      have HR := Lib.hid (show R = false by
        rw [hR, Bool.eq_false_iff]
        intro h
        exact marks_clean _ (by unfold isMarkB at h; exact List.contains_iff_mem.1 h) (List.contains_iff_mem.1 hc))
      clear h0 h3 hR hsp H2 hc hL
      go_enter Tryz.func16, Tryz.ntmps16
      go_wp2_with fail
      refine H1.out.mono ?_
      rintro e wq ⟨rfl, rfl⟩
      go_wp2_with fail
      go_ret
      exact ⟨ret_bool HR.out.symm, rfl⟩
    | false =>
      rw [hc] at H1
      have hn : (32 : UInt8) ∉ s.data.toList := fun h => by rw [List.contains_iff_mem.2 h] at hc; cases hc
      have hcw : Lib.contains marksText.data.toList ((⟨#[32]⟩ : ByteArray) ++ s ++ ⟨#[32]⟩).data.toList = R := by
        have e1 : ((⟨#[32]⟩ : ByteArray) ++ s ++ ⟨#[32]⟩).data.toList = 32 :: (s.data.toList ++ [32]) := by simp [ByteArray.data_append]
        rw [e1, marks_join, contains_words marksL marks_clean _ hn, hR]
        rfl
      rw [hcw] at H2
      clear h0 h3 hR hsp hcw hn hc hL
      go_enter Tryz.func16, Tryz.ntmps16
      go_wp2_with fail
      refine H1.out.mono ?_
      rintro e wq ⟨rfl, rfl⟩
      go_wp2_with fail
      refine H2.out.mono ?_
      rintro e wq ⟨rfl, rfl⟩
      go_wp2_with fail
      go_ret
      exact ⟨rfl, rfl⟩
theorem isMark_any (s : ByteArray) (w : World) (hL : LibIn w) (hs : s.size ≤ 65536) : Calls Tryz.prog 16 #[.string s] w fun e w' => e = .returned (.bool (isMarkB s.data.toList)) ∧ w = w' := isMark_big s w hL (by omega)
end Go.Proofs.YtlaikgaepaiigaaGreatDoor.K

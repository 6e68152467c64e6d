/- The contract of tree.isFree, in all worlds that follow one in which the library's variable stands. -/
import Derived.Test.YtamienmbpdbnnaaTNames
import Derived.Test.YtamienmbpdbnnaaShelf
import Derived.ChangeAgain
namespace Go.Proofs.Ytamienmbpdbnnaa.T
open Go Go.RowKit
set_option linter.unusedVariables false
set_option linter.unusedSimpArgs false
/-- strings.Contains in all worlds that follow one. -/
def ContIn (w : World) : Prop := ∀ (s sub : ByteArray) (W : World), s.size < 4294967281 → Below w.heap.size w W →
  Calls Try.prog 60 #[.string s, .string sub] W fun e w' => e = .returned (.bool (Lib.contains s.data.toList sub.data.toList)) ∧ W = w'
theorem cont_in {w : World} (h : w.ShapedOpen Try.prog) : ContIn w := fun s sub W hs hb =>
  (Try.strings_Contains_shaped s sub W (h.keptBut (hb.frame (fun _ => False)) (fun _ h => h.elim)) hs).mono fun e w' ⟨he, hw⟩ => ⟨he, hw.symm⟩
theorem ContIn.below {w w' : World} (h : ContIn w) (hb : Below w.heap.size w w') : ContIn w' := fun s sub W hs hb2 => h s sub W hs (hb.trans (hb2.mono hb.size))
def wordsText : ByteArray := ⟨(32 :: joinW words).toArray⟩
theorem free_of (s : ByteArray) (h : nameL s.data.toList = true) : (!Lib.contains wordsText.data.toList ((⟨#[32]⟩ : ByteArray) ++ s ++ ⟨#[32]⟩).data.toList) = freeL s.data.toList := by
  have e1 : wordsText.data.toList = 32 :: joinW words := by simp [wordsText]
  have e2 : ((⟨#[32]⟩ : ByteArray) ++ s ++ ⟨#[32]⟩).data.toList = 32 :: (s.data.toList ++ [32]) := by simp [ByteArray.data_append]
  rw [e1, e2, contains_words words words_clean _ (name_clean h)]
  unfold freeL
  rw [h]
  rfl
set_option maxRecDepth 100000 in
set_option maxHeartbeats 1000000 in
theorem isFree_any (s : ByteArray) (w0 w : World) (hs : s.size ≤ 140737488355328) (hc : ContIn w0) (hb : Below w0.heap.size w0 w) : Calls Try.prog 53 #[.string s] w fun e w' => e = .returned (.bool (freeL s.data.toList)) ∧ w = w' := by
  have HN := Lib.hid (fun W => isName_any s W (by unfold maxLen; omega))
  have HF := Lib.hid (free_of s)
  have hF0 : nameL s.data.toList = false → freeL s.data.toList = false := fun h => by unfold freeL; rw [h]; rfl
  have HF0 := Lib.hid hF0
  have HC := Lib.hid (hc wordsText (⟨#[32]⟩ ++ s ++ ⟨#[32]⟩) w (by decide) hb)
  have hcat1 := fun W => run_string_add_sum (P := Try.prog) W ⟨#[32]⟩ s (by show 1 + s.size ≤ _; omega)
  have hcat2 := fun W => run_string_add_sum (P := Try.prog) W (⟨#[32]⟩ ++ s) ⟨#[32]⟩ (by rw [ByteArray.size_append]; show 1 + s.size + 1 ≤ _; omega)
  clear hc hb hF0
  generalize freeL s.data.toList = R at *
  generalize nameL s.data.toList = n at *
  cases n with
  | false =>
    go_enter Try.func53, Try.ntmps53
    go_wp2_with (go_at_call 56; refine (HN.out _).mono ?_; rintro e w1 ⟨rfl, rfl⟩)
    go_ret
    exact ⟨ret_bool (HF0.out trivial).symm, rfl⟩
  | true =>
    go_enter Try.func53, Try.ntmps53
    go_wp2_with (first
      | (go_at_call 56; refine (HN.out _).mono ?_; rintro e w1 ⟨rfl, rfl⟩)
      | (go_at_call 60; refine HC.out.mono ?_; rintro e w1 ⟨rfl, rfl⟩))
    go_ret
    exact ⟨ret_bool (HF.out trivial), rfl⟩
end Go.Proofs.Ytamienmbpdbnnaa.T

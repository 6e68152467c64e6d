/- The law TokensTexts answers true. -/
import Derived.Test.YtlaikgaepaiigaaGreatDoorKTokU
import Derived.Test.YtlaikgaepaiigaaGreatDoorKBytes
import Derived.Deep.RegionHeld3
namespace Go.Proofs.YtlaikgaepaiigaaGreatDoor.K
open Go Go.RowKit
set_option linter.unusedVariables false
set_option linter.unusedSimpArgs false
set_option maxRecDepth 100000 in
set_option maxHeartbeats 8000000 in
theorem texts_walk (t : Tk) (w : World) (hL : LibIn w) (hF : FmtIn w) (h0 : -9223372036854775808 ≤ t.num) (h1 : t.num ≤ 9223372036854775807) :
    Calls Tryz.prog 3 #[t.val] w (WorksPost w) := by
  have HT0 := Lib.hid (fun W (hx : t.text.size ≤ 16777216) (hL : LibIn W) (hF : FmtIn W) => Text_any t W hL hF hx h0 h1)
  have HU0 := Lib.hid (fun W (hx : t.text.size ≤ 16777216) (hF : FmtIn W) => refTextOf_any t W hF hx h0 h1)
  obtain ⟨k, x, n, a⟩ := t
  simp only at HT0 HU0 h0 h1
  obtain ⟨R, hR⟩ : ∃ R, R = textOf ⟨k, x, n, a⟩ := ⟨_, rfl⟩
  rw [← hR] at HT0 HU0
  unfold Tk.val at HT0 HU0 ⊢
  obtain ⟨w1, hw1⟩ : ∃ w1, w1 = w.alloc (.cells #[.int .i8 k, .string x, .int .i64 n, .int .i64 a] 24) := ⟨_, rfl⟩
  obtain ⟨T, hT⟩ : ∃ T, T = w.heap.size := ⟨_, rfl⟩
  have HB1 := Lib.hid (show Below w.heap.size w w1 by rw [hw1]; exact G.bl_alloc (Below.refl _ _) _)
  have HBT := Lib.hid (show G.Blk w1 T 24 #[.int .i8 k, .string x, .int .i64 n, .int .i64 a] by rw [hw1, hT]; exact G.Blk.new w _ _)
  have HL := Lib.hid (fun W (h : Below w1.heap.size w1 W) => (hL.below HB1.out).below h)
  have HF := Lib.hid (fun W (h : Below w1.heap.size w1 W) => (hF.below HB1.out).below h)
  have HW := Lib.hid hw1
  have HT := Lib.hid hT
  have z0 := HBT.out.cell 0
  have z1 := HBT.out.cell 1
  have z2 := HBT.out.cell 2
  have z3 := HBT.out.cell 3
  simp at z0 z1 z2 z3
  have HZ := Lib.hid (fun W (h : Below w1.heap.size w1 W) => (⟨(HBT.out.below h HBT.out.lt).cell 0, (HBT.out.below h HBT.out.lt).cell 1, (HBT.out.below h HBT.out.lt).cell 2, (HBT.out.below h HBT.out.lt).cell 3⟩ : W.cell? ⟨T, 0, none⟩ = some (.int .i8 k) ∧ W.cell? ⟨T, 1, none⟩ = some (.string x) ∧ W.cell? ⟨T, 2, none⟩ = some (.int .i64 n) ∧ W.cell? ⟨T, 3, none⟩ = some (.int .i64 a)))
  clear hL hF hw1 hT hR
  unfold WorksPost
  go_enter Tryz.func3, Tryz.ntmps3
  go_upto_region 1 with (fail)
  rw [← HW.out, ← HT.out]
  by_cases hl : 16777216 < x.size
  · have HLO := Lib.hid (fun W => same' (long_yes (x.size : Int) (by omega) W))
    go_quiet ((go_at_call 6; exact Calls.quiet_of_same (HLO.out _)))
    go_wp2_with fail
    go_ret
    exact ⟨rfl, G.bl_drewN HB1.out _⟩
  · have HX := Lib.hid (show x.size ≤ 16777216 by omega)
    have HLO := Lib.hid (fun W => long_no (x.size : Int) (by omega) W)
    have hB0 : Below w1.heap.size w1 w1.drew := (Below.refl _ _).drew
    go_region_held3 (fun W => W.cell? ⟨T, 0, none⟩ = some (.int .i8 k) ∧ W.cell? ⟨T, 1, none⟩ = some (.string x) ∧ W.cell? ⟨T, 2, none⟩ = some (.int .i64 n) ∧ W.cell? ⟨T, 3, none⟩ = some (.int .i64 a)) (first | go_keep | exact HZ.out _ (by assumption)) (first
      | (go_at_call 6; refine (HLO.out _).mono ?_; rintro e wq ⟨rfl, rfl⟩)
      | (go_at_call 7; refine (HT0.out _ HX.out (HL.out _ (by assumption)) (HF.out _ (by assumption))).mono ?_; rintro e w2 he; unfold StrPost at he; obtain ⟨rfl, hb2⟩ := he; have hBA := G.bl_trans (by assumption : Below w1.heap.size w1 _) hb2; clear hb2)
      | (go_at_call 8; refine (HU0.out _ HX.out (HF.out _ (by assumption))).mono ?_; rintro e w3 he; unfold StrPost at he; obtain ⟨rfl, hb3⟩ := he; have hBB := G.bl_trans (by assumption : Below w1.heap.size w1 _) hb3; clear hb3)
      | (go_at_call 9; refine (works_any _ (HL.out _ (by assumption))).mono ?_; rintro e w4 he; unfold WorksPost at he; obtain ⟨rfl, hb4⟩ := he; have hBC := G.bl_trans (by assumption : Below w1.heap.size w1 _) hb4; clear hb4))
    all_goals
      go_wp2_with fail
      go_ret
      exact ⟨rfl, G.bl_trans HB1.out (by assumption)⟩
end Go.Proofs.YtlaikgaepaiigaaGreatDoor.K

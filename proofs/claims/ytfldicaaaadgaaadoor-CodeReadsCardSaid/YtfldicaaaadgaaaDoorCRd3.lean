/- The contract of code.Read at an opcode of kind 3 (printed by genread.py). -/
import Derived.Test.YtfldicaaaadgaaaDoorCOf
import Derived.Test.YtfldicaaaadgaaaDoorCRead
import Derived.Deep.RegionWith
import Derived.Deep.QuietTactic
import Derived.BigQuiet
namespace Go.Proofs.YtfldicaaaadgaaaDoor.Code
open Go.RowKit
set_option linter.unusedVariables false
set_option linter.unusedSimpArgs false
set_option maxHeartbeats 1000000 in
theorem Read_ok3 (b off n cap i : Nat) (op x y p q : Int) (w : World) (hm : cap ≤ 9223372036854775807) (hnc : n ≤ cap) (hi : i + 4 < n) (hb : b < w.heap.size) (hc : w.cell? ⟨b, off + i, none⟩ = some (.int .u8 op)) (hk : kindOf op = 3) (hx0 : 0 ≤ x) (hx1 : x < 256) (hcx : w.cell? ⟨b, off + (i + 1), none⟩ = some (.int .u8 x)) (hy0 : 0 ≤ y) (hy1 : y < 256) (hcy : w.cell? ⟨b, off + (i + 1) + 1, none⟩ = some (.int .u8 y)) (hp0 : 0 ≤ p) (hp1 : p < 256) (hcp : w.cell? ⟨b, off + (i + 1) + 2, none⟩ = some (.int .u8 p)) (hq0 : 0 ≤ q) (hq1 : q < 256) (hcq : w.cell? ⟨b, off + (i + 1) + 2 + 1, none⟩ = some (.int .u8 q)) :
    Calls Tryd.prog 10 #[.slice (some ⟨b, off, none⟩) n cap, .int .i64 (i : Int)] w fun e w' => e = .returned (.tuple #[(Ins.mk i op x y (p * 256 + q)).val, .int .i64 0]) ∧ Below w.heap.size w w' := by
  have HK := Lib.hid hk
  clear hk
  have h1 : ¬ (n : Int) ≤ i := by omega
  have h2 : (i : Int) + 1 ≤ n := by omega
  have h3 : ¬ (n : Int) - i - 1 < width 3 := by unfold width; simp; omega
  have e69 : fnOf 3 = 73 := rfl
  go_enter Tryd.func10, Tryd.ntmps10
  go_wp2_with (first | (go_at_call 32; refine (of_yes _ 3 _ HK.out (by omega)).mono ?_; rintro e w1 ⟨rfl, hb1⟩; obtain ⟨hc1, hf1⟩ := bcell hb1; have hz : w.heap.size < w1.heap.size := (by have := hb1.size; simp at this; omega); have hbz : b < w1.heap.size := (by omega); have hB1 := Bl.tr (Bl.al (Below.refl _ w) _) hb1; have hci := (hB1.cell (p := ⟨b, off + i, none⟩) hb).trans hc) | (go_at_call 33; refine (size_any _ _).mono ?_; rintro e w' ⟨rfl, rfl⟩))
  have hz0 : ¬ b = w1.heap.size := by omega
  have g1 : (IntKind.i64.wrap ((i : Int) + 1)) = (i : Int) + 1 := IntWalk.i64_in _ (by omega)
  have g2 : (0 : Int) ≤ (i : Int) + 1 := by omega
  have g3 : ((i : Int) + 1).toNat = i + 1 := by omega
  have hz2 : w.heap.size < w1.heap.size + 1 := by omega
  have hz3 : ¬ w.heap.size = w1.heap.size + 1 := by omega
  have hz4 : ¬ w1.heap.size + 1 = w.heap.size := by omega
  have hz5 : w.heap.size < w1.heap.size + 1 + 1 := by omega
  have hbz2 : b < w1.heap.size + 1 := by omega
  have hdx := (hB1.cell (p := ⟨b, off + (i + 1), none⟩) hb).trans hcx
  have hdy := (hB1.cell (p := ⟨b, off + (i + 1) + 1, none⟩) hb).trans hcy
  have hdp := (hB1.cell (p := ⟨b, off + (i + 1) + 2, none⟩) hb).trans hcp
  have hdq := (hB1.cell (p := ⟨b, off + (i + 1) + 2 + 1, none⟩) hb).trans hcq
  have hce : ¬ cap = i + 1 := by omega
  go_region_with (go_at_call 73; refine (of4_any _ _ _ _ x y p q _ (by omega) (by omega) hx0 hx1 hy0 hy1 hp0 hp1 hq0 hq1 (by simp [go_sem, hbz, hbz2, hdx]) (by simp [go_sem, hbz, hbz2, hdy]) (by simp [go_sem, hbz, hbz2, hdp]) (by simp [go_sem, hbz, hbz2, hdq])).mono ?_; rintro e w' ⟨rfl, m, rfl⟩)
  all_goals go_wp2
  all_goals exact bodyPost_ret (v := .tuple #[(Ins.mk i op x y (p * 256 + q)).val, .int .i64 0]) (by simp [results, Tryd.results10, go_sem, Ins.val, hc1, hz, hz2, hz3, hz4, hz5]) rfl ⟨rfl, by repeat (first | (with_reducible apply Bl.al) | (with_reducible apply Bl.dn) | (with_reducible refine Bl.sc ?_ (by simp; try omega) _) | (with_reducible exact hB1))⟩
end Go.Proofs.YtfldicaaaadgaaaDoor.Code

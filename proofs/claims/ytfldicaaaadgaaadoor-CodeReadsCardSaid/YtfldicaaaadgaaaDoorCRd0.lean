/- The contract of code.Read at an opcode of kind 0 (printed by genread.py). -/
import Derived.Test.YtfldicaaaadgaaaDoorCOf
import Derived.Test.YtfldicaaaadgaaaDoorCRead
import Derived.Deep.RegionWith
import Derived.Deep.QuietTactic
import Derived.BigQuiet
namespace Go.Proofs.YtfldicaaaadgaaaDoor.Code
open Go.RowKit
set_option linter.unusedVariables false
set_option linter.unusedSimpArgs false
set_option maxHeartbeats 1000000 in
theorem Read_ok0 (b off n cap i : Nat) (op : Int) (w : World) (hm : cap ≤ 9223372036854775807) (hnc : n ≤ cap) (hi : i + 0 < n) (hb : b < w.heap.size) (hc : w.cell? ⟨b, off + i, none⟩ = some (.int .u8 op)) (hk : kindOf op = 0) :
    Calls Tryd.prog 10 #[.slice (some ⟨b, off, none⟩) n cap, .int .i64 (i : Int)] w fun e w' => e = .returned (.tuple #[(Ins.mk i op 0 0 0).val, .int .i64 0]) ∧ Below w.heap.size w w' := by
  have HK := Lib.hid hk
  clear hk
  have h1 : ¬ (n : Int) ≤ i := by omega
  have h2 : (i : Int) + 1 ≤ n := by omega
  have h3 : ¬ (n : Int) - i - 1 < width 0 := by unfold width; simp; omega
  have e69 : fnOf 0 = 69 := rfl
  go_enter Tryd.func10, Tryd.ntmps10
  go_wp2_with (first | (go_at_call 32; refine (of_yes _ 0 _ HK.out (by omega)).mono ?_; rintro e w1 ⟨rfl, hb1⟩; obtain ⟨hc1, hf1⟩ := bcell hb1; have hz : w.heap.size < w1.heap.size := (by have := hb1.size; simp at this; omega); have hbz : b < w1.heap.size := (by omega); have hB1 := Bl.tr (Bl.al (Below.refl _ w) _) hb1; have hci := (hB1.cell (p := ⟨b, off + i, none⟩) hb).trans hc) | (go_at_call 33; refine (size_any _ _).mono ?_; rintro e w' ⟨rfl, rfl⟩))
  have hz0 : ¬ b = w1.heap.size := by omega
  have g1 : (IntKind.i64.wrap ((i : Int) + 1)) = (i : Int) + 1 := IntWalk.i64_in _ (by omega)
  have g2 : (0 : Int) ≤ (i : Int) + 1 := by omega
  have g3 : ((i : Int) + 1).toNat = i + 1 := by omega
  have hz2 : w.heap.size < w1.heap.size + 1 := by omega
  have hz3 : ¬ w.heap.size = w1.heap.size + 1 := by omega
  have hz4 : ¬ w1.heap.size + 1 = w.heap.size := by omega
  have hz5 : w.heap.size < w1.heap.size + 1 + 1 := by omega
  by_cases hce : cap = i + 1
  all_goals
    go_region_with (go_at_call 69; refine (of1_any _ _).mono ?_; rintro e w' ⟨rfl, m, rfl⟩)
    all_goals go_wp2
    all_goals exact bodyPost_ret (v := .tuple #[(Ins.mk i op 0 0 0).val, .int .i64 0]) (by simp [results, Tryd.results10, go_sem, Ins.val, hc1, hz, hz2, hz3, hz4, hz5]) rfl ⟨rfl, by repeat (first | (with_reducible apply Bl.al) | (with_reducible apply Bl.dn) | (with_reducible refine Bl.sc ?_ (by simp; try omega) _) | (with_reducible exact hB1))⟩
end Go.Proofs.YtfldicaaaadgaaaDoor.Code

/- The contract of code.Read where it refuses. -/
import Derived.Test.YtfldicaaaadgaaaGreatDoorCOf
import Derived.Test.YtfldicaaaadgaaaGreatDoorCRead
import Derived.Deep.RegionWith
import Derived.Deep.QuietTactic
import Derived.BigQuiet
namespace Go.Proofs.YtfldicaaaadgaaaGreatDoor.Code
open Go.RowKit
set_option linter.unusedVariables false
set_option linter.unusedSimpArgs false
set_option maxHeartbeats 400000 in
theorem Read_out (ao : Option Addr) (n cap : Nat) (at_ : Int) (w : World) (hm : n ≤ 9223372036854775807) (h : at_ < 0 ∨ (n : Int) ≤ at_) :
    Calls Tryz.prog 10 #[.slice ao n cap, .int .i64 at_] w fun e w' => e = .returned (.tuple #[zeroIns.val, .int .i64 1]) ∧ Below w.heap.size w w' := by
  rcases h with h | h
  · go_enter Tryz.func10, Tryz.ntmps10
    go_wp2
    exact bodyPost_ret (v := .tuple #[zeroIns.val, .int .i64 1]) (by simp [results, Tryz.results10, go_sem, zeroIns, Ins.val]) rfl ⟨rfl, by repeat (first | exact Below.refl _ _ | apply Bl.al)⟩
  · have h' : ¬ at_ < 0 := by omega
    go_enter Tryz.func10, Tryz.ntmps10
    go_wp2
    exact bodyPost_ret (v := .tuple #[zeroIns.val, .int .i64 1]) (by simp [results, Tryz.results10, go_sem, zeroIns, Ins.val]) rfl ⟨rfl, by repeat (first | exact Below.refl _ _ | apply Bl.al)⟩
set_option maxHeartbeats 400000 in
theorem Read_no (b off n cap i : Nat) (op : Int) (w : World) (hm : n ≤ 9223372036854775807) (hi : i < n) (hb : b < w.heap.size) (hc : w.cell? ⟨b, off + i, none⟩ = some (.int .u8 op)) (hk : kindOf op < 0) :
    Calls Tryz.prog 10 #[.slice (some ⟨b, off, none⟩) n cap, .int .i64 (i : Int)] w fun e w' => e = .returned (.tuple #[zeroIns.val, .int .i64 40]) ∧ Below w.heap.size w w' := by
  have HK := Lib.hid hk
  clear hk
  have h1 : ¬ (n : Int) ≤ i := by omega
  go_enter Tryz.func10, Tryz.ntmps10
  go_wp2_with (go_at_call 40; refine (of_no _ _ HK.out).mono ?_; rintro e w1 ⟨rfl, hb1⟩; obtain ⟨hc1, hf1⟩ := bcell hb1; have hz : w.heap.size < w1.heap.size := by (have := hb1.size; simp at this; omega))
  exact bodyPost_ret (v := .tuple #[zeroIns.val, .int .i64 40]) (by simp [results, Tryz.results10, go_sem, zeroIns, Ins.val, hc1, hz]) rfl
    ⟨rfl, by repeat (first | (with_reducible apply Bl.al) | (with_reducible refine Bl.sc ?_ (by simp) _) | (with_reducible exact Bl.tr (Bl.al (Below.refl _ _) _) hb1))⟩
set_option maxHeartbeats 1000000 in
theorem Read_cut (b off n cap i : Nat) (op k : Int) (w : World) (hm : n ≤ 9223372036854775807) (hi : i < n) (hb : b < w.heap.size) (hc : w.cell? ⟨b, off + i, none⟩ = some (.int .u8 op)) (hk : kindOf op = k) (hk4 : k = 0 ∨ k = 1 ∨ k = 2 ∨ k = 3)
    (hw : (n : Int) - i - 1 < width k) :
    Calls Tryz.prog 10 #[.slice (some ⟨b, off, none⟩) n cap, .int .i64 (i : Int)] w fun e w' => e = .returned (.tuple #[zeroIns.val, .int .i64 41]) ∧ Below w.heap.size w w' := by
  have HK := Lib.hid hk
  clear hk
  have h1 : ¬ (n : Int) ≤ i := by omega
  go_enter Tryz.func10, Tryz.ntmps10
  go_wp2_with (first | (go_at_call 40; refine (of_yes _ k _ HK.out hk4).mono ?_; rintro e w1 ⟨rfl, hb1⟩; obtain ⟨hc1, hf1⟩ := bcell hb1; have hz : w.heap.size < w1.heap.size := by (have := hb1.size; simp at this; omega)) | (go_at_call 41; refine (size_any _ _).mono ?_; rintro e w' ⟨rfl, rfl⟩))
  exact bodyPost_ret (v := .tuple #[zeroIns.val, .int .i64 41]) (by simp [results, Tryz.results10, go_sem, zeroIns, Ins.val, hc1, hz]) rfl
    ⟨rfl, by repeat (first | (with_reducible apply Bl.al) | (with_reducible refine Bl.sc ?_ (by simp) _) | (with_reducible exact Bl.tr (Bl.al (Below.refl _ _) _) hb1))⟩
end Go.Proofs.YtfldicaaaadgaaaGreatDoor.Code

/- The contract of code.Read at every place of bytes. -/
import Derived.Test.YtfldicaaaadgaaaGreatDoorCOf
import Derived.Test.YtfldicaaaadgaaaGreatDoorCRead
import Derived.Deep.RegionWith
import Derived.Deep.QuietTactic
import Derived.BigQuiet
import Derived.Test.YtfldicaaaadgaaaGreatDoorCReadA
namespace Go.Proofs.YtfldicaaaadgaaaGreatDoor.Code
section
open Go.RowKit
set_option linter.unusedVariables false
set_option linter.unusedSimpArgs false
set_option maxHeartbeats 1000000 in
theorem Read_ok0 (b off n cap i : Nat) (op : Int) (w : World) (hm : cap ≤ 9223372036854775807) (hnc : n ≤ cap) (hi : i + 0 < n) (hb : b < w.heap.size) (hc : w.cell? ⟨b, off + i, none⟩ = some (.int .u8 op)) (hk : kindOf op = 0) :
    Calls Tryz.prog 10 #[.slice (some ⟨b, off, none⟩) n cap, .int .i64 (i : Int)] w fun e w' => e = .returned (.tuple #[(Ins.mk i op 0 0 0).val, .int .i64 0]) ∧ Below w.heap.size w w' := by
  have HK := Lib.hid hk
  clear hk
  have h1 : ¬ (n : Int) ≤ i := by omega
  have h2 : (i : Int) + 1 ≤ n := by omega
  have h3 : ¬ (n : Int) - i - 1 < width 0 := by unfold width; simp; omega
  have e69 : fnOf 0 = 62 := rfl
  go_enter Tryz.func10, Tryz.ntmps10
  go_wp2_with (first | (go_at_call 40; refine (of_yes _ 0 _ HK.out (by omega)).mono ?_; rintro e w1 ⟨rfl, hb1⟩; obtain ⟨hc1, hf1⟩ := bcell hb1; have hz : w.heap.size < w1.heap.size := (by have := hb1.size; simp at this; omega); have hbz : b < w1.heap.size := (by omega); have hB1 := Bl.tr (Bl.al (Below.refl _ w) _) hb1; have hci := (hB1.cell (p := ⟨b, off + i, none⟩) hb).trans hc) | (go_at_call 41; refine (size_any _ _).mono ?_; rintro e w' ⟨rfl, rfl⟩))
  have hz0 : ¬ b = w1.heap.size := by omega
  have g1 : (IntKind.i64.wrap ((i : Int) + 1)) = (i : Int) + 1 := IntWalk.i64_in _ (by omega)
  have g2 : (0 : Int) ≤ (i : Int) + 1 := by omega
  have g3 : ((i : Int) + 1).toNat = i + 1 := by omega
  have hz2 : w.heap.size < w1.heap.size + 1 := by omega
  have hz3 : ¬ w.heap.size = w1.heap.size + 1 := by omega
  have hz4 : ¬ w1.heap.size + 1 = w.heap.size := by omega
  have hz5 : w.heap.size < w1.heap.size + 1 + 1 := by omega
  by_cases hce : cap = i + 1
  all_goals
    go_region_with (go_at_call 62; refine (of1_any _ _).mono ?_; rintro e w' ⟨rfl, m, rfl⟩)
    all_goals go_wp2
    all_goals exact bodyPost_ret (v := .tuple #[(Ins.mk i op 0 0 0).val, .int .i64 0]) (by simp [results, Tryz.results10, go_sem, Ins.val, hc1, hz, hz2, hz3, hz4, hz5]) rfl ⟨rfl, by repeat (first | (with_reducible apply Bl.al) | (with_reducible apply Bl.dn) | (with_reducible refine Bl.sc ?_ (by simp; try omega) _) | (with_reducible exact hB1))⟩
end
section
open Go.RowKit
set_option linter.unusedVariables false
set_option linter.unusedSimpArgs false
set_option maxHeartbeats 1000000 in
theorem Read_ok1 (b off n cap i : Nat) (op x : Int) (w : World) (hm : cap ≤ 9223372036854775807) (hnc : n ≤ cap) (hi : i + 1 < n) (hb : b < w.heap.size) (hc : w.cell? ⟨b, off + i, none⟩ = some (.int .u8 op)) (hk : kindOf op = 1) (hx0 : 0 ≤ x) (hx1 : x < 256) (hcx : w.cell? ⟨b, off + (i + 1), none⟩ = some (.int .u8 x)) :
    Calls Tryz.prog 10 #[.slice (some ⟨b, off, none⟩) n cap, .int .i64 (i : Int)] w fun e w' => e = .returned (.tuple #[(Ins.mk i op x 0 0).val, .int .i64 0]) ∧ Below w.heap.size w w' := by
  have HK := Lib.hid hk
  clear hk
  have h1 : ¬ (n : Int) ≤ i := by omega
  have h2 : (i : Int) + 1 ≤ n := by omega
  have h3 : ¬ (n : Int) - i - 1 < width 1 := by unfold width; simp; omega
  have e69 : fnOf 1 = 63 := rfl
  go_enter Tryz.func10, Tryz.ntmps10
  go_wp2_with (first | (go_at_call 40; refine (of_yes _ 1 _ HK.out (by omega)).mono ?_; rintro e w1 ⟨rfl, hb1⟩; obtain ⟨hc1, hf1⟩ := bcell hb1; have hz : w.heap.size < w1.heap.size := (by have := hb1.size; simp at this; omega); have hbz : b < w1.heap.size := (by omega); have hB1 := Bl.tr (Bl.al (Below.refl _ w) _) hb1; have hci := (hB1.cell (p := ⟨b, off + i, none⟩) hb).trans hc) | (go_at_call 41; refine (size_any _ _).mono ?_; rintro e w' ⟨rfl, rfl⟩))
  have hz0 : ¬ b = w1.heap.size := by omega
  have g1 : (IntKind.i64.wrap ((i : Int) + 1)) = (i : Int) + 1 := IntWalk.i64_in _ (by omega)
  have g2 : (0 : Int) ≤ (i : Int) + 1 := by omega
  have g3 : ((i : Int) + 1).toNat = i + 1 := by omega
  have hz2 : w.heap.size < w1.heap.size + 1 := by omega
  have hz3 : ¬ w.heap.size = w1.heap.size + 1 := by omega
  have hz4 : ¬ w1.heap.size + 1 = w.heap.size := by omega
  have hz5 : w.heap.size < w1.heap.size + 1 + 1 := by omega
  have hbz2 : b < w1.heap.size + 1 := by omega
  have hdx := (hB1.cell (p := ⟨b, off + (i + 1), none⟩) hb).trans hcx
  have hce : ¬ cap = i + 1 := by omega
  go_region_with (go_at_call 63; refine (of2_any _ _ _ _ x _ (by omega) hx0 hx1 (by simp [go_sem, hbz, hbz2, hdx])).mono ?_; rintro e w' ⟨rfl, m, rfl⟩)
  all_goals go_wp2
  all_goals exact bodyPost_ret (v := .tuple #[(Ins.mk i op x 0 0).val, .int .i64 0]) (by simp [results, Tryz.results10, go_sem, Ins.val, hc1, hz, hz2, hz3, hz4, hz5]) rfl ⟨rfl, by repeat (first | (with_reducible apply Bl.al) | (with_reducible apply Bl.dn) | (with_reducible refine Bl.sc ?_ (by simp; try omega) _) | (with_reducible exact hB1))⟩
end
section
open Go.RowKit
set_option linter.unusedVariables false
set_option linter.unusedSimpArgs false
set_option maxHeartbeats 1000000 in
theorem Read_ok2 (b off n cap i : Nat) (op x y : Int) (w : World) (hm : cap ≤ 9223372036854775807) (hnc : n ≤ cap) (hi : i + 2 < n) (hb : b < w.heap.size) (hc : w.cell? ⟨b, off + i, none⟩ = some (.int .u8 op)) (hk : kindOf op = 2) (hx0 : 0 ≤ x) (hx1 : x < 256) (hcx : w.cell? ⟨b, off + (i + 1), none⟩ = some (.int .u8 x)) (hy0 : 0 ≤ y) (hy1 : y < 256) (hcy : w.cell? ⟨b, off + (i + 1) + 1, none⟩ = some (.int .u8 y)) :
    Calls Tryz.prog 10 #[.slice (some ⟨b, off, none⟩) n cap, .int .i64 (i : Int)] w fun e w' => e = .returned (.tuple #[(Ins.mk i op (x * 256 + y) 0 0).val, .int .i64 0]) ∧ Below w.heap.size w w' := by
  have HK := Lib.hid hk
  clear hk
  have h1 : ¬ (n : Int) ≤ i := by omega
  have h2 : (i : Int) + 1 ≤ n := by omega
  have h3 : ¬ (n : Int) - i - 1 < width 2 := by unfold width; simp; omega
  have e69 : fnOf 2 = 64 := rfl
  go_enter Tryz.func10, Tryz.ntmps10
  go_wp2_with (first | (go_at_call 40; refine (of_yes _ 2 _ HK.out (by omega)).mono ?_; rintro e w1 ⟨rfl, hb1⟩; obtain ⟨hc1, hf1⟩ := bcell hb1; have hz : w.heap.size < w1.heap.size := (by have := hb1.size; simp at this; omega); have hbz : b < w1.heap.size := (by omega); have hB1 := Bl.tr (Bl.al (Below.refl _ w) _) hb1; have hci := (hB1.cell (p := ⟨b, off + i, none⟩) hb).trans hc) | (go_at_call 41; refine (size_any _ _).mono ?_; rintro e w' ⟨rfl, rfl⟩))
  have hz0 : ¬ b = w1.heap.size := by omega
  have g1 : (IntKind.i64.wrap ((i : Int) + 1)) = (i : Int) + 1 := IntWalk.i64_in _ (by omega)
  have g2 : (0 : Int) ≤ (i : Int) + 1 := by omega
  have g3 : ((i : Int) + 1).toNat = i + 1 := by omega
  have hz2 : w.heap.size < w1.heap.size + 1 := by omega
  have hz3 : ¬ w.heap.size = w1.heap.size + 1 := by omega
  have hz4 : ¬ w1.heap.size + 1 = w.heap.size := by omega
  have hz5 : w.heap.size < w1.heap.size + 1 + 1 := by omega
  have hbz2 : b < w1.heap.size + 1 := by omega
  have hdx := (hB1.cell (p := ⟨b, off + (i + 1), none⟩) hb).trans hcx
  have hdy := (hB1.cell (p := ⟨b, off + (i + 1) + 1, none⟩) hb).trans hcy
  have hce : ¬ cap = i + 1 := by omega
  go_region_with (go_at_call 64; refine (of3_any _ _ _ _ x y _ (by omega) hx0 hx1 hy0 hy1 (by simp [go_sem, hbz, hbz2, hdx]) (by simp [go_sem, hbz, hbz2, hdy])).mono ?_; rintro e w' ⟨rfl, m, rfl⟩)
  all_goals go_wp2
  all_goals exact bodyPost_ret (v := .tuple #[(Ins.mk i op (x * 256 + y) 0 0).val, .int .i64 0]) (by simp [results, Tryz.results10, go_sem, Ins.val, hc1, hz, hz2, hz3, hz4, hz5]) rfl ⟨rfl, by repeat (first | (with_reducible apply Bl.al) | (with_reducible apply Bl.dn) | (with_reducible refine Bl.sc ?_ (by simp; try omega) _) | (with_reducible exact hB1))⟩
end
section
open Go.RowKit
set_option linter.unusedVariables false
set_option linter.unusedSimpArgs false
set_option maxHeartbeats 1000000 in
theorem Read_ok3 (b off n cap i : Nat) (op x y p q : Int) (w : World) (hm : cap ≤ 9223372036854775807) (hnc : n ≤ cap) (hi : i + 4 < n) (hb : b < w.heap.size) (hc : w.cell? ⟨b, off + i, none⟩ = some (.int .u8 op)) (hk : kindOf op = 3) (hx0 : 0 ≤ x) (hx1 : x < 256) (hcx : w.cell? ⟨b, off + (i + 1), none⟩ = some (.int .u8 x)) (hy0 : 0 ≤ y) (hy1 : y < 256) (hcy : w.cell? ⟨b, off + (i + 1) + 1, none⟩ = some (.int .u8 y)) (hp0 : 0 ≤ p) (hp1 : p < 256) (hcp : w.cell? ⟨b, off + (i + 1) + 2, none⟩ = some (.int .u8 p)) (hq0 : 0 ≤ q) (hq1 : q < 256) (hcq : w.cell? ⟨b, off + (i + 1) + 2 + 1, none⟩ = some (.int .u8 q)) :
    Calls Tryz.prog 10 #[.slice (some ⟨b, off, none⟩) n cap, .int .i64 (i : Int)] w fun e w' => e = .returned (.tuple #[(Ins.mk i op x y (p * 256 + q)).val, .int .i64 0]) ∧ Below w.heap.size w w' := by
  have HK := Lib.hid hk
  clear hk
  have h1 : ¬ (n : Int) ≤ i := by omega
  have h2 : (i : Int) + 1 ≤ n := by omega
  have h3 : ¬ (n : Int) - i - 1 < width 3 := by unfold width; simp; omega
  have e69 : fnOf 3 = 66 := rfl
  go_enter Tryz.func10, Tryz.ntmps10
  go_wp2_with (first | (go_at_call 40; refine (of_yes _ 3 _ HK.out (by omega)).mono ?_; rintro e w1 ⟨rfl, hb1⟩; obtain ⟨hc1, hf1⟩ := bcell hb1; have hz : w.heap.size < w1.heap.size := (by have := hb1.size; simp at this; omega); have hbz : b < w1.heap.size := (by omega); have hB1 := Bl.tr (Bl.al (Below.refl _ w) _) hb1; have hci := (hB1.cell (p := ⟨b, off + i, none⟩) hb).trans hc) | (go_at_call 41; refine (size_any _ _).mono ?_; rintro e w' ⟨rfl, rfl⟩))
  have hz0 : ¬ b = w1.heap.size := by omega
  have g1 : (IntKind.i64.wrap ((i : Int) + 1)) = (i : Int) + 1 := IntWalk.i64_in _ (by omega)
  have g2 : (0 : Int) ≤ (i : Int) + 1 := by omega
  have g3 : ((i : Int) + 1).toNat = i + 1 := by omega
  have hz2 : w.heap.size < w1.heap.size + 1 := by omega
  have hz3 : ¬ w.heap.size = w1.heap.size + 1 := by omega
  have hz4 : ¬ w1.heap.size + 1 = w.heap.size := by omega
  have hz5 : w.heap.size < w1.heap.size + 1 + 1 := by omega
  have hbz2 : b < w1.heap.size + 1 := by omega
  have hdx := (hB1.cell (p := ⟨b, off + (i + 1), none⟩) hb).trans hcx
  have hdy := (hB1.cell (p := ⟨b, off + (i + 1) + 1, none⟩) hb).trans hcy
  have hdp := (hB1.cell (p := ⟨b, off + (i + 1) + 2, none⟩) hb).trans hcp
  have hdq := (hB1.cell (p := ⟨b, off + (i + 1) + 2 + 1, none⟩) hb).trans hcq
  have hce : ¬ cap = i + 1 := by omega
  go_region_with (go_at_call 66; refine (of4_any _ _ _ _ x y p q _ (by omega) (by omega) hx0 hx1 hy0 hy1 hp0 hp1 hq0 hq1 (by simp [go_sem, hbz, hbz2, hdx]) (by simp [go_sem, hbz, hbz2, hdy]) (by simp [go_sem, hbz, hbz2, hdp]) (by simp [go_sem, hbz, hbz2, hdq])).mono ?_; rintro e w' ⟨rfl, m, rfl⟩)
  all_goals go_wp2
  all_goals exact bodyPost_ret (v := .tuple #[(Ins.mk i op x y (p * 256 + q)).val, .int .i64 0]) (by simp [results, Tryz.results10, go_sem, Ins.val, hc1, hz, hz2, hz3, hz4, hz5]) rfl ⟨rfl, by repeat (first | (with_reducible apply Bl.al) | (with_reducible apply Bl.dn) | (with_reducible refine Bl.sc ?_ (by simp; try omega) _) | (with_reducible exact hB1))⟩
end
section
open Go.RowKit
set_option linter.unusedVariables false
set_option linter.unusedSimpArgs false
theorem Read_any (b off cap : Nat) (zs : List Int) (at_ : Int) (w : World) (hm : cap ≤ 9223372036854775807) (hnc : zs.length ≤ cap) (hr : RdI w .u8 b off zs) (hz : IsBytes zs) :
    Calls Tryz.prog 10 #[.slice (some ⟨b, off, none⟩) zs.length cap, .int .i64 at_] w fun e w' => e = .returned (.tuple #[(readAt zs at_).1.val, .int .i64 (readAt zs at_).2]) ∧ Below w.heap.size w w' := by
  by_cases ho : at_ < 0 ∨ (zs.length : Int) ≤ at_
  · have e : readAt zs at_ = (zeroIns, 1) := by unfold readAt; rw [if_pos ho]
    rw [e]
    exact Read_out _ _ _ _ w (by omega) ho
  · obtain ⟨i, rfl⟩ := Int.eq_ofNat_of_zero_le (show 0 ≤ at_ by omega)
    have hi : i < zs.length := by omega
    have hc := hr.2 i hi
    have hop := hz i
    unfold readAt
    rw [if_neg ho]
    simp only [Int.toNat_natCast]
    generalize hopv : zs.getD i 0 = op at *
    have hc' : ∀ d, i + d < zs.length → w.cell? ⟨b, off + (i + d), none⟩ = some (.int .u8 (zs.getD (i + d) 0)) := fun d hd => hr.2 (i + d) hd
    by_cases hk0 : kindOf op < 0
    · rw [if_pos hk0]
      exact Read_no _ _ _ _ _ op w (by omega) hi hr.1 hc hk0
    · rw [if_neg hk0]
      have hk := kind_or op hop.1 hop.2
      have hw := width_le (kindOf op)
      by_cases hcut : (zs.length : Int) - i - 1 < width (kindOf op)
      · rw [if_pos hcut]
        exact Read_cut _ _ _ _ _ op _ w (by omega) hi hr.1 hc rfl (by omega) hcut
      · rw [if_neg hcut]
        rcases hk with hk | hk | hk | hk | hk
        · omega
        · simp only [hk]
          exact Read_ok0 _ _ _ _ _ op w hm hnc (by omega) hr.1 hc hk
        · simp only [hk] at hcut ⊢
          have hwd : width 1 = 1 := rfl
          rw [hwd] at hcut
          exact Read_ok1 _ _ _ _ _ op _ w hm hnc (by omega) hr.1 hc hk (hz _).1 (hz _).2 (hc' 1 (by omega))
        · simp only [hk] at hcut ⊢
          have hwd : width 2 = 2 := rfl
          rw [hwd] at hcut
          exact Read_ok2 _ _ _ _ _ op _ _ w hm hnc (by omega) hr.1 hc hk (hz _).1 (hz _).2 (hc' 1 (by omega)) (hz _).1 (hz _).2 (hc' 2 (by omega))
        · simp only [hk] at hcut ⊢
          have hwd : width 3 = 4 := rfl
          rw [hwd] at hcut
          exact Read_ok3 _ _ _ _ _ op _ _ _ _ w hm hnc (by omega) hr.1 hc hk (hz _).1 (hz _).2 (hc' 1 (by omega)) (hz _).1 (hz _).2 (hc' 2 (by omega)) (hz _).1 (hz _).2 (hc' 3 (by omega)) (hz _).1 (hz _).2 (hc' 4 (by omega))
end
end Go.Proofs.YtfldicaaaadgaaaGreatDoor.Code

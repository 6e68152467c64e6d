/- Two lists of ints are compared: the contract of tableauref00.EqInts. -/
import Derived.Test.YtofgmijmhpmabaaGreatDoorEqInt
namespace Go.Proofs.YtofgmijmhpmabaaGreatDoor.G
open Go Go.RowKit
set_option linter.unusedVariables false
set_option linter.unusedSimpArgs false
set_option maxHeartbeats 400000 in
theorem eqInts_any (A B : Option Addr) (n m c d : Nat) (xs ys : List Int) (w : World) (hx : RdS w A 1 n (xs.map (Value.int .i64))) (hy : RdS w B 1 m (ys.map (Value.int .i64))) (hn : n ≤ maxLen) (hm : m ≤ maxLen) :
    Calls Tryz.prog 46 #[.slice A n c, .slice B m d] w fun e w' => e = .returned (.bool (decide (xs = ys))) ∧ ∃ k, w' = w.drewN k := by
  have hxl : xs.length = n := by simpa using hx.1
  have hyl : ys.length = m := by simpa using hy.1
  unfold maxLen at hn hm
  by_cases hnm : n = m
  · subst hnm
    have HX := Lib.hid hx
    have HY := Lib.hid hy
    have HXL := Lib.hid hxl
    have HYL := Lib.hid hyl
    clear hx hy hxl hyl hm
    go_enter Tryz.func46, Tryz.ntmps46
    go_wp2
    go_loopw [5] (fun i wr => ∃ k : Nat, k ≤ n ∧ i = .int .i64 k ∧ xs.take k = ys.take k ∧ ∃ q, wr = w.drewN q) (fun i _ => n - (intOf i).toNat)
    case atStart => exact ⟨0, Nat.zero_le _, rfl, rfl, 0, rfl⟩
    case round =>
      obtain ⟨k, hk, rfl, htk, q, rfl⟩ := hrel
      have HTK := Lib.hid htk
      clear htk
      by_cases hlt : k < n
      · obtain ⟨b, off, rfl, hb⟩ := HX.out.2 (by omega)
        obtain ⟨b2, off2, rfl, hb2⟩ := HY.out.2 (by omega)
        have hc1 := hb.int (j := k) (by rw [HXL.out]; exact hlt)
        have hc2 := hb2.int (j := k) (by rw [HYL.out]; exact hlt)
        have h0 : (k : Int) < n := by omega
        have h1 : (0 : Int) ≤ k := by omega
        by_cases he : xs.getD k 0 = ys.getD k 0
        · have hsu := Lib.hid (take_eq_succ HTK.out (by rw [HXL.out]; exact hlt) (by rw [HYL.out]; exact hlt) he)
          rw [← he] at hc2
          clear he hb hb2
          generalize xs.getD k 0 = z at *
          go_wp2
          go_quiet (fail)
          go_wp2
          go_roundw
          case rel => exact ⟨k + 1, by omega, by go_num, hsu.out, _, rfl⟩
          case measure => simp [intOf]; omega
        · have hne : decide (xs = ys) = false := by
            simp only [decide_eq_false_iff_not]
            rintro rfl
            exact he rfl
          have HNE := Lib.hid hne
          generalize xs.getD k 0 = z at *
          generalize ys.getD k 0 = y at *
          have he1 : (z == y) = false := by simpa using he
          have he2 : (z != y) = true := by simpa using he
          clear he hne hb hb2
          go_wp2
          go_quiet (fail)
          go_wp2
          go_ret
          exact ⟨(ret_bool HNE.out).symm, (by first | exact ⟨_, rfl⟩ | exact ⟨_, World.drewN_drewN ..⟩)⟩
      · have hd : decide (xs = ys) = true := by
          simp only [decide_eq_true_eq]
          have h2 := HTK.out
          rwa [List.take_of_length_le (by rw [HXL.out]; omega), List.take_of_length_le (by rw [HYL.out]; omega)] at h2
        have HD := Lib.hid hd
        clear hd
        go_wp2
        go_ret
        exact ⟨(ret_bool HD.out).symm, _, rfl⟩
  · have hd : decide (xs = ys) = false := by
      simp only [decide_eq_false_iff_not]
      rintro rfl
      omega
    have HD := Lib.hid hd
    clear hd hx hy hxl hyl
    have hnm1 : ((n : Int) == m) = false := by simpa using fun h : (n : Int) = m => hnm (by omega)
    have hnm2 : ((n : Int) != m) = true := by simpa using fun h : (n : Int) = m => hnm (by omega)
    go_enter Tryz.func46, Tryz.ntmps46
    go_wp2
    go_ret
    exact ⟨(ret_bool HD.out).symm, 0, rfl⟩
end Go.Proofs.YtofgmijmhpmabaaGreatDoor.G

/- The contracts of the laws' may, of tableauref00's EqRows and EqState. -/
import Derived.Test.YtofgmijmhpmabaaGreatDoorEqInt
import Derived.Test.YtofgmijmhpmabaaGreatDoorDSizes
import Derived.Test.YtofgmijmhpmabaaGreatDoorDCards
import Derived.Deep.RegionHeld3
namespace Go.Proofs.YtofgmijmhpmabaaGreatDoor.G
open Go Go.RowKit
set_option linter.unusedVariables false
set_option linter.unusedSimpArgs false
set_option maxHeartbeats 400000 in
theorem eqInts_any (A B : Option Addr) (n m c d : Nat) (xs ys : List Int) (w : World) (hx : RdS w A 1 n (xs.map (Value.int .i64))) (hy : RdS w B 1 m (ys.map (Value.int .i64))) (hn : n ≤ maxLen) (hm : m ≤ maxLen) :
    Calls Tryz.prog 46 #[.slice A n c, .slice B m d] w fun e w' => e = .returned (.bool (decide (xs = ys))) ∧ ∃ k, w' = w.drewN k := by
  have hxl : xs.length = n := by simpa using hx.1
  have hyl : ys.length = m := by simpa using hy.1
  unfold maxLen at hn hm
  by_cases hnm : n = m
  · subst hnm
    have HX := Lib.hid hx
    have HY := Lib.hid hy
    have HXL := Lib.hid hxl
    have HYL := Lib.hid hyl
    clear hx hy hxl hyl hm
    go_enter Tryz.func46, Tryz.ntmps46
    go_wp2
    go_loopw [5] (fun i wr => ∃ k : Nat, k ≤ n ∧ i = .int .i64 k ∧ xs.take k = ys.take k ∧ ∃ q, wr = w.drewN q) (fun i _ => n - (intOf i).toNat)
    case atStart => exact ⟨0, Nat.zero_le _, rfl, rfl, 0, rfl⟩
    case round =>
      obtain ⟨k, hk, rfl, htk, q, rfl⟩ := hrel
      have HTK := Lib.hid htk
      clear htk
      by_cases hlt : k < n
      · obtain ⟨b, off, rfl, hb⟩ := HX.out.2 (by omega)
        obtain ⟨b2, off2, rfl, hb2⟩ := HY.out.2 (by omega)
        have hc1 := hb.int (j := k) (by rw [HXL.out]; exact hlt)
        have hc2 := hb2.int (j := k) (by rw [HYL.out]; exact hlt)
        have h0 : (k : Int) < n := by omega
        have h1 : (0 : Int) ≤ k := by omega
        by_cases he : xs.getD k 0 = ys.getD k 0
        · have hsu := Lib.hid (take_eq_succ HTK.out (by rw [HXL.out]; exact hlt) (by rw [HYL.out]; exact hlt) he)
          rw [← he] at hc2
          clear he hb hb2
          generalize xs.getD k 0 = z at *
          go_wp2
          go_quiet (fail)
          go_wp2
          go_roundw
          case rel => exact ⟨k + 1, by omega, by go_num, hsu.out, _, rfl⟩
          case measure => simp [intOf]; omega
        · have hne : decide (xs = ys) = false := by
            simp only [decide_eq_false_iff_not]
            rintro rfl
            exact he rfl
          have HNE := Lib.hid hne
          generalize xs.getD k 0 = z at *
          generalize ys.getD k 0 = y at *
          have he1 : (z == y) = false := by simpa using he
          have he2 : (z != y) = true := by simpa using he
          clear he hne hb hb2
          go_wp2
          go_quiet (fail)
          go_wp2
          go_ret
          exact ⟨(ret_bool HNE.out).symm, (by first | exact ⟨_, rfl⟩ | exact ⟨_, World.drewN_drewN ..⟩)⟩
      · have hd : decide (xs = ys) = true := by
          simp only [decide_eq_true_eq]
          have h2 := HTK.out
          rwa [List.take_of_length_le (by rw [HXL.out]; omega), List.take_of_length_le (by rw [HYL.out]; omega)] at h2
        have HD := Lib.hid hd
        clear hd
        go_wp2
        go_ret
        exact ⟨(ret_bool HD.out).symm, _, rfl⟩
  · have hd : decide (xs = ys) = false := by
      simp only [decide_eq_false_iff_not]
      rintro rfl
      omega
    have HD := Lib.hid hd
    clear hd hx hy hxl hyl
    have hnm1 : ((n : Int) == m) = false := by simpa using fun h : (n : Int) = m => hnm (by omega)
    have hnm2 : ((n : Int) != m) = true := by simpa using fun h : (n : Int) = m => hnm (by omega)
    go_enter Tryz.func46, Tryz.ntmps46
    go_wp2
    go_ret
    exact ⟨(ret_bool HD.out).symm, 0, rfl⟩
end Go.Proofs.YtofgmijmhpmabaaGreatDoor.G
namespace Go.Proofs.YtofgmijmhpmabaaGreatDoor.D
open Go Go.RowKit
set_option linter.unusedVariables false
set_option linter.unusedSimpArgs false
open Classical in
noncomputable def mayB (s : St) : Bool := decide (May s)
theorem may_yes {s : St} (h : May s) : mayB s = true := by unfold mayB; simpa using h
theorem may_no {s : St} (h : ¬ May s) : mayB s = false := by unfold mayB; simpa using h
set_option maxRecDepth 100000 in
set_option maxHeartbeats 2000000 in
theorem lawMay_any (x : SV) (s : St) (w : World) (h : RdSt w x s) (hz : Sz s) : Calls Tryz.prog 29 #[x.val s] w (BoolPost (mayB s) w) := by
  obtain ⟨fsS, hfsS⟩ := undSt
  have HFS := Lib.hid hfsS
  have HCP := Lib.hid (fun W (hW : Below w.heap.size w W) => copyState_any x s W (h.below hW) hz)
  have HCK := Lib.hid (fun (x2 : SV) W (hW : RdSt W x2 s) => check_any x2 s W hW hz)
  obtain ⟨cs, hc⟩ : ∃ c, c = x.arr s := ⟨_, rfl⟩
  have HS := Lib.hid (show cs.size = 7 by rw [hc]; rfl)
  have hev : x.val s = .agg cs := by rw [hc]; rfl
  rw [hev] at HCP ⊢
  clear h hz hc hev hfsS
  have HB := Lib.hid (G.bl_alloc (Below.refl w.heap.size w) (.cells cs 27))
  have HC := Lib.hid (G.Blk.new w 27 cs)
  go_enter Tryz.func29, Tryz.ntmps29
  go_wp2_with (first | (refine wpList_load_row rfl 27 _ rfl w.heap.size rfl _ cs (0, 0) _ HC.out HFS.out rfl (by rw [HS.out]; exact sizeSt) ?_) | ((with_reducible refine (HCP.out _ HB.out).mono ?_); rintro e1 w1 hp1; obtain ⟨x1, rfl, ho1, hb1⟩ := hp1; have HB1 := Lib.hid (G.bl_trans HB.out hb1); have HO1 := Lib.hid ho1.rd; clear hb1 ho1))
  refine (HCK.out x1 _ HO1.out).mono ?_
  rintro e2 w2 hp2
  obtain ⟨k2, at2, rfl, hk2, hb2⟩ := hp2
  have HB2 := Lib.hid (G.bl_trans HB1.out hb2)
  clear hb2
  rcases hk2 with ⟨rfl, hm⟩ | ⟨rfl, hm⟩
  · have HM := Lib.hid (may_yes hm)
    clear hm
    go_wp2_with fail
    go_ret
    exact ⟨ret_bool HM.out.symm, HB2.out⟩
  · have HM := Lib.hid (may_no hm)
    clear hm
    go_wp2_with fail
    go_ret
    exact ⟨ret_bool HM.out.symm, HB2.out⟩
set_option maxRecDepth 100000 in
set_option maxHeartbeats 2000000 in
theorem eqRows_any (A B : Option Addr) (n m c d : Nat) (zs ys : List (List Int)) (rx ry : List Value) (w : World) (hnl : n = zs.length) (hml : m = ys.length) (hx : G.RdS w A 1 n rx) (hxr : ∀ i, i < n → RdRow w (rx.getD i undef) (zs.getD i [])) (hy : G.RdS w B 1 m ry) (hyr : ∀ i, i < m → RdRow w (ry.getD i undef) (ys.getD i []))
    (hn : n ≤ 33554432) (hm : m ≤ 33554432) (hlz : ∀ i, (zs.getD i []).length ≤ 33554432) (hly : ∀ i, (ys.getD i []).length ≤ 33554432) :
    Calls Tryz.prog 61 #[.slice A n c, .slice B m d] w fun e w' => e = .returned (.bool (decide (zs = ys))) ∧ ∃ k, w' = w.drewN k := by
  have HNL := Lib.hid hnl
  have HML := Lib.hid hml
  have HX := Lib.hid hx
  have HY := Lib.hid hy
  have HXR := Lib.hid hxr
  have HYR := Lib.hid hyr
  have HLZ := Lib.hid hlz
  have HLY := Lib.hid hly
  clear hx hy hxr hyr hlz hly
  by_cases hnm : n = m
  · subst hnm
    clear hnl hml
    go_enter Tryz.func61, Tryz.ntmps61
    go_wp2
    go_loopw [5] (fun i wr => ∃ k : Nat, k ≤ n ∧ i = .int .i64 k ∧ zs.take k = ys.take k ∧ ∃ q, wr = w.drewN q) (fun i _ => n - (intOf i).toNat)
    case atStart => exact ⟨0, Nat.zero_le _, rfl, rfl, 0, rfl⟩
    case round =>
      obtain ⟨k, hk, rfl, htk, q, rfl⟩ := hrel
      have HTK := Lib.hid htk
      clear htk
      by_cases hlt : k < n
      · obtain ⟨wq, hwq⟩ : ∃ wq, wq = w.drewN q := ⟨_, rfl⟩
        have HWQ := Lib.hid hwq
        have HBQ := Lib.hid (show Below w.heap.size w wq by rw [hwq]; exact G.bl_drewN (Below.refl _ _) _)
        rw [← hwq]
        clear hwq
        obtain ⟨b, off, rfl, hb⟩ := rows_at (HX.out.below HBQ.out) hlt
        obtain ⟨b2, off2, rfl, hb2⟩ := rows_at (HY.out.below HBQ.out) hlt
        obtain ⟨ra, rk, hrv, hrr⟩ := HXR.out k hlt
        obtain ⟨ra2, rk2, hrv2, hrr2⟩ := HYR.out k hlt
        rw [hrv] at hb
        rw [hrv2] at hb2
        have hl1 := HLZ.out k
        have hl2 := HLY.out k
        have h0 : (k : Int) < n := by omega
        have h1 : (0 : Int) ≤ k := by omega
        obtain ⟨lx, hlx⟩ : ∃ lx, lx = (zs.getD k []).length := ⟨_, rfl⟩
        obtain ⟨ly, hly⟩ : ∃ ly, ly = (ys.getD k []).length := ⟨_, rfl⟩
        have HCE := Lib.hid (fun W (hW : Below w.heap.size w W) => G.eqInts_any ra ra2 lx ly rk rk2 (zs.getD k []) (ys.getD k []) W (by rw [hlx]; exact hrr.below hW) (by rw [hly]; exact hrr2.below hW) (by rw [hlx]; unfold maxLen; omega) (by rw [hly]; unfold maxLen; omega))
        rw [← hlx] at hb hl1
        rw [← hly] at hb2 hl2
        clear hrv hrv2 hrr hrr2 hlx hly
        by_cases he : zs.getD k [] = ys.getD k []
        · have hsu := Lib.hid (take_eq_of [] HTK.out (by rw [← HNL.out]; exact hlt) (by rw [← HML.out]; exact hlt) he)
          rw [decide_eq_true he] at HCE
          clear he
          go_wp2
          go_quiet ((go_at_call 46; exact Calls.quiet_of (HCE.out _ (G.bl_drewN HBQ.out _))))
          go_wp2
          go_roundw
          case rel => exact ⟨k + 1, by omega, by go_num, hsu.out, _, by rw [HWQ.out]; exact World.drewN_drewN ..⟩
          case measure => simp [intOf]; omega
        · have hne : decide (zs = ys) = false := by
            simp only [decide_eq_false_iff_not]
            rintro rfl
            exact he rfl
          have HNE := Lib.hid hne
          rw [decide_eq_false he] at HCE
          clear he hne
          go_wp2
          go_quiet ((go_at_call 46; exact Calls.quiet_of (HCE.out _ (G.bl_drewN HBQ.out _))))
          go_wp2
          go_ret
          exact ⟨(ret_bool HNE.out).symm, _, by rw [HWQ.out]; exact World.drewN_drewN ..⟩
      · have hd : decide (zs = ys) = true := by
          simp only [decide_eq_true_eq]
          have h2 := HTK.out
          rwa [List.take_of_length_le (by rw [← HNL.out]; omega), List.take_of_length_le (by rw [← HML.out]; omega)] at h2
        have HD := Lib.hid hd
        clear hd
        go_wp2
        go_ret
        exact ⟨(ret_bool HD.out).symm, _, rfl⟩
  · have hd : decide (zs = ys) = false := by
      simp only [decide_eq_false_iff_not]
      rintro rfl
      omega
    have HD := Lib.hid hd
    clear hd hnl hml
    have hnm1 : ((n : Int) == m) = false := by simpa using fun h : (n : Int) = m => hnm (by omega)
    have hnm2 : ((n : Int) != m) = true := by simpa using fun h : (n : Int) = m => hnm (by omega)
    go_enter Tryz.func61, Tryz.ntmps61
    go_wp2
    go_ret
    exact ⟨(ret_bool HD.out).symm, 0, rfl⟩
end Go.Proofs.YtofgmijmhpmabaaGreatDoor.D

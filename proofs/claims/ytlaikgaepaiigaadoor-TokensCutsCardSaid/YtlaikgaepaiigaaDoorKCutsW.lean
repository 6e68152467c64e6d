/- The law TokensCuts answers true. -/
import Derived.Test.YtlaikgaepaiigaaDoorKBytes
import Derived.Test.YtlaikgaepaiigaaDoorAddTokens
import Derived.Test.YtlaikgaepaiigaaDoorThree
namespace Go.Proofs.YtlaikgaepaiigaaDoor.K
open Go Go.RowKit
set_option linter.unusedVariables false
set_option linter.unusedSimpArgs false
set_option maxRecDepth 100000 in
set_option maxHeartbeats 1000000 in
theorem cuts_long (A : Option Addr) (n c : Nat) (w : World) (hl : 16777216 < n) :
    Calls Tryd.prog 3 #[.slice A n c] w (WorksPost w) := by
  have h1 : (16777216 : Int) < n := by omega
  unfold WorksPost
  go_enter Tryd.func3, Tryd.ntmps3
  go_wp2
  go_ret
  exact ⟨rfl, Below.refl _ _⟩
theorem cutPost_own {s : ByteArray} {w : World} {e : Ending} {w' : World} {R : List Tk × Int × Int} (h : CutPost s w e w') (hR : R = resOf s) : ∃ a c, e = .returned (.tuple #[.slice a R.1.length c, .int .i64 R.2.1, .int .i64 R.2.2]) ∧ w'.ownsRow w.heap.size 65 4 (.slice a R.1.length c) R.1.length (flatT R.1) ∧ Below w.heap.size w w' := by
  obtain ⟨v, h1, h2, h3⟩ := h
  rw [← hR] at h1 h2
  obtain ⟨a, c, rfl⟩ := G.own_shape h2
  exact ⟨a, c, h1, h2, h3⟩
set_option maxRecDepth 100000 in
set_option maxHeartbeats 8000000 in
theorem cuts_short (A : Option Addr) (c : Nat) (zs : List Int) (w : World) (hl : zs.length ≤ 16777216) (hc : zs.length ≤ c) (hr : G.RdS w A 1 zs.length (zs.map (Value.int .u8))) (hz : IsBytes zs) (hL : LibIn w) :
    Calls Tryd.prog 3 #[.slice A zs.length c] w (WorksPost w) := by
  obtain ⟨n, hn⟩ : ∃ n, n = zs.length := ⟨_, rfl⟩
  have HN := Lib.hid hn
  have HL := Lib.hid (fun W (h : Below w.heap.size w W) => hL.below h)
  have HR := Lib.hid hr
  have HZ := Lib.hid hz
  have HC := Lib.hid hc
  rw [← hn] at hl ⊢
  have h1 : ¬ (16777216 : Int) < n := by omega
  obtain ⟨R, hR⟩ : ∃ R, R = resOf (bOf zs) := ⟨_, rfl⟩
  have HRR := Lib.hid hR
  have HRL := Lib.hid (show R.1.length ≤ 65537 by rw [hR]; exact resOf_len _)
  have HBS := Lib.hid (show (bOf zs).size = n by rw [bOf_size, hn])
  have HSA := Lib.hid (fun W (h : Below w.heap.size w W) => show Src W A (bOf zs) from src_of_rd (by rw [zOf_bOf hz, bOf_size]; exact hr.below h))
  clear hr hz hc hL hn hR
  unfold WorksPost
  go_enter Tryd.func3, Tryd.ntmps3
  go_wp2_with fail
  refine (long_no n (by omega) w).mono ?_
  rintro e wq ⟨rfl, rfl⟩
  go_wp2_with fail
  -- WideBytes
  have c2 := G.wideBytes_any A c zs w (by exact HR.out) (by rw [← HN.out]; omega)
  rw [← HN.out] at c2
  refine c2.mono ?_
  rintro e w2 hw2
  unfold G.WidePost at hw2
  rw [← HN.out] at hw2
  obtain ⟨rfl, ho2, hb2⟩ := hw2
  obtain ⟨g, hg⟩ : ∃ g, g = w.heap.size := ⟨_, rfl⟩
  rw [← hg] at ho2 ⊢
  have HG := Lib.hid hg
  have HO2 := Lib.hid ho2
  have HB2 := Lib.hid hb2
  clear c2 hb2 ho2 hg
  have HSI := Lib.hid (fun W (h : Below w2.heap.size w2 W) => show Src W (some ⟨g, 0, none⟩) (bOf zs) from src_own (ms := G.marksU8 zs.length) (G.own_below HO2.out h) HZ.out)
  go_wp2_with fail
  -- tokens.Cut
  have c3 := cut_any (some ⟨g, 0, none⟩) (n + 64) (bOf zs) w2 (HSI.out _ (Below.refl _ _)) (by rw [HBS.out]; omega) (HL.out _ HB2.out)
  rw [HBS.out] at c3
  refine c3.mono ?_
  rintro e w3 he
  obtain ⟨a3, k3, rfl, ho3, hb3⟩ := cutPost_own he HRR.out
  have HB3 := Lib.hid hb3
  have HO3 := Lib.hid ho3
  clear c3 he ho3 hb3
  go_wp2_with fail
  have c4 := cut_any (some ⟨g, 0, none⟩) (n + 64) (bOf zs) w3 (HSI.out _ HB3.out) (by rw [HBS.out]; omega) (HL.out _ (G.bl_trans HB2.out HB3.out))
  rw [HBS.out] at c4
  refine c4.mono ?_
  rintro e w4 he
  obtain ⟨a4, k4, rfl, ho4, hb4⟩ := cutPost_own he HRR.out
  have HB4 := Lib.hid (G.bl_trans HB3.out hb4)
  have HO34 := Lib.hid (G.own_below HO3.out hb4)
  have HO4 := Lib.hid ho4
  clear c4 he ho4 hb4
  go_wp2_with fail
  have c5 := refCut_any A c (bOf zs) w4 (HSA.out _ (G.bl_trans HB2.out HB4.out)) (by rw [HBS.out, HN.out]; exact HC.out)
  rw [HBS.out] at c5
  refine c5.mono ?_
  rintro e w5 he
  obtain ⟨a5, k5, rfl, ho5, hb5⟩ := cutPost_own he HRR.out
  have HB5 := Lib.hid (G.bl_trans HB4.out hb5)
  have HO35 := Lib.hid (G.own_below HO34.out hb5)
  have HO45 := Lib.hid (G.own_below HO4.out hb5)
  have HO5 := Lib.hid ho5
  clear c5 he ho5 hb5
  have hRl := HRL.out
  go_wp2_with fail
  have c6 := eqTokens_any a3 a5 R.1.length R.1.length k3 k5 R.1 R.1 w5 (G.RdS.of_own HO35.out) (G.RdS.of_own HO5.out) (by unfold maxLen; omega) (by unfold maxLen; omega)
  rw [decide_eq_true rfl] at c6
  refine c6.mono ?_
  rintro e w6 ⟨rfl, q6, hw6⟩
  have hb6 : Below w5.heap.size w5 w6 := by rw [hw6]; exact G.bl_drewN (Below.refl _ _) _
  have HB6 := Lib.hid (G.bl_trans HB5.out hb6)
  have HO36 := Lib.hid (G.own_below HO35.out hb6)
  have HO46 := Lib.hid (G.own_below HO45.out hb6)
  have HO56 := Lib.hid (G.own_below HO5.out hb6)
  clear c6 hw6 hb6
  go_wp2_with fail
  have c7 := eqTokens_any a4 a5 R.1.length R.1.length k4 k5 R.1 R.1 w6 (G.RdS.of_own HO46.out) (G.RdS.of_own HO56.out) (by unfold maxLen; omega) (by unfold maxLen; omega)
  rw [decide_eq_true rfl] at c7
  refine c7.mono ?_
  rintro e w7 ⟨rfl, q7, hw7⟩
  have hb7 : Below w6.heap.size w6 w7 := by rw [hw7]; exact G.bl_drewN (Below.refl _ _) _
  have HB7 := Lib.hid (G.bl_trans HB6.out hb7)
  have HO37 := Lib.hid (G.own_below HO36.out hb7)
  have HO47 := Lib.hid (G.own_below HO46.out hb7)
  have HO57 := Lib.hid (G.own_below HO56.out hb7)
  clear c7 hw7 hb7
  go_wp2_with fail
  have c8 := G.eqBytes_any (some ⟨g, 0, none⟩) A n n (n + 64) c zs zs w7 (G.RdS.of_rdV (in_rd (ys := G.marksU8 zs.length) (G.own_below HO2.out HB7.out)) (by simp [HN.out])) (by rw [HN.out]; exact HR.out.below (G.bl_trans HB2.out HB7.out)) (by unfold maxLen; omega) (by unfold maxLen; omega)
  rw [decide_eq_true rfl] at c8
  refine c8.mono ?_
  rintro e w8 ⟨rfl, q8, hw8⟩
  have hb8 : Below w7.heap.size w7 w8 := by rw [hw8]; exact G.bl_drewN (Below.refl _ _) _
  have HB8 := Lib.hid (G.bl_trans HB7.out hb8)
  have HO38 := Lib.hid (G.own_below HO37.out hb8)
  have HO48 := Lib.hid (G.own_below HO47.out hb8)
  have HO58 := Lib.hid (G.own_below HO57.out hb8)
  clear c8 hw8 hb8
  go_wp2_with fail
  have c9 := G.spareBytes_any g zs w8 (in_rd_all (G.own_below HO2.out HB8.out)) (by rw [← HN.out]; omega)
  rw [← HN.out] at c9
  refine c9.mono ?_
  rintro e w9 ⟨rfl, hw9⟩
  obtain rfl : w9 = w8 := by first | exact hw9 | exact hw9.symm
  clear c9 hw9
  go_wp2_with fail
  have hwg : w.heap.size ≤ g := by have := HG.out; omega
  have HOWN0 := Lib.hid (show w9.ownsRow g 5 1 (.slice (some ⟨g, 0, none⟩) (n + 64) (n + 64)) (n + 64) ((zs ++ G.marksU8 zs.length).map (Value.int .u8)) from G.own_below HO2.out HB8.out)
  have hn24 : (n : Int) ≤ 16777216 := by omega
  go_loopw [13] (fun i wr => ∃ (j : Nat) (ys : List Int), j ≤ n ∧ i = .int .i64 j ∧ ys.length = n ∧ IsBytes ys ∧ wr.ownsRow g 5 1 (.slice (some ⟨g, 0, none⟩) (n + 64) (n + 64)) (n + 64) ((ys ++ G.marksU8 zs.length).map (Value.int .u8)) ∧ G.Touch [5] w.heap.size w9 wr) (fun i _ => n - (intOf i).toNat)
  case atStart => exact ⟨0, zs, Nat.zero_le _, rfl, HN.out.symm, HZ.out, HOWN0.out, G.Touch.refl _ _ _⟩
  case round =>
    obtain ⟨j, ys, hj, rfl, hys, hyb, hown, ht⟩ := hrel
    have HYS := Lib.hid hys
    have HYB := Lib.hid hyb
    have HOWN := Lib.hid hown
    have HT := Lib.hid ht
    have h0j : (0 : Int) ≤ j := by omega
    clear hyb hys ht
    by_cases hjn : j < n
    · have hc := (in_rd hown).int (j := j) (by rw [HYS.out]; exact hjn)
      rw [Nat.zero_add] at hc
      have hf := hown.frozenAt j
      obtain ⟨z1, z2⟩ := HYB.out j
      have HST := Lib.hid (fun (u : Int) => by
        have hst := hown.stored j (.int .u8 u)
        rw [set_bytes ys _ (by rw [HYS.out]; exact hjn)] at hst
        exact hst)
      have HNB := Lib.hid (fun (u : Int) (hu : 0 ≤ u ∧ u < 256) => bytes_set HYB.out j hu)
      have hjn1 : (j : Int) < n := by omega
      clear hown
      generalize hzz : ys.getD j 0 = z at *
      clear hzz
      have hcase : (97 ≤ z ∧ z < 122) ∨ (97 ≤ z ∧ ¬ z < 122) ∨ (¬ 97 ≤ z ∧ 49 ≤ z ∧ z < 57) ∨ (¬ 97 ≤ z ∧ 49 ≤ z ∧ ¬ z < 57) ∨ (¬ 97 ≤ z ∧ ¬ 49 ≤ z) := by omega
      rcases hcase with ⟨p1, p2⟩ | ⟨p1, p2⟩ | ⟨p1, p2, p3⟩ | ⟨p1, p2, p3⟩ | ⟨p1, p2⟩
      · go_wp2_with fail
        go_roundw
        case rel => exact ⟨j + 1, ys.set j (z + 1), by omega, by go_num, by rw [List.length_set]; exact HYS.out, HNB.out _ (by omega), (HST.out _).1, HT.out.grown HOWN.out (HST.out _).2 (by decide) hwg (by have := HT.out.below.size; have := HB8.out.size; have := HB2.out.size; omega)⟩
        case measure => simp [intOf] <;> omega
      · have p3 : ¬ z < 57 := by omega
        have p4 : 49 ≤ z := by omega
        go_wp2_with fail
        go_roundw
        case rel => exact ⟨j + 1, ys, by omega, by go_num, HYS.out, HYB.out, HOWN.out, HT.out⟩
        case measure => simp [intOf] <;> omega
      · go_wp2_with fail
        go_roundw
        case rel => exact ⟨j + 1, ys.set j (z + 1), by omega, by go_num, by rw [List.length_set]; exact HYS.out, HNB.out _ (by omega), (HST.out _).1, HT.out.grown HOWN.out (HST.out _).2 (by decide) hwg (by have := HT.out.below.size; have := HB8.out.size; have := HB2.out.size; omega)⟩
        case measure => simp [intOf] <;> omega
      · go_wp2_with fail
        go_roundw
        case rel => exact ⟨j + 1, ys, by omega, by go_num, HYS.out, HYB.out, HOWN.out, HT.out⟩
        case measure => simp [intOf] <;> omega
      · go_wp2_with fail
        go_roundw
        case rel => exact ⟨j + 1, ys, by omega, by go_num, HYS.out, HYB.out, HOWN.out, HT.out⟩
        case measure => simp [intOf] <;> omega
    · have hjn1 : ¬ (j : Int) < n := by omega
      have HBR := Lib.hid (show Below w.heap.size w wr from (G.bl_trans HB2.out HB8.out).trans HT.out.below)
      have HVR3 := Lib.hid (HT.out.own HO38.out (by decide))
      have HVR4 := Lib.hid (HT.out.own HO48.out (by decide))
      have HVR5 := Lib.hid (HT.out.own HO58.out (by decide))
      clear hown
      obtain ⟨T, hT⟩ : ∃ T, T = resOf (bOf ys) := ⟨_, rfl⟩
      have HTT := Lib.hid hT
      have HTL := Lib.hid (show T.1.length ≤ 65537 by rw [hT]; exact resOf_len _)
      have HBY := Lib.hid (show (bOf ys).size = n by rw [bOf_size]; exact HYS.out)
      clear hT
      go_wp2_with fail
      have d1 := cut_any (some ⟨g, 0, none⟩) (n + 64) (bOf ys) wr (src_own HOWN.out HYB.out) (by rw [HBY.out]; omega) (HL.out _ HBR.out)
      rw [HBY.out] at d1
      refine d1.mono ?_
      rintro e x1 he
      obtain ⟨am, km, rfl, hom, hb1⟩ := cutPost_own he HTT.out
      have HBX1 := Lib.hid (G.bl_trans HBR.out hb1)
      have HM1 := Lib.hid hom
      have HVX31 := Lib.hid (G.own_below HVR3.out hb1)
      have HVX41 := Lib.hid (G.own_below HVR4.out hb1)
      have HVX51 := Lib.hid (G.own_below HVR5.out hb1)
      have HOX1 := Lib.hid (G.own_below HOWN.out hb1)
      clear d1 he hom hb1
      go_wp2_with fail
      have d2 := G.copyBytes_any g 0 (n + 64) ys x1 (in_rd HOX1.out) (by rw [HYS.out]; omega)
      rw [HYS.out] at d2
      refine d2.mono ?_
      rintro e x2 ⟨vc, rfl, hc2, hb2⟩
      rw [HYS.out] at hc2
      obtain ⟨ac, kc, hvc, hkc, hmc⟩ := own_cap hc2
      subst hvc
      have HBX2 := Lib.hid (G.bl_trans HBX1.out hb2)
      have HM2 := Lib.hid (G.own_below HM1.out hb2)
      have HVX32 := Lib.hid (G.own_below HVX31.out hb2)
      have HVX42 := Lib.hid (G.own_below HVX41.out hb2)
      have HVX52 := Lib.hid (G.own_below HVX51.out hb2)
      have HSC := Lib.hid (show Src x2 (some (⟨0, 0, none⟩ : Addr)) (bOf ys) ∨ Src x2 ac (bOf ys) from .inr (src_of_rd (by rw [zOf_bOf HYB.out, HBY.out]; exact G.RdS.of_own hc2)))
      have HSD := Lib.hid (show Src x2 ac (bOf ys) from src_of_rd (by rw [zOf_bOf HYB.out, HBY.out]; exact G.RdS.of_own hc2))
      clear d2 hb2 hc2 HSC
      go_wp2_with fail
      have d3 := refCut_any ac kc (bOf ys) x2 HSD.out (by rw [HBY.out]; exact hkc)
      rw [HBY.out] at d3
      refine d3.mono ?_
      rintro e x3 he
      obtain ⟨aw, kw, rfl, how, hb3⟩ := cutPost_own he HTT.out
      have HBX3 := Lib.hid (G.bl_trans HBX2.out hb3)
      have HM3 := Lib.hid (G.own_below HM2.out hb3)
      have HVX33 := Lib.hid (G.own_below HVX32.out hb3)
      have HVX43 := Lib.hid (G.own_below HVX42.out hb3)
      have HVX53 := Lib.hid (G.own_below HVX52.out hb3)
      have HW3 := Lib.hid how
      have hTl := HTL.out
      clear d3 he how hb3
      go_wp2_with fail
      have d4 := eqTokens_any am aw T.1.length T.1.length km kw T.1 T.1 x3 (G.RdS.of_own HM3.out) (G.RdS.of_own HW3.out) (by unfold maxLen; omega) (by unfold maxLen; omega)
      rw [decide_eq_true rfl] at d4
      refine d4.mono ?_
      rintro e x4 ⟨rfl, q4, hx4⟩
      have hb4 : Below x3.heap.size x3 x4 := by rw [hx4]; exact G.bl_drewN (Below.refl _ _) _
      have HBX4 := Lib.hid (G.bl_trans HBX3.out hb4)
      have HM4 := Lib.hid (G.own_below HM3.out hb4)
      have HVX34 := Lib.hid (G.own_below HVX33.out hb4)
      have HVX44 := Lib.hid (G.own_below HVX43.out hb4)
      have HVX54 := Lib.hid (G.own_below HVX53.out hb4)
      clear d4 hx4 hb4
      go_wp2_with fail
      have d5 := eqTokens_any a3 a5 R.1.length R.1.length k3 k5 R.1 R.1 x4 (G.RdS.of_own HVX34.out) (G.RdS.of_own HVX54.out) (by unfold maxLen; omega) (by unfold maxLen; omega)
      rw [decide_eq_true rfl] at d5
      refine d5.mono ?_
      rintro e x5 ⟨rfl, q5, hx5⟩
      have hb5 : Below x4.heap.size x4 x5 := by rw [hx5]; exact G.bl_drewN (Below.refl _ _) _
      have HBX5 := Lib.hid (G.bl_trans HBX4.out hb5)
      have HM5 := Lib.hid (G.own_below HM4.out hb5)
      have HVX35 := Lib.hid (G.own_below HVX34.out hb5)
      have HVX45 := Lib.hid (G.own_below HVX44.out hb5)
      clear d5 hx5 hb5
      go_wp2_with fail
      -- the bag
      obtain ⟨y0, hy0⟩ : ∃ y0, y0 = x5.alloc (.cells G.nilBag 55) := ⟨_, rfl⟩
      have HYY := Lib.hid hy0
      have hbx : Below x5.heap.size x5 y0 := by rw [hy0]; exact G.bl_alloc (Below.refl _ _) _
      have hblk : G.Blk y0 x5.heap.size 55 G.nilBag := by rw [hy0]; exact G.Blk.new x5 55 G.nilBag
      have HBY0 := Lib.hid (G.bl_trans HBX5.out hbx)
      have HY3 := Lib.hid (G.own_below HVX35.out hbx)
      have HY4 := Lib.hid (G.own_below HVX45.out hbx)
      have HYM := Lib.hid (G.own_below HM5.out hbx)
      have hwx : w.heap.size ≤ x5.heap.size := HBX5.out.size
      have e1 := G.addTokens_any w.heap.size x5.heap.size 0 0 R.1.length k3 none a3 G.nilBag [] y0 hblk rfl (by omega) (World.ownsRow_nil _ _ _ _) hwx
      rw [hy0] at e1
      refine e1.mono ?_
      rintro e y1 ⟨rfl, HA1, hc1, hk1, hr1, ht1⟩
      rw [← HYY.out] at ht1
      have HBK1 := Lib.hid hk1
      have HRW1 := Lib.hid hr1
      have HT1 := Lib.hid ht1
      clear e1 hk1 hr1 ht1 hy0 hbx hblk
      go_wp2_with fail
      have e2 := G.addTokens_any w.heap.size x5.heap.size 1 hc1 R.1.length k4 HA1 a4 _ [.slice a3 R.1.length k3] y1 HBK1.out (by simp [G.nilBag]) (by omega) HRW1.out hwx
      refine e2.mono ?_
      rintro e y2 ⟨rfl, HA2, hc2, hk2, hr2, ht2⟩
      have HBK2 := Lib.hid hk2
      have HRW2 := Lib.hid hr2
      have HT2 := Lib.hid (HT1.out.trans ht2)
      clear e2 hk2 hr2 ht2
      go_wp2_with fail
      have e3 := G.addTokens_any w.heap.size x5.heap.size 2 hc2 T.1.length km HA2 am _ [.slice a3 R.1.length k3, .slice a4 R.1.length k4] y2 HBK2.out (by simp [G.nilBag]) (by omega) HRW2.out hwx
      refine e3.mono ?_
      rintro e y3 ⟨rfl, HA3, hc3, hk3, hr3, ht3⟩
      have HBK3 := Lib.hid hk3
      have HRW3 := Lib.hid hr3
      have HT3 := Lib.hid (HT2.out.trans ht3)
      clear e3 hk3 hr3 ht3
      go_wp2_with fail
      have f3 := HT3.out.own HY3.out (by decide)
      have f4 := HT3.out.own HY4.out (by decide)
      have fm := HT3.out.own HYM.out (by decide)
      have hsz := HT3.out.below.size
      have hsy := HBY0.out.size
      have hs2 := HB2.out.size
      have hs3 := HB3.out.size
      have hs4 := HB4.out.size
      have hs8 := HB8.out.size
      have hst := HT.out.below.size
      have hsr := HBR.out.size
      have hfam := G.fam3 (G.own_ge f3 hs2) (G.own_ge f4 (Nat.le_trans hs2 hs3)) (G.own_ge fm hsr) (G.later_ne HO3.out HO4.out (Nat.le_refl _)) (G.later_ne HO38.out HM1.out hst) (G.later_ne HO48.out HM1.out hst)
      have e4 := G.apart_Tokens w.heap.size x5.heap.size 3 hc3 HA3 _ [⟨.slice a3 R.1.length k3, R.1.length, flatT R.1⟩, ⟨.slice a4 R.1.length k4, R.1.length, flatT R.1⟩, ⟨.slice am T.1.length km, T.1.length, flatT T.1⟩] y3 HBK3.out (by simp [G.nilBag]) (fun i h1 h2 => by
        rw [Array.getElem?_setIfInBounds_ne (Ne.symm h2), Array.getElem?_setIfInBounds_ne (Ne.symm h2), Array.getElem?_setIfInBounds_ne (Ne.symm h2)]
        exact G.nilBag_at i h1) rfl (by omega) HRW3.out hfam (by intro l hl; simp only [List.mem_cons, List.mem_nil_iff, or_false] at hl; rcases hl with rfl | rfl | rfl <;> simp only <;> omega) (by omega)
      refine e4.mono ?_
      rintro e y4 ⟨rfl, hO⟩
      have HBF := Lib.hid ((HBY0.out.trans HT3.out.below).trans hO.below)
      clear e4 hO hfam f3 f4 fm
      go_wp2_with fail
      refine (works_any y4 (HL.out _ HBF.out)).mono ?_
      rintro e y5 he
      unfold WorksPost at he
      obtain ⟨rfl, hb9⟩ := he
      have HBH := Lib.hid (G.bl_trans HBF.out hb9)
      clear hb9
      go_wp2_with fail
      go_ret
      exact ⟨rfl, HBH.out⟩
end Go.Proofs.YtlaikgaepaiigaaDoor.K

/- The law CodeReads answers true. -/
import Derived.Test.YtfldicaaaadgaaaDoorCReadsA
namespace Go.Proofs.YtfldicaaaadgaaaDoor.Code
open Go.RowKit
set_option linter.unusedVariables false
set_option linter.unusedSimpArgs false
set_option maxRecDepth 100000 in
set_option maxHeartbeats 1000000 in
theorem reads_long (A : Option Addr) (n cap : Nat) (p : Int) (w : World) (hn : n ≤ maxLen) (hl : 16777216 < n) (hit : ItoaIn w) :
    Calls Tryd.prog 3 #[.slice A n cap, .int .i64 p] w fun e w' => e = .returned (.bool true) ∧ Below w.heap.size w w' := by
  have HIT := Lib.hid hit
  clear hit
  unfold maxLen at hn
  have h1 : (16777216 : Int) < n := by omega
  go_enter Tryd.func3, Tryd.ntmps3
  go_wp2_with (go_at_call 8; refine (works_any _ HIT.out).mono ?_; rintro e w1 ⟨rfl, hb1⟩)
  go_ret
  exact ⟨rfl, hb1⟩
set_option maxRecDepth 100000 in
set_option maxHeartbeats 4000000 in
theorem reads_short (A : Option Addr) (n cap : Nat) (zs : List Int) (p : Int) (w : World) (hn : zs.length = n) (hl : n ≤ 16777216) (hnc : n ≤ cap) (hcap : cap ≤ maxLen) (hr : G.RdS w A 1 n (zs.map (Value.int .u8))) (hz : IsBytes zs) (hit : ItoaIn w) :
    Calls Tryd.prog 3 #[.slice A n cap, .int .i64 p] w fun e w' => e = .returned (.bool true) ∧ Below w.heap.size w w' := by
  have HIT := Lib.hid hit
  have HR := Lib.hid hr
  have HZ := Lib.hid hz
  have HN := Lib.hid hn
  have HC := Lib.hid hcap
  have h1 : ¬ (16777216 : Int) < n := by omega
  clear hit hr hz hn hcap
  go_enter Tryd.func3, Tryd.ntmps3
  go_wp2_with fail
  -- works
  refine (works_any _ HIT.out).mono ?_
  rintro e w1 ⟨rfl, hb1⟩
  have HB1 := Lib.hid hb1
  clear hb1
  go_wp2_with fail
  -- WideBytes
  have c2 := G.wideBytes_any A cap zs w1 (by rw [HN.out]; exact HR.out.below HB1.out) (by rw [HN.out]; omega)
  rw [HN.out] at c2
  refine c2.mono ?_
  rintro e w2 hw2
  unfold G.WidePost at hw2
  rw [HN.out] at hw2
  obtain ⟨rfl, ho2, hb2⟩ := hw2
  obtain ⟨g, hg⟩ : ∃ g, g = w1.heap.size := ⟨_, rfl⟩
  rw [← hg] at ho2 ⊢
  have HG := Lib.hid hg
  have HO2 := Lib.hid ho2
  have HB2 := Lib.hid (Bl.tr HB1.out hb2)
  clear c2 hb2 ho2 hg
  go_wp2_with fail
  -- code.Read
  have c3 := Read_any g 0 (n + 64) zs p w2 (by omega) (by rw [HN.out]; omega) (rdI_of (in_rd (ys := G.marksU8 zs.length) HO2.out)) HZ.out
  rw [HN.out] at c3
  obtain ⟨r, hr⟩ : ∃ r, r = readAt zs p := ⟨_, rfl⟩
  rw [← hr] at c3
  have HRR := Lib.hid hr
  clear hr
  obtain ⟨⟨xa, xo, x1, x2, x3⟩, er⟩ := r
  simp only [Ins.val] at c3
  refine c3.mono ?_
  rintro e w3 ⟨rfl, hb3⟩
  have HB3 := Lib.hid (Bl.tr HB2.out hb3)
  have HO3 := Lib.hid (Bl.own HO2.out hb3)
  clear c3 hb3
  go_wp2_with fail
  -- tableauref16.Read
  have c4 := refRead_S A n cap zs p (w3.alloc (.cells #[.int .i64 xa, .int .u8 xo, .int .i64 x1, .int .i64 x2, .int .i64 x3] 26)) HN.out (by omega) (HR.out.below (Bl.al HB3.out _)) HZ.out
  rw [← HRR.out] at c4
  simp only [Ins.val] at c4
  refine c4.mono ?_
  rintro e w4 ⟨rfl, hb4⟩
  have HX4 := Lib.hid ((G.Blk.new w3 26 #[.int .i64 xa, .int .u8 xo, .int .i64 x1, .int .i64 x2, .int .i64 x3]).below hb4 (by simp))
  have HB4 := Lib.hid (Bl.tr (Bl.al HB3.out _) hb4)
  have HO4 := Lib.hid (Bl.own (HO3.out.alloc _) hb4)
  clear c4 hb4
  go_wp2_with fail
  -- code.All
  have c5 := All_any g 0 (n + 64) zs (w4.alloc (.cells #[.int .i64 xa, .int .u8 xo, .int .i64 x1, .int .i64 x2, .int .i64 x3] 26)) (by omega) (by rw [HN.out]; omega) (by rw [HN.out]; omega) (rdI_of (in_rd (ys := G.marksU8 zs.length) (HO4.out.alloc _))) HZ.out
  rw [HN.out] at c5
  refine c5.mono ?_
  rintro e w5 ⟨v5, rfl, ho5, hb5⟩
  obtain ⟨R, hR⟩ : ∃ R, R = allOf zs := ⟨_, rfl⟩
  rw [← hR] at ho5 ⊢
  have HAR := Lib.hid hR
  clear hR
  obtain ⟨a5, k5, hv5, hk5, hm5⟩ := own_cap ho5
  subst hv5
  have HX5 := Lib.hid ((HX4.out.alloc (.cells #[.int .i64 xa, .int .u8 xo, .int .i64 x1, .int .i64 x2, .int .i64 x3] 26)).below hb5 (HX4.out.alloc (.cells #[.int .i64 xa, .int .u8 xo, .int .i64 x1, .int .i64 x2, .int .i64 x3] 26)).lt)
  have HY5 := Lib.hid ((G.Blk.new w4 26 #[.int .i64 xa, .int .u8 xo, .int .i64 x1, .int .i64 x2, .int .i64 x3]).below hb5 (by simp))
  have HB5 := Lib.hid (Bl.tr (Bl.al HB4.out _) hb5)
  have HO5 := Lib.hid (Bl.own (HO4.out.alloc _) hb5)
  have HV5 := Lib.hid ho5
  clear c5 hb5 ho5
  go_wp2_with fail
  -- code.All once more
  have c6 := All_any g 0 (n + 64) zs w5 (by omega) (by rw [HN.out]; omega) (by rw [HN.out]; omega) (rdI_of (in_rd (ys := G.marksU8 zs.length) HO5.out)) HZ.out
  rw [HN.out] at c6
  refine c6.mono ?_
  rintro e w6 ⟨v6, rfl, ho6, hb6⟩
  rw [← HAR.out] at ho6 ⊢
  obtain ⟨a6, k6, hv6, hk6, hm6⟩ := own_cap ho6
  subst hv6
  have HX6 := Lib.hid (HX5.out.below hb6 HX5.out.lt)
  have HY6 := Lib.hid (HY5.out.below hb6 HY5.out.lt)
  have HB6 := Lib.hid (Bl.tr HB5.out hb6)
  have HO6 := Lib.hid (Bl.own HO5.out hb6)
  have HV56 := Lib.hid (Bl.own HV5.out hb6)
  have HV6 := Lib.hid ho6
  clear c6 hb6 ho6
  go_wp2_with fail
  -- tableauref16.All
  have c7 := refAll_S A n cap zs w6 HN.out (by omega) (by have := HC.out; unfold maxLen at this; omega) hnc (HR.out.below HB6.out) HZ.out
  refine c7.mono ?_
  rintro e w7 ⟨v7, rfl, ho7, hb7⟩
  rw [← HAR.out] at ho7 ⊢
  obtain ⟨a7, k7, hv7, hk7, hm7⟩ := own_cap ho7
  subst hv7
  have HX7 := Lib.hid (HX6.out.below hb7 HX6.out.lt)
  have HY7 := Lib.hid (HY6.out.below hb7 HY6.out.lt)
  have HB7 := Lib.hid (Bl.tr HB6.out hb7)
  have HO7 := Lib.hid (Bl.own HO6.out hb7)
  have HV57 := Lib.hid (Bl.own HV56.out hb7)
  have HV67 := Lib.hid (Bl.own HV6.out hb7)
  have HV7 := Lib.hid ho7
  have HL := Lib.hid (allOf_le zs)
  rw [← HAR.out] at HL
  have hRl : R.1.length ≤ 16777217 := by have := HL.out; have := HN.out; omega
  clear c7 hb7 ho7
  go_wp2_with fail
  -- EqBytes, SpareBytes
  have c8 := G.eqBytes_any (some ⟨g, 0, none⟩) A n n (n + 64) cap zs zs w7 (G.RdS.of_rdV (in_rd (ys := G.marksU8 zs.length) HO7.out) (by simp [HN.out])) (HR.out.below HB7.out) (by unfold maxLen; omega) (by unfold maxLen; omega)
  rw [decide_eq_true rfl] at c8
  refine c8.mono ?_
  rintro e w8 ⟨rfl, q8, rfl⟩
  clear c8
  go_wp2_with fail
  have c9 := G.spareBytes_any g zs (w7.drewN q8) (in_rd_all HO7.out) (by rw [HN.out]; omega)
  rw [HN.out] at c9
  refine c9.mono ?_
  rintro e w9 ⟨rfl, rfl⟩
  clear c9
  have hx0 : w7.cell? ⟨w3.heap.size, 0, none⟩ = some (.int .i64 xa) := HX7.out.cell 0
  have hx1 : w7.cell? ⟨w3.heap.size, 1, none⟩ = some (.int .u8 xo) := HX7.out.cell 1
  have hx2 : w7.cell? ⟨w3.heap.size, 2, none⟩ = some (.int .i64 x1) := HX7.out.cell 2
  have hx3 : w7.cell? ⟨w3.heap.size, 3, none⟩ = some (.int .i64 x2) := HX7.out.cell 3
  have hx4 : w7.cell? ⟨w3.heap.size, 4, none⟩ = some (.int .i64 x3) := HX7.out.cell 4
  have hy0 : w7.cell? ⟨w4.heap.size, 0, none⟩ = some (.int .i64 xa) := HY7.out.cell 0
  have hy1 : w7.cell? ⟨w4.heap.size, 1, none⟩ = some (.int .u8 xo) := HY7.out.cell 1
  have hy2 : w7.cell? ⟨w4.heap.size, 2, none⟩ = some (.int .i64 x1) := HY7.out.cell 2
  have hy3 : w7.cell? ⟨w4.heap.size, 3, none⟩ = some (.int .i64 x2) := HY7.out.cell 3
  have hy4 : w7.cell? ⟨w4.heap.size, 4, none⟩ = some (.int .i64 x3) := HY7.out.cell 4
  go_wp2_with fail
  -- EqInstrs, twice
  have c10 := eqInstrs_any a5 a7 R.1.length R.1.length k5 k7 R.1 R.1 (w7.drewN q8) (G.RdS.of_own HV57.out) (G.RdS.of_own HV7.out) (by unfold maxLen; omega) (by unfold maxLen; omega)
  rw [decide_eq_true rfl] at c10
  refine c10.mono ?_
  rintro e w10 ⟨rfl, q10, rfl⟩
  clear c10
  go_wp2_with fail
  have c11 := eqInstrs_any a6 a7 R.1.length R.1.length k6 k7 R.1 R.1 (w7.drewN (q8 + q10)) (G.RdS.of_own HV67.out) (G.RdS.of_own HV7.out) (by unfold maxLen; omega) (by unfold maxLen; omega)
  rw [decide_eq_true rfl] at c11
  refine c11.mono ?_
  rintro e w11 ⟨rfl, q11, rfl⟩
  clear c11
  go_wp2_with fail
  go_loopw [21] (fun i wr => ∃ (j : Nat) (ys : List Int), j ≤ n ∧ i = .int .i64 j ∧ ys.length = n ∧ IsBytes ys ∧ wr.ownsRow g 5 1 (.slice (some ⟨g, 0, none⟩) (n + 64) (n + 64)) (n + 64) ((ys ++ G.marksU8 n).map (Value.int .u8)) ∧ G.Touch [5] w.heap.size w7 wr) (fun i _ => n - (intOf i).toNat)
  case atStart => exact ⟨0, zs, Nat.zero_le _, rfl, HN.out, HZ.out, by have := HO7.out; unfold G.wideU8 at this; rw [HN.out] at this; exact this, (G.Touch.refl _ _ _).later HB7.out.size (Bl.dn (Below.refl _ _) _)⟩
  case round =>
    obtain ⟨j, ys, hj, rfl, hys, hyb, hown, ht⟩ := hrel
    have HYS := Lib.hid hys
    have HYB := Lib.hid hyb
    have HOWN := Lib.hid hown
    have HT := Lib.hid ht
    have h0j : (0 : Int) ≤ j := by omega
    clear hyb hys ht
    by_cases hjn : j < n
    · have hc := (in_rd hown).int (j := j) (by rw [HYS.out]; exact hjn)
      rw [Nat.zero_add] at hc
      have hf := hown.frozenAt j
      have hz := HYB.out j
      have hst := hown.stored j (.int .u8 (bits .xor .u8 (ys.getD j 0) 8))
      rw [set_bytes ys _ (by rw [HYS.out]; exact hjn)] at hst
      have HST := Lib.hid hst
      have HNB := Lib.hid (bytes_set HYB.out j (xor8_range (ys.getD j 0)))
      have hjn1 : (j : Int) < n := by omega
      clear hown hst
      generalize hzz : ys.getD j 0 = z at *
      have HZZ := Lib.hid hzz
      clear hzz
      have hwg : w.heap.size ≤ g := by have := HB1.out.size; have := HG.out; omega
      go_wp2
      go_roundw
      case rel => exact ⟨j + 1, ys.set j (bits .xor .u8 z 8), by omega, by go_num, by rw [List.length_set]; exact HYS.out, HNB.out, HST.out.1, HT.out.grown HOWN.out HST.out.2 (by decide) hwg (by have := HT.out.below.size; have := HB7.out.size; omega)⟩
      case measure => simp [intOf] <;> omega
    · have hjn1 : ¬ (j : Int) < n := by omega
      have hwg : w.heap.size ≤ g := by have := HB1.out.size; have := HG.out; omega
      have hB0 := HT.out.below
      have HBR := Lib.hid (show Below w.heap.size w wr from HB7.out.trans hB0)
      have HVR5 := Lib.hid (HT.out.own HV57.out (by decide))
      have HVR6 := Lib.hid (HT.out.own HV67.out (by decide))
      clear hown hB0
      go_wp2_with fail
      -- CopyBytes
      have d1 := G.copyBytes_any g 0 (n + 64) ys wr (in_rd HOWN.out) (by rw [HYS.out]; omega)
      rw [HYS.out] at d1
      refine d1.mono ?_
      rintro e x1 ⟨vc, rfl, hc1, hb1⟩
      rw [HYS.out] at hc1
      obtain ⟨ac, kc, hvc, hkc, hmc⟩ := own_cap hc1
      subst hvc
      have HBX1 := Lib.hid (Bl.tr HBR.out hb1)
      have HOX1 := Lib.hid (Bl.own HOWN.out hb1)
      have HVX15 := Lib.hid (Bl.own HVR5.out hb1)
      have HVX16 := Lib.hid (Bl.own HVR6.out hb1)
      have HCX1 := Lib.hid hc1
      have hx1s := hb1.size
      clear d1 hb1 hc1
      go_wp2_with fail
      -- code.All
      have d2 := All_any g 0 (n + 64) ys x1 (by omega) (by rw [HYS.out]; omega) (by rw [HYS.out]; omega) (rdI_of (in_rd HOX1.out)) HYB.out
      rw [HYS.out] at d2
      refine d2.mono ?_
      rintro e x2 ⟨vm, rfl, ho2, hb2⟩
      obtain ⟨T, hT⟩ : ∃ T, T = allOf ys := ⟨_, rfl⟩
      rw [← hT] at ho2 ⊢
      have HAT := Lib.hid hT
      clear hT
      obtain ⟨am, km, hvm, hkm, hmm⟩ := own_cap ho2
      subst hvm
      have HBX2 := Lib.hid (Bl.tr HBX1.out hb2)
      have HVX25 := Lib.hid (Bl.own HVX15.out hb2)
      have HVX26 := Lib.hid (Bl.own HVX16.out hb2)
      have HCX2 := Lib.hid (Bl.own HCX1.out hb2)
      have HM2 := Lib.hid ho2
      clear d2 hb2 ho2
      go_wp2_with fail
      -- tableauref16.All
      have d3 := refAll_S ac n kc ys x2 HYS.out (by omega) (by unfold maxLen at hmc; omega) hkc (G.RdS.of_own HCX2.out) HYB.out
      refine d3.mono ?_
      rintro e x3 ⟨vw, rfl, ho3, hb3⟩
      rw [← HAT.out] at ho3 ⊢
      obtain ⟨aw, kw, hvw, hkw, hmw⟩ := own_cap ho3
      subst hvw
      have HBX3 := Lib.hid (Bl.tr HBX2.out hb3)
      have HVX35 := Lib.hid (Bl.own HVX25.out hb3)
      have HVX36 := Lib.hid (Bl.own HVX26.out hb3)
      have HM3 := Lib.hid (Bl.own HM2.out hb3)
      have HW3 := Lib.hid ho3
      have HTL := Lib.hid (allOf_le ys)
      rw [← HAT.out] at HTL
      have hTl : T.1.length ≤ 16777217 := by have := HTL.out; have := HYS.out; omega
      clear d3 hb3 ho3
      go_wp2_with fail
      have d4 := eqInstrs_any am aw T.1.length T.1.length km kw T.1 T.1 x3 (G.RdS.of_own HM3.out) (G.RdS.of_own HW3.out) (by unfold maxLen; omega) (by unfold maxLen; omega)
      rw [decide_eq_true rfl] at d4
      refine d4.mono ?_
      rintro e x4 ⟨rfl, q4, rfl⟩
      clear d4
      go_wp2_with fail
      -- the bag
      obtain ⟨y0, hy0⟩ : ∃ y0, y0 = (x3.drewN q4).alloc (.cells nilBag 59) := ⟨_, rfl⟩
      have HYY := Lib.hid hy0
      have hbx : Below x3.heap.size x3 y0 := by rw [hy0]; exact Bl.al (Bl.dn (Below.refl _ _) _) _
      have hblk : G.Blk y0 x3.heap.size 59 nilBag := by rw [hy0]; exact G.Blk.new (x3.drewN q4) 59 nilBag
      have HBY := Lib.hid (Bl.tr HBX3.out hbx)
      have HY5 := Lib.hid (Bl.own HVX35.out hbx)
      have HY6 := Lib.hid (Bl.own HVX36.out hbx)
      have HYM := Lib.hid (Bl.own HM3.out hbx)
      have hwx : w.heap.size ≤ x3.heap.size := HBX3.out.size
      have e1 := G.addInstrs_any w.heap.size x3.heap.size 0 0 R.1.length k5 none a5 nilBag [] y0 hblk rfl (by omega) (World.ownsRow_nil _ _ _ _) hwx
      rw [hy0] at e1
      refine e1.mono ?_
      rintro e y1 ⟨rfl, HA1, hc1, hk1, hr1, ht1⟩
      rw [← HYY.out] at ht1
      have HBK1 := Lib.hid hk1
      have HRW1 := Lib.hid hr1
      have HT1 := Lib.hid ht1
      clear e1 hk1 hr1 ht1 hy0 hbx hblk
      go_wp2_with fail
      have e2 := G.addInstrs_any w.heap.size x3.heap.size 1 hc1 R.1.length k6 HA1 a6 _ [.slice a5 R.1.length k5] y1 HBK1.out (by simp [nilBag]) (by omega) HRW1.out hwx
      refine e2.mono ?_
      rintro e y2 ⟨rfl, HA2, hc2, hk2, hr2, ht2⟩
      have HBK2 := Lib.hid hk2
      have HRW2 := Lib.hid hr2
      have HT2 := Lib.hid (HT1.out.trans ht2)
      clear e2 hk2 hr2 ht2
      go_wp2_with fail
      have e3 := G.addInstrs_any w.heap.size x3.heap.size 2 hc2 T.1.length km HA2 am _ [.slice a5 R.1.length k5, .slice a6 R.1.length k6] y2 HBK2.out (by simp [nilBag]) (by omega) HRW2.out hwx
      refine e3.mono ?_
      rintro e y3 ⟨rfl, HA3, hc3, hk3, hr3, ht3⟩
      have HBK3 := Lib.hid hk3
      have HRW3 := Lib.hid hr3
      have HT3 := Lib.hid (HT2.out.trans ht3)
      clear e3 hk3 hr3 ht3
      go_wp2_with fail
      have f5 := HT3.out.own HY5.out (by decide)
      have f6 := HT3.out.own HY6.out (by decide)
      have fm := HT3.out.own HYM.out (by decide)
      have hsz := HT3.out.below.size
      have hsy := HBY.out.size
      have hfam := fam3 (G.own_ge f5 (by have := HB4.out.size; simp; omega)) (G.own_ge f6 HB5.out.size) (G.own_ge fm (HBX1.out.size)) (later_ne HV5.out HV6.out (Nat.le_refl _)) (later_ne HV57.out HM2.out (by have := HT.out.below.size; omega)) (later_ne HV67.out HM2.out (by have := HT.out.below.size; omega))
      have e4 := G.apart_Instrs w.heap.size x3.heap.size 3 hc3 HA3 _ [⟨.slice a5 R.1.length k5, R.1.length, flat R.1⟩, ⟨.slice a6 R.1.length k6, R.1.length, flat R.1⟩, ⟨.slice am T.1.length km, T.1.length, flat T.1⟩] y3 HBK3.out (by simp [nilBag]) (fun i h1 h2 => by
        rw [Array.getElem?_setIfInBounds_ne (Ne.symm h2), Array.getElem?_setIfInBounds_ne (Ne.symm h2), Array.getElem?_setIfInBounds_ne (Ne.symm h2)]
        exact nilBag_at i h1) rfl (by omega) HRW3.out hfam (by intro l hl; simp only [List.mem_cons, List.mem_nil_iff, or_false] at hl; rcases hl with rfl | rfl | rfl <;> simp only <;> omega) (by omega)
      refine e4.mono ?_
      rintro e y4 ⟨rfl, hO⟩
      have HBF := Lib.hid ((HBY.out.trans HT3.out.below).trans hO.below)
      clear e4 hO hfam f5 f6 fm
      go_wp2_with fail
      go_ret
      exact ⟨rfl, HBF.out⟩
end Go.Proofs.YtfldicaaaadgaaaDoor.Code

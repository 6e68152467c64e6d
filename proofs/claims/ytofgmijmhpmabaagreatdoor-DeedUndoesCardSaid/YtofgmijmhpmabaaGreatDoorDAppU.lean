/- The walk of DeedUndoes. Printed by gen_app.py. -/
import Derived.Test.YtofgmijmhpmabaaGreatDoorDAppL
import Derived.Test.YtofgmijmhpmabaaGreatDoorDRef6L
import Derived.Test.YtofgmijmhpmabaaGreatDoorDWideEv
import Derived.Test.YtofgmijmhpmabaaGreatDoorDWideS
import Derived.Test.YtofgmijmhpmabaaGreatDoorDLives
import Derived.Test.YtofgmijmhpmabaaGreatDoorDLawM
import Derived.Test.YtofgmijmhpmabaaGreatDoorDEqSt
import Derived.Test.YtofgmijmhpmabaaGreatDoorDEqEv
namespace Go.Proofs.YtofgmijmhpmabaaGreatDoor.D
open Go Go.RowKit
set_option linter.unusedVariables false
set_option linter.unusedSimpArgs false
set_option maxRecDepth 100000 in
set_option maxHeartbeats 8000000 in
theorem undoes_long (x : SV) (s : St) (y : EV) (e : Ev) (w : World) (h : RdSt w x s) (hr : RdEv w y e) (hw : Sw s) (hl : e.order.length ≤ 140737488355328) (hby : beyondB s [(y, e)] = true) :
    Calls Tryz.prog 4 #[x.val s, y.val e] w (BoolPost true w) := by
  obtain ⟨iE, hiE, hzE0, hzE1, hzE2⟩ := info_parts infoEv
  have HIE := Lib.hid (And.intro hiE (And.intro hzE0 (And.intro hzE1 hzE2)))
  clear hiE hzE0 hzE1 hzE2
  obtain ⟨fsS, hfsS⟩ := undSt
  have HFS := Lib.hid hfsS
  obtain ⟨fsE, hfsE⟩ := undEv
  have HFE := Lib.hid hfsE
  have HEr := Lib.hid hr
  have HBY := Lib.hid (fun A c W (hW : Below w.heap.size w W) he => beyond_any x s A 1 c [(y, e)] W (h.below hW) hw he (by omega) (fun i => by
    match i with
    | 0 => exact hl
    | i + 1 => simp [zeroP, zeroEv]))
  rw [hby] at HBY
  obtain ⟨cs, hcs⟩ : ∃ c, c = x.arr s := ⟨_, rfl⟩
  obtain ⟨ce, hce⟩ : ∃ c, c = y.arr e := ⟨_, rfl⟩
  have HS := Lib.hid (show cs.size = 7 by rw [hcs]; rfl)
  have HSE := Lib.hid (show ce.size = 12 by rw [hce]; rfl)
  have HCE0 := Lib.hid hce
  have HCS0 := Lib.hid hcs
  have he1 : x.val s = .agg cs := by rw [hcs]; rfl
  have he2 : y.val e = .agg ce := by rw [hce]; rfl
  rw [he1] at HBY ⊢
  rw [he2]
  clear h hr hw hl hcs hce he1 he2 hfsS hfsE hby
  have h1 : G.Blk ((w.alloc (.cells cs 27)).alloc (.cells ce 30)) w.heap.size 27 cs := heap_alloc2_old w _ _
  have h2 : G.Blk ((w.alloc (.cells cs 27)).alloc (.cells ce 30)) (w.heap.size + 1) 30 ce := heap_alloc2_new w _ _
  have hbl0 : Below w.heap.size w ((w.alloc (.cells cs 27)).alloc (.cells ce 30)) := G.bl_alloc (G.bl_alloc (Below.refl _ _) _) _
  go_enter Tryz.func4, Tryz.ntmps4
  go_upto_region 1 with (fail)
  obtain ⟨w0, hw0⟩ : ∃ w0, w0 = (w.alloc (.cells cs 27)).alloc (.cells ce 30) := ⟨_, rfl⟩
  rw [← hw0] at h1 h2 hbl0 ⊢
  clear hw0
  obtain ⟨g, hg⟩ : ∃ g, g = w.heap.size := ⟨_, rfl⟩
  have HG := Lib.hid hg
  rw [← hg] at h1 h2 ⊢
  have HBL0 := Lib.hid hbl0
  have HX0 := Lib.hid h1
  have HE0 := Lib.hid h2
  clear h1 h2 hbl0 hg
  have HEV := Lib.hid (show RdEvs (w0.alloc (.cells ce 30)) (some ⟨w0.heap.size, 0, none⟩) 1 [(y, e)] from ⟨by
    have h9 := rd_blk (sz := 12) (n := 1) (G.Blk.new w0 30 ce) (by rw [Array.length_toList, HSE.out])
    have e9 : flatE [(y, e)] = ce.toList := by rw [HCE0.out]; simp [flatE, cellsE]
    rw [e9]
    exact h9, fun i hi => by
      obtain rfl : i = 0 := by omega
      exact RdEv.below HEr.out (G.bl_alloc HBL0.out _)⟩)
  go_wp2_with (first | (refine wpList_load_row rfl 27 _ rfl g rfl _ cs (0, 0) _ HX0.out HFS.out rfl (by rw [HS.out]; exact sizeSt) ?_) | (refine wpList_load_row rfl 30 _ rfl (g + 1) rfl _ ce (0, 0) _ HE0.out HFE.out rfl (by rw [HSE.out]; exact sizeEv) ?_) | (refine wpList_buildOne rfl 32 30 (.tmp 15) rfl ce rfl iE (.agg zeroE) Tryz.underlying32 HIE.out.1 HIE.out.2.1 (by rw [HIE.out.2.2.1]; decide) (by rw [HIE.out.2.2.1]; decide) (fill_evs HCE0.out HIE.out.2.2.1) ?_) | ((with_reducible refine (HBY.out _ _ _ (G.bl_alloc HBL0.out _) HEV.out).mono ?_); rintro e1 w1 ⟨rfl, hb1⟩; have HBW1 := Lib.hid hb1; clear hb1))
  go_ret
  exact ⟨rfl, G.bl_trans (G.bl_alloc HBL0.out _) HBW1.out⟩
set_option maxRecDepth 100000 in
set_option maxHeartbeats 32000000 in
theorem undoes_short (x : SV) (s : St) (y : EV) (e : Ev) (w : World) (h : RdSt w x s) (hr : RdEv w y e) (hf : e.Fits) (hw : Sw s) (hs : Sz s) (hl : e.order.length ≤ 33554432) (hby : beyondB s [(y, e)] = false) :
    Calls Tryz.prog 4 #[x.val s, y.val e] w (BoolPost true w) := by
  obtain ⟨iE, hiE, hzE0, hzE1, hzE2⟩ := info_parts infoEv
  have HIE := Lib.hid (And.intro hiE (And.intro hzE0 (And.intro hzE1 hzE2)))
  clear hiE hzE0 hzE1 hzE2
  obtain ⟨fsS, hfsS⟩ := undSt
  have HFS := Lib.hid hfsS
  obtain ⟨fsE, hfsE⟩ := undEv
  have HFE := Lib.hid hfsE
  have HEr := Lib.hid hr
  have HBY := Lib.hid (fun A c W (hW : Below w.heap.size w W) he => beyond_any x s A 1 c [(y, e)] W (h.below hW) hw he (by omega) (fun i => by
    match i with
    | 0 => exact (Nat.le_trans hl (by omega))
    | i + 1 => simp [zeroP, zeroEv]))
  rw [hby] at HBY
  have HWS := Lib.hid (fun W (hW : Below w.heap.size w W) => wideState_any x s W (h.below hW) hs)
  have HWE := Lib.hid (fun W (hW : Below w.heap.size w W) => wideEvent_any y e W (RdEv.below hr hW) hl)
  have HRA := Lib.hid (fun W (hW : Below w.heap.size w W) => refUndo_any x s y e W (h.below hW) hs (RdEv.below hr hW) hf hl)
  have HRS := Lib.hid h
  have HSZ := Lib.hid hs
  have HF := Lib.hid hf
  have HLE := Lib.hid hl
  obtain ⟨cs, hcs⟩ : ∃ c, c = x.arr s := ⟨_, rfl⟩
  obtain ⟨ce, hce⟩ : ∃ c, c = y.arr e := ⟨_, rfl⟩
  have HS := Lib.hid (show cs.size = 7 by rw [hcs]; rfl)
  have HSE := Lib.hid (show ce.size = 12 by rw [hce]; rfl)
  have HCE0 := Lib.hid hce
  have HCS0 := Lib.hid hcs
  have he1 : x.val s = .agg cs := by rw [hcs]; rfl
  have he2 : y.val e = .agg ce := by rw [hce]; rfl
  rw [he1] at HWS
  rw [he2] at HWE
  rw [he1, he2] at HRA
  rw [he1] at HBY ⊢
  rw [he2]
  clear h hr hw hf hs hl hcs hce he1 he2 hfsS hfsE hby
  have h1 : G.Blk ((w.alloc (.cells cs 27)).alloc (.cells ce 30)) w.heap.size 27 cs := heap_alloc2_old w _ _
  have h2 : G.Blk ((w.alloc (.cells cs 27)).alloc (.cells ce 30)) (w.heap.size + 1) 30 ce := heap_alloc2_new w _ _
  have hbl0 : Below w.heap.size w ((w.alloc (.cells cs 27)).alloc (.cells ce 30)) := G.bl_alloc (G.bl_alloc (Below.refl _ _) _) _
  go_enter Tryz.func4, Tryz.ntmps4
  go_upto_region 1 with (fail)
  obtain ⟨w0, hw0⟩ : ∃ w0, w0 = (w.alloc (.cells cs 27)).alloc (.cells ce 30) := ⟨_, rfl⟩
  rw [← hw0] at h1 h2 hbl0 ⊢
  clear hw0
  obtain ⟨g, hg⟩ : ∃ g, g = w.heap.size := ⟨_, rfl⟩
  have HG := Lib.hid hg
  rw [← hg] at h1 h2 ⊢
  have HBL0 := Lib.hid hbl0
  have HX0 := Lib.hid h1
  have HE0 := Lib.hid h2
  clear h1 h2 hbl0 hg
  have HEV := Lib.hid (show RdEvs (w0.alloc (.cells ce 30)) (some ⟨w0.heap.size, 0, none⟩) 1 [(y, e)] from ⟨by
    have h9 := rd_blk (sz := 12) (n := 1) (G.Blk.new w0 30 ce) (by rw [Array.length_toList, HSE.out])
    have e9 : flatE [(y, e)] = ce.toList := by rw [HCE0.out]; simp [flatE, cellsE]
    rw [e9]
    exact h9, fun i hi => by
      obtain rfl : i = 0 := by omega
      exact RdEv.below HEr.out (G.bl_alloc HBL0.out _)⟩)
  go_upto_region 3 with (first | (refine wpList_load_row rfl 27 _ rfl g rfl _ cs (0, 0) _ HX0.out HFS.out rfl (by rw [HS.out]; exact sizeSt) ?_) | (refine wpList_load_row rfl 30 _ rfl (g + 1) rfl _ ce (0, 0) _ HE0.out HFE.out rfl (by rw [HSE.out]; exact sizeEv) ?_) | (refine wpList_buildOne rfl 32 30 (.tmp 15) rfl ce rfl iE (.agg zeroE) Tryz.underlying32 HIE.out.1 HIE.out.2.1 (by rw [HIE.out.2.2.1]; decide) (by rw [HIE.out.2.2.1]; decide) (fill_evs HCE0.out HIE.out.2.2.1) ?_) | ((with_reducible refine (HBY.out _ _ _ (G.bl_alloc HBL0.out _) HEV.out).mono ?_); rintro e1 w1 ⟨rfl, hb1⟩; have HBW1 := Lib.hid hb1; clear hb1))
  have hw1 := G.bl_trans (G.bl_alloc (Below.refl w0.heap.size w0) _) HBW1.out
  have HBL1 := Lib.hid (G.bl_trans HBL0.out hw1)
  have HX1 := Lib.hid (HX0.out.below hw1 HX0.out.lt)
  have HE1 := Lib.hid (HE0.out.below hw1 HE0.out.lt)
  clear hw1
  have HWS1 := Lib.hid (HWS.out w1 HBL1.out)
  go_upto_region 4 with (first | (refine wpList_load_row rfl 27 _ rfl g rfl _ cs (0, 0) _ HX1.out HFS.out rfl (by rw [HS.out]; exact sizeSt) ?_) | ((with_reducible refine (HWS1.out).mono ?_); rintro e2 w2 hp; obtain ⟨gp, gc, gz, rs, rfl, hws, hb2⟩ := hp; have HW2 := Lib.hid hws; have HB2 := Lib.hid hb2; clear hws hb2) | (refine wpList_store_row rfl 27 _ _ rfl _ ((wSV s gp gc gz rs).arr s) rfl rfl 27 _ (heap_alloc_new _ _) (by kernel_rfl) rfl (arr_one _ _) ?_))
  have HBK5 := Lib.hid (show G.Blk ((w2.alloc (.cells zeroA 27)).setRow w2.heap.size ((wSV s gp gc gz rs).arr s)) w2.heap.size 27 ((wSV s gp gc gz rs).arr s) from setRow_heap _ _ _ _ _ _ (heap_alloc_new _ _))
  have HST5 := Lib.hid (show Below w2.heap.size w2 ((w2.alloc (.cells zeroA 27)).setRow w2.heap.size ((wSV s gp gc gz rs).arr s)) from below_setRow (G.bl_alloc (Below.refl _ _) _) (Nat.le_refl _) _)
  obtain ⟨g5, hg5⟩ : ∃ q, q = w2.heap.size := ⟨_, rfl⟩
  obtain ⟨w3, hw3⟩ : ∃ q, q = (w2.alloc (.cells zeroA 27)).setRow w2.heap.size ((wSV s gp gc gz rs).arr s) := ⟨_, rfl⟩
  rw [← hw3] at HBK5 HST5
  rw [← hg5] at HBK5
  unfold zeroA at hw3
  rw [← hw3, ← hg5]
  have HGE5 := Lib.hid hg5
  clear hw3 hg5
  obtain ⟨c5, hc5⟩ : ∃ c, c = (wSV s gp gc gz rs).arr s := ⟨_, rfl⟩
  have HCC5 := Lib.hid hc5
  rw [← hc5] at HBK5
  have HZ5 := Lib.hid (show c5.size = 7 by rw [hc5]; rfl)
  try rw [show ((wSV s gp gc gz rs).val s) = .agg c5 by rw [hc5]; rfl]
  clear hc5
  have HX3 := Lib.hid ((HX1.out.below HB2.out HX1.out.lt).below HST5.out (HX1.out.below HB2.out HX1.out.lt).lt)
  have HE3 := Lib.hid ((HE1.out.below HB2.out HE1.out.lt).below HST5.out (HE1.out.below HB2.out HE1.out.lt).lt)
  have HBL3 := Lib.hid (G.bl_trans (G.bl_trans HBL1.out HB2.out) HST5.out)
  have HW3 := Lib.hid (HW2.out.below HST5.out)
  have HWE3 := Lib.hid (HWE.out w3 HBL3.out)
  clear HX0 HE0 HX1 HE1 HBW1 HBL0 HEV HBY
  go_upto_region 5 with (first | (refine wpList_load_row rfl 30 _ rfl (g + 1) rfl _ ce (0, 0) _ HE3.out HFE.out rfl (by rw [HSE.out]; exact sizeEv) ?_) | ((with_reducible refine (HWE3.out).mono ?_); rintro e4 w4 hp; obtain ⟨gI, rfl, hwe, hb4⟩ := hp; have HV4 := Lib.hid hwe; have HB4 := Lib.hid hb4; clear hwe hb4) | (refine wpList_store_row rfl 30 _ _ rfl _ ((wEV gI e).arr e) rfl rfl 30 _ (heap_alloc_new _ _) (by kernel_rfl) (by kernel_rfl) (by kernel_rfl) ?_))
  have HBK6 := Lib.hid (show G.Blk ((w4.alloc (.cells zeroE 30)).setRow w4.heap.size ((wEV gI e).arr e)) w4.heap.size 30 ((wEV gI e).arr e) from setRow_heap _ _ _ _ _ _ (heap_alloc_new _ _))
  have HST6 := Lib.hid (show Below w4.heap.size w4 ((w4.alloc (.cells zeroE 30)).setRow w4.heap.size ((wEV gI e).arr e)) from below_setRow (G.bl_alloc (Below.refl _ _) _) (Nat.le_refl _) _)
  obtain ⟨g6, hg6⟩ : ∃ q, q = w4.heap.size := ⟨_, rfl⟩
  obtain ⟨w5, hw5⟩ : ∃ q, q = (w4.alloc (.cells zeroE 30)).setRow w4.heap.size ((wEV gI e).arr e) := ⟨_, rfl⟩
  rw [← hw5] at HBK6 HST6
  rw [← hg6] at HBK6
  unfold zeroE at hw5
  rw [← hw5, ← hg6]
  have HGE6 := Lib.hid hg6
  clear hw5 hg6
  obtain ⟨c6, hc6⟩ : ∃ c, c = (wEV gI e).arr e := ⟨_, rfl⟩
  have HCC6 := Lib.hid hc6
  rw [← hc6] at HBK6
  have HZ6 := Lib.hid (show c6.size = 12 by rw [hc6]; rfl)
  try rw [show ((wEV gI e).val e) = .agg c6 by rw [hc6]; rfl]
  clear hc6
  have HB35 := Lib.hid (G.bl_trans HB4.out HST6.out)
  have HX5 := Lib.hid (HX3.out.below HB35.out HX3.out.lt)
  have HE5 := Lib.hid (HE3.out.below HB35.out HE3.out.lt)
  have HBL5 := Lib.hid (G.bl_trans HBL3.out HB35.out)
  have HK5 := Lib.hid (HBK5.out.below HB35.out HBK5.out.lt)
  have HW5 := Lib.hid (HW3.out.below HB35.out)
  have HV5 := Lib.hid (HV4.out.below HST6.out)
  have HAP := Lib.hid (fun W (hW : Below w5.heap.size w5 W) => undo_any (wSV s gp gc gz rs) s (wEV gI e) e W (HW5.out.own.rd.below hW) HSZ.out (RdEv.below HV5.out.rd hW) HF.out HLE.out)
  rw [show (wSV s gp gc gz rs).val s = .agg c5 by rw [HCC5.out]; rfl, show (wEV gI e).val e = .agg c6 by rw [HCC6.out]; rfl] at HAP
  clear HX3 HE3 HBK5 HWE3 HWS1 HWE HWS
  have HB55 := Lib.hid (Below.refl w5.heap.size w5)
  have HCL7 := Lib.hid (HAP.out w5 HB55.out)
  go_upto_region 6 with (first | (refine wpList_load_row rfl 27 _ rfl g5 rfl _ c5 (0, 0) _ HK5.out HFS.out rfl (by rw [HZ5.out]; exact sizeSt) ?_) | (refine wpList_load_row rfl 30 _ rfl g6 rfl _ c6 (0, 0) _ HBK6.out HFE.out rfl (by rw [HZ6.out]; exact sizeEv) ?_) | ((with_reducible refine (HCL7.out).mono ?_); rintro e7 w6 hp; obtain ⟨x7, t7, k7, rfl, ho, hb, hc⟩ := hp; have HO7 := Lib.hid ho; have HB7 := Lib.hid hb; have HC7 := Lib.hid hc; clear ho hb hc) | (refine wpList_store_row rfl 27 _ _ rfl _ (x7.arr t7) rfl rfl 27 _ (heap_alloc_new _ _) (by kernel_rfl) rfl (arr_one _ _) ?_))
  have HBK7 := Lib.hid (show G.Blk ((w6.alloc (.cells zeroA 27)).setRow w6.heap.size (x7.arr t7)) w6.heap.size 27 (x7.arr t7) from setRow_heap _ _ _ _ _ _ (heap_alloc_new _ _))
  have HST7 := Lib.hid (show Below w6.heap.size w6 ((w6.alloc (.cells zeroA 27)).setRow w6.heap.size (x7.arr t7)) from below_setRow (G.bl_alloc (Below.refl _ _) _) (Nat.le_refl _) _)
  obtain ⟨g7, hg7⟩ : ∃ q, q = w6.heap.size := ⟨_, rfl⟩
  obtain ⟨w7, hw7⟩ : ∃ q, q = (w6.alloc (.cells zeroA 27)).setRow w6.heap.size (x7.arr t7) := ⟨_, rfl⟩
  rw [← hw7] at HBK7 HST7
  rw [← hg7] at HBK7
  unfold zeroA at hw7
  rw [← hw7, ← hg7]
  have HGE7 := Lib.hid hg7
  clear hw7 hg7
  obtain ⟨c7, hc7⟩ : ∃ c, c = x7.arr t7 := ⟨_, rfl⟩
  have HCC7 := Lib.hid hc7
  rw [← hc7] at HBK7
  have HZ7 := Lib.hid (show c7.size = 7 by rw [hc7]; rfl)
  try rw [show (x7.val t7) = .agg c7 by rw [hc7]; rfl]
  clear hc7
  have HBN7 := Lib.hid (G.bl_trans HB7.out HST7.out)
  have HQX_7 := Lib.hid (HX5.out.below HBN7.out HX5.out.lt)
  have HQE_7 := Lib.hid (HE5.out.below HBN7.out HE5.out.lt)
  have HQ5_7 := Lib.hid (HK5.out.below HBN7.out HK5.out.lt)
  have HQ6_7 := Lib.hid (HBK6.out.below HBN7.out HBK6.out.lt)
  have HB55 := Lib.hid (G.bl_trans HB55.out HBN7.out)
  have HON7 := Lib.hid (HO7.out.below HST7.out)
  have HWB7 := Lib.hid (show w5.heap.size ≤ w6.heap.size from HB7.out.size)
  have HWS7 := Lib.hid (show w6.heap.size ≤ w7.heap.size from HST7.out.size)
  have HCL9 := Lib.hid (HAP.out w7 HB55.out)
  go_upto_region 7 with (first | (refine wpList_load_row rfl 27 _ rfl g5 rfl _ c5 (0, 0) _ HQ5_7.out HFS.out rfl (by rw [HZ5.out]; exact sizeSt) ?_) | (refine wpList_load_row rfl 30 _ rfl g6 rfl _ c6 (0, 0) _ HQ6_7.out HFE.out rfl (by rw [HZ6.out]; exact sizeEv) ?_) | ((with_reducible refine (HCL9.out).mono ?_); rintro e9 w8 hp; obtain ⟨x9, t9, k9, rfl, ho, hb, hc⟩ := hp; have HO9 := Lib.hid ho; have HB9 := Lib.hid hb; have HC9 := Lib.hid hc; clear ho hb hc) | (refine wpList_store_row rfl 27 _ _ rfl _ (x9.arr t9) rfl rfl 27 _ (heap_alloc_new _ _) (by kernel_rfl) rfl (arr_one _ _) ?_))
  have HBK9 := Lib.hid (show G.Blk ((w8.alloc (.cells zeroA 27)).setRow w8.heap.size (x9.arr t9)) w8.heap.size 27 (x9.arr t9) from setRow_heap _ _ _ _ _ _ (heap_alloc_new _ _))
  have HST9 := Lib.hid (show Below w8.heap.size w8 ((w8.alloc (.cells zeroA 27)).setRow w8.heap.size (x9.arr t9)) from below_setRow (G.bl_alloc (Below.refl _ _) _) (Nat.le_refl _) _)
  obtain ⟨g9, hg9⟩ : ∃ q, q = w8.heap.size := ⟨_, rfl⟩
  obtain ⟨w9, hw9⟩ : ∃ q, q = (w8.alloc (.cells zeroA 27)).setRow w8.heap.size (x9.arr t9) := ⟨_, rfl⟩
  rw [← hw9] at HBK9 HST9
  rw [← hg9] at HBK9
  unfold zeroA at hw9
  rw [← hw9, ← hg9]
  have HGE9 := Lib.hid hg9
  clear hw9 hg9
  obtain ⟨c9, hc9⟩ : ∃ c, c = x9.arr t9 := ⟨_, rfl⟩
  have HCC9 := Lib.hid hc9
  rw [← hc9] at HBK9
  have HZ9 := Lib.hid (show c9.size = 7 by rw [hc9]; rfl)
  try rw [show (x9.val t9) = .agg c9 by rw [hc9]; rfl]
  clear hc9
  have HBN9 := Lib.hid (G.bl_trans HB9.out HST9.out)
  have HQX_9 := Lib.hid (HQX_7.out.below HBN9.out HQX_7.out.lt)
  have HQE_9 := Lib.hid (HQE_7.out.below HBN9.out HQE_7.out.lt)
  have HQ5_9 := Lib.hid (HQ5_7.out.below HBN9.out HQ5_7.out.lt)
  have HQ6_9 := Lib.hid (HQ6_7.out.below HBN9.out HQ6_7.out.lt)
  have HQ7_9 := Lib.hid (HBK7.out.below HBN9.out HBK7.out.lt)
  have HB55 := Lib.hid (G.bl_trans HB55.out HBN9.out)
  have HON9 := Lib.hid (HO9.out.below HST9.out)
  have HON7 := Lib.hid (HON7.out.below HBN9.out)
  have HWB9 := Lib.hid (show w7.heap.size ≤ w8.heap.size from HB9.out.size)
  have HWS9 := Lib.hid (show w8.heap.size ≤ w9.heap.size from HST9.out.size)
  have HBL5x := Lib.hid (G.bl_trans HBL5.out HB55.out)
  have HCL11 := Lib.hid (HRA.out w9 HBL5x.out)
  go_upto_region 8 with (first | (refine wpList_load_row rfl 27 _ rfl g rfl _ cs (0, 0) _ HQX_9.out HFS.out rfl (by rw [HS.out]; exact sizeSt) ?_) | (refine wpList_load_row rfl 30 _ rfl (g + 1) rfl _ ce (0, 0) _ HQE_9.out HFE.out rfl (by rw [HSE.out]; exact sizeEv) ?_) | ((with_reducible refine (HCL11.out).mono ?_); rintro e11 w10 hp; obtain ⟨x11, t11, k11, rfl, ho, hb, hc⟩ := hp; have HO11 := Lib.hid ho; have HB11 := Lib.hid hb; have HC11 := Lib.hid hc; clear ho hb hc) | (refine wpList_store_row rfl 27 _ _ rfl _ (x11.arr t11) rfl rfl 27 _ (heap_alloc_new _ _) (by kernel_rfl) rfl (arr_one _ _) ?_))
  have HBK11 := Lib.hid (show G.Blk ((w10.alloc (.cells zeroA 27)).setRow w10.heap.size (x11.arr t11)) w10.heap.size 27 (x11.arr t11) from setRow_heap _ _ _ _ _ _ (heap_alloc_new _ _))
  have HST11 := Lib.hid (show Below w10.heap.size w10 ((w10.alloc (.cells zeroA 27)).setRow w10.heap.size (x11.arr t11)) from below_setRow (G.bl_alloc (Below.refl _ _) _) (Nat.le_refl _) _)
  obtain ⟨g11, hg11⟩ : ∃ q, q = w10.heap.size := ⟨_, rfl⟩
  obtain ⟨w11, hw11⟩ : ∃ q, q = (w10.alloc (.cells zeroA 27)).setRow w10.heap.size (x11.arr t11) := ⟨_, rfl⟩
  rw [← hw11] at HBK11 HST11
  rw [← hg11] at HBK11
  unfold zeroA at hw11
  rw [← hw11, ← hg11]
  have HGE11 := Lib.hid hg11
  clear hw11 hg11
  obtain ⟨c11, hc11⟩ : ∃ c, c = x11.arr t11 := ⟨_, rfl⟩
  have HCC11 := Lib.hid hc11
  rw [← hc11] at HBK11
  have HZ11 := Lib.hid (show c11.size = 7 by rw [hc11]; rfl)
  try rw [show (x11.val t11) = .agg c11 by rw [hc11]; rfl]
  clear hc11
  have HBN11 := Lib.hid (G.bl_trans HB11.out HST11.out)
  have HQX_11 := Lib.hid (HQX_9.out.below HBN11.out HQX_9.out.lt)
  have HQE_11 := Lib.hid (HQE_9.out.below HBN11.out HQE_9.out.lt)
  have HQ5_11 := Lib.hid (HQ5_9.out.below HBN11.out HQ5_9.out.lt)
  have HQ6_11 := Lib.hid (HQ6_9.out.below HBN11.out HQ6_9.out.lt)
  have HQ7_11 := Lib.hid (HQ7_9.out.below HBN11.out HQ7_9.out.lt)
  have HQ9_11 := Lib.hid (HBK9.out.below HBN11.out HBK9.out.lt)
  have HB55 := Lib.hid (G.bl_trans HB55.out HBN11.out)
  have HON11 := Lib.hid (HO11.out.below HST11.out)
  have HON7 := Lib.hid (HON7.out.below HBN11.out)
  have HON9 := Lib.hid (HON9.out.below HBN11.out)
  have HWB11 := Lib.hid (show w9.heap.size ≤ w10.heap.size from HB11.out.size)
  have HWS11 := Lib.hid (show w10.heap.size ≤ w11.heap.size from HST11.out.size)
  have HSV := Lib.hid (show Sev w11 g g5 g6 g7 g9 g11 cs ce c5 c6 c7 c9 c11 from ⟨HQX_11.out, HQE_11.out, HQ5_11.out, HQ6_11.out, HQ7_11.out, HQ9_11.out, HBK11.out⟩)
  obtain ⟨hk9, ht9⟩ := one_same HC7.out HC9.out
  obtain ⟨hk11, ht11⟩ := one_same HC7.out HC11.out
  obtain ⟨hsz7, hfew7⟩ := one_small HC7.out
  have HSZ7 := Lib.hid hsz7
  have HFW7 := Lib.hid hfew7
  clear hsz7 hfew7
  have hk9 := hk9.symm
  have hk11 := hk11.symm
  have ht9 := ht9.symm
  have ht11 := ht11.symm
  subst hk9
  subst hk11
  subst ht9
  subst ht11
  have hkk : (k7 != k7) = false := by simp
  have HBLw := Lib.hid (G.bl_trans HBL5.out HB55.out)
  have HBC := Lib.hid (Below.refl w11.heap.size w11)
  have HWw := Lib.hid (HW5.out.below HB55.out)
  have HVw := Lib.hid (HV5.out.below HB55.out)
  have HRw := Lib.hid (HRS.out.below HBLw.out)
  have HEw := Lib.hid (RdEv.below HEr.out HBLw.out)
  have HQ1 := Lib.hid (fun W (hW : Below w11.heap.size w11 W) => eqState_any x7 x11 t7 t7 W (HON7.out.rd.below hW) (HON11.out.rd.below hW) HSZ7.out HSZ7.out)
  have HQ2 := Lib.hid (fun W (hW : Below w11.heap.size w11 W) => eqState_any x9 x11 t7 t7 W (HON9.out.rd.below hW) (HON11.out.rd.below hW) HSZ7.out HSZ7.out)
  have HQ3 := Lib.hid (fun W (hW : Below w11.heap.size w11 W) => stays_any gp gc gz w1.heap.size rs x s W (HWw.out.below hW) (HRw.out.below hW) HSZ.out)
  have HQ4 := Lib.hid (fun W (hW : Below w11.heap.size w11 W) => eqEvent_any (wEV gI e) y e e W (RdEv.below HVw.out.rd hW) (RdEv.below HEw.out hW) HLE.out HLE.out)
  have HQ5 := Lib.hid (fun W (hW : Below w11.heap.size w11 W) => spareEvent_any gI w3.heap.size e W (HVw.out.below hW) HLE.out)
  rw [show decide (t7 = t7) = true from decide_eq_true rfl] at HQ1 HQ2
  rw [show decide (e = e) = true from decide_eq_true rfl] at HQ4
  rw [show x7.val t7 = .agg c7 by rw [HCC7.out]; rfl, show x11.val t7 = .agg c11 by rw [HCC11.out]; rfl] at HQ1
  rw [show x9.val t7 = .agg c9 by rw [HCC9.out]; rfl, show x11.val t7 = .agg c11 by rw [HCC11.out]; rfl] at HQ2
  rw [show (wSV s gp gc gz rs).val s = .agg c5 by rw [HCC5.out]; rfl, show x.val s = .agg cs by rw [HCS0.out]; rfl] at HQ3
  rw [show (wEV gI e).val e = .agg c6 by rw [HCC6.out]; rfl, show y.val e = .agg ce by rw [HCE0.out]; rfl] at HQ4
  rw [show (wEV gI e).val e = .agg c6 by rw [HCC6.out]; rfl] at HQ5
  go_wp2_with (first | (refine wpList_load_row_g (by rfl) 27 _ rfl g7 rfl _ c7 (0, 0) _ HSV.out.e HFS.out rfl (by rw [HZ7.out]; exact sizeSt) ?_) | (refine wpList_load_row_g (by rfl) 27 _ rfl g11 rfl _ c11 (0, 0) _ HSV.out.h HFS.out rfl (by rw [HZ11.out]; exact sizeSt) ?_))
  refine (HQ1.out _ HBC.out).mono ?_
  rintro e21 w21 ⟨rfl, hb21⟩
  have HN := Lib.hid hb21
  clear hb21
  have HBC := Lib.hid (G.bl_trans HBC.out HN.out)
  have HSV := Lib.hid (HSV.out.below HN.out)
  clear HN
  go_wp2_with (first | (refine wpList_load_row_g (by rfl) 27 _ rfl g9 rfl _ c9 (0, 0) _ HSV.out.f HFS.out rfl (by rw [HZ9.out]; exact sizeSt) ?_) | (refine wpList_load_row_g (by rfl) 27 _ rfl g11 rfl _ c11 (0, 0) _ HSV.out.h HFS.out rfl (by rw [HZ11.out]; exact sizeSt) ?_))
  refine (HQ2.out _ HBC.out).mono ?_
  rintro e22 w22 ⟨rfl, hb22⟩
  have HN := Lib.hid hb22
  clear hb22
  have HBC := Lib.hid (G.bl_trans HBC.out HN.out)
  have HSV := Lib.hid (HSV.out.below HN.out)
  clear HN
  go_wp2_with (first | (refine wpList_load_row_g (by rfl) 27 _ rfl g5 rfl _ c5 (0, 0) _ HSV.out.c HFS.out rfl (by rw [HZ5.out]; exact sizeSt) ?_) | (refine wpList_load_row_g (by rfl) 27 _ rfl g rfl _ cs (0, 0) _ HSV.out.a HFS.out rfl (by rw [HS.out]; exact sizeSt) ?_))
  refine (HQ3.out _ HBC.out).mono ?_
  rintro e23 w23 ⟨rfl, hb23⟩
  have HN := Lib.hid hb23
  clear hb23
  have HBC := Lib.hid (G.bl_trans HBC.out HN.out)
  have HSV := Lib.hid (HSV.out.below HN.out)
  clear HN
  go_wp2_with (first | (refine wpList_load_row_g (by rfl) 30 _ rfl g6 rfl _ c6 (0, 0) _ HSV.out.d HFE.out rfl (by rw [HZ6.out]; exact sizeEv) ?_) | (refine wpList_load_row_g (by rfl) 30 _ rfl (g + 1) rfl _ ce (0, 0) _ HSV.out.b HFE.out rfl (by rw [HSE.out]; exact sizeEv) ?_))
  refine (HQ4.out _ HBC.out).mono ?_
  rintro e24 w24 ⟨rfl, hb24⟩
  have HN := Lib.hid hb24
  clear hb24
  have HBC := Lib.hid (G.bl_trans HBC.out HN.out)
  have HSV := Lib.hid (HSV.out.below HN.out)
  clear HN
  go_wp2_with (first | (refine wpList_load_row_g (by rfl) 30 _ rfl g6 rfl _ c6 (0, 0) _ HSV.out.d HFE.out rfl (by rw [HZ6.out]; exact sizeEv) ?_))
  refine (HQ5.out _ HBC.out).mono ?_
  rintro e25 w25 ⟨rfl, hb25⟩
  have HN := Lib.hid hb25
  clear hb25
  have HBC := Lib.hid (G.bl_trans HBC.out HN.out)
  have HSV := Lib.hid (HSV.out.below HN.out)
  clear HN
  have HSPL := Lib.hid (spoil_any w1.heap.size (wSV s gp gc gz rs) s w2 w25 HW2.out.own (G.bl_trans (G.bl_trans (G.bl_trans HST5.out HB35.out) HB55.out) HBC.out) HSZ.out)
  rw [show (wSV s gp gc gz rs).val s = .agg c5 by rw [HCC5.out]; rfl] at HSPL
  go_wp2_with (first | (refine wpList_load_row_g (by rfl) 27 _ rfl g5 rfl _ c5 (0, 0) _ HSV.out.c HFS.out rfl (by rw [HZ5.out]; exact sizeSt) ?_))
  refine (HSPL.out).mono ?_
  rintro e26 w26 ⟨rfl, hsp⟩
  have HSP := Lib.hid hsp
  clear hsp HSPL
  have HBLx := Lib.hid (span_bl HSP.out (G.bl_trans HBLw.out HBC.out) (HBL1.out.size) (G.bl_trans HBLw.out HBC.out).size)
  have hT5 : w2.heap.size ≤ w5.heap.size := (G.bl_trans HST5.out HB35.out).size
  have HT7 := Lib.hid hT5
  have HT9 := Lib.hid (show w2.heap.size ≤ w7.heap.size from Nat.le_trans hT5 (Nat.le_trans HWB7.out HWS7.out))
  have HT11 := Lib.hid (show w2.heap.size ≤ w9.heap.size from Nat.le_trans HT9.out (Nat.le_trans HWB9.out HWS9.out))
  clear hT5
  have HOS7 := Lib.hid ((HON7.out.below HBC.out).span HSP.out HT7.out)
  have HOS9 := Lib.hid ((HON9.out.below HBC.out).span HSP.out HT9.out)
  have HOS11 := Lib.hid ((HON11.out.below HBC.out).span HSP.out HT11.out)
  have HK7 := Lib.hid (HSP.out.blk HSV.out.e (by rw [HGE7.out]; exact Nat.le_trans HT7.out HWB7.out))
  have HK9 := Lib.hid (HSP.out.blk HSV.out.f (by rw [HGE9.out]; exact Nat.le_trans HT9.out HWB9.out))
  have HK11 := Lib.hid (HSP.out.blk HSV.out.h (by rw [HGE11.out]; exact Nat.le_trans HT11.out HWB11.out))
  have HQ6 := Lib.hid (eqState_any x7 x11 t7 t7 w26 HOS7.out.rd HOS11.out.rd HSZ7.out HSZ7.out)
  rw [show decide (t7 = t7) = true from decide_eq_true rfl] at HQ6
  rw [show x7.val t7 = .agg c7 by rw [HCC7.out]; rfl, show x11.val t7 = .agg c11 by rw [HCC11.out]; rfl] at HQ6
  have HSN := Lib.hid (show w6.heap.size ≤ w26.heap.size from Nat.le_trans HWS7.out (Nat.le_trans (Nat.le_trans HWB9.out HWS9.out) (Nat.le_trans (Nat.le_trans HWB11.out HWS11.out) (Nat.le_trans HBC.out.size HSP.out.size))))
  clear HSP HBC HSV HQ1 HQ2 HQ3 HQ4 HQ5
  go_wp2_with (first | (refine wpList_load_row rfl 27 _ rfl g7 rfl _ c7 (0, 0) _ HK7.out HFS.out rfl (by rw [HZ7.out]; exact sizeSt) ?_) | (refine wpList_load_row rfl 27 _ rfl g11 rfl _ c11 (0, 0) _ HK11.out HFS.out rfl (by rw [HZ11.out]; exact sizeSt) ?_))
  refine (HQ6.out).mono ?_
  rintro e27 w27 ⟨rfl, hb27⟩
  have HB27 := Lib.hid hb27
  have HP7 := Lib.hid (HOS7.out.below hb27)
  have HP9 := Lib.hid (HOS9.out.below hb27)
  have HL7 := Lib.hid (HK7.out.below hb27 HK7.out.lt)
  have HL9 := Lib.hid (HK9.out.below hb27 HK9.out.lt)
  have HBLy := Lib.hid (G.bl_trans HBLx.out hb27)
  have HSN := Lib.hid (Nat.le_trans HSN.out hb27.size)
  clear hb27
  obtain ⟨cb, hcb⟩ : ∃ c, c = zeroBag := ⟨_, rfl⟩
  have HCB := Lib.hid (show Tryz.prog.built 64 [] = some cb by rw [hcb]; exact zeroBag_b)
  have HCN := Lib.hid (show cb.size = 21 ∧ ∀ i, i < 21 → cb[i]? = some (.slice none 0 0) by rw [hcb]; exact ⟨rfl, zeroBag_at⟩)
  clear hcb
  go_upto_region 14 with (first | (refine build_to cb rfl 64 _ rfl _ (by kernel_rfl) HCB.out ?_))
  have HBG := Lib.hid (G.BagAll.start w27 HCN.out.1 HCN.out.2)
  have HB28 := Lib.hid (show Below w27.heap.size w27 (w27.alloc (.cells cb 64)) from G.bl_alloc (Below.refl _ _) _)
  obtain ⟨w28, hw28⟩ : ∃ q, q = w27.alloc (.cells cb 64) := ⟨_, rfl⟩
  rw [← hw28] at HBG HB28 ⊢
  clear hw28
  obtain ⟨gb, hgb⟩ : ∃ q, q = w27.heap.size := ⟨_, rfl⟩
  have HGB := Lib.hid hgb
  rw [← hgb] at HBG ⊢
  clear hgb
  have HL7b := Lib.hid (HL7.out.below HB28.out HL7.out.lt)
  have HAD := Lib.hid (addState_any gb w5.heap.size x7 t7 (fun _ => []) w27 w28 HP7.out HB28.out (by rw [HGB.out]; exact Nat.le_refl _) HBG.out (by decide) (by decide) (by decide) (by have := HFW7.out.z; show 0 + _ ≤ _; omega))
  rw [show x7.val t7 = .agg c7 by rw [HCC7.out]; rfl] at HAD
  go_wp2_with (first | (refine wpList_load_row rfl 27 _ rfl g7 rfl _ c7 (0, 0) _ HL7b.out HFS.out rfl (by rw [HZ7.out]; exact sizeSt) ?_))
  refine (HAD.out).mono ?_
  rintro e29 w29 ⟨rfl, htc, hbag⟩
  have HBG2 := Lib.hid hbag
  have HB29 := Lib.hid (show Below w27.heap.size w27 w29 from HB28.out.trans (by rw [← HGB.out]; exact htc.below))
  clear htc hbag
  have HL9b := Lib.hid (HL9.out.below HB29.out HL9.out.lt)
  have HAD2 := Lib.hid (addState_any gb w7.heap.size x9 t7 _ w27 w29 HP9.out HB29.out (by rw [HGB.out]; exact Nat.le_refl _) HBG2.out (by rw [addSt_7]; simp) (by rw [addSt_8]; simp) (by rw [addSt_12]; simp) (by rw [addSt_1, List.nil_append, HP7.out.rows_len]; have := HFW7.out.z; omega))
  rw [show x9.val t7 = .agg c9 by rw [HCC9.out]; rfl] at HAD2
  go_wp2_with (first | (refine wpList_load_row rfl 27 _ rfl g9 rfl _ c9 (0, 0) _ HL9b.out HFS.out rfl (by rw [HZ9.out]; exact sizeSt) ?_))
  refine (HAD2.out).mono ?_
  rintro e30 w30 ⟨rfl, htc, hbag⟩
  have HBG3 := Lib.hid hbag
  have HB30 := Lib.hid (show Below w27.heap.size w27 w30 from HB29.out.trans (by rw [← HGB.out]; exact htc.below))
  clear htc hbag
  have hle : w.heap.size ≤ w5.heap.size := HBL5.out.size
  have hle7 : w5.heap.size ≤ w7.heap.size := Nat.le_trans HWB7.out HWS7.out
  have HAPT := Lib.hid (apart_two2 gb w.heap.size w5.heap.size w7.heap.size x7 x9 t7 t7 w6 w27 w30 HO7.out HP7.out HP9.out HWS7.out HSN.out HB30.out (by rw [HGB.out]; exact Nat.le_refl _) hle (Nat.le_trans hle hle7) (by rw [HGB.out]; exact HBLy.out.size) HBG3.out HFW7.out HFW7.out)
  clear hle hle7
  go_wp2_with fail
  refine (HAPT.out).mono ?_
  rintro e31 w31 ⟨rfl, hb31⟩
  have HB31 := Lib.hid ((G.bl_trans HBLy.out HB30.out).trans hb31)
  clear hb31
  have HLI := Lib.hid (lives_any w31)
  go_wp2_with fail
  refine (HLI.out).mono ?_
  rintro e32 w32 ⟨rfl, hb32⟩
  have HB32 := Lib.hid (G.bl_trans HB31.out hb32)
  clear hb32
  go_wp2_with fail
  go_ret
  exact ⟨rfl, HB32.out⟩
theorem undoes_any (x : SV) (s : St) (y : EV) (e : Ev) (w : World) (h : RdSt w x s) (hr : RdEv w y e) (hf : e.Fits) (hw : Sw s) (hl : e.order.length ≤ 140737488355328) :
    Calls Tryz.prog 4 #[x.val s, y.val e] w (BoolPost true w) := by
  cases hby : beyondB s [(y, e)] with
  | true => exact undoes_long x s y e w h hr hw hl hby
  | false =>
    have h1 : amountSt s + sizeEs [(y, e)] ≤ 16777216 := by
      have := of_decide_eq_false hby
      omega
    have h2 : e.order.length ≤ 16777216 := by
      have h3 : sizeEs [(y, e)] ≤ 16777216 := by omega
      exact sumTo_mem (a := e.order.length) h3 (by simp)
    exact undoes_short x s y e w h hr hf hw (amount_sz (by omega)) (by omega) hby
end Go.Proofs.YtofgmijmhpmabaaGreatDoor.D

/- The walk of DeedTexts. -/
import Derived.Test.YtofgmijmhpmabaaGreatDoorDRefU
import Derived.Test.YtofgmijmhpmabaaGreatDoorDWideEv
import Derived.Test.YtofgmijmhpmabaaGreatDoorDEqEv
import Derived.Test.YtofgmijmhpmabaaGreatDoorDSizes
import Derived.Test.YtofgmijmhpmabaaGreatDoorDLives
namespace Go.Proofs.YtofgmijmhpmabaaGreatDoor.D
open Go Go.RowKit
set_option linter.unusedVariables false
set_option linter.unusedSimpArgs false
theorem arrE_one (y : EV) (e : Ev) : (y.arr e).all (·.oneCell') = true := by simp [EV.arr, Value.oneCell']
set_option maxRecDepth 100000 in
set_option maxHeartbeats 8000000 in
theorem texts_any (y : EV) (e : Ev) (w : World) (hr : RdEv w y e) (hf : e.Fits) (hl : e.order.length ≤ 140737488355328) (ho : ∀ i ∈ e.order, InR i) (hit : ItoaIn w) :
    Calls Tryz.prog 6 #[y.val e] w (BoolPost true w) := by
  obtain ⟨fsE, hfsE⟩ := undEv
  have HFE := Lib.hid hfsE
  obtain ⟨n, hn⟩ : ∃ n, n = e.order.length := ⟨_, rfl⟩
  have HLG := Lib.hid (fun W => long_any n W)
  obtain ⟨ce, hce⟩ : ∃ ce, ce = y.arr e := ⟨_, rfl⟩
  have HSE := Lib.hid (show ce.size = 12 by rw [hce]; rfl)
  have HC11 := Lib.hid (show ce[11]? = some (.slice y.oa n y.oc) by rw [hce, hn]; rfl)
  have hv : y.val e = .agg ce := by rw [hce]; rfl
  have hbk := G.Blk.new w 30 ce
  have HB0 := Lib.hid (G.bl_alloc (Below.refl w.heap.size w) (.cells ce 30))
  obtain ⟨w0, hw0⟩ : ∃ w0, w0 = w.alloc (.cells ce 30) := ⟨_, rfl⟩
  have HW0 := Lib.hid hw0
  rw [← hw0] at hbk HB0
  obtain ⟨g, hg⟩ : ∃ g, g = w.heap.size := ⟨_, rfl⟩
  have HGG := Lib.hid hg
  rw [← hg] at hbk
  have HX := Lib.hid hbk
  have c11 := (hbk.cell 11).trans HC11.out
  have hlt := hbk.lt
  have HRE := Lib.hid hr
  have HF := Lib.hid hf
  have HO := Lib.hid ho
  have HIT := Lib.hid hit
  have HVE := Lib.hid hv
  have HN := Lib.hid hn
  rw [hv]
  generalize y.oa = A at c11
  generalize y.oc = oc at c11
  clear hw0 hg hbk hce hv hfsE hr hf ho hit
  go_enter Tryz.func6, Tryz.ntmps6
  go_upto_region 1 with (fail)
  rw [← HGG.out, ← HW0.out]
  by_cases hb : 16777216 < n
  · rw [decide_eq_true hb] at HLG
    clear hn hb
    go_wp2_with fail
    refine (HLG.out _).mono ?_
    rintro e1 w1 ⟨rfl, hq⟩
    subst hq
    go_wp2_with fail
    go_ret
    exact ⟨rfl, HB0.out⟩
  · rw [decide_eq_false hb] at HLG
    have hle : e.order.length ≤ 33554432 := by omega
    have HLE := Lib.hid hle
    have HWE := Lib.hid (wideEvent_any y e w0 (RdEv.below HRE.out HB0.out) hle)
    rw [HVE.out] at HWE
    clear hn hb hle
    go_wp2_with fail
    refine (HLG.out _).mono ?_
    rintro e1 w1 ⟨rfl, hq⟩
    subst hq
    go_wp2_with (refine wpList_load_row_g (by rfl) 30 _ rfl g rfl _ ce (0, 0) _ HX.out HFE.out rfl (by rw [HSE.out]; exact sizeEv) ?_)
    refine (HWE.out).mono ?_
    rintro e2 w2 ⟨gI, rfl, hw2, hb2⟩
    have HX2 := Lib.hid (HX.out.below hb2 HX.out.lt)
    have HB2 := Lib.hid (G.bl_trans HB0.out hb2)
    have HW2 := Lib.hid hw2
    clear hw2 hb2
    obtain ⟨cx, hcx⟩ : ∃ cx, cx = (wEV gI e).arr e := ⟨_, rfl⟩
    have HVX := Lib.hid (show (wEV gI e).val e = .agg cx by rw [hcx]; rfl)
    have HSX := Lib.hid (show cx.size = 12 by rw [hcx]; rfl)
    have HOX := Lib.hid (show cx.all (·.oneCell') = true by rw [hcx]; exact arrE_one _ _)
    rw [HVX.out]
    clear hcx
    go_upto_region 4 with (refine wpList_store_row rfl 30 _ _ rfl _ cx rfl rfl 30 _ (heap_alloc_new _ _) (by rw [HSX.out]; exact sizeEv) (by rw [HSX.out]; rfl) HOX.out ?_)
    generalize hw3 : World.setRow _ _ _ = w3
    have hq3 : Below w2.heap.size w2 w3 := by rw [← hw3]; exact below_setRow (G.bl_alloc (Below.refl _ _) _) (Nat.le_refl _) _
    have hr3 : G.Blk w3 w2.heap.size 30 cx := by rw [← hw3]; exact setRow_heap _ _ _ _ _ _ (heap_alloc_new _ _)
    have HX3 := Lib.hid (HX2.out.below hq3 HX2.out.lt)
    have HB3 := Lib.hid (G.bl_trans HB2.out hq3)
    have HW3 := Lib.hid (HW2.out.below hq3)
    have HR3 := Lib.hid hr3
    generalize w2.heap.size = g3 at *
    clear hw3 hq3 hr3
    obtain ⟨T, hT⟩ : ∃ T, T = textE e := ⟨_, rfl⟩
    have HT1 := Lib.hid (text_any w3 (wEV gI e) e HF.out HW3.out.rd HLE.out HO.out (HIT.out.below HB3.out))
    have HT2 := Lib.hid (fun W (hW : Below w.heap.size w W) => refText_any W y e HF.out (RdEv.below HRE.out hW) HLE.out HO.out (HIT.out.below hW))
    rw [← hT, HVX.out] at HT1
    rw [← hT, HVE.out] at HT2
    clear hT
    go_wp2_with (refine wpList_load_row_g (by rfl) 30 _ rfl g3 rfl _ cx (0, 0) _ HR3.out HFE.out rfl (by rw [HSX.out]; exact sizeEv) ?_)
    refine (HT1.out).mono ?_
    rintro e4 w4 ⟨rfl, hb4⟩
    have HX := Lib.hid (HX3.out.below hb4 HX3.out.lt)
    have HBL := Lib.hid (G.bl_trans HB3.out hb4)
    have HWX := Lib.hid (HW3.out.below hb4)
    have HRX := Lib.hid (HR3.out.below hb4 HR3.out.lt)
    clear hb4
    go_wp2_with (refine wpList_load_row_g (by rfl) 30 _ rfl g rfl _ ce (0, 0) _ HX.out HFE.out rfl (by rw [HSE.out]; exact sizeEv) ?_)
    refine (HT2.out _ HBL.out).mono ?_
    rintro e5 w5 ⟨rfl, hb5⟩
    have HX := Lib.hid (HX.out.below hb5 HX.out.lt)
    have HBL := Lib.hid (G.bl_trans HBL.out hb5)
    have HWX := Lib.hid (HWX.out.below hb5)
    have HRX := Lib.hid (HRX.out.below hb5 HRX.out.lt)
    clear hb5
    have HQ := Lib.hid (eqEvent_any (wEV gI e) y e e w5 HWX.out.rd (RdEv.below HRE.out HBL.out) HLE.out HLE.out)
    rw [decide_eq_true rfl, HVX.out, HVE.out] at HQ
    go_wp2_with (first | (refine wpList_load_row_g (by rfl) 30 _ rfl g rfl _ ce (0, 0) _ HX.out HFE.out rfl (by rw [HSE.out]; exact sizeEv) ?_) | (refine wpList_load_row_g (by rfl) 30 _ rfl g3 rfl _ cx (0, 0) _ HRX.out HFE.out rfl (by rw [HSX.out]; exact sizeEv) ?_))
    refine (HQ.out).mono ?_
    rintro e6 w6 ⟨rfl, hb6⟩
    have HBL := Lib.hid (G.bl_trans HBL.out hb6)
    have HWX := Lib.hid (HWX.out.below hb6)
    have HRX := Lib.hid (HRX.out.below hb6 HRX.out.lt)
    clear hb6
    have HS := Lib.hid (spareEvent_any gI _ e w6 HWX.out HLE.out)
    rw [HVX.out] at HS
    go_wp2_with (refine wpList_load_row_g (by rfl) 30 _ rfl g3 rfl _ cx (0, 0) _ HRX.out HFE.out rfl (by rw [HSX.out]; exact sizeEv) ?_)
    refine (HS.out).mono ?_
    rintro e7 w7 ⟨rfl, hb7⟩
    have HBL := Lib.hid (G.bl_trans HBL.out hb7)
    clear hb7
    go_wp2_with fail
    refine (lives_any _).mono ?_
    rintro e8 w8 ⟨rfl, hb8⟩
    go_wp2_with fail
    go_ret
    exact ⟨rfl, G.bl_trans HBL.out hb8⟩
end Go.Proofs.YtofgmijmhpmabaaGreatDoor.D

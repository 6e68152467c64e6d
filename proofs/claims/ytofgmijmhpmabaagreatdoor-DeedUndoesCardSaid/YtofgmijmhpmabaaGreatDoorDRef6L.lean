/- The reference of layer 06: Apply, Undo. Printed by gen_ref6l.py. -/
import Derived.Test.YtofgmijmhpmabaaGreatDoorDRef6J
import Derived.Test.YtofgmijmhpmabaaGreatDoorDRef6K
namespace Go.Proofs.YtofgmijmhpmabaaGreatDoor.D
open Go Go.RowKit
set_option linter.unusedVariables false
set_option linter.unusedSimpArgs false
theorem rmay_false {b : Bool} {s : St} (hb : b = true ↔ May s) (hm : ¬ May s) : b = false := by
  cases b
  · rfl
  · exact absurd (hb.1 rfl) hm
set_option maxRecDepth 100000 in
set_option maxHeartbeats 4000000 in
theorem refApply_any (x : SV) (s : St) (y : EV) (e : Ev) (w : World) (h : RdSt w x s) (hz : Sz s) (hr : RdEv w y e) (hf : e.Fits) (hl : e.order.length ≤ 33554432) : Calls Tryz.prog 16 #[x.val s, y.val e] w (OnePost s (stepE s e false) w) := by
  obtain ⟨fsS, hfsS⟩ := undSt
  have HFS := Lib.hid hfsS
  obtain ⟨fsE, hfsE⟩ := undEv
  have HFE := Lib.hid hfsE
  have HMY := Lib.hid (fun W (hW : Below w.heap.size w W) => refMay_any x s W (h.below hW) hz)
  have HBH := Lib.hid (fun W (hW : Below w.heap.size w W) hm => refBehind_any x s y e W (h.below hW) hz hm (RdEv.below hr hW) hf hl)
  obtain ⟨cs, hc⟩ : ∃ c, c = x.arr s := ⟨_, rfl⟩
  obtain ⟨ce, hd⟩ : ∃ d, d = y.arr e := ⟨_, rfl⟩
  have HS := Lib.hid (show cs.size = 7 by rw [hc]; rfl)
  have HSE := Lib.hid (show ce.size = 12 by rw [hd]; rfl)
  have he : x.val s = .agg cs := by rw [hc]; rfl
  have he2 : y.val e = .agg ce := by rw [hd]; rfl
  rw [he] at HMY
  rw [he, he2] at HBH ⊢
  obtain ⟨so, hso⟩ : ∃ so, so = stepE s e false := ⟨_, rfl⟩
  have HSO := Lib.hid hso
  rw [← hso] at HBH ⊢
  clear h hz hr hf hl hc hd he he2 hfsS hfsE hso
  have H0 := three_new w 27 30 cs ce zeroA
  go_enter Tryz.func16, Tryz.ntmps16
  go_upto_region 1 with (fail)
  obtain ⟨w0, hw0⟩ : ∃ w0, w0 = ((w.alloc (.cells cs 27)).alloc (.cells ce 30)).alloc (.cells zeroA 27) := ⟨_, rfl⟩
  rw [← hw0] at H0
  unfold zeroA at hw0
  rw [← hw0]
  clear hw0
  obtain ⟨hb0, hb1, hb2, hbl0⟩ := H0
  have HBL0 := Lib.hid hbl0
  obtain ⟨g, hg⟩ : ∃ g, g = w.heap.size := ⟨_, rfl⟩
  have HG := Lib.hid hg
  rw [← hg] at hb0 hb1 hb2 ⊢
  have HC := Lib.hid hb0
  have HE := Lib.hid hb1
  have HR := Lib.hid hb2
  clear hb0 hb1 hb2 hbl0 hg
  have HMY0 := Lib.hid (HMY.out _ HBL0.out)
  by_cases hm : May s
  · have HM := Lib.hid hm
    have HMR := Lib.hid (show ∀ (P : Prop), (¬ May s → P) → True from fun _ _ => trivial)
    clear hm HMR
    go_upto_region 3 with (first | (refine wpList_load_row rfl 27 _ rfl g rfl _ cs (0, 0) _ HC.out HFS.out rfl (by rw [HS.out]; exact sizeSt) ?_) | ((with_reducible refine (HMY0.out).mono ?_); rintro e1 w1 hp; obtain ⟨b1, rfl, hb, hbw⟩ := hp; obtain rfl : b1 = true := hb.2 HM.out; have HC1 := Lib.hid (HC.out.below hbw HC.out.lt); have HE1 := Lib.hid (HE.out.below hbw HE.out.lt); have HR1 := Lib.hid (HR.out.below hbw HR.out.lt); have HBL1 := Lib.hid (G.bl_trans HBL0.out hbw); clear hb hbw))
    have HBB := Lib.hid (HBH.out w1 HBL1.out HM.out)
    go_upto_region 4 with (first | (refine wpList_load_row rfl 27 _ rfl g rfl _ cs (0, 0) _ HC1.out HFS.out rfl (by rw [HS.out]; exact sizeSt) ?_) | (refine wpList_load_row rfl 30 _ rfl (g + 1) rfl _ ce (0, 0) _ HE1.out HFE.out rfl (by rw [HSE.out]; exact sizeEv) ?_) | ((with_reducible refine (HBB.out).mono ?_); rintro e2 w2 hp2; obtain ⟨x2, t2, b2, rfl, ho2, hb2, hc2⟩ := hp2; have HO2 := Lib.hid ho2; have HBW2 := Lib.hid hb2; have HC2 := Lib.hid hc2; clear ho2 hb2 hc2) | (refine wpList_store_row rfl 27 _ _ rfl _ (x2.arr t2) rfl rfl 27 _ (heap_alloc_new _ _) (by kernel_rfl) rfl (arr_one _ _) ?_))
    have HB3 := Lib.hid (show G.Blk ((w2.alloc (.cells zeroA 27)).setRow w2.heap.size (x2.arr t2)) w2.heap.size 27 (x2.arr t2) from setRow_heap _ _ _ _ _ _ (heap_alloc_new _ _))
    have HW23 := Lib.hid (show Below w2.heap.size w2 ((w2.alloc (.cells zeroA 27)).setRow w2.heap.size (x2.arr t2)) from below_setRow (G.bl_alloc (Below.refl _ _) _) (Nat.le_refl _) _)
    obtain ⟨g8, hg8⟩ : ∃ g8, g8 = w2.heap.size := ⟨_, rfl⟩
    obtain ⟨w3, hw3⟩ : ∃ w3, w3 = (w2.alloc (.cells zeroA 27)).setRow w2.heap.size (x2.arr t2) := ⟨_, rfl⟩
    rw [← hw3] at HB3 HW23
    rw [← hg8] at HB3
    unfold zeroA at hw3
    rw [← hw3, ← hg8]
    clear hw3 hg8
    have HO3 := Lib.hid (HO2.out.below HW23.out)
    have HR3 := Lib.hid ((HR1.out.below HBW2.out HR1.out.lt).below HW23.out (HR1.out.below HBW2.out HR1.out.lt).lt)
    have HBL3 := Lib.hid (G.bl_trans (G.bl_trans HBL1.out HBW2.out) HW23.out)
    rcases HC2.out with ⟨rfl, hs2⟩ | ⟨rfl, hs2, rfl, rfl⟩
    · have HS2 := Lib.hid hs2
      clear hs2
      have HB4 := HB3
      have HR4 := HR3
      have HBL4 := HBL3
      have HO4 := HO3
      go_wp2_with (first | (refine wpList_load_row rfl 27 _ rfl g8 rfl _ (x2.arr t2) (0, 0) _ HB4.out HFS.out rfl sizeSt ?_) | (refine wpList_store_row rfl 27 _ _ rfl (g + 1 + 1) (x2.arr t2) rfl rfl 27 _ HR4.out (by kernel_rfl) rfl (arr_one _ _) ?_))
      refine bodyPost_ret (v := .tuple #[.agg (x2.arr t2), .int .i64 0]) (st_results2 rfl _ _ (g + 1 + 1) _ _ rfl rfl (setRow_heap _ _ _ _ _ _ HR4.out) rfl) rfl (oneP_yes HM.out HS2.out ?_ ?_)
      · exact (HO4.out.ge (by have := HBL1.out.size; exact this)).only (only_row HR4.out) (by decide) (by decide) (by decide) (by decide)
      · exact below_setRow HBL4.out (by have := HG.out; omega) _
    · have HS2 := Lib.hid hs2
      clear hs2
      go_wp2_with (first | (refine build_to zeroA rfl 27 _ rfl _ (by kernel_rfl) zeroA_b ?_) | (refine wpList_store_row rfl 27 _ _ rfl (g + 1 + 1) zeroA rfl rfl 27 _ HR3.out (by kernel_rfl) (by kernel_rfl) (by kernel_rfl) ?_))
      refine bodyPost_ret (v := .tuple #[.agg zeroA, .int .i64 11]) (st_results2 rfl _ _ (g + 1 + 1) _ _ rfl rfl (setRow_heap _ _ _ _ _ _ HR3.out) rfl) rfl (oneP_event HM.out HS2.out ?_)
      exact below_setRow HBL3.out (by have := HG.out; omega) _
  · have HM := Lib.hid hm
    clear hm
    go_upto_region 2 with (first | (refine wpList_load_row rfl 27 _ rfl g rfl _ cs (0, 0) _ HC.out HFS.out rfl (by rw [HS.out]; exact sizeSt) ?_) | ((with_reducible refine (HMY0.out).mono ?_); rintro e1 w1 hp; obtain ⟨b1, rfl, hb, hbw⟩ := hp; obtain rfl : b1 = false := rmay_false hb HM.out; have HR1 := Lib.hid (HR.out.below hbw HR.out.lt); have HBL1 := Lib.hid (G.bl_trans HBL0.out hbw); clear hb hbw))
    go_wp2_with (first | (refine build_to zeroA rfl 27 _ rfl _ (by kernel_rfl) zeroA_b ?_) | (refine wpList_store_row rfl 27 _ _ rfl (g + 1 + 1) zeroA rfl rfl 27 _ HR1.out (by kernel_rfl) (by kernel_rfl) (by kernel_rfl) ?_))
    refine bodyPost_ret (v := .tuple #[.agg zeroA, .int .i64 10]) (st_results2 rfl _ _ (g + 1 + 1) _ _ rfl rfl (setRow_heap _ _ _ _ _ _ HR1.out) rfl) rfl (oneP_state HM.out ?_)
    exact below_setRow HBL1.out (by have := HG.out; omega) _
set_option maxRecDepth 100000 in
set_option maxHeartbeats 4000000 in
theorem refUndo_any (x : SV) (s : St) (y : EV) (e : Ev) (w : World) (h : RdSt w x s) (hz : Sz s) (hr : RdEv w y e) (hf : e.Fits) (hl : e.order.length ≤ 33554432) : Calls Tryz.prog 26 #[x.val s, y.val e] w (OnePost s (stepE s e true) w) := by
  obtain ⟨fsS, hfsS⟩ := undSt
  have HFS := Lib.hid hfsS
  obtain ⟨fsE, hfsE⟩ := undEv
  have HFE := Lib.hid hfsE
  have HMY := Lib.hid (fun W (hW : Below w.heap.size w W) => refMay_any x s W (h.below hW) hz)
  have HBH := Lib.hid (fun W (hW : Below w.heap.size w W) hm => refAhead_any x s y e W (h.below hW) hz hm (RdEv.below hr hW) hf hl)
  obtain ⟨cs, hc⟩ : ∃ c, c = x.arr s := ⟨_, rfl⟩
  obtain ⟨ce, hd⟩ : ∃ d, d = y.arr e := ⟨_, rfl⟩
  have HS := Lib.hid (show cs.size = 7 by rw [hc]; rfl)
  have HSE := Lib.hid (show ce.size = 12 by rw [hd]; rfl)
  have he : x.val s = .agg cs := by rw [hc]; rfl
  have he2 : y.val e = .agg ce := by rw [hd]; rfl
  rw [he] at HMY
  rw [he, he2] at HBH ⊢
  obtain ⟨so, hso⟩ : ∃ so, so = stepE s e true := ⟨_, rfl⟩
  have HSO := Lib.hid hso
  rw [← hso] at HBH ⊢
  clear h hz hr hf hl hc hd he he2 hfsS hfsE hso
  have H0 := three_new w 27 30 cs ce zeroA
  go_enter Tryz.func26, Tryz.ntmps26
  go_upto_region 1 with (fail)
  obtain ⟨w0, hw0⟩ : ∃ w0, w0 = ((w.alloc (.cells cs 27)).alloc (.cells ce 30)).alloc (.cells zeroA 27) := ⟨_, rfl⟩
  rw [← hw0] at H0
  unfold zeroA at hw0
  rw [← hw0]
  clear hw0
  obtain ⟨hb0, hb1, hb2, hbl0⟩ := H0
  have HBL0 := Lib.hid hbl0
  obtain ⟨g, hg⟩ : ∃ g, g = w.heap.size := ⟨_, rfl⟩
  have HG := Lib.hid hg
  rw [← hg] at hb0 hb1 hb2 ⊢
  have HC := Lib.hid hb0
  have HE := Lib.hid hb1
  have HR := Lib.hid hb2
  clear hb0 hb1 hb2 hbl0 hg
  have HMY0 := Lib.hid (HMY.out _ HBL0.out)
  by_cases hm : May s
  · have HM := Lib.hid hm
    have HMR := Lib.hid (show ∀ (P : Prop), (¬ May s → P) → True from fun _ _ => trivial)
    clear hm HMR
    go_upto_region 3 with (first | (refine wpList_load_row rfl 27 _ rfl g rfl _ cs (0, 0) _ HC.out HFS.out rfl (by rw [HS.out]; exact sizeSt) ?_) | ((with_reducible refine (HMY0.out).mono ?_); rintro e1 w1 hp; obtain ⟨b1, rfl, hb, hbw⟩ := hp; obtain rfl : b1 = true := hb.2 HM.out; have HC1 := Lib.hid (HC.out.below hbw HC.out.lt); have HE1 := Lib.hid (HE.out.below hbw HE.out.lt); have HR1 := Lib.hid (HR.out.below hbw HR.out.lt); have HBL1 := Lib.hid (G.bl_trans HBL0.out hbw); clear hb hbw))
    have HBB := Lib.hid (HBH.out w1 HBL1.out HM.out)
    go_upto_region 4 with (first | (refine wpList_load_row rfl 27 _ rfl g rfl _ cs (0, 0) _ HC1.out HFS.out rfl (by rw [HS.out]; exact sizeSt) ?_) | (refine wpList_load_row rfl 30 _ rfl (g + 1) rfl _ ce (0, 0) _ HE1.out HFE.out rfl (by rw [HSE.out]; exact sizeEv) ?_) | ((with_reducible refine (HBB.out).mono ?_); rintro e2 w2 hp2; obtain ⟨x2, t2, b2, rfl, ho2, hb2, hc2⟩ := hp2; have HO2 := Lib.hid ho2; have HBW2 := Lib.hid hb2; have HC2 := Lib.hid hc2; clear ho2 hb2 hc2) | (refine wpList_store_row rfl 27 _ _ rfl _ (x2.arr t2) rfl rfl 27 _ (heap_alloc_new _ _) (by kernel_rfl) rfl (arr_one _ _) ?_))
    have HB3 := Lib.hid (show G.Blk ((w2.alloc (.cells zeroA 27)).setRow w2.heap.size (x2.arr t2)) w2.heap.size 27 (x2.arr t2) from setRow_heap _ _ _ _ _ _ (heap_alloc_new _ _))
    have HW23 := Lib.hid (show Below w2.heap.size w2 ((w2.alloc (.cells zeroA 27)).setRow w2.heap.size (x2.arr t2)) from below_setRow (G.bl_alloc (Below.refl _ _) _) (Nat.le_refl _) _)
    obtain ⟨g8, hg8⟩ : ∃ g8, g8 = w2.heap.size := ⟨_, rfl⟩
    obtain ⟨w3, hw3⟩ : ∃ w3, w3 = (w2.alloc (.cells zeroA 27)).setRow w2.heap.size (x2.arr t2) := ⟨_, rfl⟩
    rw [← hw3] at HB3 HW23
    rw [← hg8] at HB3
    unfold zeroA at hw3
    rw [← hw3, ← hg8]
    clear hw3 hg8
    have HO3 := Lib.hid (HO2.out.below HW23.out)
    have HR3 := Lib.hid ((HR1.out.below HBW2.out HR1.out.lt).below HW23.out (HR1.out.below HBW2.out HR1.out.lt).lt)
    have HBL3 := Lib.hid (G.bl_trans (G.bl_trans HBL1.out HBW2.out) HW23.out)
    rcases HC2.out with ⟨rfl, hs2⟩ | ⟨rfl, hs2, rfl, rfl⟩
    · have HS2 := Lib.hid hs2
      clear hs2
      have HM2 := Lib.hid (step_may (s := s) (e := e) (back := true) (by rw [← HSO.out]; exact HS2.out) HM.out)
      have HMY2 := Lib.hid (refMay_any x2 t2 w3 HO3.out.rd (may_sz HM2.out))
      rw [show x2.val t2 = .agg (x2.arr t2) from rfl] at HMY2
      go_upto_region 6 with (first | (refine wpList_load_row_g (by rfl) 27 _ rfl g8 rfl _ (x2.arr t2) (0, 0) _ HB3.out HFS.out rfl sizeSt ?_) | ((with_reducible refine (HMY2.out).mono ?_); rintro e4 w4 hp4; obtain ⟨b4, rfl, hb4, hbw4⟩ := hp4; obtain rfl : b4 = true := hb4.2 HM2.out; have HB4 := Lib.hid (HB3.out.below hbw4 HB3.out.lt); have HR4 := Lib.hid (HR3.out.below hbw4 HR3.out.lt); have HBL4 := Lib.hid (G.bl_trans HBL3.out hbw4); have HO4 := Lib.hid (HO3.out.below hbw4); clear hb4 hbw4))
      go_wp2_with (first | (refine wpList_load_row rfl 27 _ rfl g8 rfl _ (x2.arr t2) (0, 0) _ HB4.out HFS.out rfl sizeSt ?_) | (refine wpList_store_row rfl 27 _ _ rfl (g + 1 + 1) (x2.arr t2) rfl rfl 27 _ HR4.out (by kernel_rfl) rfl (arr_one _ _) ?_))
      refine bodyPost_ret (v := .tuple #[.agg (x2.arr t2), .int .i64 0]) (st_results2 rfl _ _ (g + 1 + 1) _ _ rfl rfl (setRow_heap _ _ _ _ _ _ HR4.out) rfl) rfl (oneP_yes HM.out HS2.out ?_ ?_)
      · exact (HO4.out.ge (by have := HBL1.out.size; exact this)).only (only_row HR4.out) (by decide) (by decide) (by decide) (by decide)
      · exact below_setRow HBL4.out (by have := HG.out; omega) _
    · have HS2 := Lib.hid hs2
      clear hs2
      go_wp2_with (first | (refine build_to zeroA rfl 27 _ rfl _ (by kernel_rfl) zeroA_b ?_) | (refine wpList_store_row rfl 27 _ _ rfl (g + 1 + 1) zeroA rfl rfl 27 _ HR3.out (by kernel_rfl) (by kernel_rfl) (by kernel_rfl) ?_))
      refine bodyPost_ret (v := .tuple #[.agg zeroA, .int .i64 11]) (st_results2 rfl _ _ (g + 1 + 1) _ _ rfl rfl (setRow_heap _ _ _ _ _ _ HR3.out) rfl) rfl (oneP_event HM.out HS2.out ?_)
      exact below_setRow HBL3.out (by have := HG.out; omega) _
  · have HM := Lib.hid hm
    clear hm
    go_upto_region 2 with (first | (refine wpList_load_row rfl 27 _ rfl g rfl _ cs (0, 0) _ HC.out HFS.out rfl (by rw [HS.out]; exact sizeSt) ?_) | ((with_reducible refine (HMY0.out).mono ?_); rintro e1 w1 hp; obtain ⟨b1, rfl, hb, hbw⟩ := hp; obtain rfl : b1 = false := rmay_false hb HM.out; have HR1 := Lib.hid (HR.out.below hbw HR.out.lt); have HBL1 := Lib.hid (G.bl_trans HBL0.out hbw); clear hb hbw))
    go_wp2_with (first | (refine build_to zeroA rfl 27 _ rfl _ (by kernel_rfl) zeroA_b ?_) | (refine wpList_store_row rfl 27 _ _ rfl (g + 1 + 1) zeroA rfl rfl 27 _ HR1.out (by kernel_rfl) (by kernel_rfl) (by kernel_rfl) ?_))
    refine bodyPost_ret (v := .tuple #[.agg zeroA, .int .i64 10]) (st_results2 rfl _ _ (g + 1 + 1) _ _ rfl rfl (setRow_heap _ _ _ _ _ _ HR1.out) rfl) rfl (oneP_state HM.out ?_)
    exact below_setRow HBL1.out (by have := HG.out; omega) _
end Go.Proofs.YtofgmijmhpmabaaGreatDoor.D

/- The reference of layer 06: Behind. Printed by gen_ref6j.py. -/
import Derived.Test.YtofgmijmhpmabaaGreatDoorDRef6G
import Derived.Test.YtofgmijmhpmabaaGreatDoorDRef6H
import Derived.Test.YtofgmijmhpmabaaGreatDoorDRef6P
import Derived.Test.YtofgmijmhpmabaaGreatDoorDOne
namespace Go.Proofs.YtofgmijmhpmabaaGreatDoor.D
open Go Go.RowKit
set_option linter.unusedVariables false
set_option linter.unusedSimpArgs false
set_option maxRecDepth 100000 in
set_option maxHeartbeats 16000000 in
theorem refBehind_any (x : SV) (s : St) (y : EV) (e : Ev) (w : World) (h : RdSt w x s) (hz : Sz s) (hm : May s) (hr : RdEv w y e) (hf : e.Fits) (hl : e.order.length ≤ 33554432) : Calls Tryz.prog 58 #[x.val s, y.val e] w (RPost (stepE s e false) w) := by
 obtain ⟨fsS, hfsS⟩ := undSt
 have HFS := Lib.hid hfsS
 obtain ⟨fsE, hfsE⟩ := undEv
 have HFE := Lib.hid hfsE
 have HPL := Lib.hid (fun W (hW : Below w.heap.size w W) => refPlain_any y e W (RdEv.below hr hW) hl)
 have HCP := Lib.hid (fun W (hW : Below w.heap.size w W) => copyState_any x s W (h.below hW) hz)
 have HMV := Lib.hid (fun c1 c2 c3 c4 c5 W (hW : Below w.heap.size w W) => refMoved_any x s c1 c2 c3 c4 c5 W (h.below hW) hz hm)
 have HCH := Lib.hid (fun c1 c2 c3 c4 W (hW : Below w.heap.size w W) => refChanged_any x s c1 c2 c3 c4 W (h.below hW) hz)
 have HSH := Lib.hid (fun zi W (hW : Below w.heap.size w W) => refShuffled_any x s zi y.oa e.order.length y.oc e.order false W (h.below hW) hz rfl (RdEv.below hr hW) hl)
 have HMAY := Lib.hid hm
 have HRR := Lib.hid h
 have HST0 := Lib.hid (fun (hp : rplainB e = true) (hk : 1 ≤ e.kind ∧ e.kind ≤ 7) => stepE_in (s := s) (b := false) hp hk)
 have HSTP := Lib.hid (fun (hp : rplainB e = false) => stepE_plain (s := s) (b := false) hp)
 have HSTO := Lib.hid (fun (hk : ¬ (1 ≤ e.kind ∧ e.kind ≤ 7)) => stepE_out (s := s) (b := false) hk)
 obtain ⟨n, hnn⟩ : ∃ n, n = s.players.length := ⟨_, rfl⟩
 have HN := Lib.hid hnn
 obtain ⟨hf0, hf1, hf2, hf3, hf4, hf5, hf6, hf7, hf8, hf9, hf10⟩ := hf
 have hpl4 := hz.p
 rw [← hnn] at hpl4
 obtain ⟨pb, hpb⟩ : ∃ pb, pb = rplainB e := ⟨_, rfl⟩
 rw [← hpb] at HPL HST0 HSTP
 obtain ⟨so, hso⟩ : ∃ so, so = stepE s e false := ⟨_, rfl⟩
 rw [← hso] at HST0 HSTP HSTO ⊢
 obtain ⟨oa, oc⟩ := y
 obtain ⟨kind, field, card, player, other, src, srcAt, dst, dstAt, was, now, order⟩ := e
 simp only at hf0 hf1 hf2 hf3 hf4 hf5 hf6 hf7 hf8 hf9 hf10 hl HST0 HSTP HSTO HSH
 obtain ⟨ol, hol⟩ : ∃ ol, ol = order.length := ⟨_, rfl⟩
 rw [← hol] at HSH
 obtain ⟨cs, hc⟩ : ∃ c, c = x.arr s := ⟨_, rfl⟩
 obtain ⟨ce, hce⟩ : ∃ c, c = (⟨oa, oc⟩ : EV).arr ⟨kind, field, card, player, other, src, srcAt, dst, dstAt, was, now, order⟩ := ⟨_, rfl⟩
 have HS := Lib.hid (show cs.size = 7 by rw [hc]; rfl)
 have HSE := Lib.hid (show ce.size = 12 by rw [hce]; rfl)
 have HC0 := Lib.hid (show cs[0]? = some (.slice x.pa n x.pc) by rw [hc, hnn]; rfl)
 have HC3 := Lib.hid (show cs[3]? = some (.int .i32 s.turn) by rw [hc]; rfl)
 have HC4 := Lib.hid (show cs[4]? = some (.int .i64 s.whose) by rw [hc]; rfl)
 have HC5 := Lib.hid (show cs[5]? = some (.int .i8 s.fin) by rw [hc]; rfl)
 have HC6 := Lib.hid (show cs[6]? = some (.int .i64 s.winner) by rw [hc]; rfl)
 have HE0 := Lib.hid (show ce[0]? = some (.int .i8 kind) by rw [hce]; rfl)
 have HE1 := Lib.hid (show ce[1]? = some (.int .i8 field) by rw [hce]; rfl)
 have HE2 := Lib.hid (show ce[2]? = some (.int .i64 card) by rw [hce]; rfl)
 have HE3 := Lib.hid (show ce[3]? = some (.int .i64 player) by rw [hce]; rfl)
 have HE4 := Lib.hid (show ce[4]? = some (.int .i64 other) by rw [hce]; rfl)
 have HE5 := Lib.hid (show ce[5]? = some (.int .i64 src) by rw [hce]; rfl)
 have HE6 := Lib.hid (show ce[6]? = some (.int .i64 srcAt) by rw [hce]; rfl)
 have HE7 := Lib.hid (show ce[7]? = some (.int .i64 dst) by rw [hce]; rfl)
 have HE8 := Lib.hid (show ce[8]? = some (.int .i64 dstAt) by rw [hce]; rfl)
 have HE9 := Lib.hid (show ce[9]? = some (.int .i32 was) by rw [hce]; rfl)
 have HE10 := Lib.hid (show ce[10]? = some (.int .i32 now) by rw [hce]; rfl)
 have HE11 := Lib.hid (show ce[11]? = some (.slice oa ol oc) by rw [hce, hol]; rfl)
 have he : x.val s = .agg cs := by rw [hc]; rfl
 have he2 : (⟨oa, oc⟩ : EV).val ⟨kind, field, card, player, other, src, srcAt, dst, dstAt, was, now, order⟩ = .agg ce := by rw [hce]; rfl
 rw [he2] at HPL
 rw [he] at HCP HMV HCH HSH
 rw [he, he2]
 clear h hz hm hr hc hce he he2 hfsS hfsE hnn hpb hso hol hl
 have H0 := three_new w 27 30 cs ce zeroA
 go_enter Tryz.func58, Tryz.ntmps58
 go_upto_region 1 with (fail)
 obtain ⟨w0, hw0⟩ : ∃ w0, w0 = ((w.alloc (.cells cs 27)).alloc (.cells ce 30)).alloc (.cells zeroA 27) := ⟨_, rfl⟩
 rw [← hw0] at H0
 unfold zeroA at hw0
 rw [← hw0]
 clear hw0
 obtain ⟨hb0, hb1, hb2, hbl0⟩ := H0
 have HBL0 := Lib.hid hbl0
 obtain ⟨g, hg⟩ : ∃ g, g = w.heap.size := ⟨_, rfl⟩
 have HG := Lib.hid hg
 rw [← hg] at hb0 hb1 hb2 ⊢
 have HC := Lib.hid hb0
 have HE := Lib.hid hb1
 have HR := Lib.hid hb2
 clear hb0 hb1 hb2 hbl0 hg
 cases pb
 ·have HO := Lib.hid (HSTP.out rfl)
  go_wp2_with (first | (refine wpList_load_row rfl 30 _ rfl (g + 1) rfl _ ce (0, 0) _ HE.out HFE.out rfl (by rw [HSE.out]; exact sizeEv) ?_) | ((with_reducible refine (HPL.out _ HBL0.out).mono ?_); rintro e1 w1 ⟨rfl, hb1⟩; have HC1 := Lib.hid (HC.out.below hb1 HC.out.lt); have HEV1 := Lib.hid (HE.out.below hb1 HE.out.lt); have HR1 := Lib.hid (HR.out.below hb1 HR.out.lt); have HBL1 := Lib.hid (G.bl_trans HBL0.out hb1); have HB01 := Lib.hid hb1; clear hb1) | (refine build_to zeroA rfl 27 _ rfl _ (by kernel_rfl) zeroA_b ?_) | (refine wpList_store_row rfl 27 _ _ rfl (g + 1 + 1) zeroA rfl rfl 27 _ HR1.out (by kernel_rfl) (by kernel_rfl) (by kernel_rfl) ?_))
  refine bodyPost_ret (v := .tuple #[.agg zeroA, .bool false]) (st_results2 rfl _ _ (g + 1 + 1) _ _ rfl rfl (setRow_heap _ _ _ _ _ _ HR1.out) rfl) rfl (rP_no HO.out ?_)
  exact below_setRow HBL1.out (by have := HG.out; omega) _
 ·have HST1 := Lib.hid (fun hk => HST0.out rfl hk)
  go_upto_region 3 with (first | (refine wpList_load_row rfl 30 _ rfl (g + 1) rfl _ ce (0, 0) _ HE.out HFE.out rfl (by rw [HSE.out]; exact sizeEv) ?_) | ((with_reducible refine (HPL.out _ HBL0.out).mono ?_); rintro e1 w1 ⟨rfl, hb1⟩; have HC1 := Lib.hid (HC.out.below hb1 HC.out.lt); have HEV1 := Lib.hid (HE.out.below hb1 HE.out.lt); have HR1 := Lib.hid (HR.out.below hb1 HR.out.lt); have HBL1 := Lib.hid (G.bl_trans HBL0.out hb1); have HB01 := Lib.hid hb1; clear hb1))
  have HCPq := Lib.hid (HCP.out w1 HBL1.out)
  go_upto_region 4 with (first | (refine wpList_load_row rfl 27 _ rfl g rfl _ cs (0, 0) _ HC1.out HFS.out rfl (by rw [HS.out]; exact sizeSt) ?_) | ((with_reducible refine (HCPq.out).mono ?_); rintro e2 w2 hp; obtain ⟨x1, rfl, ho2, hb2⟩ := hp; have HO2 := Lib.hid ho2; have HBW2 := Lib.hid hb2; clear ho2 hb2) | (refine wpList_store_row rfl 27 _ _ rfl _ (x1.arr s) rfl rfl 27 _ (heap_alloc_new _ _) (by kernel_rfl) rfl (arr_one _ _) ?_))
  have HST := Lib.hid (show StAt ((w2.alloc (.cells zeroA 27)).setRow w2.heap.size (x1.arr s)) w2.heap.size w1.heap.size x1 s from ⟨setRow_heap _ _ _ _ _ _ (heap_alloc_new _ _), (HO2.out.below (G.bl_alloc (Below.refl _ _) _)).only (only_row (G.Blk.new w2 27 zeroA)) (by decide) (by decide) (by decide) (by decide), HBW2.out.size⟩)
  have HB13 := Lib.hid (show Below w1.heap.size w1 ((w2.alloc (.cells zeroA 27)).setRow w2.heap.size (x1.arr s)) from below_setRow (G.bl_alloc HBW2.out _) HBW2.out.size _)
  have HL13 := Lib.hid (show w1.heap.size ≤ w2.heap.size from HBW2.out.size)
  obtain ⟨g8, hg8⟩ : ∃ g8, g8 = w2.heap.size := ⟨_, rfl⟩
  obtain ⟨w3, hw3⟩ : ∃ w3, w3 = (w2.alloc (.cells zeroA 27)).setRow w2.heap.size (x1.arr s) := ⟨_, rfl⟩
  rw [← hw3] at HST HB13
  rw [← hg8] at HST HL13
  unfold zeroA at hw3
  rw [← hw3, ← hg8]
  clear hw3 hg8 HO2 HBW2 HCPq
  have HC3b := Lib.hid (HC1.out.below HB13.out HC1.out.lt)
  have HE3b := Lib.hid (HEV1.out.below HB13.out HEV1.out.lt)
  have HR3 := Lib.hid (HR1.out.below HB13.out HR1.out.lt)
  have HBL3 := Lib.hid (G.bl_trans HBL1.out HB13.out)
  have HG8 := Lib.hid (show g + 1 + 1 < g8 by have := HR1.out.lt; have := HL13.out; omega)
  have HGL := Lib.hid (show g ≤ w1.heap.size by have := HBL1.out.size; rw [HG.out]; exact this)
  have l1 := HC3b.out.lt
  have l2 := HE3b.out.lt
  have l8 := HST.out.blk.lt
  have l3 := HR3.out.lt
  have d0 := (HE3b.out.cell 0).trans HE0.out
  have d1 := (HE3b.out.cell 1).trans HE1.out
  have d2 := (HE3b.out.cell 2).trans HE2.out
  have d3 := (HE3b.out.cell 3).trans HE3.out
  have d4 := (HE3b.out.cell 4).trans HE4.out
  have d5 := (HE3b.out.cell 5).trans HE5.out
  have d6 := (HE3b.out.cell 6).trans HE6.out
  have d7 := (HE3b.out.cell 7).trans HE7.out
  have d8 := (HE3b.out.cell 8).trans HE8.out
  have d9 := (HE3b.out.cell 9).trans HE9.out
  have d10 := (HE3b.out.cell 10).trans HE10.out
  have d11 := (HE3b.out.cell 11).trans HE11.out
  have q0 := (HC3b.out.cell 0).trans HC0.out
  have q3 := (HC3b.out.cell 3).trans HC3.out
  have q4 := (HC3b.out.cell 4).trans HC4.out
  have q5 := (HC3b.out.cell 5).trans HC5.out
  have q6 := (HC3b.out.cell 6).trans HC6.out
  by_cases k1 : kind = 1
  ·subst k1
   have HO := Lib.hid (show so = moveS s card src srcAt dst dstAt from (HST1.out ⟨by decide, by decide⟩).trans rfl)
   have HCL := Lib.hid (HMV.out card src srcAt dst dstAt w3 HBL3.out)
   go_wp2_with (first | (refine wpList_load_row rfl 27 _ rfl g rfl _ cs (0, 0) _ HC3b.out HFS.out rfl (by rw [HS.out]; exact sizeSt) ?_) | ((with_reducible refine (HCL.out).mono ?_); rintro e5 w5 hp5; obtain ⟨x5, t5, b5, rfl, ho5, hb5, hc5⟩ := hp5; have HO5 := Lib.hid ho5; have HB5 := Lib.hid hb5; have HC5r := Lib.hid hc5; have HR5 := Lib.hid (HR3.out.below hb5 HR3.out.lt); clear ho5 hb5 hc5) | (refine wpList_store_row rfl 27 _ _ rfl (g + 1 + 1) (x5.arr t5) rfl rfl 27 _ HR5.out (by kernel_rfl) rfl (arr_one _ _) ?_))
   refine bodyPost_ret (v := .tuple #[.agg (x5.arr t5), .bool b5]) (st_results2 rfl _ _ (g + 1 + 1) _ _ rfl rfl (setRow_heap _ _ _ _ _ _ HR5.out) rfl) rfl (rP_as HO.out HC5r.out ?_ ?_)
   ·exact (HO5.out.ge HBL3.out.size).only (only_row HR5.out) (by decide) (by decide) (by decide) (by decide)
   ·exact below_setRow (G.bl_trans HBL3.out HB5.out) (by have := HG.out; omega) _
  by_cases k2 : kind = 2
  ·subst k2
   by_cases kf : field ≤ 4
   ·have HO := Lib.hid (show so = changeS s field card was now from (HST1.out ⟨by decide, by decide⟩).trans (if_pos kf))
    have kf2 : ¬ field > 4 := by omega
    have HCL := Lib.hid (HCH.out field card was now w3 HBL3.out)
    go_wp2_with (first | (refine wpList_load_row rfl 27 _ rfl g rfl _ cs (0, 0) _ HC3b.out HFS.out rfl (by rw [HS.out]; exact sizeSt) ?_) | ((with_reducible refine (HCL.out).mono ?_); rintro e5 w5 hp5; obtain ⟨x5, t5, b5, rfl, ho5, hb5, hc5⟩ := hp5; have HO5 := Lib.hid ho5; have HB5 := Lib.hid hb5; have HC5r := Lib.hid hc5; have HR5 := Lib.hid (HR3.out.below hb5 HR3.out.lt); clear ho5 hb5 hc5) | (refine wpList_store_row rfl 27 _ _ rfl (g + 1 + 1) (x5.arr t5) rfl rfl 27 _ HR5.out (by kernel_rfl) rfl (arr_one _ _) ?_))
    refine bodyPost_ret (v := .tuple #[.agg (x5.arr t5), .bool b5]) (st_results2 rfl _ _ (g + 1 + 1) _ _ rfl rfl (setRow_heap _ _ _ _ _ _ HR5.out) rfl) rfl (rP_as HO.out HC5r.out ?_ ?_)
    ·exact (HO5.out.ge HBL3.out.size).only (only_row HR5.out) (by decide) (by decide) (by decide) (by decide)
    ·exact below_setRow (G.bl_trans HBL3.out HB5.out) (by have := HG.out; omega) _
   ·have kf2 : field > 4 := by omega
    have HO := Lib.hid (show so = none from (HST1.out ⟨by decide, by decide⟩).trans (if_neg kf))
    go_wp2_with (first | (refine build_to zeroA rfl 27 _ rfl _ (by kernel_rfl) zeroA_b ?_) | (refine wpList_store_row rfl 27 _ _ rfl (g + 1 + 1) zeroA rfl rfl 27 _ HR3.out (by kernel_rfl) (by kernel_rfl) (by kernel_rfl) ?_))
    refine bodyPost_ret (v := .tuple #[.agg zeroA, .bool false]) (st_results2 rfl _ _ (g + 1 + 1) _ _ rfl rfl (setRow_heap _ _ _ _ _ _ HR3.out) rfl) rfl (rP_no HO.out ?_)
    exact below_setRow HBL3.out (by have := HG.out; omega) _
  by_cases k3 : kind = 3
  ·subst k3
   by_cases kf : 5 ≤ field
   ·have HO := Lib.hid (show so = changeS s field player was now from (HST1.out ⟨by decide, by decide⟩).trans (if_pos kf))
    have kf2 : ¬ field < 5 := by omega
    have HCL := Lib.hid (HCH.out field player was now w3 HBL3.out)
    go_wp2_with (first | (refine wpList_load_row rfl 27 _ rfl g rfl _ cs (0, 0) _ HC3b.out HFS.out rfl (by rw [HS.out]; exact sizeSt) ?_) | ((with_reducible refine (HCL.out).mono ?_); rintro e5 w5 hp5; obtain ⟨x5, t5, b5, rfl, ho5, hb5, hc5⟩ := hp5; have HO5 := Lib.hid ho5; have HB5 := Lib.hid hb5; have HC5r := Lib.hid hc5; have HR5 := Lib.hid (HR3.out.below hb5 HR3.out.lt); clear ho5 hb5 hc5) | (refine wpList_store_row rfl 27 _ _ rfl (g + 1 + 1) (x5.arr t5) rfl rfl 27 _ HR5.out (by kernel_rfl) rfl (arr_one _ _) ?_))
    refine bodyPost_ret (v := .tuple #[.agg (x5.arr t5), .bool b5]) (st_results2 rfl _ _ (g + 1 + 1) _ _ rfl rfl (setRow_heap _ _ _ _ _ _ HR5.out) rfl) rfl (rP_as HO.out HC5r.out ?_ ?_)
    ·exact (HO5.out.ge HBL3.out.size).only (only_row HR5.out) (by decide) (by decide) (by decide) (by decide)
    ·exact below_setRow (G.bl_trans HBL3.out HB5.out) (by have := HG.out; omega) _
   ·have kf2 : field < 5 := by omega
    have HO := Lib.hid (show so = none from (HST1.out ⟨by decide, by decide⟩).trans (if_neg kf))
    go_wp2_with (first | (refine build_to zeroA rfl 27 _ rfl _ (by kernel_rfl) zeroA_b ?_) | (refine wpList_store_row rfl 27 _ _ rfl (g + 1 + 1) zeroA rfl rfl 27 _ HR3.out (by kernel_rfl) (by kernel_rfl) (by kernel_rfl) ?_))
    refine bodyPost_ret (v := .tuple #[.agg zeroA, .bool false]) (st_results2 rfl _ _ (g + 1 + 1) _ _ rfl rfl (setRow_heap _ _ _ _ _ _ HR3.out) rfl) rfl (rP_no HO.out ?_)
    exact below_setRow HBL3.out (by have := HG.out; omega) _
  by_cases k4 : kind = 4
  ·subst k4
   have HO := Lib.hid (show so = shuffleS s src order false from (HST1.out ⟨by decide, by decide⟩).trans rfl)
   have HCL := Lib.hid (HSH.out src w3 HBL3.out)
   go_wp2_with (first | (refine wpList_load_row rfl 27 _ rfl g rfl _ cs (0, 0) _ HC3b.out HFS.out rfl (by rw [HS.out]; exact sizeSt) ?_) | ((with_reducible refine (HCL.out).mono ?_); rintro e5 w5 hp5; obtain ⟨x5, t5, b5, rfl, ho5, hb5, hc5⟩ := hp5; have HO5 := Lib.hid ho5; have HB5 := Lib.hid hb5; have HC5r := Lib.hid hc5; have HR5 := Lib.hid (HR3.out.below hb5 HR3.out.lt); clear ho5 hb5 hc5) | (refine wpList_store_row rfl 27 _ _ rfl (g + 1 + 1) (x5.arr t5) rfl rfl 27 _ HR5.out (by kernel_rfl) rfl (arr_one _ _) ?_))
   refine bodyPost_ret (v := .tuple #[.agg (x5.arr t5), .bool b5]) (st_results2 rfl _ _ (g + 1 + 1) _ _ rfl rfl (setRow_heap _ _ _ _ _ _ HR5.out) rfl) rfl (rP_as HO.out HC5r.out ?_ ?_)
   ·exact (HO5.out.ge HBL3.out.size).only (only_row HR5.out) (by decide) (by decide) (by decide) (by decide)
   ·exact below_setRow (G.bl_trans HBL3.out HB5.out) (by have := HG.out; omega) _
  by_cases k5 : kind = 5
  ·subst k5
   have HT := Lib.hid (show so = outS s player true from (HST1.out ⟨by decide, by decide⟩).trans rfl)
   have HI := Lib.hid (fun W => refIs_any player n W)
   cases t1 : withinB player n with
   | false =>
    rw [t1] at HI
    have hno : outS s player true = none := by unfold outS; rw [if_neg (fun h => by rw [HN.out, within_yes h.1] at t1; cases t1)]
    have HO := Lib.hid (HT.out.trans hno)
    clear hno t1 HT
    go_upto_region 31 with (first | (go_at_call 122; with_reducible refine (HI.out _).mono ?_; rintro e wq ⟨rfl, rfl⟩))
    go_wp2_with (first | (refine build_to zeroA rfl 27 _ rfl _ (by kernel_rfl) zeroA_b ?_) | (refine wpList_store_row rfl 27 _ _ rfl (g + 1 + 1) zeroA rfl rfl 27 _ HR3.out (by kernel_rfl) (by kernel_rfl) (by kernel_rfl) ?_))
    refine bodyPost_ret (v := .tuple #[.agg zeroA, .bool false]) (st_results2 rfl _ _ (g + 1 + 1) _ _ rfl rfl (setRow_heap _ _ _ _ _ _ HR3.out) rfl) rfl (rP_no HO.out ?_)
    exact below_setRow HBL3.out (by have := HG.out; omega) _
   | true =>
    rw [t1] at HI
    obtain ⟨h1, h2⟩ := of_decide_eq_true (show decide (Within player n) = true from t1)
    obtain ⟨k, rfl⟩ := Int.eq_ofNat_of_zero_le h1
    clear t1
    have hk : k < s.players.length := by rw [← HN.out]; omega
    have hkI : ((k : Nat) : Int) < n := by omega
    have hkn : k < n := by omega
    obtain ⟨b, off, hpa, hrd⟩ := (HRR.out.below HBL3.out).p.2 (by omega)
    obtain ⟨yp, hyp⟩ : ∃ yp, yp = s.players.getD k zeroPl := ⟨_, rfl⟩
    obtain ⟨e0, e1, e2⟩ := pl_at hrd hk hyp.symm
    have lb := hrd.1
    rw [hpa] at q0
    have HYP := Lib.hid hyp
    clear hrd hpa hyp e0 e1
    have HTU := Lib.hid (show outS s ((k : Nat) : Int) true = if yp.out ≠ true then some { s with players := s.players.set k { yp with out := true } } else none by
     unfold outS
     rw [Int.toNat_natCast, ← HYP.out]
     by_cases hh : yp.out ≠ true
     ·rw [if_pos ⟨⟨h1, by rw [← HN.out]; exact h2⟩, hh⟩, if_pos hh]
     ·rw [if_neg (fun h => hh h.2), if_neg hh])
    cases t2 : yp.out with
    | false =>
     rw [t2] at e2 HTU
     obtain ⟨t6, ht6⟩ : ∃ t6 : St, t6 = { s with players := s.players.set k { yp with out := true } } := ⟨_, rfl⟩
     have HO := Lib.hid (show so = some t6 by rw [HT.out, HTU.out, ht6]; rfl)
     clear t2 HT HTU
     obtain ⟨gp, hpx, hgp, hgpl, ⟨vq, hvq⟩, hfq, hst⟩ := HST.out.pout hk
     have q8 := HST.out.cells.1
     rw [hpx, ← HN.out] at q8
     have HNE := Lib.hid (And.intro (own_ne_blk HST.out.own.p hpx HR3.out (by decide)) (own_ne_blk HST.out.own.p hpx HST.out.blk (by decide)))
     have HST6 := Lib.hid (show StAt (w3.setCell ⟨gp, k * 3 + 2, none⟩ (.bool true)) g8 w1.heap.size x1 t6 by have h9 := hst true; rw [← HYP.out] at h9; rw [ht6]; exact h9)
     have HR6 := Lib.hid (blk_cell_ne (i := k * 3 + 2) (u := .bool true) HR3.out HNE.out.1)
     have HBL6 := Lib.hid (G.bl_set HBL3.out (p := ⟨gp, k * 3 + 2, none⟩) (by have := HGL.out; have := HG.out; show w.heap.size ≤ gp; omega) (.bool true))
     clear hst hpx hgp ht6
     go_upto_region 20 with (first | (go_at_call 122; with_reducible refine (HI.out _).mono ?_; rintro e wq ⟨rfl, rfl⟩))
     go_wp2_with (first | (refine wpList_load_row rfl 27 _ rfl g8 rfl _ (x1.arr t6) (0, 0) _ HST6.out.blk HFS.out rfl sizeSt ?_) | (refine wpList_store_row rfl 27 _ _ rfl (g + 1 + 1) (x1.arr t6) rfl rfl 27 _ HR6.out (by kernel_rfl) rfl (arr_one _ _) ?_))
     refine bodyPost_ret (v := .tuple #[.agg (x1.arr t6), .bool true]) (st_results2 rfl _ _ (g + 1 + 1) _ _ rfl rfl (setRow_heap _ _ _ _ _ _ HR6.out) rfl) rfl (rP_yes HO.out ⟨?_, ?_⟩)
     ·exact (HST6.out.own.ge (by have := HBL1.out.size; exact this)).only (only_row HR6.out) (by decide) (by decide) (by decide) (by decide)
     ·exact below_setRow HBL6.out (by have := HG.out; omega) _
    | true =>
     rw [t2] at e2 HTU
     have HO := Lib.hid (HT.out.trans HTU.out)
     clear t2 HT HTU
     go_upto_region 31 with (first | (go_at_call 122; with_reducible refine (HI.out _).mono ?_; rintro e wq ⟨rfl, rfl⟩))
     go_wp2_with (first | (refine build_to zeroA rfl 27 _ rfl _ (by kernel_rfl) zeroA_b ?_) | (refine wpList_store_row rfl 27 _ _ rfl (g + 1 + 1) zeroA rfl rfl 27 _ HR3.out (by kernel_rfl) (by kernel_rfl) (by kernel_rfl) ?_))
     refine bodyPost_ret (v := .tuple #[.agg zeroA, .bool false]) (st_results2 rfl _ _ (g + 1 + 1) _ _ rfl rfl (setRow_heap _ _ _ _ _ _ HR3.out) rfl) rfl (rP_no HO.out ?_)
     exact below_setRow HBL3.out (by have := HG.out; omega) _
  by_cases k6 : kind = 6
  ·subst k6
   have HT := Lib.hid (show so = turnS s was now player other 1 from (HST1.out ⟨by decide, by decide⟩).trans rfl)
   have HI := Lib.hid (fun W => refIs_any other n W)
   obtain ⟨wp, hwp⟩ : ∃ wp, IntKind.i32.wrap (was + 1) = wp := ⟨_, rfl⟩
   have HWP := Lib.hid hwp
   have hmt := HMAY.out.turn
   by_cases c1 : was = s.turn
   ·have c1b : (was == s.turn) = true := by rw [c1]; simp
    by_cases c2 : player = s.whose
    ·have c2b : (player == s.whose) = true := by rw [c2]; simp
     cases t1 : withinB other n with
     | false =>
      rw [t1] at HI
      have hno : so = none := by rw [HT.out]; unfold turnS; rw [if_neg (fun h => by rw [HN.out, within_yes h.2.2.1] at t1; cases t1)]
      have HO := Lib.hid hno
      clear hno HT HWP t1 c1 c2
      go_upto_region 31 with (first | (go_at_call 122; with_reducible refine (HI.out _).mono ?_; rintro e wq ⟨rfl, rfl⟩))
      go_wp2_with (first | (refine build_to zeroA rfl 27 _ rfl _ (by kernel_rfl) zeroA_b ?_) | (refine wpList_store_row rfl 27 _ _ rfl (g + 1 + 1) zeroA rfl rfl 27 _ HR3.out (by kernel_rfl) (by kernel_rfl) (by kernel_rfl) ?_))
      refine bodyPost_ret (v := .tuple #[.agg zeroA, .bool false]) (st_results2 rfl _ _ (g + 1 + 1) _ _ rfl rfl (setRow_heap _ _ _ _ _ _ HR3.out) rfl) rfl (rP_no HO.out ?_)
      exact below_setRow HBL3.out (by have := HG.out; omega) _
     | true =>
      rw [t1] at HI
      have hwi := of_decide_eq_true (show decide (Within other n) = true from t1)
      have HWI := Lib.hid hwi
      clear t1 hwi
      by_cases c3 : was < 2147483647
      ·have c3b : was < 2147483647 := c3
       by_cases c4 : now = was + 1
       ·have c4b : (now == wp) = true := by rw [← hwp, IntWalk.i32_in _ (by omega), c4]; simp
        obtain ⟨t6, ht6⟩ : ∃ t6 : St, t6 = { s with turn := now, whose := other } := ⟨_, rfl⟩
        have HO := Lib.hid (show so = some t6 by rw [HT.out, ht6]; unfold turnS; rw [if_pos ⟨c1.symm, c2.symm, by rw [← HN.out]; exact HWI.out, by omega⟩])
        have HST5 := Lib.hid (HST.out.put (i := 3) (u := .int .i32 now) (t := { s with turn := now }) rfl rfl rfl rfl)
        have HST6 := Lib.hid (HST5.out.put (i := 4) (u := .int .i64 other) (t := { s with turn := now, whose := other }) rfl rfl rfl rfl)
        rw [← ht6] at HST6
        clear ht6
        have HR6 := Lib.hid (blk_put_ne (i := 4) (u := .int .i64 other) (blk_put_ne (i := 3) (u := .int .i32 now) HR3.out (show g + 1 + 1 ≠ g8 by have := HG8.out; omega)) (show g + 1 + 1 ≠ g8 by have := HG8.out; omega))
        have HBL6 := Lib.hid (G.bl_set (G.bl_set HBL3.out (p := ⟨g8, 3, none⟩) (by have := HG8.out; have := HG.out; show w.heap.size ≤ g8; omega) (.int .i32 now)) (p := ⟨g8, 4, none⟩) (by have := HG8.out; have := HG.out; show w.heap.size ≤ g8; omega) (.int .i64 other))
        have x3 := HST.out.cells.2.2.2.1
        have x4 := HST.out.cells.2.2.2.2.1
        have f3 := HST.out.blk.frozen 3
        have f4 := HST.out.blk.frozen 4
        have hne8 : g + 1 ≠ g8 := by have := HG8.out; omega
        have hne8b : g8 ≠ g + 1 := by have := HG8.out; omega
        have d4' := (World.cell?_setCell_far w3 ⟨g8, 3, none⟩ ⟨g + 1, 4, none⟩ (.int .i32 now) hne8b).trans d4
        have HK := Lib.hid (And.intro c1 (And.intro c2 c4))
        clear c1 c2 c4 HT
        go_upto_region 25 with (first | (go_at_call 122; with_reducible refine (HI.out _).mono ?_; rintro e wq ⟨rfl, rfl⟩))
        go_wp2_with (first | (refine wpList_load_row rfl 27 _ rfl g8 rfl _ (x1.arr t6) (0, 0) _ HST6.out.blk HFS.out rfl sizeSt ?_) | (refine wpList_store_row rfl 27 _ _ rfl (g + 1 + 1) (x1.arr t6) rfl rfl 27 _ HR6.out (by kernel_rfl) rfl (arr_one _ _) ?_))
        refine bodyPost_ret (v := .tuple #[.agg (x1.arr t6), .bool true]) (st_results2 rfl _ _ (g + 1 + 1) _ _ rfl rfl (setRow_heap _ _ _ _ _ _ HR6.out) rfl) rfl (rP_yes HO.out ⟨?_, ?_⟩)
        ·exact (HST6.out.own.ge (by have := HBL1.out.size; exact this)).only (only_row HR6.out) (by decide) (by decide) (by decide) (by decide)
        ·exact below_setRow HBL6.out (by have := HG.out; omega) _
       ·have c4b : (now == wp) = false := by
         rw [beq_eq_false_iff_ne, ← hwp]
         by_cases hx : was < 2147483647
         ·rw [IntWalk.i32_in _ (by omega)]; exact c4
         ·obtain rfl : was = 2147483647 := by omega
          exact absurd c3 hx
        have hno : so = none := by rw [HT.out]; unfold turnS; rw [if_neg (fun h => c4 (by have := h.2.2.2; omega))]
        have HO := Lib.hid hno
        clear hno HT HWP c1 c2 c4
        go_upto_region 31 with (first | (go_at_call 122; with_reducible refine (HI.out _).mono ?_; rintro e wq ⟨rfl, rfl⟩))
        go_wp2_with (first | (refine build_to zeroA rfl 27 _ rfl _ (by kernel_rfl) zeroA_b ?_) | (refine wpList_store_row rfl 27 _ _ rfl (g + 1 + 1) zeroA rfl rfl 27 _ HR3.out (by kernel_rfl) (by kernel_rfl) (by kernel_rfl) ?_))
        refine bodyPost_ret (v := .tuple #[.agg zeroA, .bool false]) (st_results2 rfl _ _ (g + 1 + 1) _ _ rfl rfl (setRow_heap _ _ _ _ _ _ HR3.out) rfl) rfl (rP_no HO.out ?_)
        exact below_setRow HBL3.out (by have := HG.out; omega) _
      ·have c3b : ¬ was < 2147483647 := c3
       have hno : so = none := by rw [HT.out]; unfold turnS; rw [if_neg (fun h => c3 (by have := h.2.2.2; omega))]
       have HO := Lib.hid hno
       clear hno HT HWP c1 c2 hwp
       go_upto_region 31 with (first | (go_at_call 122; with_reducible refine (HI.out _).mono ?_; rintro e wq ⟨rfl, rfl⟩))
       go_wp2_with (first | (refine build_to zeroA rfl 27 _ rfl _ (by kernel_rfl) zeroA_b ?_) | (refine wpList_store_row rfl 27 _ _ rfl (g + 1 + 1) zeroA rfl rfl 27 _ HR3.out (by kernel_rfl) (by kernel_rfl) (by kernel_rfl) ?_))
       refine bodyPost_ret (v := .tuple #[.agg zeroA, .bool false]) (st_results2 rfl _ _ (g + 1 + 1) _ _ rfl rfl (setRow_heap _ _ _ _ _ _ HR3.out) rfl) rfl (rP_no HO.out ?_)
       exact below_setRow HBL3.out (by have := HG.out; omega) _
    ·have c2b : (player == s.whose) = false := by rw [beq_eq_false_iff_ne]; exact c2
     have hno : so = none := by rw [HT.out]; unfold turnS; rw [if_neg (fun h => c2 h.2.1.symm)]
     have HO := Lib.hid hno
     clear hno HT HWP c1 c2 hwp
     go_upto_region 31 with (first | (go_at_call 122; with_reducible refine (HI.out _).mono ?_; rintro e wq ⟨rfl, rfl⟩))
     go_wp2_with (first | (refine build_to zeroA rfl 27 _ rfl _ (by kernel_rfl) zeroA_b ?_) | (refine wpList_store_row rfl 27 _ _ rfl (g + 1 + 1) zeroA rfl rfl 27 _ HR3.out (by kernel_rfl) (by kernel_rfl) (by kernel_rfl) ?_))
     refine bodyPost_ret (v := .tuple #[.agg zeroA, .bool false]) (st_results2 rfl _ _ (g + 1 + 1) _ _ rfl rfl (setRow_heap _ _ _ _ _ _ HR3.out) rfl) rfl (rP_no HO.out ?_)
     exact below_setRow HBL3.out (by have := HG.out; omega) _
   ·have c1b : (was == s.turn) = false := by rw [beq_eq_false_iff_ne]; exact c1
    have hno : so = none := by rw [HT.out]; unfold turnS; rw [if_neg (fun h => c1 h.1.symm)]
    have HO := Lib.hid hno
    clear hno HT HWP c1 hwp
    go_upto_region 31 with (first | (go_at_call 122; with_reducible refine (HI.out _).mono ?_; rintro e wq ⟨rfl, rfl⟩))
    go_wp2_with (first | (refine build_to zeroA rfl 27 _ rfl _ (by kernel_rfl) zeroA_b ?_) | (refine wpList_store_row rfl 27 _ _ rfl (g + 1 + 1) zeroA rfl rfl 27 _ HR3.out (by kernel_rfl) (by kernel_rfl) (by kernel_rfl) ?_))
    refine bodyPost_ret (v := .tuple #[.agg zeroA, .bool false]) (st_results2 rfl _ _ (g + 1 + 1) _ _ rfl rfl (setRow_heap _ _ _ _ _ _ HR3.out) rfl) rfl (rP_no HO.out ?_)
    exact below_setRow HBL3.out (by have := HG.out; omega) _
  by_cases k7 : kind = 7
  ·subst k7
   have HT := Lib.hid (show so = endS s now player from (HST1.out ⟨by decide, by decide⟩).trans rfl)
   have HI := Lib.hid (fun W => refIs_any player n W)
   have no7 : ¬ (s.fin = 0 ∧ ((now = 1 ∧ Within player s.players.length) ∨ (now = 2 ∧ player = 0))) → so = none := fun h => by rw [HT.out]; unfold endS; rw [if_neg h]
   have yes7 : (s.fin = 0 ∧ ((now = 1 ∧ Within player s.players.length) ∨ (now = 2 ∧ player = 0))) → so = some { s with fin := now, winner := player } := fun h => by rw [HT.out]; unfold endS; rw [if_pos h]
   have HNO7 := Lib.hid no7
   have HYES7 := Lib.hid yes7
   clear no7 yes7 HT
   by_cases c1 : s.fin = 0
   ·have c1b : (s.fin == 0) = true := by rw [c1]; simp
    by_cases c2 : now = 1
    ·subst c2
     cases t1 : withinB player n with
     | false =>
      rw [t1] at HI
      have HO := Lib.hid (HNO7.out (fun h => h.2.elim (fun h => by rw [HN.out, within_yes h.2] at t1; cases t1) (fun h => absurd h.1 (by decide))))
      clear t1 HNO7 HYES7
      go_upto_region 31 with (first | (go_at_call 122; with_reducible refine (HI.out _).mono ?_; rintro e wq ⟨rfl, rfl⟩))
      go_wp2_with (first | (refine build_to zeroA rfl 27 _ rfl _ (by kernel_rfl) zeroA_b ?_) | (refine wpList_store_row rfl 27 _ _ rfl (g + 1 + 1) zeroA rfl rfl 27 _ HR3.out (by kernel_rfl) (by kernel_rfl) (by kernel_rfl) ?_))
      refine bodyPost_ret (v := .tuple #[.agg zeroA, .bool false]) (st_results2 rfl _ _ (g + 1 + 1) _ _ rfl rfl (setRow_heap _ _ _ _ _ _ HR3.out) rfl) rfl (rP_no HO.out ?_)
      exact below_setRow HBL3.out (by have := HG.out; omega) _
     | true =>
      rw [t1] at HI
      have HO := Lib.hid (HYES7.out ⟨c1, .inl ⟨rfl, by rw [← HN.out]; exact of_decide_eq_true (show decide (Within player n) = true from t1)⟩⟩)
      clear t1 HNO7 HYES7 c1
      have HST5 := Lib.hid (HST.out.put (i := 5) (u := .int .i8 1) (t := { s with fin := 1 }) rfl rfl rfl rfl)
      have HST6 := Lib.hid (HST5.out.put (i := 6) (u := .int .i64 player) (t := { s with fin := 1, winner := player }) rfl rfl rfl rfl)
      obtain ⟨t6, ht6⟩ : ∃ t6 : St, t6 = { s with fin := 1, winner := player } := ⟨_, rfl⟩
      rw [← ht6] at HST6 HO
      clear ht6
      have HR6 := Lib.hid (blk_put_ne (i := 6) (u := .int .i64 player) (blk_put_ne (i := 5) (u := .int .i8 1) HR3.out (show g + 1 + 1 ≠ g8 by have := HG8.out; omega)) (show g + 1 + 1 ≠ g8 by have := HG8.out; omega))
      have HBL6 := Lib.hid (G.bl_set (G.bl_set HBL3.out (p := ⟨g8, 5, none⟩) (by have := HG8.out; have := HG.out; show w.heap.size ≤ g8; omega) (.int .i8 1)) (p := ⟨g8, 6, none⟩) (by have := HG8.out; have := HG.out; show w.heap.size ≤ g8; omega) (.int .i64 player))
      have x5 := HST.out.cells.2.2.2.2.2.1
      have x6 := HST.out.cells.2.2.2.2.2.2
      have f5 := HST.out.blk.frozen 5
      have f6 := HST.out.blk.frozen 6
      have hne8b : g8 ≠ g + 1 := by have := HG8.out; omega
      have d3' := (World.cell?_setCell_far w3 ⟨g8, 5, none⟩ ⟨g + 1, 3, none⟩ (.int .i8 1) hne8b).trans d3
      go_upto_region 30 with (first | (go_at_call 122; with_reducible refine (HI.out _).mono ?_; rintro e wq ⟨rfl, rfl⟩))
      go_wp2_with (first | (refine wpList_load_row rfl 27 _ rfl g8 rfl _ (x1.arr t6) (0, 0) _ HST6.out.blk HFS.out rfl sizeSt ?_) | (refine wpList_store_row rfl 27 _ _ rfl (g + 1 + 1) (x1.arr t6) rfl rfl 27 _ HR6.out (by kernel_rfl) rfl (arr_one _ _) ?_))
      refine bodyPost_ret (v := .tuple #[.agg (x1.arr t6), .bool true]) (st_results2 rfl _ _ (g + 1 + 1) _ _ rfl rfl (setRow_heap _ _ _ _ _ _ HR6.out) rfl) rfl (rP_yes HO.out ⟨?_, ?_⟩)
      ·exact (HST6.out.own.ge (by have := HBL1.out.size; exact this)).only (only_row HR6.out) (by decide) (by decide) (by decide) (by decide)
      ·exact below_setRow HBL6.out (by have := HG.out; omega) _
    ·by_cases c3 : now = 2
     ·subst c3
      by_cases c4 : player = 0
      ·subst c4
       have HO := Lib.hid (HYES7.out ⟨c1, .inr ⟨rfl, rfl⟩⟩)
       clear HNO7 HYES7 c1 c2
       have HST5 := Lib.hid (HST.out.put (i := 5) (u := .int .i8 2) (t := { s with fin := 2 }) rfl rfl rfl rfl)
       have HST6 := Lib.hid (HST5.out.put (i := 6) (u := .int .i64 0) (t := { s with fin := 2, winner := 0 }) rfl rfl rfl rfl)
       obtain ⟨t6, ht6⟩ : ∃ t6 : St, t6 = { s with fin := 2, winner := 0 } := ⟨_, rfl⟩
       rw [← ht6] at HST6 HO
       clear ht6
       have HR6 := Lib.hid (blk_put_ne (i := 6) (u := .int .i64 0) (blk_put_ne (i := 5) (u := .int .i8 2) HR3.out (show g + 1 + 1 ≠ g8 by have := HG8.out; omega)) (show g + 1 + 1 ≠ g8 by have := HG8.out; omega))
       have HBL6 := Lib.hid (G.bl_set (G.bl_set HBL3.out (p := ⟨g8, 5, none⟩) (by have := HG8.out; have := HG.out; show w.heap.size ≤ g8; omega) (.int .i8 2)) (p := ⟨g8, 6, none⟩) (by have := HG8.out; have := HG.out; show w.heap.size ≤ g8; omega) (.int .i64 0))
       have x5 := HST.out.cells.2.2.2.2.2.1
       have x6 := HST.out.cells.2.2.2.2.2.2
       have f5 := HST.out.blk.frozen 5
       have f6 := HST.out.blk.frozen 6
       have hne8b : g8 ≠ g + 1 := by have := HG8.out; omega
       have d3' := (World.cell?_setCell_far w3 ⟨g8, 5, none⟩ ⟨g + 1, 3, none⟩ (.int .i8 2) hne8b).trans d3
       go_upto_region 30 with (first | (go_at_call 122; with_reducible refine (HI.out _).mono ?_; rintro e wq ⟨rfl, rfl⟩))
       go_wp2_with (first | (refine wpList_load_row rfl 27 _ rfl g8 rfl _ (x1.arr t6) (0, 0) _ HST6.out.blk HFS.out rfl sizeSt ?_) | (refine wpList_store_row rfl 27 _ _ rfl (g + 1 + 1) (x1.arr t6) rfl rfl 27 _ HR6.out (by kernel_rfl) rfl (arr_one _ _) ?_))
       refine bodyPost_ret (v := .tuple #[.agg (x1.arr t6), .bool true]) (st_results2 rfl _ _ (g + 1 + 1) _ _ rfl rfl (setRow_heap _ _ _ _ _ _ HR6.out) rfl) rfl (rP_yes HO.out ⟨?_, ?_⟩)
       ·exact (HST6.out.own.ge (by have := HBL1.out.size; exact this)).only (only_row HR6.out) (by decide) (by decide) (by decide) (by decide)
       ·exact below_setRow HBL6.out (by have := HG.out; omega) _
      ·have c4b : (player == 0) = false := by rw [beq_eq_false_iff_ne]; exact c4
       have HO := Lib.hid (HNO7.out (fun h => h.2.elim (fun h => absurd h.1 (by decide)) (fun h => c4 h.2)))
       clear HNO7 HYES7 c4
       go_upto_region 31 with (first | (go_at_call 122; with_reducible refine (HI.out _).mono ?_; rintro e wq ⟨rfl, rfl⟩))
       go_wp2_with (first | (refine build_to zeroA rfl 27 _ rfl _ (by kernel_rfl) zeroA_b ?_) | (refine wpList_store_row rfl 27 _ _ rfl (g + 1 + 1) zeroA rfl rfl 27 _ HR3.out (by kernel_rfl) (by kernel_rfl) (by kernel_rfl) ?_))
       refine bodyPost_ret (v := .tuple #[.agg zeroA, .bool false]) (st_results2 rfl _ _ (g + 1 + 1) _ _ rfl rfl (setRow_heap _ _ _ _ _ _ HR3.out) rfl) rfl (rP_no HO.out ?_)
       exact below_setRow HBL3.out (by have := HG.out; omega) _
     ·have c2b : (now == 1) = false := by rw [beq_eq_false_iff_ne]; exact c2
      have c3b : (now == 2) = false := by rw [beq_eq_false_iff_ne]; exact c3
      have HO := Lib.hid (HNO7.out (fun h => h.2.elim (fun h => c2 h.1) (fun h => c3 h.1)))
      clear HNO7 HYES7 c2 c3
      go_upto_region 31 with (first | (go_at_call 122; with_reducible refine (HI.out _).mono ?_; rintro e wq ⟨rfl, rfl⟩))
      go_wp2_with (first | (refine build_to zeroA rfl 27 _ rfl _ (by kernel_rfl) zeroA_b ?_) | (refine wpList_store_row rfl 27 _ _ rfl (g + 1 + 1) zeroA rfl rfl 27 _ HR3.out (by kernel_rfl) (by kernel_rfl) (by kernel_rfl) ?_))
      refine bodyPost_ret (v := .tuple #[.agg zeroA, .bool false]) (st_results2 rfl _ _ (g + 1 + 1) _ _ rfl rfl (setRow_heap _ _ _ _ _ _ HR3.out) rfl) rfl (rP_no HO.out ?_)
      exact below_setRow HBL3.out (by have := HG.out; omega) _
   ·have c1b : (s.fin == 0) = false := by rw [beq_eq_false_iff_ne]; exact c1
    have HO := Lib.hid (HNO7.out (fun h => c1 h.1))
    clear HNO7 HYES7 c1
    go_upto_region 31 with (first | (go_at_call 122; with_reducible refine (HI.out _).mono ?_; rintro e wq ⟨rfl, rfl⟩))
    go_wp2_with (first | (refine build_to zeroA rfl 27 _ rfl _ (by kernel_rfl) zeroA_b ?_) | (refine wpList_store_row rfl 27 _ _ rfl (g + 1 + 1) zeroA rfl rfl 27 _ HR3.out (by kernel_rfl) (by kernel_rfl) (by kernel_rfl) ?_))
    refine bodyPost_ret (v := .tuple #[.agg zeroA, .bool false]) (st_results2 rfl _ _ (g + 1 + 1) _ _ rfl rfl (setRow_heap _ _ _ _ _ _ HR3.out) rfl) rfl (rP_no HO.out ?_)
    exact below_setRow HBL3.out (by have := HG.out; omega) _
  have k1b : (kind == 1) = false := by rw [beq_eq_false_iff_ne]; exact k1
  have k2b : (kind == 2) = false := by rw [beq_eq_false_iff_ne]; exact k2
  have k3b : (kind == 3) = false := by rw [beq_eq_false_iff_ne]; exact k3
  have k4b : (kind == 4) = false := by rw [beq_eq_false_iff_ne]; exact k4
  have k5b : (kind == 5) = false := by rw [beq_eq_false_iff_ne]; exact k5
  have k6b : (kind == 6) = false := by rw [beq_eq_false_iff_ne]; exact k6
  have k7b : (kind == 7) = false := by rw [beq_eq_false_iff_ne]; exact k7
  have HO := Lib.hid (HSTO.out (by omega))
  clear k1 k2 k3 k4 k5 k6 k7
  go_upto_region 31 with (fail)
  go_wp2_with (first | (refine build_to zeroA rfl 27 _ rfl _ (by kernel_rfl) zeroA_b ?_) | (refine wpList_store_row rfl 27 _ _ rfl (g + 1 + 1) zeroA rfl rfl 27 _ HR3.out (by kernel_rfl) (by kernel_rfl) (by kernel_rfl) ?_))
  refine bodyPost_ret (v := .tuple #[.agg zeroA, .bool false]) (st_results2 rfl _ _ (g + 1 + 1) _ _ rfl rfl (setRow_heap _ _ _ _ _ _ HR3.out) rfl) rfl (rP_no HO.out ?_)
  exact below_setRow HBL3.out (by have := HG.out; omega) _
end Go.Proofs.YtofgmijmhpmabaaGreatDoor.D

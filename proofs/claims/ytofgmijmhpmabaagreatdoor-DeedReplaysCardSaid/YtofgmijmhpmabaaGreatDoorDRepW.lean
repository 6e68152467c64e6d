/- The walk of DeedReplays. Printed by gen_rep2.py. -/
import Derived.Test.YtofgmijmhpmabaaGreatDoorDRepL
import Derived.Test.YtofgmijmhpmabaaGreatDoorDWideS
import Derived.Test.YtofgmijmhpmabaaGreatDoorDLives
import Derived.Test.YtofgmijmhpmabaaGreatDoorDLawM
import Derived.Test.YtofgmijmhpmabaaGreatDoorDSame
namespace Go.Proofs.YtofgmijmhpmabaaGreatDoor.D
open Go Go.RowKit
set_option linter.unusedVariables false
set_option linter.unusedSimpArgs false
theorem wideEvents_b (A : Option Addr) (n c gE : Nat) (L : List (EV × Ev)) (E : List Ev) (w : World) (hl : RdEvs w A n L) (hn : n ≤ 33554432) (ho : ∀ k, k < n → (L.getD k zeroP).2.order.length ≤ 33554432) (hE : L.map Prod.snd = E) (hg : gE = w.heap.size) :
 Calls Tryz.prog 34 #[.slice A n c] w (fun e w' => ∃ P, e = .returned (.slice (some ⟨gE, 0, none⟩) n (n + 64)) ∧ WEvs w' gE gE E P ∧ Below w.heap.size w w') := by
 refine (wideEvents_any A n c L w hl hn ho).mono ?_
 rintro e w' ⟨P, h1, rfl, h2⟩
 have hEl : (L.map Prod.snd).length = n := by rw [List.length_map]; exact hl.len
 subst hE
 subst hg
 exact ⟨P, by rw [hEl], h2.fin h1, h2.bl⟩
theorem wevs_rd {w : World} {base g n : Nat} {E : List Ev} {P : List (EV × Ev)} (h : WEvs w base g E P) (hn : E.length = n) : RdEvs w (some ⟨g, 0, none⟩) n (P.take n) ∧ (P.take n).map Prod.snd = E := by
 have := h.rd
 rw [hn] at this
 exact this
theorem ev_fits {L M : List (EV × Ev)} {n : Nat} (h : M.map Prod.snd = L.map Prod.snd) (hf : ∀ k, k < n → (L.getD k zeroP).2.Fits ∧ (L.getD k zeroP).2.order.length ≤ 33554432) : ∀ k, k < n → (M.getD k zeroP).2.Fits ∧ (M.getD k zeroP).2.order.length ≤ 33554432 := fun k hk => by
 have e : (M.getD k zeroP).2 = (L.getD k zeroP).2 := by rw [← evs_at M, ← evs_at L]; unfold evs; rw [h]
 rw [e]
 exact hf k hk
theorem WEvs.row_lt {w : World} {base g n : Nat} {E : List Ev} {P : List (EV × Ev)} (h : WEvs w base g E P) (hn : E.length = n) {i : Nat} (hi : i < n) : ∃ gI m, (P.getD i zeroP).1.oa = some ⟨gI, 0, none⟩ ∧ (P.getD i zeroP).1.oc = m + 64 ∧ (P.getD i zeroP).2.order.length = m ∧ (E.getD i zeroEv).order.length = m ∧ base ≤ gI ∧ gI < w.heap.size := by
 obtain ⟨gI, e1, e2⟩ := h.lo i (by omega)
 exact ⟨gI, (E.getD i zeroEv).order.length, by rw [e1]; rfl, by rw [e1]; rfl, by rw [e1], rfl, e2.lt gI rfl⟩
theorem WOrd.slot {w : World} {base g n : Nat} {P : List (EV × Ev)} (h : WOrd w base g n P) {i gI k : Nat} (hi : i < n) (he : (P.getD i zeroP).1.oa = some ⟨gI, 0, none⟩) (hk : k < (P.getD i zeroP).2.order.length + 64) : (∃ y, w.cell? ⟨gI, k, none⟩ = some y) ∧ w.frozen? ⟨gI, k, none⟩ = false := by
 obtain ⟨g2, e2, ys, hr⟩ := h.rows i hi
 rw [e2] at he
 obtain rfl : g2 = gI := by simpa using he
 exact ⟨G.own_some hr k (by omega), hr.frozenAt k⟩
set_option maxRecDepth 100000 in
set_option maxHeartbeats 8000000 in
theorem replays_long (x : SV) (s : St) (A : Option Addr) (n c : Nat) (L : List (EV × Ev)) (w : World) (h : RdSt w x s) (hr : RdEvs w A n L) (hw : Sw s) (hn : n ≤ 140737488355328) (hl : ∀ i, (L.getD i zeroP).2.order.length ≤ 140737488355328) (hby : beyondB s L = true) :
 Calls Tryz.prog 7 #[x.val s, .slice A n c] w (BoolPost true w) := by
 obtain ⟨fsS, hfsS⟩ := undSt
 have HFS := Lib.hid hfsS
 have HEr := Lib.hid hr
 have HBY := Lib.hid (fun W (hW : Below w.heap.size w W) => beyond_any x s A n c L W (h.below hW) hw (hr.below hW) hn hl)
 rw [hby] at HBY
 obtain ⟨cs, hcs⟩ : ∃ c, c = x.arr s := ⟨_, rfl⟩
 have HS := Lib.hid (show cs.size = 7 by rw [hcs]; rfl)
 have HCS0 := Lib.hid hcs
 have he1 : x.val s = .agg cs := by rw [hcs]; rfl
 rw [he1] at HBY ⊢
 clear h hr hw hn hl hcs he1 hfsS hby
 have hx0 : G.Blk (w.alloc (.cells cs 27)) w.heap.size 27 cs := G.Blk.new w _ _
 have hbl0 : Below w.heap.size w (w.alloc (.cells cs 27)) := G.bl_alloc (Below.refl _ _) _
 go_enter Tryz.func7, Tryz.ntmps7
 go_upto_region 1 with (fail)
 obtain ⟨w0, hw0⟩ : ∃ w0, w0 = w.alloc (.cells cs 27) := ⟨_, rfl⟩
 rw [← hw0] at hx0 hbl0 ⊢
 clear hw0
 obtain ⟨g, hg⟩ : ∃ g, g = w.heap.size := ⟨_, rfl⟩
 rw [← hg] at hx0 ⊢
 have HX := Lib.hid hx0
 have HBL := Lib.hid hbl0
 clear hx0 hbl0 hg
 go_wp2_with (first | (refine wpList_load_row rfl 27 _ rfl g rfl _ cs (0, 0) _ HX.out HFS.out rfl (by rw [HS.out]; exact sizeSt) ?_))
 refine (HBY.out _ HBL.out).mono ?_
 rintro e1 w1 ⟨rfl, hb1⟩
 have HX1 := Lib.hid (HX.out.below hb1 HX.out.lt)
 have HBL1 := Lib.hid (G.bl_trans HBL.out hb1)
 clear hb1 HX HBL HBY
 go_wp2_with fail
 go_ret
 exact ⟨rfl, HBL1.out⟩
set_option maxRecDepth 100000 in
set_option maxHeartbeats 32000000 in
theorem replays_short (x : SV) (s : St) (A : Option Addr) (n c : Nat) (L : List (EV × Ev)) (w : World) (h : RdSt w x s) (hr : RdEvs w A n L) (hf : ∀ k, k < n → (L.getD k zeroP).2.Fits ∧ (L.getD k zeroP).2.order.length ≤ 33554432) (hw : Sw s) (hs : Sz s) (hn : n ≤ 33554432) (hlw : ∀ i, (L.getD i zeroP).2.order.length ≤ 140737488355328) (hby : beyondB s L = false) :
 Calls Tryz.prog 7 #[x.val s, .slice A n c] w (BoolPost true w) := by
 obtain ⟨fsS, hfsS⟩ := undSt
 have HFS := Lib.hid hfsS
 have HEr := Lib.hid hr
 have HBY := Lib.hid (fun W (hW : Below w.heap.size w W) => beyond_any x s A n c L W (h.below hW) hw (hr.below hW) (Nat.le_trans hn (by decide)) hlw)
 rw [hby] at HBY
 have HWS := Lib.hid (fun W (hW : Below w.heap.size w W) => wideState_any x s W (h.below hW) hs)
 obtain ⟨E, hE⟩ : ∃ E, E = L.map Prod.snd := ⟨_, rfl⟩
 have HRR := Lib.hid (fun W (hW : Below w.heap.size w W) => refReplay_any x s A n c L W (h.below hW) hs (hr.below hW) hf hn)
 have HRB := Lib.hid (fun W (hW : Below w.heap.size w W) => refBack_any x s A n c L W (h.below hW) hs (hr.below hW) hf hn)
 rw [← hE] at HRR HRB
 have HE := Lib.hid hE
 have HEL := Lib.hid (show E.length = n by rw [hE, List.length_map]; exact hr.len)
 have HRS := Lib.hid h
 have HSZ := Lib.hid hs
 have HF := Lib.hid hf
 have HNN := Lib.hid hn
 obtain ⟨cs, hcs⟩ : ∃ c, c = x.arr s := ⟨_, rfl⟩
 have HS := Lib.hid (show cs.size = 7 by rw [hcs]; rfl)
 have HCS0 := Lib.hid hcs
 have he1 : x.val s = .agg cs := by rw [hcs]; rfl
 rw [he1] at HBY HWS HRR HRB ⊢
 clear h hr hw hn hf hs hlw hE hcs he1 hfsS hby
 have hx0 : G.Blk (w.alloc (.cells cs 27)) w.heap.size 27 cs := G.Blk.new w _ _
 have hbl0 : Below w.heap.size w (w.alloc (.cells cs 27)) := G.bl_alloc (Below.refl _ _) _
 go_enter Tryz.func7, Tryz.ntmps7
 go_upto_region 1 with (fail)
 obtain ⟨w0, hw0⟩ : ∃ w0, w0 = w.alloc (.cells cs 27) := ⟨_, rfl⟩
 rw [← hw0] at hx0 hbl0 ⊢
 clear hw0
 obtain ⟨g, hg⟩ : ∃ g, g = w.heap.size := ⟨_, rfl⟩
 rw [← hg] at hx0 ⊢
 have HX := Lib.hid hx0
 have HBL := Lib.hid hbl0
 clear hx0 hbl0 hg
 go_wp2_with (first | (refine wpList_load_row rfl 27 _ rfl g rfl _ cs (0, 0) _ HX.out HFS.out rfl (by rw [HS.out]; exact sizeSt) ?_))
 refine (HBY.out _ HBL.out).mono ?_
 rintro e1 w1 ⟨rfl, hb1⟩
 have HX1 := Lib.hid (HX.out.below hb1 HX.out.lt)
 have HBL1 := Lib.hid (G.bl_trans HBL.out hb1)
 clear hb1 HX HBL HBY
 have HWS1 := Lib.hid (HWS.out w1 HBL1.out)
 go_upto_region 4 with (first | (refine wpList_load_row rfl 27 _ rfl g rfl _ cs (0, 0) _ HX1.out HFS.out rfl (by rw [HS.out]; exact sizeSt) ?_) | ((with_reducible refine (HWS1.out).mono ?_); rintro e2 w2 hp; obtain ⟨gp, gc, gz, rs, rfl, hws, hb2⟩ := hp; have HW2 := Lib.hid hws; have HB2 := Lib.hid hb2; clear hws hb2) | (refine wpList_store_row rfl 27 _ _ rfl _ ((wSV s gp gc gz rs).arr s) rfl rfl 27 _ (heap_alloc_new _ _) (by kernel_rfl) rfl (arr_one _ _) ?_))
 have HBK5 := Lib.hid (show G.Blk ((w2.alloc (.cells zeroA 27)).setRow w2.heap.size ((wSV s gp gc gz rs).arr s)) w2.heap.size 27 ((wSV s gp gc gz rs).arr s) from setRow_heap _ _ _ _ _ _ (heap_alloc_new _ _))
 have HST5 := Lib.hid (show Below w2.heap.size w2 ((w2.alloc (.cells zeroA 27)).setRow w2.heap.size ((wSV s gp gc gz rs).arr s)) from below_setRow (G.bl_alloc (Below.refl _ _) _) (Nat.le_refl _) _)
 obtain ⟨g5, hg5⟩ : ∃ q, q = w2.heap.size := ⟨_, rfl⟩
 obtain ⟨w3, hw3⟩ : ∃ q, q = (w2.alloc (.cells zeroA 27)).setRow w2.heap.size ((wSV s gp gc gz rs).arr s) := ⟨_, rfl⟩
 rw [← hw3] at HBK5 HST5
 rw [← hg5] at HBK5
 unfold zeroA at hw3
 rw [← hw3, ← hg5]
 have HGE5 := Lib.hid hg5
 clear hw3 hg5
 obtain ⟨c5, hc5⟩ : ∃ c, c = (wSV s gp gc gz rs).arr s := ⟨_, rfl⟩
 have HCC5 := Lib.hid hc5
 rw [← hc5] at HBK5
 have HZ5 := Lib.hid (show c5.size = 7 by rw [hc5]; rfl)
 clear hc5
 have HB23 := Lib.hid (G.bl_trans HB2.out HST5.out)
 have HX3 := Lib.hid (HX1.out.below HB23.out HX1.out.lt)
 have HBL3 := Lib.hid (G.bl_trans HBL1.out HB23.out)
 have HW3 := Lib.hid (HW2.out.below HST5.out)
 clear HX1 HWS HWS1
 obtain ⟨gE, hgE⟩ : ∃ q, q = w3.heap.size := ⟨_, rfl⟩
 have HGE := Lib.hid hgE
 clear hgE
 have HWV := Lib.hid (wideEvents_b A n c gE L E w3 (HEr.out.below HBL3.out) HNN.out (fun k hk => (HF.out k hk).2) HE.out.symm HGE.out)
 go_upto_region 5 with ((with_reducible refine (HWV.out).mono ?_); rintro e4 w4 hp; obtain ⟨P, rfl, hwe, hb4⟩ := hp; have HV4 := Lib.hid hwe; have HB4 := Lib.hid hb4; clear hwe hb4)
 have HBL4 := Lib.hid (G.bl_trans HBL3.out HB4.out)
 have HQX := Lib.hid (HX3.out.below HB4.out HX3.out.lt)
 have HQ5 := Lib.hid (HBK5.out.below HB4.out HBK5.out.lt)
 have HW4 := Lib.hid (HW3.out.below HB4.out)
 obtain ⟨PL, hPL⟩ : ∃ q, q = P.take n := ⟨_, rfl⟩
 have HRD := Lib.hid (show RdEvs w4 (some ⟨gE, 0, none⟩) n PL ∧ PL.map Prod.snd = E by rw [hPL]; exact wevs_rd HV4.out HEL.out)
 clear hPL
 have HFP := Lib.hid (ev_fits (HRD.out.2.trans HE.out) HF.out)
 have HRP := Lib.hid (fun W (hW : Below w4.heap.size w4 W) => replay_any (wSV s gp gc gz rs) s (some ⟨gE, 0, none⟩) n (n + 64) PL W (HW4.out.own.rd.below hW) HSZ.out (HRD.out.1.below hW) HFP.out HNN.out)
 have HBP := Lib.hid (fun W (hW : Below w4.heap.size w4 W) => back_any (wSV s gp gc gz rs) s (some ⟨gE, 0, none⟩) n (n + 64) PL W (HW4.out.own.rd.below hW) HSZ.out (HRD.out.1.below hW) HFP.out HNN.out)
 rw [show (wSV s gp gc gz rs).val s = .agg c5 by rw [HCC5.out]; rfl, HRD.out.2] at HRP HBP
 clear HX3 HBK5 HWV
 have HB55 := Lib.hid (Below.refl w4.heap.size w4)
 have HCL7 := Lib.hid (HRP.out w4 HB55.out)
 go_upto_region 6 with (first | (refine wpList_load_row rfl 27 _ rfl g5 rfl _ c5 (0, 0) _ HQ5.out HFS.out rfl (by rw [HZ5.out]; exact sizeSt) ?_) | ((with_reducible refine (HCL7.out).mono ?_); rintro e7 w5 hp; obtain ⟨x7, t7, a7, k7, rfl, ho, hb, hc⟩ := hp; have HO7 := Lib.hid ho; have HB7 := Lib.hid hb; have HC7 := Lib.hid hc; clear ho hb hc) | (refine wpList_store_row rfl 27 _ _ rfl _ (x7.arr t7) rfl rfl 27 _ (heap_alloc_new _ _) (by kernel_rfl) rfl (arr_one _ _) ?_))
 have HBK7 := Lib.hid (show G.Blk ((w5.alloc (.cells zeroA 27)).setRow w5.heap.size (x7.arr t7)) w5.heap.size 27 (x7.arr t7) from setRow_heap _ _ _ _ _ _ (heap_alloc_new _ _))
 have HST7 := Lib.hid (show Below w5.heap.size w5 ((w5.alloc (.cells zeroA 27)).setRow w5.heap.size (x7.arr t7)) from below_setRow (G.bl_alloc (Below.refl _ _) _) (Nat.le_refl _) _)
 obtain ⟨g7, hg7⟩ : ∃ q, q = w5.heap.size := ⟨_, rfl⟩
 obtain ⟨w6, hw6⟩ : ∃ q, q = (w5.alloc (.cells zeroA 27)).setRow w5.heap.size (x7.arr t7) := ⟨_, rfl⟩
 rw [← hw6] at HBK7 HST7
 rw [← hg7] at HBK7
 unfold zeroA at hw6
 rw [← hw6, ← hg7]
 have HGE7 := Lib.hid hg7
 clear hw6 hg7
 obtain ⟨c7, hc7⟩ : ∃ c, c = x7.arr t7 := ⟨_, rfl⟩
 have HCC7 := Lib.hid hc7
 rw [← hc7] at HBK7
 have HZ7 := Lib.hid (show c7.size = 7 by rw [hc7]; rfl)
 clear hc7
 have HBN7 := Lib.hid (G.bl_trans HB7.out HST7.out)
 have HQX_7 := Lib.hid (HQX.out.below HBN7.out HQX.out.lt)
 have HQ5_7 := Lib.hid (HQ5.out.below HBN7.out HQ5.out.lt)
 clear HQX HQ5 HCL7
 have HB55 := Lib.hid (G.bl_trans HB55.out HBN7.out)
 have HON7 := Lib.hid (HO7.out.below HST7.out)
 have HWB7 := Lib.hid (show w4.heap.size ≤ w5.heap.size from HB7.out.size)
 have HWS7 := Lib.hid (show w5.heap.size ≤ w6.heap.size from HST7.out.size)
 have HCL10 := Lib.hid (HRR.out w6 (G.bl_trans HBL4.out HB55.out))
 go_upto_region 7 with (first | (refine wpList_load_row rfl 27 _ rfl g rfl _ cs (0, 0) _ HQX_7.out HFS.out rfl (by rw [HS.out]; exact sizeSt) ?_) | ((with_reducible refine (HCL10.out).mono ?_); rintro e10 w7 hp; obtain ⟨x10, t10, a10, k10, rfl, ho, hb, hc⟩ := hp; have HO10 := Lib.hid ho; have HB10 := Lib.hid hb; have HC10 := Lib.hid hc; clear ho hb hc) | (refine wpList_store_row rfl 27 _ _ rfl _ (x10.arr t10) rfl rfl 27 _ (heap_alloc_new _ _) (by kernel_rfl) rfl (arr_one _ _) ?_))
 have HBK10 := Lib.hid (show G.Blk ((w7.alloc (.cells zeroA 27)).setRow w7.heap.size (x10.arr t10)) w7.heap.size 27 (x10.arr t10) from setRow_heap _ _ _ _ _ _ (heap_alloc_new _ _))
 have HST10 := Lib.hid (show Below w7.heap.size w7 ((w7.alloc (.cells zeroA 27)).setRow w7.heap.size (x10.arr t10)) from below_setRow (G.bl_alloc (Below.refl _ _) _) (Nat.le_refl _) _)
 obtain ⟨g10, hg10⟩ : ∃ q, q = w7.heap.size := ⟨_, rfl⟩
 obtain ⟨w8, hw8⟩ : ∃ q, q = (w7.alloc (.cells zeroA 27)).setRow w7.heap.size (x10.arr t10) := ⟨_, rfl⟩
 rw [← hw8] at HBK10 HST10
 rw [← hg10] at HBK10
 unfold zeroA at hw8
 rw [← hw8, ← hg10]
 have HGE10 := Lib.hid hg10
 clear hw8 hg10
 obtain ⟨c10, hc10⟩ : ∃ c, c = x10.arr t10 := ⟨_, rfl⟩
 have HCC10 := Lib.hid hc10
 rw [← hc10] at HBK10
 have HZ10 := Lib.hid (show c10.size = 7 by rw [hc10]; rfl)
 clear hc10
 have HBN10 := Lib.hid (G.bl_trans HB10.out HST10.out)
 have HQX_10 := Lib.hid (HQX_7.out.below HBN10.out HQX_7.out.lt)
 have HQ5_10 := Lib.hid (HQ5_7.out.below HBN10.out HQ5_7.out.lt)
 have HQ7_10 := Lib.hid (HBK7.out.below HBN10.out HBK7.out.lt)
 clear HQX_7 HQ5_7 HBK7 HCL10
 have HB55 := Lib.hid (G.bl_trans HB55.out HBN10.out)
 have HON10 := Lib.hid (HO10.out.below HST10.out)
 have HON7 := Lib.hid (HON7.out.below HBN10.out)
 have HWB10 := Lib.hid (show w6.heap.size ≤ w7.heap.size from HB10.out.size)
 have HWS10 := Lib.hid (show w7.heap.size ≤ w8.heap.size from HST10.out.size)
 have HCL13 := Lib.hid (HBP.out w8 HB55.out)
 go_upto_region 8 with (first | (refine wpList_load_row rfl 27 _ rfl g5 rfl _ c5 (0, 0) _ HQ5_10.out HFS.out rfl (by rw [HZ5.out]; exact sizeSt) ?_) | ((with_reducible refine (HCL13.out).mono ?_); rintro e13 w9 hp; obtain ⟨x13, t13, a13, k13, rfl, ho, hb, hc⟩ := hp; have HO13 := Lib.hid ho; have HB13 := Lib.hid hb; have HC13 := Lib.hid hc; clear ho hb hc) | (refine wpList_store_row rfl 27 _ _ rfl _ (x13.arr t13) rfl rfl 27 _ (heap_alloc_new _ _) (by kernel_rfl) rfl (arr_one _ _) ?_))
 have HBK13 := Lib.hid (show G.Blk ((w9.alloc (.cells zeroA 27)).setRow w9.heap.size (x13.arr t13)) w9.heap.size 27 (x13.arr t13) from setRow_heap _ _ _ _ _ _ (heap_alloc_new _ _))
 have HST13 := Lib.hid (show Below w9.heap.size w9 ((w9.alloc (.cells zeroA 27)).setRow w9.heap.size (x13.arr t13)) from below_setRow (G.bl_alloc (Below.refl _ _) _) (Nat.le_refl _) _)
 obtain ⟨g13, hg13⟩ : ∃ q, q = w9.heap.size := ⟨_, rfl⟩
 obtain ⟨w10, hw10⟩ : ∃ q, q = (w9.alloc (.cells zeroA 27)).setRow w9.heap.size (x13.arr t13) := ⟨_, rfl⟩
 rw [← hw10] at HBK13 HST13
 rw [← hg13] at HBK13
 unfold zeroA at hw10
 rw [← hw10, ← hg13]
 have HGE13 := Lib.hid hg13
 clear hw10 hg13
 obtain ⟨c13, hc13⟩ : ∃ c, c = x13.arr t13 := ⟨_, rfl⟩
 have HCC13 := Lib.hid hc13
 rw [← hc13] at HBK13
 have HZ13 := Lib.hid (show c13.size = 7 by rw [hc13]; rfl)
 clear hc13
 have HBN13 := Lib.hid (G.bl_trans HB13.out HST13.out)
 have HQX_13 := Lib.hid (HQX_10.out.below HBN13.out HQX_10.out.lt)
 have HQ5_13 := Lib.hid (HQ5_10.out.below HBN13.out HQ5_10.out.lt)
 have HQ7_13 := Lib.hid (HQ7_10.out.below HBN13.out HQ7_10.out.lt)
 have HQ10_13 := Lib.hid (HBK10.out.below HBN13.out HBK10.out.lt)
 clear HQX_10 HQ5_10 HQ7_10 HBK10 HCL13
 have HB55 := Lib.hid (G.bl_trans HB55.out HBN13.out)
 have HON13 := Lib.hid (HO13.out.below HST13.out)
 have HON7 := Lib.hid (HON7.out.below HBN13.out)
 have HON10 := Lib.hid (HON10.out.below HBN13.out)
 have HWB13 := Lib.hid (show w8.heap.size ≤ w9.heap.size from HB13.out.size)
 have HWS13 := Lib.hid (show w9.heap.size ≤ w10.heap.size from HST13.out.size)
 have HCL16 := Lib.hid (HRB.out w10 (G.bl_trans HBL4.out HB55.out))
 go_upto_region 9 with (first | (refine wpList_load_row rfl 27 _ rfl g rfl _ cs (0, 0) _ HQX_13.out HFS.out rfl (by rw [HS.out]; exact sizeSt) ?_) | ((with_reducible refine (HCL16.out).mono ?_); rintro e16 w11 hp; obtain ⟨x16, t16, a16, k16, rfl, ho, hb, hc⟩ := hp; have HO16 := Lib.hid ho; have HB16 := Lib.hid hb; have HC16 := Lib.hid hc; clear ho hb hc) | (refine wpList_store_row rfl 27 _ _ rfl _ (x16.arr t16) rfl rfl 27 _ (heap_alloc_new _ _) (by kernel_rfl) rfl (arr_one _ _) ?_))
 have HBK16 := Lib.hid (show G.Blk ((w11.alloc (.cells zeroA 27)).setRow w11.heap.size (x16.arr t16)) w11.heap.size 27 (x16.arr t16) from setRow_heap _ _ _ _ _ _ (heap_alloc_new _ _))
 have HST16 := Lib.hid (show Below w11.heap.size w11 ((w11.alloc (.cells zeroA 27)).setRow w11.heap.size (x16.arr t16)) from below_setRow (G.bl_alloc (Below.refl _ _) _) (Nat.le_refl _) _)
 obtain ⟨g16, hg16⟩ : ∃ q, q = w11.heap.size := ⟨_, rfl⟩
 obtain ⟨w12, hw12⟩ : ∃ q, q = (w11.alloc (.cells zeroA 27)).setRow w11.heap.size (x16.arr t16) := ⟨_, rfl⟩
 rw [← hw12] at HBK16 HST16
 rw [← hg16] at HBK16
 unfold zeroA at hw12
 rw [← hw12, ← hg16]
 have HGE16 := Lib.hid hg16
 clear hw12 hg16
 obtain ⟨c16, hc16⟩ : ∃ c, c = x16.arr t16 := ⟨_, rfl⟩
 have HCC16 := Lib.hid hc16
 rw [← hc16] at HBK16
 have HZ16 := Lib.hid (show c16.size = 7 by rw [hc16]; rfl)
 clear hc16
 have HBN16 := Lib.hid (G.bl_trans HB16.out HST16.out)
 have HQX_16 := Lib.hid (HQX_13.out.below HBN16.out HQX_13.out.lt)
 have HQ5_16 := Lib.hid (HQ5_13.out.below HBN16.out HQ5_13.out.lt)
 have HQ7_16 := Lib.hid (HQ7_13.out.below HBN16.out HQ7_13.out.lt)
 have HQ10_16 := Lib.hid (HQ10_13.out.below HBN16.out HQ10_13.out.lt)
 have HQ13_16 := Lib.hid (HBK13.out.below HBN16.out HBK13.out.lt)
 clear HQX_13 HQ5_13 HQ7_13 HQ10_13 HBK13 HCL16
 have HB55 := Lib.hid (G.bl_trans HB55.out HBN16.out)
 have HON16 := Lib.hid (HO16.out.below HST16.out)
 have HON7 := Lib.hid (HON7.out.below HBN16.out)
 have HON10 := Lib.hid (HON10.out.below HBN16.out)
 have HON13 := Lib.hid (HON13.out.below HBN16.out)
 have HWB16 := Lib.hid (show w10.heap.size ≤ w11.heap.size from HB16.out.size)
 have HWS16 := Lib.hid (show w11.heap.size ≤ w12.heap.size from HST16.out.size)
 have HSV := Lib.hid (show SevR w12 g g5 g7 g10 g13 g16 cs c5 c7 c10 c13 c16 from ⟨HQX_16.out, HQ5_16.out, HQ7_16.out, HQ10_16.out, HQ13_16.out, HBK16.out⟩)
 clear HQX_16 HQ5_16 HQ7_16 HQ10_16 HQ13_16 HBK16 HRP HRR HBP HRB
 obtain ⟨hk10, ht10, ha10⟩ := rep_same HC7.out HC10.out
 obtain ⟨hk16, ht16, ha16⟩ := rep_same HC13.out HC16.out
 obtain ⟨hsz7, hfew7⟩ := rep_small (fun hm t h => run_may hm h) HC7.out
 have HSZ7 := Lib.hid hsz7
 have HFW7 := Lib.hid hfew7
 obtain ⟨hsz13, hfew13⟩ := rep_small (fun hm t h => backL_may hm h) HC13.out
 have HSZ13 := Lib.hid hsz13
 have HFW13 := Lib.hid hfew13
 clear hsz7 hfew7 hsz13 hfew13 HC7 HC10 HC13 HC16
 subst hk10
 subst ht10
 subst ha10
 subst hk16
 subst ht16
 subst ha16
 have hk7 : (k7 != k7) = false := by simp
 have ha7 : (a7 != a7) = false := by simp
 have hk13 : (k13 != k13) = false := by simp
 have ha13 : (a13 != a13) = false := by simp
 have HBLw := Lib.hid (G.bl_trans HBL4.out HB55.out)
 have HBC := Lib.hid (Below.refl w12.heap.size w12)
 have HWw := Lib.hid (HW4.out.below HB55.out)
 have HVw := Lib.hid (HV4.out.below HB55.out)
 have HRDw := Lib.hid (HRD.out.1.below HB55.out)
 have HRw := Lib.hid (HRS.out.below HBLw.out)
 have HEw := Lib.hid (HEr.out.below HBLw.out)
 have HQ1 := Lib.hid (fun W (hW : Below w12.heap.size w12 W) => eqState_any x7 x10 t7 t7 W (HON7.out.rd.below hW) (HON10.out.rd.below hW) HSZ7.out HSZ7.out)
 have HQ2 := Lib.hid (fun W (hW : Below w12.heap.size w12 W) => eqState_any x13 x16 t13 t13 W (HON13.out.rd.below hW) (HON16.out.rd.below hW) HSZ13.out HSZ13.out)
 have HQ3 := Lib.hid (fun W (hW : Below w12.heap.size w12 W) => stays_any gp gc gz w1.heap.size rs x s W (HWw.out.below hW) (HRw.out.below hW) HSZ.out)
 have HQ4 := Lib.hid (fun W (hW : Below w12.heap.size w12 W) => eqEvents_any (some ⟨gE, 0, none⟩) A n n (n + 64) c PL L W (HRDw.out.below hW) (HEw.out.below hW) HNN.out (fun i hi => (HFP.out i hi).2) (fun i hi => (HF.out i hi).2))
 have HQ5 := Lib.hid (fun W (hW : Below w12.heap.size w12 W) => spareEvents_any gE gE n E P W (HVw.out.below hW) HEL.out HNN.out (fun k hk => by rw [HE.out, show (L.map Prod.snd).getD k zeroEv = (L.getD k zeroP).2 from evs_at L k]; exact (HF.out k hk).2))
 rw [show decide (t7 = t7) = true from decide_eq_true rfl] at HQ1
 rw [show decide (t13 = t13) = true from decide_eq_true rfl] at HQ2
 rw [show decide (evs PL = evs L) = true from decide_eq_true (HRD.out.2.trans HE.out)] at HQ4
 rw [show x7.val t7 = .agg c7 by rw [HCC7.out]; rfl, show x10.val t7 = .agg c10 by rw [HCC10.out]; rfl] at HQ1
 rw [show x13.val t13 = .agg c13 by rw [HCC13.out]; rfl, show x16.val t13 = .agg c16 by rw [HCC16.out]; rfl] at HQ2
 rw [show (wSV s gp gc gz rs).val s = .agg c5 by rw [HCC5.out]; rfl, show x.val s = .agg cs by rw [HCS0.out]; rfl] at HQ3
 go_wp2_with (first | (refine wpList_load_row_g (by rfl) 27 _ rfl g7 rfl _ c7 (0, 0) _ HSV.out.c HFS.out rfl (by rw [HZ7.out]; exact sizeSt) ?_) | (refine wpList_load_row_g (by rfl) 27 _ rfl g10 rfl _ c10 (0, 0) _ HSV.out.d HFS.out rfl (by rw [HZ10.out]; exact sizeSt) ?_))
 refine (HQ1.out _ HBC.out).mono ?_
 rintro e21 w21 ⟨rfl, hb21⟩
 have HNB := Lib.hid hb21
 clear hb21
 have HBC := Lib.hid (G.bl_trans HBC.out HNB.out)
 have HSV := Lib.hid (HSV.out.below HNB.out)
 clear HNB
 go_wp2_with (first | (refine wpList_load_row_g (by rfl) 27 _ rfl g13 rfl _ c13 (0, 0) _ HSV.out.e HFS.out rfl (by rw [HZ13.out]; exact sizeSt) ?_) | (refine wpList_load_row_g (by rfl) 27 _ rfl g16 rfl _ c16 (0, 0) _ HSV.out.f HFS.out rfl (by rw [HZ16.out]; exact sizeSt) ?_))
 refine (HQ2.out _ HBC.out).mono ?_
 rintro e22 w22 ⟨rfl, hb22⟩
 have HNB := Lib.hid hb22
 clear hb22
 have HBC := Lib.hid (G.bl_trans HBC.out HNB.out)
 have HSV := Lib.hid (HSV.out.below HNB.out)
 clear HNB
 go_wp2_with (first | (refine wpList_load_row_g (by rfl) 27 _ rfl g5 rfl _ c5 (0, 0) _ HSV.out.b HFS.out rfl (by rw [HZ5.out]; exact sizeSt) ?_) | (refine wpList_load_row_g (by rfl) 27 _ rfl g rfl _ cs (0, 0) _ HSV.out.a HFS.out rfl (by rw [HS.out]; exact sizeSt) ?_))
 refine (HQ3.out _ HBC.out).mono ?_
 rintro e23 w23 ⟨rfl, hb23⟩
 have HNB := Lib.hid hb23
 clear hb23
 have HBC := Lib.hid (G.bl_trans HBC.out HNB.out)
 have HSV := Lib.hid (HSV.out.below HNB.out)
 clear HNB
 go_wp2_with (first | fail)
 refine (HQ4.out _ HBC.out).mono ?_
 rintro e24 w24 ⟨rfl, hb24⟩
 have HNB := Lib.hid hb24
 clear hb24
 have HBC := Lib.hid (G.bl_trans HBC.out HNB.out)
 have HSV := Lib.hid (HSV.out.below HNB.out)
 clear HNB
 go_wp2_with (first | fail)
 refine (HQ5.out _ HBC.out).mono ?_
 rintro e25 w25 ⟨rfl, hb25⟩
 have HNB := Lib.hid hb25
 clear hb25
 have HBC := Lib.hid (G.bl_trans HBC.out HNB.out)
 have HSV := Lib.hid (HSV.out.below HNB.out)
 clear HNB
 clear HQ1 HQ2 HQ3 HQ4 HQ5
 have HB2c := Lib.hid (show Below w2.heap.size w2 w25 from G.bl_trans (G.bl_trans HST5.out HB4.out) (G.bl_trans HB55.out HBC.out))
 have HSPL := Lib.hid (spoil_any w1.heap.size (wSV s gp gc gz rs) s w2 w25 HW2.out.own HB2c.out HSZ.out)
 rw [show (wSV s gp gc gz rs).val s = .agg c5 by rw [HCC5.out]; rfl] at HSPL
 go_wp2_with (first | (refine wpList_load_row_g (by rfl) 27 _ rfl g5 rfl _ c5 (0, 0) _ HSV.out.b HFS.out rfl (by rw [HZ5.out]; exact sizeSt) ?_))
 refine (HSPL.out).mono ?_
 rintro e26 w26 ⟨rfl, hsp⟩
 have HSP := Lib.hid hsp
 clear hsp HSPL
 have HT3 := Lib.hid (show w2.heap.size ≤ gE by rw [HGE.out]; exact HST5.out.size)
 have HT4 := Lib.hid (show gE ≤ w4.heap.size by rw [HGE.out]; exact HB4.out.size)
 have HT24 := Lib.hid (Nat.le_trans HT3.out HT4.out)
 have HU7 := Lib.hid (show w4.heap.size ≤ w6.heap.size from Nat.le_trans HWB7.out HWS7.out)
 have HU10 := Lib.hid (show w4.heap.size ≤ w8.heap.size from Nat.le_trans HU7.out (Nat.le_trans HWB10.out HWS10.out))
 have HU13 := Lib.hid (show w4.heap.size ≤ w10.heap.size from Nat.le_trans HU10.out (Nat.le_trans HWB13.out HWS13.out))
 have HOS7 := Lib.hid ((HON7.out.below HBC.out).span HSP.out HT24.out)
 have HOS10 := Lib.hid ((HON10.out.below HBC.out).span HSP.out (Nat.le_trans HT24.out HU7.out))
 have HOS13 := Lib.hid ((HON13.out.below HBC.out).span HSP.out (Nat.le_trans HT24.out HU10.out))
 have HOS16 := Lib.hid ((HON16.out.below HBC.out).span HSP.out (Nat.le_trans HT24.out HU13.out))
 have HG7 := Lib.hid (show w4.heap.size ≤ g7 by rw [HGE7.out]; exact HWB7.out)
 have HG10 := Lib.hid (show w4.heap.size ≤ g10 by rw [HGE10.out]; exact Nat.le_trans HU7.out HWB10.out)
 have HG13 := Lib.hid (show w4.heap.size ≤ g13 by rw [HGE13.out]; exact Nat.le_trans HU10.out HWB13.out)
 have HG16 := Lib.hid (show w4.heap.size ≤ g16 by rw [HGE16.out]; exact Nat.le_trans HU13.out HWB16.out)
 have HK7 := Lib.hid (HSP.out.blk HSV.out.c (Nat.le_trans HT24.out HG7.out))
 have HK10 := Lib.hid (HSP.out.blk HSV.out.d (Nat.le_trans HT24.out HG10.out))
 have HK13 := Lib.hid (HSP.out.blk HSV.out.e (Nat.le_trans HT24.out HG13.out))
 have HK16 := Lib.hid (HSP.out.blk HSV.out.f (Nat.le_trans HT24.out HG16.out))
 have HBLx := Lib.hid (span_bl HSP.out (G.bl_trans HBLw.out HBC.out) (HBL1.out.size) (G.bl_trans HBLw.out HBC.out).size)
 have HLE := Lib.hid (show w.heap.size ≤ gE by rw [HGE.out]; exact HBL3.out.size)
 have HSN0 := Lib.hid (show w5.heap.size ≤ w26.heap.size from Nat.le_trans HWS7.out (Nat.le_trans (Nat.le_trans HWB10.out HWS10.out) (Nat.le_trans (Nat.le_trans HWB13.out HWS13.out) (Nat.le_trans (Nat.le_trans HWB16.out HWS16.out) (Nat.le_trans HBC.out.size HSP.out.size)))))
 have HWI := Lib.hid (show WOI w4.heap.size w26 gE gE n P w26 from ⟨Span.refl _ _ _, ((HVw.out.below HBC.out).span HSP.out HT3.out).ord HEL.out⟩)
 have HRL := Lib.hid (fun i (hi : i < n) => HV4.out.row_lt HEL.out hi)
 have HLE5 := Lib.hid (fun i (hi : i < n) => show (E.getD i zeroEv).order.length ≤ 33554432 by rw [HE.out, show (L.map Prod.snd).getD i zeroEv = (L.getD i zeroP).2 from evs_at L i]; exact (HF.out i hi).2)
 have hnL := HNN.out
 clear HSV HSP HBC HB2c hk7 ha7 hk13 ha13 HON7 HON10 HON13 HON16 HWw HVw HRDw HRw HEw
 obtain ⟨T4, hT4⟩ : ∃ q, q = w4.heap.size := ⟨_, rfl⟩
 have HTT := Lib.hid hT4
 rw [← hT4] at HWI HT4 HT24 HG7 HG10 HG13 HG16 HRL
 clear hT4
 go_wp2_with fail
 go_loopw [19, 20] (fun i _ wr => ∃ q : Nat, q ≤ n ∧ i = .int .i64 q ∧ WOI T4 w26 gE gE n P wr) (fun i _ _ => n - (intOf i).toNat)
 case atStart => exact ⟨0, Nat.zero_le _, rfl, HWI.out⟩
 case round =>
  clear HWI
  obtain ⟨q, hq, rfl, hin⟩ := hrel
  have HIN := Lib.hid hin
  have hq0 : (0 : Int) ≤ q := by omega
  clear hin
  by_cases hlt : q < n
  ·have hltI : (q : Int) < n := by omega
   obtain ⟨gI, m, hoa, hoc, hom, hem, hge, hlt2⟩ := HRL.out q hlt
   have hm := HLE5.out q hlt
   rw [hem] at hm
   have HCE := Lib.hid (fun W (hW : WOI T4 w26 gE gE n P W) => show W.cell? ⟨gE, q * 12 + 11, none⟩ = some (.slice (some ⟨gI, 0, none⟩) m (m + 64)) by rw [hW.o.cell hlt, hoa, hom, hoc])
   have HPT := Lib.hid (fun W (hW : WOI T4 w26 gE gE n P W) (k : Nat) (v : Int) => show WOI T4 w26 gE gE n P (W.setCell ⟨gI, k, none⟩ (.int .i64 v)) from ⟨hW.sp.set hge hlt2 _, hW.o.put hlt hoa k v⟩)
   have HSL := Lib.hid (fun W (hW : WOI T4 w26 gE gE n P W) (k : Nat) (hk : k < m) => show (∃ y, W.cell? ⟨gI, k, none⟩ = some y) ∧ W.frozen? ⟨gI, k, none⟩ = false from hW.o.slot hlt hoa (by rw [hom]; omega))
   clear hoa hoc hom hem hge hlt2
   go_wp2_with fail
   go_loopw [20] (fun i wr => ∃ p : Nat, p ≤ m ∧ i = .int .i64 p ∧ WOI T4 w26 gE gE n P wr) (fun i _ => m - (intOf i).toNat)
   case atStart => exact ⟨0, Nat.zero_le _, rfl, HIN.out⟩
   case round =>
    clear HIN
    obtain ⟨p, hp, rfl, hin⟩ := hrel
    have HIN := Lib.hid hin
    have hp0 : (0 : Int) ≤ p := by omega
    clear hin
    have d0 := HCE.out _ HIN.out
    have ld := World.block_lt_of_cell? _ _ d0
    by_cases hlt3 : p < m
    ·have hltI3 : (p : Int) < m := by omega
     obtain ⟨⟨y9, hy9⟩, hf9⟩ := HSL.out _ HIN.out p hlt3
     have lI := World.block_lt_of_cell? _ _ hy9
     have HNX := Lib.hid (HPT.out _ HIN.out p (-5))
     go_wp2_with fail
     try go_region
     try go_wp2_with fail
     go_roundw
     case rel => exact ⟨p + 1, by omega, by go_num, by first | exact HNX.out | exact HNX.out.drew | exact HPT.out _ HIN.out.drew p (-5)⟩
     case measure => simp [intOf]; omega
    ·have hltI3 : ¬ (p : Int) < m := by omega
     go_wp2_with fail
     go_roundw
     case rel => exact ⟨q + 1, by omega, by go_num, by first | exact HIN.out | exact HIN.out.drew⟩
     case measure => simp [intOf]; omega
  ·have hltI : ¬ (q : Int) < n := by omega
   have HS2 := Lib.hid HIN.out.sp
   clear HIN
   have HK7 := Lib.hid (HS2.out.blk HK7.out HG7.out)
   have HK10 := Lib.hid (HS2.out.blk HK10.out HG10.out)
   have HK13 := Lib.hid (HS2.out.blk HK13.out HG13.out)
   have HK16 := Lib.hid (HS2.out.blk HK16.out HG16.out)
   have HOS7 := Lib.hid (HOS7.out.span HS2.out (by rw [HTT.out]; exact Nat.le_refl _))
   have HOS10 := Lib.hid (HOS10.out.span HS2.out (by rw [HTT.out]; exact HU7.out))
   have HOS13 := Lib.hid (HOS13.out.span HS2.out (by rw [HTT.out]; exact HU10.out))
   have HOS16 := Lib.hid (HOS16.out.span HS2.out (by rw [HTT.out]; exact HU13.out))
   have HBLr := Lib.hid (span_bl HS2.out HBLx.out HLE.out HBLx.out.size)
   have HSN1 := Lib.hid (Nat.le_trans HSN0.out HS2.out.size)
   have HBR := Lib.hid (Below.refl wr.heap.size wr)
   have HQ6 := Lib.hid (fun W (hW : Below wr.heap.size wr W) => eqState_any x7 x10 t7 t7 W (HOS7.out.rd.below hW) (HOS10.out.rd.below hW) HSZ7.out HSZ7.out)
   have HQ7 := Lib.hid (fun W (hW : Below wr.heap.size wr W) => eqState_any x13 x16 t13 t13 W (HOS13.out.rd.below hW) (HOS16.out.rd.below hW) HSZ13.out HSZ13.out)
   rw [show decide (t7 = t7) = true from decide_eq_true rfl, show x7.val t7 = .agg c7 by rw [HCC7.out]; rfl, show x10.val t7 = .agg c10 by rw [HCC10.out]; rfl] at HQ6
   rw [show decide (t13 = t13) = true from decide_eq_true rfl, show x13.val t13 = .agg c13 by rw [HCC13.out]; rfl, show x16.val t13 = .agg c16 by rw [HCC16.out]; rfl] at HQ7
   go_wp2_with (first | (refine wpList_load_row_g (by rfl) 27 _ rfl g7 rfl _ c7 (0, 0) _ HK7.out HFS.out rfl (by rw [HZ7.out]; exact sizeSt) ?_) | (refine wpList_load_row_g (by rfl) 27 _ rfl g10 rfl _ c10 (0, 0) _ HK10.out HFS.out rfl (by rw [HZ10.out]; exact sizeSt) ?_))
   refine (HQ6.out _ HBR.out).mono ?_
   rintro e27 w27 ⟨rfl, hb27⟩
   have HBR := Lib.hid hb27
   have HK13 := Lib.hid (HK13.out.below hb27 HK13.out.lt)
   have HK16 := Lib.hid (HK16.out.below hb27 HK16.out.lt)
   clear hb27
   go_wp2_with (first | (refine wpList_load_row_g (by rfl) 27 _ rfl g13 rfl _ c13 (0, 0) _ HK13.out HFS.out rfl (by rw [HZ13.out]; exact sizeSt) ?_) | (refine wpList_load_row_g (by rfl) 27 _ rfl g16 rfl _ c16 (0, 0) _ HK16.out HFS.out rfl (by rw [HZ16.out]; exact sizeSt) ?_))
   refine (HQ7.out _ HBR.out).mono ?_
   rintro e28 w28 ⟨rfl, hb28⟩
   have HB28 := Lib.hid (G.bl_trans HBR.out hb28)
   have HL13 := Lib.hid (HK13.out.below hb28 HK13.out.lt)
   clear hb28
   have HL7 := Lib.hid (HK7.out.below HB28.out HK7.out.lt)
   have HP7 := Lib.hid (HOS7.out.below HB28.out)
   have HP13 := Lib.hid (HOS13.out.below HB28.out)
   have HBLy := Lib.hid (G.bl_trans HBLr.out HB28.out)
   have HSN := Lib.hid (Nat.le_trans HSN1.out HB28.out.size)
   clear HQ6 HQ7 HK7 HK10 HK13 HK16 HOS7 HOS10 HOS13 HOS16 HBR
   obtain ⟨cb, hcb⟩ : ∃ c, c = zeroBag := ⟨_, rfl⟩
   have HCB := Lib.hid (show Tryz.prog.built 64 [] = some cb by rw [hcb]; exact zeroBag_b)
   have HCN := Lib.hid (show cb.size = 21 ∧ ∀ i, i < 21 → cb[i]? = some (.slice none 0 0) by rw [hcb]; exact ⟨rfl, zeroBag_at⟩)
   clear hcb
   go_upto_region 24 with (first | (refine build_to cb rfl 64 _ rfl _ (by kernel_rfl) HCB.out ?_))
   have HBG := Lib.hid (G.BagAll.start w28 HCN.out.1 HCN.out.2)
   have HB29 := Lib.hid (show Below w28.heap.size w28 (w28.alloc (.cells cb 64)) from G.bl_alloc (Below.refl _ _) _)
   obtain ⟨w29, hw29⟩ : ∃ q, q = w28.alloc (.cells cb 64) := ⟨_, rfl⟩
   rw [← hw29] at HBG HB29 ⊢
   clear hw29
   obtain ⟨gb, hgb⟩ : ∃ q, q = w28.heap.size := ⟨_, rfl⟩
   have HGB := Lib.hid hgb
   rw [← hgb] at HBG ⊢
   clear hgb
   have HL7b := Lib.hid (HL7.out.below HB29.out HL7.out.lt)
   have HAD := Lib.hid (addState_any gb w4.heap.size x7 t7 (fun _ => []) w28 w29 HP7.out HB29.out (by rw [HGB.out]; exact Nat.le_refl _) HBG.out (by decide) (by decide) (by decide) (by have := HFW7.out.z; show 0 + _ ≤ _; omega))
   rw [show x7.val t7 = .agg c7 by rw [HCC7.out]; rfl] at HAD
   go_wp2_with (first | (refine wpList_load_row rfl 27 _ rfl g7 rfl _ c7 (0, 0) _ HL7b.out HFS.out rfl (by rw [HZ7.out]; exact sizeSt) ?_))
   refine (HAD.out).mono ?_
   rintro e30 w30 ⟨rfl, htc, hbag⟩
   have HBG2 := Lib.hid hbag
   have HB30 := Lib.hid (show Below w28.heap.size w28 w30 from HB29.out.trans (by rw [← HGB.out]; exact htc.below))
   clear htc hbag
   have HL13b := Lib.hid (HL13.out.below HB30.out HL13.out.lt)
   have HAD2 := Lib.hid (addState_any gb w8.heap.size x13 t13 _ w28 w30 HP13.out HB30.out (by rw [HGB.out]; exact Nat.le_refl _) HBG2.out (by rw [addSt_7]; simp) (by rw [addSt_8]; simp) (by rw [addSt_12]; simp) (by rw [addSt_1, List.nil_append, HP7.out.rows_len]; have := HFW7.out.z; have := HFW13.out.z; omega))
   rw [show x13.val t13 = .agg c13 by rw [HCC13.out]; rfl] at HAD2
   go_wp2_with (first | (refine wpList_load_row rfl 27 _ rfl g13 rfl _ c13 (0, 0) _ HL13b.out HFS.out rfl (by rw [HZ13.out]; exact sizeSt) ?_))
   refine (HAD2.out).mono ?_
   rintro e31 w31 ⟨rfl, htc, hbag⟩
   have HBG3 := Lib.hid hbag
   have HB31 := Lib.hid (show Below w28.heap.size w28 w31 from HB30.out.trans (by rw [← HGB.out]; exact htc.below))
   clear htc hbag
   have hle : w.heap.size ≤ w4.heap.size := HBL4.out.size
   have hle8 : w4.heap.size ≤ w8.heap.size := HU10.out
   have hs58 : w5.heap.size ≤ w8.heap.size := Nat.le_trans HWS7.out (Nat.le_trans HWB10.out HWS10.out)
   have HAPT := Lib.hid (apart_two2 gb w.heap.size w4.heap.size w8.heap.size x7 x13 t7 t13 w5 w28 w31 HO7.out HP7.out HP13.out hs58 HSN.out HB31.out (by rw [HGB.out]; exact Nat.le_refl _) hle (Nat.le_trans hle hle8) (by rw [HGB.out]; exact HBLy.out.size) HBG3.out HFW7.out HFW13.out)
   clear hle hle8 hs58
   go_wp2_with fail
   refine (HAPT.out).mono ?_
   rintro e32 w32 ⟨rfl, hb32⟩
   have HB32 := Lib.hid ((G.bl_trans HBLy.out HB31.out).trans hb32)
   clear hb32
   have HLI := Lib.hid (lives_any w32)
   go_wp2_with fail
   refine (HLI.out).mono ?_
   rintro e33 w33 ⟨rfl, hb33⟩
   have HB33 := Lib.hid (G.bl_trans HB32.out hb33)
   clear hb33
   go_wp2_with fail
   go_ret
   exact ⟨rfl, HB33.out⟩
theorem replays_any (x : SV) (s : St) (A : Option Addr) (n c : Nat) (L : List (EV × Ev)) (w : World) (h : RdSt w x s) (hr : RdEvs w A n L) (hf : ∀ k, k < n → (L.getD k zeroP).2.Fits ∧ (L.getD k zeroP).2.order.length ≤ 140737488355328) (hw : Sw s) (hn : n ≤ 140737488355328) :
 Calls Tryz.prog 7 #[x.val s, .slice A n c] w (BoolPost true w) := by
 have hlen := hr.len
 have hlw : ∀ i, (L.getD i zeroP).2.order.length ≤ 140737488355328 := fun i => by
  by_cases hi : i < n
  ·exact (hf i hi).2
  ·rw [List.getD_eq_getElem?_getD, List.getElem?_eq_none (by omega)]
   simp [zeroP, zeroEv]
 cases hby : beyondB s L with
 | true => exact replays_long x s A n c L w h hr hw hn hlw hby
 | false =>
  have h1 : amountSt s + sizeEs L ≤ 16777216 := by
   have := of_decide_eq_false hby
   omega
  have h3 : sizeEs L ≤ 16777216 := by omega
  have h4 : L.length ≤ 16777216 := Nat.le_trans (sumTo_le _ _) h3
  refine replays_short x s A n c L w h hr (fun k hk => ⟨(hf k hk).1, ?_⟩) hw (amount_sz (by omega)) (by omega) hlw hby
  refine Nat.le_trans (sumTo_mem h3 (List.mem_map.2 ⟨L.getD k zeroP, ?_, rfl⟩)) (by decide)
  rw [List.getD_eq_getElem?_getD, List.getElem?_eq_getElem (by omega)]
  exact List.getElem_mem _
end Go.Proofs.YtofgmijmhpmabaaGreatDoor.D

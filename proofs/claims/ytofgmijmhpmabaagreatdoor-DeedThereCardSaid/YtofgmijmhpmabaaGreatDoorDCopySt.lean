/- The contracts of tableauref00.CopyState, CopyEvent. -/
import Derived.Test.YtofgmijmhpmabaaGreatDoorDCopies
import Derived.Test.YtofgmijmhpmabaaGreatDoorDKc
namespace Go.Proofs.YtofgmijmhpmabaaGreatDoor.D
open Go Go.RowKit
set_option linter.unusedVariables false
set_option linter.unusedSimpArgs false
theorem undEv2 : ∃ fs, Tryz.prog.underlying 30 = some (.struct fs) := by
  have hu : (Tryz.prog.underlying 30).map (fun d => match d with | .struct _ => true | _ => false) = some true := by kernel_rfl
  cases hx : Tryz.prog.underlying 30 with
  | none => rw [hx] at hu; simp at hu
  | some d =>
    rw [hx] at hu
    cases d <;> simp at hu
    exact ⟨_, rfl⟩
set_option maxRecDepth 100000 in
set_option maxHeartbeats 4000000 in
theorem copyState_any (x : SV) (s : St) (w : World) (h : RdSt w x s) (hz : Sz s) : Calls Tryz.prog 27 #[x.val s] w (StPost s w) := by
  obtain ⟨i0, hi0, hz00, hz01, hz02⟩ := info_parts infoPl
  obtain ⟨i1, hi1, hz10, hz11, hz12⟩ := info_parts infoCd
  obtain ⟨i2, hi2, hz20, hz21, hz22⟩ := info_parts infoInt
  obtain ⟨i3, hi3, hz30, hz31, hz32⟩ := info_parts infoRow
  have HR := Lib.hid h
  have hz1 := hz.p
  have hz2 := hz.c
  have hz3 := hz.z
  have HZ := Lib.hid hz.r
  obtain ⟨pa, pc, ca, cc, za, zc, rows⟩ := x
  obtain ⟨players, cards, zones, turn, whose, fin, win⟩ := s
  unfold SV.val SV.arr
  simp only at hz1 hz2 hz3 HZ ⊢
  obtain ⟨n, hn⟩ : ∃ n, n = players.length := ⟨_, rfl⟩
  obtain ⟨m, hm⟩ : ∃ m, m = cards.length := ⟨_, rfl⟩
  obtain ⟨k, hk⟩ : ∃ k, k = zones.length := ⟨_, rfl⟩
  rw [← hn, ← hm, ← hk]
  rw [← hn] at hz1
  rw [← hm] at hz2
  rw [← hk] at hz3
  have HN := Lib.hid hn
  have HM := Lib.hid hm
  have HK := Lib.hid hk
  clear h hz hn hm hk
  go_enter Tryz.func27, Tryz.ntmps27
  go_upto_region 1 with (fail)
  have H0 := two_new w 27 #[.slice pa n pc, .slice ca m cc, .slice za k zc, .int .i32 turn, .int .i64 whose, .int .i8 fin, .int .i64 win] #[.slice none 0 0, .slice none 0 0, .slice none 0 0, .int .i32 0, .int .i64 0, .int .i8 0, .int .i64 0]
  obtain ⟨w0, hw0⟩ : ∃ w0, w0 = (w.alloc (.cells #[.slice pa n pc, .slice ca m cc, .slice za k zc, .int .i32 turn, .int .i64 whose, .int .i8 fin, .int .i64 win] 27)).alloc (.cells #[.slice none 0 0, .slice none 0 0, .slice none 0 0, .int .i32 0, .int .i64 0, .int .i8 0, .int .i64 0] 27) := ⟨_, rfl⟩
  rw [← hw0] at H0 ⊢
  clear hw0
  obtain ⟨hb0, hb0', hbl0⟩ := H0
  have HBL0 := Lib.hid hbl0
  obtain ⟨g, hg⟩ : ∃ g, g = w.heap.size := ⟨_, rfl⟩
  have HG := Lib.hid hg
  rw [← hg] at hb0 hb0' ⊢
  have HB0 := Lib.hid hb0
  have HB0' := Lib.hid hb0'
  have c00 := hb0.cell 0
  have l0 := hb0.lt
  have HP0 := Lib.hid (show G.RdS w0 pa 3 n (flatP players) by have := (HR.out.below hbl0).p; rw [← HN.out] at this; exact this)
  have HCP := Lib.hid (copyPlayers_any pa n pc players w0 HP0.out hz1)
  clear hb0 hb0' hbl0 hg
  go_upto_region 2 with (((with_reducible refine (HCP.out).mono ?_); rintro e1 w1 hp1; obtain ⟨ad1, k1, rfl, ho1, hb1⟩ := hp1; have HO1 := Lib.hid ho1; have HBW1 := Lib.hid hb1; have hB1 := HB0.out.below hb1 HB0.out.lt; have c10 := hB1.cell 0; have f10 := hB1.frozen 0; have l1 := hB1.lt; clear ho1 hb1 hB1 c00 l0))
  have HBK2 := Lib.hid (HB0.out.below HBW1.out HB0.out.lt)
  have HO2 := Lib.hid (only_put (i := 0) HBK2.out (.slice ad1 n k1))
  have HBL2 := Lib.hid (show Below g w (w1.setCell ⟨g, 0, none⟩ (.slice ad1 n k1)) by rw [HG.out]; exact G.bl_set (G.bl_trans HBL0.out HBW1.out) (Nat.le_refl _) _)
  have HB2 := Lib.hid (HBK2.out.put 0 (.slice ad1 n k1))
  have HB2' := Lib.hid (blk_put_ne (i := 0) (u := .slice ad1 n k1) (HB0'.out.below HBW1.out HB0'.out.lt) (show g + 1 ≠ g by omega))
  have HP2 := Lib.hid (HO2.out.own (G.own_ge HO1.out (show g ≤ _ by have := HBL0.out.size; rw [HG.out]; exact this)) (by decide))
  obtain ⟨w2, hw2⟩ : ∃ w2, w2 = w1.setCell ⟨g, 0, none⟩ (.slice ad1 n k1) := ⟨_, rfl⟩
  rw [← hw2] at HB2 HB2' HBL2 HP2 ⊢
  clear hw2 HO2 HBK2 c10 f10 l1 HBW1 HO1 HP0 HB0 HB0'
  simp only [List.setIfInBounds_toArray, List.set_cons_zero, List.set_cons_succ] at HB2
  have HC2 := Lib.hid (show G.RdS w2 ca 6 m (flatC cards) by have := (HR.out.below (by rw [← HG.out]; exact HBL2.out)).c; rw [← HM.out] at this; exact this)
  have HCC := Lib.hid (copyCards_any ca m cc cards w2 HC2.out hz2)
  have c21 := HB2.out.cell 1
  have l2 := HB2.out.lt
  go_upto_region 3 with (((with_reducible refine (HCC.out).mono ?_); rintro e3 w3 hp3; obtain ⟨ad3, k3, rfl, ho3, hb3⟩ := hp3; have HO3 := Lib.hid ho3; have HBW3 := Lib.hid hb3; have hB3 := HB2.out.below hb3 HB2.out.lt; have c31 := hB3.cell 1; have f31 := hB3.frozen 1; have l3 := hB3.lt; clear ho3 hb3 hB3 c21 l2))
  have HBK4 := Lib.hid (HB2.out.below HBW3.out HB2.out.lt)
  have HO4 := Lib.hid (only_put (i := 1) HBK4.out (.slice ad3 m k3))
  have HBL4 := Lib.hid (show Below g w (w3.setCell ⟨g, 1, none⟩ (.slice ad3 m k3)) from (HBL2.out.trans (HBW3.out.mono (by have := HBL2.out.size; have := HG.out; have := HB2.out.lt; omega))).setCell (Nat.le_refl _) _)
  have HB4 := Lib.hid (HBK4.out.put 1 (.slice ad3 m k3))
  have HB4' := Lib.hid (blk_put_ne (i := 1) (u := .slice ad3 m k3) (HB2'.out.below HBW3.out HB2'.out.lt) (show g + 1 ≠ g by omega))
  have HP4 := Lib.hid (HO4.out.own (G.own_below HP2.out HBW3.out) (by decide))
  have HC4 := Lib.hid (HO4.out.own (G.own_ge HO3.out (show g ≤ _ by have := HB2.out.lt; omega)) (by decide))
  obtain ⟨w4, hw4⟩ : ∃ w4, w4 = w3.setCell ⟨g, 1, none⟩ (.slice ad3 m k3) := ⟨_, rfl⟩
  rw [← hw4] at HB4 HB4' HBL4 HP4 HC4 ⊢
  clear hw4 HO4 HBK4 c31 f31 l3 HBW3 HO3 HP2 HB2 HB2' HC2 HBL2
  simp only [List.setIfInBounds_toArray, List.set_cons_zero, List.set_cons_succ] at HB4
  have c42 := HB4.out.cell 2
  have l4 := HB4.out.lt
  have HBLW := Lib.hid (show Below w.heap.size w w4 by rw [← HG.out]; exact HBL4.out)
  have HCR := Lib.hid (copyRows_any za k zc zones rows w4 HK.out (by have := (HR.out.below HBLW.out).z; rw [← HK.out] at this; exact this) (fun i hi => (HR.out.below HBLW.out).rows i (by rw [← HK.out]; exact hi)) hz3 HZ.out)
  unfold RowsPost at HCR
  rw [← HK.out] at HCR
  go_upto_region 4 with ((with_reducible refine (HCR.out).mono ?_); rintro e5 wr hp5; obtain ⟨gz, zk, rs, rfl, hI⟩ := hp5; have HI := Lib.hid hI; have HB := Lib.hid (HB4.out.below hI.bl HB4.out.lt); have HB' := Lib.hid (HB4'.out.below hI.bl HB4'.out.lt); have c2 := HB.out.cell 2; have f2 := HB.out.frozen 2; have l2 := HB.out.lt; clear hI c42 l4)
  have HF := Lib.hid (only_put (i := 2) HB.out (.slice gz k zk))
  have HB6 := Lib.hid (HB.out.put 2 (.slice gz k zk))
  have HB6' := Lib.hid (blk_put_ne (i := 2) (u := .slice gz k zk) HB'.out (show g + 1 ≠ g by omega))
  have HBL6 := Lib.hid (show Below g w (wr.setCell ⟨g, 2, none⟩ (.slice gz k zk)) from (HBL4.out.trans (HI.out.bl.mono (by have := HB4.out.lt; omega))).setCell (Nat.le_refl _) _)
  have hsz := HB4.out.lt
  have hOP := Lib.hid (HF.out.own (G.own_below HP4.out HI.out.bl) (by decide))
  have hOC := Lib.hid (HF.out.own (G.own_below HC4.out HI.out.bl) (by decide))
  have hOZ := Lib.hid (HF.out.own (G.own_ge HI.out.z (show g ≤ _ by omega)) (by decide))
  have hOR := Lib.hid (show ∀ j, j < k → _ from fun j hj => HF.out.own (G.own_ge (HI.out.each j hj) (show g ≤ _ by omega)) (by decide))
  have hAP := Lib.hid HI.out.apart
  obtain ⟨w6, hw6⟩ : ∃ w6, w6 = wr.setCell ⟨g, 2, none⟩ (.slice gz k zk) := ⟨_, rfl⟩
  rw [← hw6] at HB6 HB6' HBL6 hOP hOC hOZ hOR ⊢
  clear hw6 c2 f2 l2 HF
  simp only [List.setIfInBounds_toArray, List.set_cons_zero, List.set_cons_succ] at HB6
  have d0 := HB6.out.cell 0
  have d1 := HB6.out.cell 1
  have d2 := HB6.out.cell 2
  have d3 := HB6.out.cell 3
  have d4 := HB6.out.cell 4
  have d5 := HB6.out.cell 5
  have d6 := HB6.out.cell 6
  go_wp2_with (refine wpList_store_row rfl 27 _ _ rfl (g + 1) #[.slice ad1 n k1, .slice ad3 m k3, .slice gz k zk, .int .i32 turn, .int .i64 whose, .int .i8 fin, .int .i64 win] rfl rfl 27 _ HB6'.out (by kernel_rfl) (by kernel_rfl) (by kernel_rfl) ?_)
  have HF2 := only_row (cs2 := #[.slice ad1 n k1, .slice ad3 m k3, .slice gz k zk, .int .i32 turn, .int .i64 whose, .int .i8 fin, .int .i64 win]) HB6'.out
  refine bodyPost_ret (v := .agg #[.slice ad1 n k1, .slice ad3 m k3, .slice gz k zk, .int .i32 turn, .int .i64 whose, .int .i8 fin, .int .i64 win]) (st_result rfl _ _ (g + 1) _ rfl (setRow_heap _ _ _ _ _ _ HB6'.out) rfl) rfl ⟨⟨ad1, k1, ad3, k3, gz, zk, rs⟩, ?_, ?_, ?_⟩
  · rw [HN.out, HM.out, HK.out]
    rfl
  · rw [← HG.out]
    refine ⟨HF2.own ?_ (by decide), HF2.own ?_ (by decide), HF2.own ?_ (by decide), fun i hi => HF2.own (hOR.out i (by rw [HK.out]; exact hi)) (by decide), fun i j hi hj hij => hAP.out i j (by rw [HK.out]; exact hi) (by rw [HK.out]; exact hj) hij⟩
    · have h9 := hOP.out
      rw [HN.out] at h9
      exact h9
    · have h9 := hOC.out
      rw [HM.out] at h9
      exact h9
    · have h9 := hOZ.out
      rw [HK.out] at h9
      exact h9
  · rw [← HG.out]
    exact below_setRow HBL6.out (by omega) _
def EvPost (e : Ev) (w : World) (en : Ending) (w' : World) : Prop := ∃ y' : EV, en = .returned (y'.val e) ∧ OwnEv w' w.heap.size y' e ∧ Below w.heap.size w w'
set_option maxRecDepth 100000 in
set_option maxHeartbeats 4000000 in
theorem copyEvent_any (y : EV) (e : Ev) (w : World) (hr : RdEv w y e) (hl : e.order.length ≤ 33554432) : Calls Tryz.prog 28 #[y.val e] w (EvPost e w) := by
  have HR := Lib.hid hr
  obtain ⟨kind, field, card, player, other, src, srcAt, dst, dstAt, was, now, order⟩ := e
  obtain ⟨oa, oc⟩ := y
  unfold EV.val EV.arr
  simp only at hl ⊢
  obtain ⟨n, hn⟩ : ∃ n, n = order.length := ⟨_, rfl⟩
  rw [← hn] at hl ⊢
  have HN := Lib.hid hn
  have H0 := two_new w 30 #[.int .i8 kind, .int .i8 field, .int .i64 card, .int .i64 player, .int .i64 other, .int .i64 src, .int .i64 srcAt, .int .i64 dst, .int .i64 dstAt, .int .i32 was, .int .i32 now, .slice oa n oc] zeroE
  clear hr hn
  go_enter Tryz.func28, Tryz.ntmps28
  go_upto_region 1 with (fail)
  obtain ⟨w0, hw0⟩ : ∃ w0, w0 = (w.alloc (.cells #[.int .i8 kind, .int .i8 field, .int .i64 card, .int .i64 player, .int .i64 other, .int .i64 src, .int .i64 srcAt, .int .i64 dst, .int .i64 dstAt, .int .i32 was, .int .i32 now, .slice oa n oc] 30)).alloc (.cells zeroE 30) := ⟨_, rfl⟩
  rw [← hw0] at H0
  unfold zeroE at hw0
  rw [← hw0]
  clear hw0
  obtain ⟨hb0, hb0', hbl0⟩ := H0
  have HBL0 := Lib.hid hbl0
  obtain ⟨g, hg⟩ : ∃ g, g = w.heap.size := ⟨_, rfl⟩
  have HG := Lib.hid hg
  rw [← hg] at hb0 hb0' ⊢
  have HB0 := Lib.hid hb0
  have HB0' := Lib.hid hb0'
  have c0 := hb0.cell 11
  have l0 := hb0.lt
  have HCI := Lib.hid (copyInts_any oa n oc order w0 (by have := RdEv.below HR.out hbl0; unfold RdEv at this; simp only at this; rw [← HN.out] at this; exact this) hl)
  clear hb0 hb0' hbl0 hg
  go_upto_region 2 with (((with_reducible refine (HCI.out).mono ?_); rintro e1 w1 hp1; obtain ⟨ad1, k1, rfl, ho1, hb1⟩ := hp1; have HO1 := Lib.hid ho1; have HBW1 := Lib.hid hb1; have hB1 := HB0.out.below hb1 HB0.out.lt; have c10 := hB1.cell 11; have f10 := hB1.frozen 11; have l1 := hB1.lt; clear ho1 hb1 hB1 c0 l0))
  have HBK2 := Lib.hid (HB0.out.below HBW1.out HB0.out.lt)
  have HO2 := Lib.hid (only_put (i := 11) HBK2.out (.slice ad1 n k1))
  have HBL2 := Lib.hid (show Below g w (w1.setCell ⟨g, 11, none⟩ (.slice ad1 n k1)) by rw [HG.out]; exact G.bl_set (G.bl_trans HBL0.out HBW1.out) (Nat.le_refl _) _)
  have HB2 := Lib.hid (HBK2.out.put 11 (.slice ad1 n k1))
  have HB2' := Lib.hid (blk_put_ne (i := 11) (u := .slice ad1 n k1) (HB0'.out.below HBW1.out HB0'.out.lt) (show g + 1 ≠ g by omega))
  have HP2 := Lib.hid (HO2.out.own (G.own_ge HO1.out (show g ≤ _ by have := HBL0.out.size; rw [HG.out]; exact this)) (by decide))
  obtain ⟨w2, hw2⟩ : ∃ w2, w2 = w1.setCell ⟨g, 11, none⟩ (.slice ad1 n k1) := ⟨_, rfl⟩
  rw [← hw2] at HB2 HB2' HBL2 HP2 ⊢
  clear hw2 HO2 HBK2 c10 f10 l1 HBW1 HO1 HB0 HB0'
  simp only [List.setIfInBounds_toArray, List.set_cons_zero, List.set_cons_succ] at HB2
  obtain ⟨fsE, hfsE⟩ := undEv2
  have HFE := Lib.hid hfsE
  clear hfsE
  go_wp2_with (first | (refine wpList_load_row rfl 30 _ rfl g rfl _ _ (0, 0) _ HB2.out HFE.out rfl (by kernel_rfl) ?_) | (refine wpList_store_row rfl 30 _ _ rfl (g + 1) #[.int .i8 kind, .int .i8 field, .int .i64 card, .int .i64 player, .int .i64 other, .int .i64 src, .int .i64 srcAt, .int .i64 dst, .int .i64 dstAt, .int .i32 was, .int .i32 now, .slice ad1 n k1] rfl rfl 30 _ HB2'.out (by kernel_rfl) (by kernel_rfl) (by kernel_rfl) ?_))
  have HF2 := only_row (cs2 := #[.int .i8 kind, .int .i8 field, .int .i64 card, .int .i64 player, .int .i64 other, .int .i64 src, .int .i64 srcAt, .int .i64 dst, .int .i64 dstAt, .int .i32 was, .int .i32 now, .slice ad1 n k1]) HB2'.out
  refine bodyPost_ret (v := .agg #[.int .i8 kind, .int .i8 field, .int .i64 card, .int .i64 player, .int .i64 other, .int .i64 src, .int .i64 srcAt, .int .i64 dst, .int .i64 dstAt, .int .i32 was, .int .i32 now, .slice ad1 n k1]) (ev_result rfl _ _ (g + 1) _ rfl (setRow_heap _ _ _ _ _ _ HB2'.out) rfl) rfl ⟨⟨ad1, k1⟩, ?_, ?_, ?_⟩
  · rw [HN.out]
    rfl
  · rw [← HG.out]
    show World.ownsRow _ g 3 1 (.slice ad1 order.length k1) order.length (i64s order)
    rw [← HN.out]
    exact HF2.own HP2.out (by decide)
  · rw [← HG.out]
    exact below_setRow HBL2.out (by omega) _
end Go.Proofs.YtofgmijmhpmabaaGreatDoor.D

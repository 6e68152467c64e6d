/- The contract of deed.Back: the walk. -/
import Derived.Test.YtofgmijmhpmabaaGreatDoorDBack
namespace Go.Proofs.YtofgmijmhpmabaaGreatDoor.D
open Go Go.RowKit
set_option linter.unusedVariables false
set_option linter.unusedSimpArgs false
attribute [local go_sem] Oper.semAt_some
theorem backward_any (A : Option Addr) (n c : Nat) (w : World) : Calls Tryz.prog 101 #[.slice A n c] w
    (fun e w' => e = .returned (.func (.func 139) #[] #[.pointer (some ⟨w.heap.size, 0, none⟩)]) ∧ w' = w.alloc (.cells #[.slice A n c] 32)) := by
  go_enter Tryz.func101, Tryz.ntmps101
  go_wp2
  go_ret
  exact ⟨rfl, rfl⟩
set_option maxRecDepth 100000 in
set_option maxHeartbeats 16000000 in
theorem back_any (x : SV) (s : St) (A : Option Addr) (n c : Nat) (L : List (EV × Ev)) (w : World) (h : RdSt w x s) (hz : Sz s) (hl : RdEvs w A n L) (hf : ∀ k, k < n → (L.getD k zeroP).2.Fits ∧ (L.getD k zeroP).2.order.length ≤ 33554432) (hn : n ≤ 33554432) :
    Calls Tryz.prog 37 #[x.val s, .slice A n c] w (RepPost s (backL s (L.map Prod.snd)) (backAt s (L.map Prod.snd)) w) := by
  obtain ⟨fsS, hfsS⟩ := undSt
  have HFS := Lib.hid hfsS
  obtain ⟨fsE, hfsE⟩ := undEv
  have HFE := Lib.hid hfsE
  have HMY := Lib.hid (fun W (hW : Below w.heap.size w W) => mayD_any x s W (h.below hW) hz)
  have HEV := Lib.hid hl
  have HF := Lib.hid hf
  obtain ⟨cs, hc⟩ : ∃ c, c = x.arr s := ⟨_, rfl⟩
  have HS := Lib.hid (show cs.size = 7 by rw [hc]; rfl)
  have he : x.val s = .agg cs := by rw [hc]; rfl
  rw [he] at HMY ⊢
  obtain ⟨E, hE⟩ : ∃ E, E = L.map Prod.snd := ⟨_, rfl⟩
  have HEN := Lib.hid (show E.length = n by rw [hE, List.length_map]; exact hl.len)
  have HEA := Lib.hid (show ∀ k, E.getD k zeroEv = (L.getD k zeroP).2 from fun k => by rw [hE]; exact getD_snd L k)
  rw [← hE]
  clear h hz hl hf hc he hfsS hfsE hE
  have H0 := Lib.hid (four_boxes w 27 3 35 cs zeroA #[.int .i64 0] #[.int .i64 0])
  refine (callsIn_wide (n := 3)).1 ?_
  refine callsIn_of_wp_marks Tryz.func37 rfl trivial ?_ rfl
  simp only [Tryz.ntmps37, List.size_toArray, List.length_cons, List.length_nil, Nat.reduceAdd, Nat.reduceSub, Array.replicate_succ, Array.replicate_zero, List.push_toArray, List.append_toArray, List.nil_append, List.cons_append]
  refine wpIn_wide.2 ?_
  go_upto_region 1 with (fail)
  obtain ⟨w0, hw0⟩ : ∃ w0, w0 = (((w.alloc (.cells cs 27)).alloc (.cells zeroA 27)).alloc (.cells #[.int .i64 0] 3)).alloc (.cells #[.int .i64 0] 35) := ⟨_, rfl⟩
  obtain ⟨h1, h2, h3, h4, hbl0⟩ := H0.out w0 hw0
  unfold zeroA at hw0
  rw [← hw0]
  clear hw0 H0
  have HBL0 := Lib.hid hbl0
  obtain ⟨g, hg⟩ : ∃ g, g = w.heap.size := ⟨_, rfl⟩
  have HG := Lib.hid hg
  rw [← hg] at h1 h2 h3 h4 ⊢
  have HC0 := Lib.hid h1
  have HR0 := Lib.hid h2
  have HR1 := Lib.hid h3
  have HR2 := Lib.hid h4
  have hl0 := h4.lt
  clear h1 h2 h3 h4 hbl0 hg
  go_upto_region 2 with (first | (refine wpList_load_row rfl 27 _ rfl g rfl _ cs (0, 0) _ HC0.out HFS.out rfl (by rw [HS.out]; exact sizeSt) ?_) | ((with_reducible refine (HMY.out _ HBL0.out).mono ?_); rintro e1 w1 hp1; obtain ⟨x1, t1, b1, rfl, ho1, hb1, hc1⟩ := hp1; have HO1 := Lib.hid ho1; have HBW1 := Lib.hid hb1; clear hb1 ho1) | (refine wpList_store_row rfl 27 _ _ rfl _ (x1.arr t1) rfl rfl 27 _ (heap_alloc_new _ _) (by kernel_rfl) rfl (arr_one _ _) ?_))
  have hl1 : g + 1 + 1 + 1 < w1.heap.size := by have := HBW1.out.size; omega
  have HST2 := Lib.hid (show StAt ((w1.alloc (.cells zeroA 27)).setRow w1.heap.size (x1.arr t1)) w1.heap.size w0.heap.size x1 t1 from ⟨setRow_heap _ _ _ _ _ _ (heap_alloc_new _ _), (HO1.out.below (G.bl_alloc (Below.refl _ _) _)).only (only_row (G.Blk.new w1 27 zeroA)) (by decide) (by decide) (by decide) (by decide), HBW1.out.size⟩)
  have HBL2 := Lib.hid (show Below w.heap.size w ((w1.alloc (.cells zeroA 27)).setRow w1.heap.size (x1.arr t1)) from below_setRow (G.bl_alloc (G.bl_trans HBL0.out HBW1.out) _) (by have := HG.out; omega) _)
  have HB02 := Lib.hid (show Below w0.heap.size w0 ((w1.alloc (.cells zeroA 27)).setRow w1.heap.size (x1.arr t1)) from below_setRow (G.bl_alloc HBW1.out _) HBW1.out.size _)
  obtain ⟨w2, hw2⟩ : ∃ w2, w2 = (w1.alloc (.cells zeroA 27)).setRow w1.heap.size (x1.arr t1) := ⟨_, rfl⟩
  rw [← hw2] at HST2 HBL2 HB02
  unfold zeroA at hw2
  rw [← hw2]
  clear hw2
  obtain ⟨g7, hg7⟩ : ∃ g7, g7 = w1.heap.size := ⟨_, rfl⟩
  rw [← hg7] at HST2 hl1 ⊢
  clear hg7
  rcases hc1 with ⟨rfl, hm, ht⟩ | ⟨rfl, hm, ht, hx⟩
  · subst ht
    have HM := Lib.hid hm
    clear hm
    go_wp2_with ((with_reducible refine (backward_any A n c w2).mono ?_); rintro e3 w3 ⟨rfl, rfl⟩)
    rename_i K0 hK0
    obtain ⟨Bs, hBs⟩ : ∃ B, B = w2.heap.size := ⟨_, rfl⟩
    have hbk : G.Blk (w2.alloc (.cells #[.slice A n c] 32)) w2.heap.size 32 #[.slice A n c] := G.Blk.new _ _ _
    have hb23 : Below w2.heap.size w2 (w2.alloc (.cells #[.slice A n c] 32)) := G.bl_alloc (Below.refl _ _) _
    obtain ⟨w3, hw3⟩ : ∃ w3, w3 = w2.alloc (.cells #[.slice A n c] 32) := ⟨_, rfl⟩
    rw [← hw3, ← hBs] at hbk ⊢
    rw [← hw3] at hb23
    have HBK := Lib.hid hbk
    have HB23 := Lib.hid hb23
    have HB03 := Lib.hid (G.bl_trans HB02.out hb23)
    have HBS := Lib.hid (show w0.heap.size ≤ Bs by rw [hBs]; exact HB02.out.size)
    have HBS3 := Lib.hid hbk.lt
    have HI0 := Lib.hid (show BkI t1 E w0 g7 Bs g A n c [] w3 from ⟨⟨t1, x1, rfl, HST2.out.below hb23⟩, HB03.out, hbk⟩)
    have HSEQ := Lib.hid (show SeqStopsK Fence.wide 2 Tryz.prog 139 #[.pointer (some ⟨Bs, 0, none⟩)] (encE L) (KpB w0.heap.size Bs) (fun xs => xs = dnr n 0) (fun pre => ∃ k, k < n ∧ pre = dnr n k) n w3 from fun l J Jx W hW _ _ hY h0 =>
      backward1_in l Bs w0.heap.size n c A L w3 hn HBK.out.lt (HEV.out.below (G.bl_trans HBL0.out HB03.out)) (fun b off hA hN => by
        obtain ⟨b2, off2, e2, hr2⟩ := HEV.out.s.2 hN
        rw [hA] at e2
        simp only [Option.some.injEq, Addr.mk.injEq, and_true] at e2
        obtain ⟨rfl, rfl⟩ := e2
        exact Nat.lt_of_lt_of_le hr2.1 HBL0.out.size) (HBK.out.cell 0) J Jx hY W hW h0)
    obtain ⟨xv, hxv⟩ : ∃ v, v = x1.val t1 := ⟨_, rfl⟩
    rw [← hxv]
    clear hw3 hBs hbk hb23 hxv
    refine (wpIn_wide (n := 3)).1 ?_
    refine G.rangeFunc_box (gf := 139) (lb := #[.pointer (some ⟨Bs, 0, none⟩)]) rfl (enters_of Tryz.func139 (by kernel_rfl) rfl)
      HSEQ.out (fun h k => h.trans k) (KpB.put (Nat.le_of_lt (Nat.lt_of_le_of_lt HBS.out HBS3.out)) HBS3.out) (Below.refl _ _) (fun _ => rfl)
      (BkI t1 E w0 g7 Bs g A n c)
      (fun pre k a1 W => ∃ gE, a1 = { tmps := #[.agg cs, .slice A n c, .pointer (some ⟨g, 0, none⟩), undef, .pointer (some ⟨g + 1, 0, none⟩), .pointer (some ⟨g + 1 + 1, 0, none⟩), .pointer (some ⟨g + 1 + 1 + 1, 0, none⟩), .pointer (some ⟨g7, 0, none⟩), .bool true, .int .i64 (k : Int), .pointer (some ⟨gE, 0, none⟩), undef, undef, .tuple #[xv, .bool true], .agg cs, .tuple #[xv, .bool true], xv, .bool true, .bool true, .bool false, undef, .slice A n c, .func (.func 139) #[] #[.pointer (some ⟨Bs, 0, none⟩)], .int .i64 (k : Int), .agg ((L.getD k zeroP).1.arr (L.getD k zeroP).2), undef, undef, undef, undef, undef, undef, undef, undef, undef, undef, undef, undef, undef, undef, undef], defers := [] } ∧ BkI1 t1 E w0 g7 Bs g A n c ((L.getD k zeroP).1.arr (L.getD k zeroP).2) gE pre W)
      (fun cd pre W => cd = .ret ∧ BkX t1 E w0 w g pre W)
      (BkI.own (Nat.le_of_lt (Nat.lt_of_le_of_lt HBS.out HBS3.out))) ?own1 ?ownx HI0.out ?assign ?body ?done ?stop
    case own1 =>
      intro k a1 pre W W' row h hg hr
      obtain ⟨gE, he, hi⟩ := h
      exact ⟨gE, he, BkI.own (Nat.le_of_lt (Nat.lt_of_le_of_lt HBS.out HBS3.out)) pre W W' row hi.i hg hr, blk_noncell hi.e hg (fun r e => (hr r e).2), hi.ne⟩
    case ownx =>
      intro cd pre W W' row h hg hr
      exact ⟨h.1, BkX.own (Nat.le_trans HBL0.out.size (Nat.le_of_lt (Nat.lt_of_le_of_lt HBS.out HBS3.out))) pre W W' row h.2 hg hr⟩
    case assign =>
      intro l pre k W K hI hlen hK
      unfold encE
      obtain ⟨ce, hce⟩ : ∃ ce, ce = (L.getD k zeroP).1.arr (L.getD k zeroP).2 := ⟨_, rfl⟩
      rw [← hce] at hK ⊢
      have HSE := Lib.hid (show ce.size = 12 by rw [hce]; rfl)
      have HON := Lib.hid (show ce.all (·.oneCell') = true by rw [hce]; simp [EV.arr, Value.oneCell'])
      have HI := Lib.hid hI
      clear hce hI
      simp only [List.zip_toArray, List.zip_cons_cons, List.zip_nil_right, List.foldl_toArray, List.foldl_toArray', List.foldl_cons, List.foldl_nil, List.setIfInBounds_toArray, List.set_cons_succ, List.set_cons_zero]
      apply wpIn_seq_k
      intro K1 hK1
      refine G.list_round ?_ ?_ ?_
      · rfl
      · rintro ⟨_, _, h9⟩
        exact h9
      go_wp2
      refine G.list_round ?_ ?_ ?_
      · rfl
      · rintro ⟨_, _, h9⟩
        exact h9
      go_wp2_with (refine wpList_store_row rfl 30 _ _ rfl _ ce rfl rfl 30 _ (heap_alloc_new _ _) (by rw [HSE.out]; exact sizeEv) (by rw [HSE.out]; rfl) HON.out ?_)
      have hbE : Below W.heap.size W ((W.alloc (.cells zeroE 30)).setRow W.heap.size ce) := below_setRow (G.bl_alloc (Below.refl _ _) _) (Nat.le_refl _) _
      have hkE : G.Blk ((W.alloc (.cells zeroE 30)).setRow W.heap.size ce) W.heap.size 30 ce := setRow_heap _ _ _ _ _ _ (heap_alloc_new _ _)
      exact hK _ _ ((Bk.of hbE (Nat.le_refl _)).keeps.from _) (kpB_below hbE HI.out.bl.size HI.out.bs.lt) ⟨W.heap.size, rfl, HI.out.below hbE, hkE, HI.out.bl.size⟩
    case body =>
      rintro l pre k a1 W ⟨gE, rfl, hi⟩
      obtain ⟨t, x', hun, hst⟩ := hi.i.st
      have HUN := Lib.hid hun
      have HMT := Lib.hid (undoN_may HM.out pre (some t1) (fun u hu => by obtain rfl := Option.some.inj hu; exact HM.out) t hun)
      have HFT := Lib.hid (show (L.getD k zeroP).2.Fits ∧ (L.getD k zeroP).2.order.length ≤ 33554432 ∧ RdEv W (L.getD k zeroP).1 (L.getD k zeroP).2 from by
        by_cases hk : k < n
        · exact ⟨(HF.out k hk).1, (HF.out k hk).2, (HEV.out.below (G.bl_trans HBL0.out hi.i.bl)).o k hk⟩
        · have e0 : L.getD k zeroP = zeroP := by
            rw [List.getD_eq_getElem?_getD, List.getElem?_eq_none (by rw [HEV.out.len]; omega)]
            rfl
          rw [e0]
          exact ⟨⟨by decide, by decide, by decide, by decide, by decide, by decide, by decide, by decide, by decide, by decide, by decide⟩, by decide, G.RdS.nil _⟩)
      have HEK := Lib.hid (HEA.out k)
      obtain ⟨p, hp⟩ : ∃ p, p = L.getD k zeroP := ⟨_, rfl⟩
      rw [← hp] at HFT HEK hi
      have HI := Lib.hid hi.i
      have HKE := Lib.hid hi.e
      have HNE := Lib.hid hi.ne
      have HST := Lib.hid hst
      have HSP := Lib.hid (step_any g7 w0.heap.size x' t W p.1 p.2 true hst HMT.out HFT.out.2.2 HFT.out.1 HFT.out.2.1)
      have HTE := Lib.hid (undoE_eq p.2 HMT.out)
      obtain ⟨ce, hce⟩ : ∃ ce, ce = p.1.arr p.2 := ⟨_, rfl⟩
      rw [show p.1.val p.2 = .agg ce by rw [hce]; rfl] at HSP
      have HSE := Lib.hid (show ce.size = 12 by rw [hce]; rfl)
      rw [← hp, ← hce]
      rw [← hce] at HKE
      clear hp hce hi hst hun
      refine wpIn_block ?_
      apply wpIn_seq_k
      intro K1 hK1
      apply wpIn_seq_k
      intro K2 hK2
      refine G.list_round ?_ ?_ ?_
      · rfl
      · rintro ⟨_, _, h9⟩
        exact h9
      go_wp2_with (refine wpList_load_row rfl 30 _ rfl gE rfl _ ce (0, 0) _ HKE.out HFE.out rfl (by rw [HSE.out]; exact sizeEv) ?_)
      refine (HSP.out).mono ?_
      rintro e3 w4 hp3
      obtain ⟨b3, rfl, hb3, hc3⟩ := hp3
      have HB3 := Lib.hid hb3
      clear hb3
      rcases hc3 with ⟨rfl, t3, x3, ht3, hs3⟩ | ⟨rfl, ht3⟩
      · have HT3 := Lib.hid ht3
        have HS3 := Lib.hid hs3
        clear ht3 hs3
        go_wp2_with fail
        refine wpIn_cond_false rfl ?_
        refine wpIn_skip ?_
        refine hK1 _ _ ?_
        have HM3 := Lib.hid (step_may HT3.out HMT.out)
        have HCK := Lib.hid (check_any x3 t3 w4 HS3.out.own.rd (may_sz HM3.out))
        rw [show x3.val t3 = .agg (x3.arr t3) from rfl] at HCK
        apply wpIn_seq_k
        intro K3 hK3
        refine G.list_round ?_ ?_ ?_
        · rfl
        · rintro ⟨_, _, h9⟩
          exact h9
        go_wp2_with (refine wpList_load_row rfl 27 _ rfl g7 rfl _ (x3.arr t3) (0, 0) _ HS3.out.blk HFS.out rfl sizeSt ?_)
        refine (HCK.out).mono ?_
        rintro e4 w5 hp4
        obtain ⟨k4, at4, rfl, hk4, hb4⟩ := hp4
        have HB4 := Lib.hid hb4
        obtain rfl : k4 = 0 := by
          rcases hk4 with ⟨h, _⟩ | ⟨_, h⟩
          · exact h
          · exact absurd HM3.out h
        have HS4 := Lib.hid (HS3.out.below hb4)
        clear hk4 hb4
        go_wp2_with fail
        apply wpIn_seq_k
        intro K4 hK4
        refine G.list_round ?_ ?_ ?_
        · rfl
        · rintro ⟨_, _, h9⟩
          exact h9
        go_wp2_with fail
        refine wpIn_cond_false rfl ?_
        refine wpIn_skip ?_
        have HBk := Lib.hid (HB3.out.trans (Bk.of HB4.out HS3.out.base_le))
        exact ⟨HBk.out.keeps.from _, ⟨HBk.out.below, HBk.out.far Bs _ HI.out.bs (by rfl) |>.trans HI.out.bs.symm⟩, ⟨t3, x3, undoN_yes HUN.out (by rw [HEK.out, HTE.out]; exact HT3.out), HS4.out⟩, HI.out.bl.trans HBk.out.below, HBk.out.far Bs _ HI.out.bs (by rfl)⟩
      · have HT3 := Lib.hid ht3
        have hr0 := Lib.hid (HR0.out.below (HI.out.bl.trans HB3.out.below) HR0.out.lt)
        have hr1 := Lib.hid (HR1.out.below (HI.out.bl.trans HB3.out.below) HR1.out.lt)
        have hr2 := Lib.hid (HR2.out.below (HI.out.bl.trans HB3.out.below) HR2.out.lt)
        have hq1 : G.Blk (w4.setRow (g + 1) zeroA) (g + 1 + 1) 3 #[.int .i64 0] := (setRow_other _ _ _ _ (by omega)).trans hr1.out
        have hq2 : G.Blk (w4.setRow (g + 1) zeroA) (g + 1 + 1 + 1) 35 #[.int .i64 0] := (setRow_other _ _ _ _ (by omega)).trans hr2.out
        have c5 := hq1.cell 0
        have f5 := hq1.frozen 0
        have c6 := hq2.cell 0
        have f6 := hq2.frozen 0
        clear ht3 hq1 hq2
        go_wp2_with fail
        refine wpIn_cond_true rfl ?_
        apply wpIn_seq_k
        intro K3 hK3
        refine G.list_round ?_ ?_ ?_
        · rfl
        · rintro ⟨_, _, h9⟩
          exact h9
        go_wp2_with (first | (refine build_to zeroA rfl 27 _ rfl _ (by kernel_rfl) zeroA_b ?_) | (refine wpList_store_row rfl 27 _ _ rfl (g + 1) zeroA rfl rfl 27 _ hr0.out (by kernel_rfl) (by kernel_rfl) (by kernel_rfl) ?_))
        refine wpIn_ret ?_
        obtain ⟨r1, r2, r3⟩ := stored3 hr0.out zeroA hr1.out hr2.out (k : Int) 11
        refine ⟨(HB3.out.keeps.trans (stored3_keeps hr0.out)).from _, rfl, ⟨pre, k, t, rfl, HUN.out, by rw [HEK.out, HTE.out]; exact HT3.out, r1, r2, r3⟩, ?_⟩
        exact stored3_below ((HBL0.out.trans (HI.out.bl.mono HBL0.out.size)).trans (HB3.out.below.mono HBL0.out.size)) (Nat.le_of_eq HG.out.symm)
    case done =>
      rintro D xs W hD rfl hI hK
      obtain ⟨t, x', hun, hst⟩ := hI.st
      have HI := Lib.hid hI
      have HST := Lib.hid hst
      have HUN := Lib.hid (undoN_all HEN.out hun)
      have hDg : g + 1 + 1 + 1 < D := by have h1 := HR2.out.lt; have h2 := HB03.out.size; omega
      have hr0 := Lib.hid (HR0.out.below HI.out.bl HR0.out.lt)
      have hr1 := Lib.hid (HR1.out.below HI.out.bl HR1.out.lt)
      have hr2 := Lib.hid (HR2.out.below HI.out.bl HR2.out.lt)
      have hq1 : G.Blk (W.setRow (g + 1) (x'.arr t)) (g + 1 + 1) 3 #[.int .i64 0] := (setRow_other _ _ _ _ (by omega)).trans hr1.out
      have hq2 : G.Blk (W.setRow (g + 1) (x'.arr t)) (g + 1 + 1 + 1) 35 #[.int .i64 0] := (setRow_other _ _ _ _ (by omega)).trans hr2.out
      have c5 := hq1.cell 0
      have f5 := hq1.frozen 0
      have c6 := hq2.cell 0
      have f6 := hq2.frozen 0
      have HK := Lib.hid hK
      clear hun hst hI hK hq1 hq2
      refine hK0 _ _ ?_
      dsimp only
      go_wp2_with (first | (refine wpList_load_row rfl 27 _ rfl g7 rfl _ (x'.arr t) (0, 0) _ HST.out.blk HFS.out rfl sizeSt ?_) | (refine wpList_store_row rfl 27 _ _ rfl (g + 1) (x'.arr t) rfl rfl 27 _ hr0.out (by kernel_rfl) rfl (arr_one _ _) ?_))
      obtain ⟨r1, r2, r3⟩ := stored3 hr0.out (x'.arr t) hr1.out hr2.out 0 0
      refine ⟨by simp, .inl ⟨_, _, rfl, run_takeDeferred ((stored3_keeps hr0.out).same D _ HK.out rfl), ?_⟩⟩
      refine ⟨.tuple #[.agg (x'.arr t), .int .i64 0, .int .i64 0], st_results3c rfl _ _ (g + 1) (g + 1 + 1) (g + 1 + 1 + 1) _ _ _ rfl rfl rfl (blk_put_obj r1 (by omega)) rfl (blk_put_obj r2 (by omega)) (blk_put_obj r3 (by omega)), repP_yes HM.out HUN.out ?_ ?_⟩
      · refine (OwnSt.noncell2 (HST.out.own.high fun k hk => stored3_high k (by have h1 := HR2.out.lt; omega)) ?_).ge HBL0.out.size
        exact (stored3_keeps hr0.out).same D _ HK.out rfl
      · exact below_put_obj (stored3_below (HBL0.out.trans (HI.out.bl.mono HBL0.out.size)) (Nat.le_of_eq HG.out.symm)) (Nat.le_trans (HBL0.out.size) (Nat.le_trans HB03.out.size hD))
    case stop =>
      rintro D cd pre W hD ⟨k, hk, rfl⟩ ⟨rfl, hx⟩ hK
      have hDg : g + 1 + 1 + 1 < D := by have h1 := HR2.out.lt; have h2 := HB03.out.size; omega
      obtain ⟨ini, k2, t, h1, h2, h3, r1, r2, r3⟩ := hx.no
      rw [dnr_next hk] at h1
      obtain ⟨rfl, e5⟩ := List.append_inj' h1 rfl
      obtain rfl : k = k2 := by simpa using e5
      obtain ⟨hn1, hn2⟩ := back_no (by rw [HEN.out]; exact hk) rfl (undoN_from HEN.out hk h2) h3
      refine wpIn_ret ?_
      refine ⟨by simp, .inl ⟨_, _, rfl, run_takeDeferred hK, ?_⟩⟩
      exact ⟨.tuple #[.agg zeroA, .int .i64 (k : Int), .int .i64 11], st_results3c rfl _ _ (g + 1) (g + 1 + 1) (g + 1 + 1 + 1) _ _ _ rfl rfl rfl (blk_put_obj r1 (by omega)) rfl (blk_put_obj r2 (by omega)) (blk_put_obj r3 (by omega)), repP_event HM.out hn1 hn2 (below_put_obj hx.bl (Nat.le_trans HBL0.out.size (Nat.le_trans HB03.out.size hD)))⟩
  · have HM := Lib.hid hm
    have HB2 := Lib.hid (HR0.out.below HB02.out HR0.out.lt)
    have hq1 : G.Blk (w2.setRow (g + 1) zeroA) (g + 1 + 1) 3 #[.int .i64 0] := (setRow_other _ _ _ _ (by omega)).trans (HR1.out.below HB02.out HR1.out.lt)
    have hq2 : G.Blk (w2.setRow (g + 1) zeroA) (g + 1 + 1 + 1) 35 #[.int .i64 0] := (setRow_other _ _ _ _ (by omega)).trans (HR2.out.below HB02.out HR2.out.lt)
    have c5 := hq1.cell 0
    have f5 := hq1.frozen 0
    have c6 := hq2.cell 0
    have f6 := hq2.frozen 0
    have HQ1 := Lib.hid hq1
    have HQ2 := Lib.hid hq2
    clear hm ht hx hq1 hq2
    go_wp2_with (first | (refine build_to zeroA rfl 27 _ rfl _ (by kernel_rfl) zeroA_b ?_) | (refine wpList_store_row rfl 27 _ _ rfl (g + 1) zeroA rfl rfl 27 _ HB2.out (by kernel_rfl) (by kernel_rfl) (by kernel_rfl) ?_))
    obtain ⟨r1, r2, r3⟩ := stored3 HB2.out zeroA (HR1.out.below HB02.out HR1.out.lt) (HR2.out.below HB02.out HR2.out.lt) 0 10
    exact ⟨.tuple #[.agg zeroA, .int .i64 0, .int .i64 10], st_results3c rfl _ _ (g + 1) (g + 1 + 1) (g + 1 + 1 + 1) _ _ _ rfl rfl rfl r1 rfl r2 r3, repP_state HM.out (stored3_below HBL2.out (Nat.le_of_eq HG.out.symm))⟩
end Go.Proofs.YtofgmijmhpmabaaGreatDoor.D

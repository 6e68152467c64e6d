/- The contracts of deed.one, deed.Apply, deed.Undo. -/
import Derived.Test.YtmhklnjmeoeanaaGreatDoorDMay
import Derived.Test.YtmhklnjmeoeanaaGreatDoorDField
namespace Go.Proofs.YtmhklnjmeoeanaaGreatDoor.D
open Go Go.RowKit
set_option linter.unusedVariables false
set_option linter.unusedSimpArgs false
theorem turnB_may {s t : St} {was now src dst b : Int} (h : turnS s was now src dst b = some t) (hm : May s) (hn : 1 ≤ now) : May t := by
  unfold turnS at h
  split at h
  · rename_i hc
    obtain rfl := Option.some.inj h
    exact ⟨hm.n2, hm.n4, hm.m1, hm.m256, hm.zn, hm.pl, hm.cd, hm.rng, hm.nd, hm.all, hn, hc.2.2.1, hm.fin, hm.won, hm.lost⟩
  · cases h
theorem endB_may {s t : St} {now p : Int} (h : endB s now p = some t) (hm : May s) : May t := by
  unfold endB at h
  split at h
  · obtain rfl := Option.some.inj h
    exact ⟨hm.n2, hm.n4, hm.m1, hm.m256, hm.zn, hm.pl, hm.cd, hm.rng, hm.nd, hm.all, hm.turn, hm.whose, by simp, fun h => by simp at h, fun _ => rfl⟩
  · cases h
theorem back_may {s t : St} {e : Ev} (h : backE s e = some t) (hm : May s) : May t := by
  unfold backE at h
  split at h
  · exact (moveS_facts h hm).2.1
  · split at h
    · split at h
      · exact (changeS_facts h hm).2.1
      · cases h
    · split at h
      · split at h
        · exact (changeS_facts h hm).2.1
        · cases h
      · split at h
        · exact (shuffleS_facts h hm).2.1
        · split at h
          · exact (outS_facts h hm).2.1
          · split at h
            · split at h
              · rename_i hw
                exact turnB_may h hm hw
              · cases h
            · split at h
              · exact endB_may h hm
              · cases h
theorem step_may {s t : St} {e : Ev} {back : Bool} (h : stepE s e back = some t) (hm : May s) : May t := by
  unfold stepE at h
  split at h
  · cases back
    · exact (do_facts (by simpa using h) hm).2.1
    · exact back_may (by simpa using h) hm
  · cases h
theorem undoE_eq {s : St} (e : Ev) (hm : May s) : undoE s e = stepE s e true := by
  unfold undoE
  cases h : stepE s e true with
  | none => rfl
  | some t => exact if_pos (step_may h hm)
def OnePost (s : St) (o : Option St) (w : World) (e : Ending) (w' : World) : Prop :=
  ∃ (x' : SV) (t : St) (k : Int), e = .returned (.tuple #[x'.val t, .int .i64 k]) ∧ OwnSt w' w.heap.size x' t ∧ Below w.heap.size w w' ∧
    ((k = 0 ∧ May s ∧ o = some t) ∨ (k = 11 ∧ May s ∧ o = none ∧ t = zeroSt ∧ x' = zeroSV) ∨ (k = 10 ∧ ¬ May s ∧ t = zeroSt ∧ x' = zeroSV))
theorem oneP_state {s : St} {o : Option St} {w w' : World} (h : ¬ May s) (hb : Below w.heap.size w w') : OnePost s o w (.returned (.tuple #[.agg zeroA, .int .i64 10])) w' := ⟨zeroSV, zeroSt, 10, rfl, zero_own _ _, hb, .inr (.inr ⟨rfl, h, rfl, rfl⟩)⟩
theorem oneP_event {s : St} {o : Option St} {w w' : World} (h : May s) (ho : o = none) (hb : Below w.heap.size w w') : OnePost s o w (.returned (.tuple #[.agg zeroA, .int .i64 11])) w' := ⟨zeroSV, zeroSt, 11, rfl, zero_own _ _, hb, .inr (.inl ⟨rfl, h, ho, rfl, rfl⟩)⟩
theorem oneP_yes {s t : St} {o : Option St} {w w' : World} {x' : SV} (h : May s) (ho : o = some t) (hw : OwnSt w' w.heap.size x' t) (hb : Below w.heap.size w w') : OnePost s o w (.returned (.tuple #[.agg (x'.arr t), .int .i64 0])) w' := ⟨x', t, 0, rfl, hw, hb, .inl ⟨rfl, h, ho⟩⟩
theorem three_new (w : World) (t u : TypeId) (a b c : Array Value) : G.Blk (((w.alloc (.cells a t)).alloc (.cells b u)).alloc (.cells c t)) w.heap.size t a ∧ G.Blk (((w.alloc (.cells a t)).alloc (.cells b u)).alloc (.cells c t)) (w.heap.size + 1) u b ∧
    G.Blk (((w.alloc (.cells a t)).alloc (.cells b u)).alloc (.cells c t)) (w.heap.size + 2) t c ∧ Below w.heap.size w (((w.alloc (.cells a t)).alloc (.cells b u)).alloc (.cells c t)) := by
  have h1 : G.Blk ((w.alloc (.cells a t)).alloc (.cells b u)) w.heap.size t a := heap_alloc2_old w (.cells a t) (.cells b u)
  have h2 : G.Blk ((w.alloc (.cells a t)).alloc (.cells b u)) (w.heap.size + 1) u b := heap_alloc2_new w (.cells a t) (.cells b u)
  have h3 : G.Blk (((w.alloc (.cells a t)).alloc (.cells b u)).alloc (.cells c t)) (w.heap.size + 2) t c := by
    have := heap_alloc_new ((w.alloc (.cells a t)).alloc (.cells b u)) (.cells c t)
    simpa [G.Blk] using this
  have hb : Below ((w.alloc (.cells a t)).alloc (.cells b u)).heap.size ((w.alloc (.cells a t)).alloc (.cells b u)) (((w.alloc (.cells a t)).alloc (.cells b u)).alloc (.cells c t)) := G.bl_alloc (Below.refl _ _) _
  exact ⟨h1.below hb h1.lt, h2.below hb h2.lt, h3, G.bl_alloc (G.bl_alloc (G.bl_alloc (Below.refl _ _) _) _) _⟩
set_option maxRecDepth 100000 in
set_option maxHeartbeats 4000000 in
theorem one_any (x : SV) (s : St) (y : EV) (e : Ev) (back : Bool) (w : World) (h : RdSt w x s) (hz : Sz s) (hr : RdEv w y e) (hf : e.Fits) (hl : e.order.length ≤ 33554432) :
    Calls Tryz.prog 92 #[x.val s, y.val e, .bool back] w (OnePost s (stepE s e back) w) := by
  obtain ⟨fsS, hfsS⟩ := undSt
  have HFS := Lib.hid hfsS
  obtain ⟨fsE, hfsE⟩ := undEv
  have HFE := Lib.hid hfsE
  have HMY := Lib.hid (fun W (hW : Below w.heap.size w W) => mayD_any x s W (h.below hW) hz)
  have HSP := Lib.hid (fun (g base : Nat) (x1 : SV) (W : World) (hW : Below w.heap.size w W) (hs : StAt W g base x1 s) (hm : May s) => step_any g base x1 s W y e back hs hm (RdEv.below hr hW) hf hl)
  obtain ⟨c, hc⟩ : ∃ c, c = x.arr s := ⟨_, rfl⟩
  obtain ⟨d, hd⟩ : ∃ d, d = y.arr e := ⟨_, rfl⟩
  have HS := Lib.hid (show c.size = 7 by rw [hc]; rfl)
  have HD := Lib.hid (show d.size = 12 by rw [hd]; rfl)
  have he : x.val s = .agg c := by rw [hc]; rfl
  have he2 : y.val e = .agg d := by rw [hd]; rfl
  rw [he] at HMY ⊢
  rw [he2] at HSP ⊢
  clear h hz hr hf hl hc hd he he2 hfsS hfsE
  have H0 := three_new w 27 37 c d zeroA
  go_enter Tryz.func92, Tryz.ntmps92
  go_upto_region 1 with (fail)
  obtain ⟨w0, hw0⟩ : ∃ w0, w0 = ((w.alloc (.cells c 27)).alloc (.cells d 37)).alloc (.cells zeroA 27) := ⟨_, rfl⟩
  rw [← hw0] at H0
  unfold zeroA at hw0
  rw [← hw0]
  clear hw0
  obtain ⟨hb0, hb1, hb2, hbl0⟩ := H0
  have HBL0 := Lib.hid hbl0
  obtain ⟨g, hg⟩ : ∃ g, g = w.heap.size := ⟨_, rfl⟩
  have HG := Lib.hid hg
  rw [← hg] at hb0 hb1 hb2 ⊢
  have HC0 := Lib.hid hb0
  have HE0 := Lib.hid hb1
  have HR0 := Lib.hid hb2
  have hl0 := hb2.lt
  clear hb0 hb1 hb2 hbl0 hg
  go_upto_region 2 with (first | (refine wpList_load_row rfl 27 _ rfl g rfl _ c (0, 0) _ HC0.out HFS.out rfl (by rw [HS.out]; exact sizeSt) ?_) | ((with_reducible refine (HMY.out _ HBL0.out).mono ?_); rintro e1 w1 hp1; obtain ⟨x1, t1, b1, rfl, ho1, hb1, hc1⟩ := hp1; have HO1 := Lib.hid ho1; have HBW1 := Lib.hid hb1; clear hb1 ho1) | (refine wpList_store_row rfl 27 _ _ rfl _ (x1.arr t1) rfl rfl 27 _ (heap_alloc_new _ _) (by kernel_rfl) rfl (arr_one _ _) ?_))
  have hl1 : g + 2 < w1.heap.size := by have := HBW1.out.size; omega
  have HST2 := Lib.hid (show StAt ((w1.alloc (.cells zeroA 27)).setRow w1.heap.size (x1.arr t1)) w1.heap.size w0.heap.size x1 t1 from ⟨setRow_heap _ _ _ _ _ _ (heap_alloc_new _ _), (HO1.out.below (G.bl_alloc (Below.refl _ _) _)).only (only_row (G.Blk.new w1 27 zeroA)) (by decide) (by decide) (by decide) (by decide), HBW1.out.size⟩)
  have HBL2 := Lib.hid (show Below w.heap.size w ((w1.alloc (.cells zeroA 27)).setRow w1.heap.size (x1.arr t1)) from below_setRow (G.bl_alloc (G.bl_trans HBL0.out HBW1.out) _) (by have := HG.out; omega) _)
  have HB02 := Lib.hid (show Below w0.heap.size w0 ((w1.alloc (.cells zeroA 27)).setRow w1.heap.size (x1.arr t1)) from below_setRow (G.bl_alloc HBW1.out _) HBW1.out.size _)
  obtain ⟨w2, hw2⟩ : ∃ w2, w2 = (w1.alloc (.cells zeroA 27)).setRow w1.heap.size (x1.arr t1) := ⟨_, rfl⟩
  rw [← hw2] at HST2 HBL2 HB02
  unfold zeroA at hw2
  rw [← hw2]
  clear hw2
  obtain ⟨g8, hg8⟩ : ∃ g8, g8 = w1.heap.size := ⟨_, rfl⟩
  rw [← hg8] at HST2 hl1 ⊢
  clear hg8 hl0
  rcases hc1 with ⟨rfl, hm, ht⟩ | ⟨rfl, hm, ht, hx⟩
  · subst ht
    have HM := Lib.hid hm
    have HE2 := Lib.hid (HE0.out.below HB02.out HE0.out.lt)
    have HR2 := Lib.hid (HR0.out.below HB02.out HR0.out.lt)
    have HSTP := Lib.hid (HSP.out g8 w0.heap.size x1 w2 HBL2.out HST2.out hm)
    clear hm
    go_wp2_with (refine wpList_load_row rfl 37 _ rfl (g + 1) rfl _ d (0, 0) _ HE2.out HFE.out rfl (by rw [HD.out]; exact sizeEv) ?_)
    refine (HSTP.out).mono ?_
    rintro e3 w3 hp3
    obtain ⟨b3, rfl, hb3, hc3⟩ := hp3
    replace hb3 := hb3.below
    have HBW3 := Lib.hid hb3
    have HR3 := Lib.hid (HR2.out.below hb3 (show g + 1 + 1 < w0.heap.size from HR0.out.lt))
    have HBL3 := Lib.hid (show Below w.heap.size w w3 from HBL2.out.trans (hb3.mono HBL0.out.size))
    clear hb3
    rcases hc3 with ⟨rfl, t3, x3, ht3, hs3⟩ | ⟨rfl, ht3⟩
    · have HT3 := Lib.hid ht3
      have HS3 := Lib.hid hs3
      have HM3 := Lib.hid (step_may ht3 HM.out)
      clear ht3 hs3
      cases back
      · go_wp2_with (first | (refine wpList_load_row rfl 27 _ rfl g8 rfl _ (x3.arr t3) (0, 0) _ HS3.out.blk HFS.out rfl sizeSt ?_) | (refine wpList_store_row rfl 27 _ _ rfl (g + 1 + 1) (x3.arr t3) rfl rfl 27 _ HR3.out (by kernel_rfl) rfl (arr_one _ _) ?_))
        refine bodyPost_ret (v := .tuple #[.agg (x3.arr t3), .int .i64 0]) (st_results2 rfl _ _ (g + 1 + 1) _ _ rfl rfl (setRow_heap _ _ _ _ _ _ HR3.out) rfl) rfl (oneP_yes HM.out HT3.out ?_ ?_)
        · exact (HS3.out.own.ge (HBL0.out.size)).only (only_row HR3.out) (by decide) (by decide) (by decide) (by decide)
        · exact below_setRow HBL3.out (by have := HG.out; omega) _
      · have HCK := Lib.hid (check_any x3 t3 w3 HS3.out.own.rd (may_sz HM3.out))
        rw [show x3.val t3 = .agg (x3.arr t3) from rfl] at HCK
        go_wp2_with (refine wpList_load_row rfl 27 _ rfl g8 rfl _ (x3.arr t3) (0, 0) _ HS3.out.blk HFS.out rfl sizeSt ?_)
        refine (HCK.out).mono ?_
        rintro e4 w4 hp4
        obtain ⟨k4, at4, rfl, hk4, hb4⟩ := hp4
        have HBW4 := Lib.hid hb4
        obtain rfl : k4 = 0 := by
          rcases hk4 with ⟨h, _⟩ | ⟨_, h⟩
          · exact h
          · exact absurd HM3.out h
        have HS4 := Lib.hid (HS3.out.below hb4)
        have HR4 := Lib.hid (HR3.out.below hb4 HR3.out.lt)
        clear hk4 hb4
        go_wp2_with (first | (refine wpList_load_row rfl 27 _ rfl g8 rfl _ (x3.arr t3) (0, 0) _ HS4.out.blk HFS.out rfl sizeSt ?_) | (refine wpList_store_row rfl 27 _ _ rfl (g + 1 + 1) (x3.arr t3) rfl rfl 27 _ HR4.out (by kernel_rfl) rfl (arr_one _ _) ?_))
        refine bodyPost_ret (v := .tuple #[.agg (x3.arr t3), .int .i64 0]) (st_results2 rfl _ _ (g + 1 + 1) _ _ rfl rfl (setRow_heap _ _ _ _ _ _ HR4.out) rfl) rfl (oneP_yes HM.out HT3.out ?_ ?_)
        · exact (HS4.out.own.ge (HBL0.out.size)).only (only_row HR4.out) (by decide) (by decide) (by decide) (by decide)
        · exact below_setRow (G.bl_trans HBL3.out HBW4.out) (by have := HG.out; omega) _
    · have HT3 := Lib.hid ht3
      clear ht3
      go_wp2_with (first | (refine build_to zeroA rfl 27 _ rfl _ (by kernel_rfl) zeroA_b ?_) | (refine wpList_store_row rfl 27 _ _ rfl (g + 1 + 1) zeroA rfl rfl 27 _ HR3.out (by kernel_rfl) (by kernel_rfl) (by kernel_rfl) ?_))
      refine bodyPost_ret (v := .tuple #[.agg zeroA, .int .i64 11]) (st_results2 rfl _ _ (g + 1 + 1) _ _ rfl rfl (setRow_heap _ _ _ _ _ _ HR3.out) rfl) rfl (oneP_event HM.out HT3.out ?_)
      exact below_setRow HBL3.out (by have := HG.out; omega) _
  · have HM := Lib.hid hm
    have HR2 := Lib.hid (HR0.out.below HB02.out HR0.out.lt)
    clear hm ht hx
    go_wp2_with (first | (refine build_to zeroA rfl 27 _ rfl _ (by kernel_rfl) zeroA_b ?_) | (refine wpList_store_row rfl 27 _ _ rfl (g + 1 + 1) zeroA rfl rfl 27 _ HR2.out (by kernel_rfl) (by kernel_rfl) (by kernel_rfl) ?_))
    refine bodyPost_ret (v := .tuple #[.agg zeroA, .int .i64 10]) (st_results2 rfl _ _ (g + 1 + 1) _ _ rfl rfl (setRow_heap _ _ _ _ _ _ HR2.out) rfl) rfl (oneP_state HM.out ?_)
    exact below_setRow HBL2.out (by have := HG.out; omega) _
set_option maxRecDepth 100000 in
set_option maxHeartbeats 4000000 in
theorem apply_any (x : SV) (s : St) (y : EV) (e : Ev) (w : World) (h : RdSt w x s) (hz : Sz s) (hr : RdEv w y e) (hf : e.Fits) (hl : e.order.length ≤ 33554432) :
    Calls Tryz.prog 75 #[x.val s, y.val e] w (OnePost s (stepE s e false) w) := by
  obtain ⟨fsS, hfsS⟩ := undSt
  have HFS := Lib.hid hfsS
  obtain ⟨fsE, hfsE⟩ := undEv
  have HFE := Lib.hid hfsE
  have HON := Lib.hid (fun W (hW : Below w.heap.size w W) => one_any x s y e false W (h.below hW) hz (RdEv.below hr hW) hf hl)
  obtain ⟨c, hc⟩ : ∃ c, c = x.arr s := ⟨_, rfl⟩
  obtain ⟨d, hd⟩ : ∃ d, d = y.arr e := ⟨_, rfl⟩
  have HS := Lib.hid (show c.size = 7 by rw [hc]; rfl)
  have HD := Lib.hid (show d.size = 12 by rw [hd]; rfl)
  have he : x.val s = .agg c := by rw [hc]; rfl
  have he2 : y.val e = .agg d := by rw [hd]; rfl
  rw [he, he2] at HON
  rw [he, he2]
  clear h hz hr hf hl hc hd he he2 hfsS hfsE
  have H0 := three_new w 27 37 c d zeroA
  go_enter Tryz.func75, Tryz.ntmps75
  go_upto_region 1 with (fail)
  obtain ⟨w0, hw0⟩ : ∃ w0, w0 = ((w.alloc (.cells c 27)).alloc (.cells d 37)).alloc (.cells zeroA 27) := ⟨_, rfl⟩
  rw [← hw0] at H0
  unfold zeroA at hw0
  rw [← hw0]
  clear hw0
  obtain ⟨hb0, hb1, hb2, hbl0⟩ := H0
  have HBL0 := Lib.hid hbl0
  obtain ⟨g, hg⟩ : ∃ g, g = w.heap.size := ⟨_, rfl⟩
  have HG := Lib.hid hg
  rw [← hg] at hb0 hb1 hb2 ⊢
  have HC0 := Lib.hid hb0
  have HE0 := Lib.hid hb1
  have HR0 := Lib.hid hb2
  clear hb0 hb1 hb2 hbl0 hg
  go_wp2_with (first | (refine wpList_load_row rfl 27 _ rfl g rfl _ c (0, 0) _ HC0.out HFS.out rfl (by rw [HS.out]; exact sizeSt) ?_) | (refine wpList_load_row rfl 37 _ rfl (g + 1) rfl _ d (0, 0) _ HE0.out HFE.out rfl (by rw [HD.out]; exact sizeEv) ?_))
  refine (HON.out _ HBL0.out).mono ?_
  rintro e1 w1 hp1
  obtain ⟨x1, t1, k1, rfl, ho1, hb1, hc1⟩ := hp1
  have HO1 := Lib.hid ho1
  have HB1 := Lib.hid hb1
  have HC1 := Lib.hid hc1
  have HR1 := Lib.hid (HR0.out.below hb1 HR0.out.lt)
  clear ho1 hb1 hc1
  go_wp2_with (refine wpList_store_row rfl 27 _ _ rfl (g + 1 + 1) (x1.arr t1) rfl rfl 27 _ HR1.out (by kernel_rfl) rfl (arr_one _ _) ?_)
  refine bodyPost_ret (v := .tuple #[.agg (x1.arr t1), .int .i64 k1]) (st_results2 rfl _ _ (g + 1 + 1) _ _ rfl rfl (setRow_heap _ _ _ _ _ _ HR1.out) rfl) rfl ⟨x1, t1, k1, rfl, ?_, ?_, HC1.out⟩
  · exact (HO1.out.ge (HBL0.out.size)).only (only_row HR1.out) (by decide) (by decide) (by decide) (by decide)
  · exact below_setRow (G.bl_trans HBL0.out HB1.out) (by have := HG.out; omega) _
end Go.Proofs.YtmhklnjmeoeanaaGreatDoor.D

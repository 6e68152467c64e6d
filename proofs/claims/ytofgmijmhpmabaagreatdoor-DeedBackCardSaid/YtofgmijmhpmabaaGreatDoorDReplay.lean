/- The contract of deed.Replay. -/
import Derived.Test.YtofgmijmhpmabaaGreatDoorDEvAt
import Derived.Test.YtofgmijmhpmabaaGreatDoorDTrace
namespace Go.Proofs.YtofgmijmhpmabaaGreatDoor.D
open Go Go.RowKit
set_option linter.unusedVariables false
set_option linter.unusedSimpArgs false
def RepPost (s : St) (o : Option St) (fa : Nat) (w : World) (e : Ending) (w' : World) : Prop :=
  ∃ (x' : SV) (t : St) (a k : Int), e = .returned (.tuple #[x'.val t, .int .i64 a, .int .i64 k]) ∧ OwnSt w' w.heap.size x' t ∧ Below w.heap.size w w' ∧
    ((k = 0 ∧ May s ∧ o = some t ∧ a = 0) ∨ (k = 11 ∧ May s ∧ o = none ∧ a = fa ∧ t = zeroSt ∧ x' = zeroSV) ∨ (k = 10 ∧ ¬ May s ∧ a = 0 ∧ t = zeroSt ∧ x' = zeroSV))
theorem repP_state {s : St} {o : Option St} {fa : Nat} {w w' : World} (h : ¬ May s) (hb : Below w.heap.size w w') : RepPost s o fa w (.returned (.tuple #[.agg zeroA, .int .i64 0, .int .i64 10])) w' := ⟨zeroSV, zeroSt, 0, 10, rfl, zero_own _ _, hb, .inr (.inr ⟨rfl, h, rfl, rfl, rfl⟩)⟩
theorem repP_event {s : St} {o : Option St} {fa k : Nat} {w w' : World} (h : May s) (ho : o = none) (hf : fa = k) (hb : Below w.heap.size w w') : RepPost s o fa w (.returned (.tuple #[.agg zeroA, .int .i64 (k : Int), .int .i64 11])) w' := ⟨zeroSV, zeroSt, k, 11, rfl, zero_own _ _, hb, .inr (.inl ⟨rfl, h, ho, by rw [hf], rfl, rfl⟩)⟩
theorem repP_yes {s t : St} {o : Option St} {fa : Nat} {w w' : World} {x' : SV} (h : May s) (ho : o = some t) (hw : OwnSt w' w.heap.size x' t) (hb : Below w.heap.size w w') : RepPost s o fa w (.returned (.tuple #[.agg (x'.arr t), .int .i64 0, .int .i64 0])) w' := ⟨x', t, 0, 0, rfl, hw, hb, .inl ⟨rfl, h, ho, rfl⟩⟩
/-- What the loop keeps. -/
structure RepI (s : St) (E : List Ev) (B : World) (g base : Nat) (k : Nat) (wr : World) : Prop where
  ex : ∃ (t : St) (x' : SV), runE s (E.take k) = some t ∧ StAt wr g base x' t
  bl : Below base B wr
set_option maxRecDepth 100000 in
set_option maxHeartbeats 8000000 in
theorem replay_any (x : SV) (s : St) (A : Option Addr) (n c : Nat) (L : List (EV × Ev)) (w : World) (h : RdSt w x s) (hz : Sz s) (hl : RdEvs w A n L) (hf : ∀ k, k < n → (L.getD k zeroP).2.Fits ∧ (L.getD k zeroP).2.order.length ≤ 33554432) (hn : n ≤ 33554432) :
    Calls Tryz.prog 35 #[x.val s, .slice A n c] w (RepPost s (runE s (L.map Prod.snd)) (failAt s (L.map Prod.snd)) w) := by
  obtain ⟨fsS, hfsS⟩ := undSt
  have HFS := Lib.hid hfsS
  obtain ⟨fsE, hfsE⟩ := undEv
  have HFE := Lib.hid hfsE
  have HMY := Lib.hid (fun W (hW : Below w.heap.size w W) => mayD_any x s W (h.below hW) hz)
  have HEV := Lib.hid hl
  have HF := Lib.hid hf
  obtain ⟨cs, hc⟩ : ∃ c, c = x.arr s := ⟨_, rfl⟩
  have HS := Lib.hid (show cs.size = 7 by rw [hc]; rfl)
  have he : x.val s = .agg cs := by rw [hc]; rfl
  rw [he] at HMY ⊢
  obtain ⟨E, hE⟩ : ∃ E, E = L.map Prod.snd := ⟨_, rfl⟩
  have HEN := Lib.hid (show E.length = n by rw [hE, List.length_map]; exact hl.len)
  have HEA := Lib.hid (show ∀ k, E.getD k zeroEv = (L.getD k zeroP).2 from fun k => by rw [hE]; exact getD_snd L k)
  rw [← hE]
  clear h hz hl hf hc he hfsS hfsE hE
  have h1 : G.Blk ((w.alloc (.cells cs 27)).alloc (.cells zeroA 27)) w.heap.size 27 cs := heap_alloc2_old w _ _
  have h2 : G.Blk ((w.alloc (.cells cs 27)).alloc (.cells zeroA 27)) (w.heap.size + 1) 27 zeroA := heap_alloc2_new w _ _
  have hbl0 : Below w.heap.size w ((w.alloc (.cells cs 27)).alloc (.cells zeroA 27)) := G.bl_alloc (G.bl_alloc (Below.refl _ _) _) _
  go_enter Tryz.func35, Tryz.ntmps35
  go_upto_region 1 with (fail)
  obtain ⟨w0, hw0⟩ : ∃ w0, w0 = (w.alloc (.cells cs 27)).alloc (.cells zeroA 27) := ⟨_, rfl⟩
  rw [← hw0] at h1 h2 hbl0
  unfold zeroA at hw0
  rw [← hw0]
  clear hw0
  have HBL0 := Lib.hid hbl0
  obtain ⟨g, hg⟩ : ∃ g, g = w.heap.size := ⟨_, rfl⟩
  have HG := Lib.hid hg
  rw [← hg] at h1 h2 ⊢
  have HC0 := Lib.hid h1
  have HR0 := Lib.hid h2
  have hl0 := h2.lt
  clear h1 h2 hbl0 hg
  go_upto_region 2 with (first | (refine wpList_load_row rfl 27 _ rfl g rfl _ cs (0, 0) _ HC0.out HFS.out rfl (by rw [HS.out]; exact sizeSt) ?_) | ((with_reducible refine (HMY.out _ HBL0.out).mono ?_); rintro e1 w1 hp1; obtain ⟨x1, t1, b1, rfl, ho1, hb1, hc1⟩ := hp1; have HO1 := Lib.hid ho1; have HBW1 := Lib.hid hb1; clear hb1 ho1) | (refine wpList_store_row rfl 27 _ _ rfl _ (x1.arr t1) rfl rfl 27 _ (heap_alloc_new _ _) (by kernel_rfl) rfl (arr_one _ _) ?_))
  have hl1 : g + 1 < w1.heap.size := by have := HBW1.out.size; omega
  have HST2 := Lib.hid (show StAt ((w1.alloc (.cells zeroA 27)).setRow w1.heap.size (x1.arr t1)) w1.heap.size w0.heap.size x1 t1 from ⟨setRow_heap _ _ _ _ _ _ (heap_alloc_new _ _), (HO1.out.below (G.bl_alloc (Below.refl _ _) _)).only (only_row (G.Blk.new w1 27 zeroA)) (by decide) (by decide) (by decide) (by decide), HBW1.out.size⟩)
  have HBL2 := Lib.hid (show Below w.heap.size w ((w1.alloc (.cells zeroA 27)).setRow w1.heap.size (x1.arr t1)) from below_setRow (G.bl_alloc (G.bl_trans HBL0.out HBW1.out) _) (by have := HG.out; omega) _)
  have HB02 := Lib.hid (show Below w0.heap.size w0 ((w1.alloc (.cells zeroA 27)).setRow w1.heap.size (x1.arr t1)) from below_setRow (G.bl_alloc HBW1.out _) HBW1.out.size _)
  obtain ⟨w2, hw2⟩ : ∃ w2, w2 = (w1.alloc (.cells zeroA 27)).setRow w1.heap.size (x1.arr t1) := ⟨_, rfl⟩
  rw [← hw2] at HST2 HBL2 HB02
  unfold zeroA at hw2
  rw [← hw2]
  clear hw2
  obtain ⟨g7, hg7⟩ : ∃ g7, g7 = w1.heap.size := ⟨_, rfl⟩
  rw [← hg7] at HST2 hl1 ⊢
  clear hg7
  rcases hc1 with ⟨rfl, hm, ht⟩ | ⟨rfl, hm, ht, hx⟩
  · subst ht
    have HM := Lib.hid hm
    have HEV0 := Lib.hid (HEV.out.below HBL0.out)
    clear hm
    go_upto_region 5 with (fail)
    go_loopw [21] (fun i wr => ∃ k : Nat, k ≤ n ∧ i = .int .i64 k ∧ RepI t1 E w0 g7 w0.heap.size k wr) (fun i _ => n - (intOf i).toNat)
    case atStart => exact ⟨0, Nat.zero_le _, rfl, ⟨⟨t1, x1, rfl, HST2.out⟩, HB02.out⟩⟩
    case round =>
      obtain ⟨k, hk, rfl, hri⟩ := hrel
      obtain ⟨⟨t, x', hrun, hst⟩, hbl⟩ := hri
      have HRUN := Lib.hid hrun
      have HST := Lib.hid hst
      have HBL := Lib.hid hbl
      have HMT := Lib.hid (run_may HM.out hrun)
      have HRR := Lib.hid (HR0.out.below hbl HR0.out.lt)
      have hk0 : (0 : Int) ≤ k := by omega
      clear hrun hst
      by_cases hlt : k < n
      · have hkI : (k : Int) < n := by omega
        obtain ⟨hfit, hlen⟩ := HF.out k hlt
        obtain ⟨b, off, hA, hbs, hrd, hre, _⟩ := ev_whole (HEV0.out.below hbl) hlt
        subst hA
        obtain ⟨p, hp⟩ : ∃ p, p = L.getD k zeroP := ⟨_, rfl⟩
        rw [← hp] at hrd hre hfit hlen
        have HEK := Lib.hid (show E.getD k zeroEv = p.2 by rw [HEA.out, hp])
        obtain ⟨ce, hce⟩ : ∃ ce, ce = p.1.arr p.2 := ⟨_, rfl⟩
        rw [← hce] at hrd
        have HCE := Lib.hid hce
        have HRD := Lib.hid hrd
        have HRE := Lib.hid hre
        have HFIT := Lib.hid hfit
        have HLEN := Lib.hid hlen
        have HSE := Lib.hid (show ce.size = 12 by rw [hce]; rfl)
        have HON := Lib.hid (show ce.all (·.oneCell') = true by rw [hce]; simp [EV.arr, Value.oneCell'])
        clear hrd hre hfit hlen hp hce hbl
        go_upto_region 7 with (first | (refine wpList_load_run (by rfl) 30 _ rfl b (off + k * 12) rfl ce HRD.out ?_) | (refine wpList_store_row rfl 30 _ _ rfl _ ce rfl rfl 30 _ (heap_alloc_new _ _) (by rw [HSE.out]; exact sizeEv) (by rw [HSE.out]; rfl) HON.out ?_))
        generalize hwA : World.setRow _ _ _ = wA
        have hqA : Below wr.heap.size wr wA := by rw [← hwA]; exact below_setRow (G.bl_alloc (Below.refl _ _) _) (Nat.le_refl _) _
        have hrA : G.Blk wA wr.heap.size 30 ce := by rw [← hwA]; exact setRow_heap _ _ _ _ _ _ (heap_alloc_new _ _)
        have HBA := Lib.hid (show Below w0.heap.size w0 wA from G.bl_trans HBL.out hqA)
        have HSTA := Lib.hid (HST.out.below hqA)
        have HREA := Lib.hid (RdEv.below HRE.out hqA)
        have HRA := Lib.hid hrA
        have hgE := HRA.out.lt
        have HSP := Lib.hid (step_any g7 w0.heap.size x' t wA p.1 p.2 false HSTA.out HMT.out HREA.out HFIT.out HLEN.out)
        rw [show p.1.val p.2 = .agg ce by rw [HCE.out]; rfl] at HSP
        generalize wr.heap.size = gE at *
        clear hwA hqA hrA
        go_wp2_with (refine wpList_load_row rfl 30 _ rfl gE rfl _ ce (0, 0) _ HRA.out HFE.out rfl (by rw [HSE.out]; exact sizeEv) ?_)
        refine (HSP.out).mono ?_
        rintro e3 w3 hp3
        obtain ⟨b3, rfl, hb3, hc3⟩ := hp3
        replace hb3 := hb3.below
        have HB3 := Lib.hid (show Below w0.heap.size w0 w3 from HBA.out.trans hb3)
        clear hb3
        rcases hc3 with ⟨rfl, t3, x3, ht3, hs3⟩ | ⟨rfl, ht3⟩
        · have HI3 := Lib.hid (show RepI t1 E w0 g7 w0.heap.size (k + 1) w3 from ⟨⟨t3, x3, run_yes (by rw [HEN.out]; exact hlt) HEK.out HRUN.out ht3, hs3⟩, HB3.out⟩)
          clear ht3 hs3
          go_wp2_with fail
          go_roundw
          case rel => exact ⟨k + 1, by omega, by go_num, HI3.out⟩
          case measure => simp [intOf]; omega
        · obtain ⟨hn1, hn2⟩ := run_no (by rw [HEN.out]; exact hlt) HEK.out HRUN.out ht3
          have HN1 := Lib.hid hn1
          have HN2 := Lib.hid hn2
          have HR3 := Lib.hid (HR0.out.below HB3.out HR0.out.lt)
          clear ht3 hn1 hn2
          go_wp2_with (first | (refine build_to zeroA rfl 27 _ rfl _ (by kernel_rfl) zeroA_b ?_) | (refine wpList_store_row rfl 27 _ _ rfl (g + 1) zeroA rfl rfl 27 _ HR3.out (by kernel_rfl) (by kernel_rfl) (by kernel_rfl) ?_))
          refine bodyPost_ret (v := .tuple #[.agg zeroA, .int .i64 (k : Int), .int .i64 11]) (st_results3 rfl _ _ (g + 1) _ _ _ rfl rfl rfl (setRow_heap _ _ _ _ _ _ HR3.out) rfl) rfl (repP_event HM.out HN1.out HN2.out ?_)
          exact below_setRow (G.bl_trans HBL0.out HB3.out) (by have := HG.out; omega) _
      · have hkI : ¬ (k : Int) < n := by omega
        obtain rfl : k = n := by omega
        have HEND := Lib.hid (show runE t1 E = some t by
          have h9 := HRUN.out
          rwa [List.take_of_length_le (by rw [HEN.out]; omega)] at h9)
        go_wp2_with (first | (refine wpList_load_row rfl 27 _ rfl g7 rfl _ (x'.arr t) (0, 0) _ HST.out.blk HFS.out rfl sizeSt ?_) | (refine wpList_store_row rfl 27 _ _ rfl (g + 1) (x'.arr t) rfl rfl 27 _ HRR.out (by kernel_rfl) rfl (arr_one _ _) ?_))
        refine bodyPost_ret (v := .tuple #[.agg (x'.arr t), .int .i64 0, .int .i64 0]) (st_results3 rfl _ _ (g + 1) _ _ _ rfl rfl rfl (setRow_heap _ _ _ _ _ _ HRR.out) rfl) rfl (repP_yes HM.out HEND.out ?_ ?_)
        · exact (HST.out.own.ge (HBL0.out.size)).only (only_row HRR.out) (by decide) (by decide) (by decide) (by decide)
        · exact below_setRow (G.bl_trans HBL0.out HBL.out) (by have := HG.out; omega) _
  · have HM := Lib.hid hm
    have HR2 := Lib.hid (HR0.out.below HB02.out HR0.out.lt)
    clear hm ht hx
    go_wp2_with (first | (refine build_to zeroA rfl 27 _ rfl _ (by kernel_rfl) zeroA_b ?_) | (refine wpList_store_row rfl 27 _ _ rfl (g + 1) zeroA rfl rfl 27 _ HR2.out (by kernel_rfl) (by kernel_rfl) (by kernel_rfl) ?_))
    refine bodyPost_ret (v := .tuple #[.agg zeroA, .int .i64 0, .int .i64 10]) (st_results3 rfl _ _ (g + 1) _ _ _ rfl rfl rfl (setRow_heap _ _ _ _ _ _ HR2.out) rfl) rfl (repP_state HM.out ?_)
    exact below_setRow HBL2.out (by have := HG.out; omega) _
end Go.Proofs.YtofgmijmhpmabaaGreatDoor.D

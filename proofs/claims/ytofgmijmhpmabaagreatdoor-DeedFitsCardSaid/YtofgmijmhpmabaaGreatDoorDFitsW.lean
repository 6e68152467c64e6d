/- The walk of DeedFits. Printed by gen_fits.py. -/
import Derived.Test.YtofgmijmhpmabaaGreatDoorDLawS
import Derived.Test.YtofgmijmhpmabaaGreatDoorBag
namespace Go.Proofs.YtofgmijmhpmabaaGreatDoor.D
open Go Go.RowKit
set_option linter.unusedVariables false
set_option linter.unusedSimpArgs false
/-- The event whose size stands for a deed's. -/
def ordEv (d : Dq) : Ev := { zeroEv with order := d.order }
set_option maxRecDepth 100000 in
set_option maxHeartbeats 8000000 in
theorem fits_long (x : SV) (s : St) (y : EV) (d : Dq) (w : World) (h : RdSt w x s) (hr : G.RdS w y.oa 1 d.order.length (i64s d.order)) (hw : Sw s) (hl : d.order.length ≤ 140737488355328) (hby : beyondB s [(y, ordEv d)] = true) :
    Calls Tryz.prog 10 #[x.val s, .agg (dqArr y d)] w (BoolPost true w) := by
  obtain ⟨iE, hiE, hzE0, hzE1, hzE2⟩ := info_parts infoEv
  have HIE := Lib.hid (And.intro hiE (And.intro hzE0 hzE1))
  clear hiE hzE0 hzE1 hzE2
  obtain ⟨fsS, hfsS⟩ := undSt
  have HFS := Lib.hid hfsS
  have HR := Lib.hid h
  have HBY := Lib.hid (fun A c W (hW : Below w.heap.size w W) he => beyond_any x s A 1 c [(y, ordEv d)] W (h.below hW) hw he (by omega) (fun i => by
    match i with
    | 0 => exact hl
    | i + 1 => simp [zeroP, zeroEv]))
  rw [hby] at HBY
  obtain ⟨cs, hcs⟩ : ∃ c, c = x.arr s := ⟨_, rfl⟩
  have HS := Lib.hid (show cs.size = 7 by rw [hcs]; rfl)
  have he1 : x.val s = .agg cs := by rw [hcs]; rfl
  rw [he1] at HBY ⊢
  obtain ⟨oa, oc⟩ := y
  obtain ⟨n, hn⟩ : ∃ n, n = d.order.length := ⟨_, rfl⟩
  have HN := Lib.hid hn
  obtain ⟨cd0, hcd0⟩ : ∃ c, c = dqArr ⟨oa, oc⟩ d := ⟨_, rfl⟩
  have HD6 := Lib.hid (show cd0[6]? = some (.slice oa n oc) by rw [hcd0, hn]; rfl)
  have HSD := Lib.hid (show cd0.size = 7 by rw [hcd0]; rfl)
  rw [← hcd0]
  have HRO := Lib.hid (show G.RdS w oa 1 n (i64s d.order) by rw [hn]; exact hr)
  have HCE0 := Lib.hid (show #[.int .i8 0, .int .i8 0, .int .i64 0, .int .i64 0, .int .i64 0, .int .i64 0, .int .i64 0, .int .i64 0, .int .i64 0, .int .i32 0, .int .i32 0, .slice oa n oc] = (⟨oa, oc⟩ : EV).arr (ordEv d) by rw [hn]; rfl)
  clear h hr hw hl hby hcs he1 hfsS hn hcd0
  have h1 : G.Blk ((w.alloc (.cells cs 27)).alloc (.cells cd0 80)) w.heap.size 27 cs := heap_alloc2_old w _ _
  have h2 : G.Blk ((w.alloc (.cells cs 27)).alloc (.cells cd0 80)) (w.heap.size + 1) 80 cd0 := heap_alloc2_new w _ _
  have hbl0 : Below w.heap.size w ((w.alloc (.cells cs 27)).alloc (.cells cd0 80)) := G.bl_alloc (G.bl_alloc (Below.refl _ _) _) _
  go_enter Tryz.func10, Tryz.ntmps10
  go_upto_region 1 with (fail)
  obtain ⟨w0, hw0⟩ : ∃ w0, w0 = (w.alloc (.cells cs 27)).alloc (.cells cd0 80) := ⟨_, rfl⟩
  rw [← hw0] at h1 h2 hbl0 ⊢
  clear hw0
  obtain ⟨g, hg⟩ : ∃ g, g = w.heap.size := ⟨_, rfl⟩
  have HGE := Lib.hid (show w.heap.size ≤ g + 1 by omega)
  rw [← hg] at h1 h2 ⊢
  have HBL0 := Lib.hid hbl0
  have HX0 := Lib.hid h1
  have HD0 := Lib.hid h2
  have d6 := (h2.cell 6).trans HD6.out
  have f6 := h2.frozen 6
  have l1 := h2.lt
  clear h1 h2 hbl0 hg
  have HEV := Lib.hid (show RdEvs (w0.alloc (.cells #[.int .i8 0, .int .i8 0, .int .i64 0, .int .i64 0, .int .i64 0, .int .i64 0, .int .i64 0, .int .i64 0, .int .i64 0, .int .i32 0, .int .i32 0, .slice oa n oc] 30)) (some ⟨w0.heap.size, 0, none⟩) 1 [((⟨oa, oc⟩ : EV), ordEv d)] from ⟨by
    have h9 := rd_blk (sz := 12) (n := 1) (G.Blk.new w0 30 #[.int .i8 0, .int .i8 0, .int .i64 0, .int .i64 0, .int .i64 0, .int .i64 0, .int .i64 0, .int .i64 0, .int .i64 0, .int .i32 0, .int .i32 0, .slice oa n oc]) rfl
    have e9 : flatE [((⟨oa, oc⟩ : EV), ordEv d)] = (#[.int .i8 0, .int .i8 0, .int .i64 0, .int .i64 0, .int .i64 0, .int .i64 0, .int .i64 0, .int .i64 0, .int .i64 0, .int .i32 0, .int .i32 0, .slice oa n oc] : Array Value).toList := by rw [HCE0.out]; simp [flatE, cellsE]
    rw [e9]
    exact h9, fun i hi => by
      obtain rfl : i = 0 := by omega
      exact (show G.RdS w oa 1 d.order.length (i64s d.order) by rw [← HN.out]; exact HRO.out).below (G.bl_alloc HBL0.out _)⟩)
  go_wp2_with (first | (refine wpList_load_row rfl 27 _ rfl g rfl _ cs (0, 0) _ HX0.out HFS.out rfl (by rw [HS.out]; exact sizeSt) ?_) | ((with_reducible refine (HBY.out _ _ _ (G.bl_alloc HBL0.out _) HEV.out).mono ?_); rintro e1 w1 ⟨rfl, hb1⟩; have HBW1 := Lib.hid hb1; clear hb1))
  go_ret
  exact ⟨rfl, G.bl_trans (G.bl_alloc HBL0.out _) HBW1.out⟩
set_option maxRecDepth 100000 in
set_option maxHeartbeats 32000000 in
theorem fits_short (x : SV) (s : St) (y : EV) (d : Dq) (w : World) (h : RdSt w x s) (hr : G.RdS w y.oa 1 d.order.length (i64s d.order)) (hf : d.Fits) (hw : Sw s) (hs : Sz s) (hby : beyondB s [(y, ordEv d)] = false) :
    Calls Tryz.prog 10 #[x.val s, .agg (dqArr y d)] w (BoolPost true w) := by
  obtain ⟨iE, hiE, hzE0, hzE1, hzE2⟩ := info_parts infoEv
  have HIE := Lib.hid (And.intro hiE (And.intro hzE0 hzE1))
  clear hiE hzE0 hzE1 hzE2
  obtain ⟨fsS, hfsS⟩ := undSt
  have HFS := Lib.hid hfsS
  have HR := Lib.hid h
  have HBY := Lib.hid (fun A c W (hW : Below w.heap.size w W) he => beyond_any x s A 1 c [(y, ordEv d)] W (h.below hW) hw he (by omega) (fun i => by
    match i with
    | 0 => exact (Nat.le_trans hf.order (by omega))
    | i + 1 => simp [zeroP, zeroEv]))
  rw [hby] at HBY
  have HCPw := Lib.hid (fun W (hW : Below w.heap.size w W) => copyState_any x s W (h.below hW) hs)
  have HLM := Lib.hid (fun W (hW : Below w.heap.size w W) => lawMay_any x s W (h.below hW) hs)
  have HCIw := Lib.hid (fun W (hW : Below w.heap.size w W) => copyInts_any y.oa d.order.length y.oc d.order W (hr.below hW) hf.order)
  have HSZ := Lib.hid hs
  have HDF := Lib.hid hf
  obtain ⟨cs, hcs⟩ : ∃ c, c = x.arr s := ⟨_, rfl⟩
  have HS := Lib.hid (show cs.size = 7 by rw [hcs]; rfl)
  have he1 : x.val s = .agg cs := by rw [hcs]; rfl
  rw [he1] at HBY HCPw HLM ⊢
  obtain ⟨oa, oc⟩ := y
  obtain ⟨n, hn⟩ : ∃ n, n = d.order.length := ⟨_, rfl⟩
  have HN := Lib.hid hn
  rw [← hn] at HCIw
  obtain ⟨cd0, hcd0⟩ : ∃ c, c = dqArr ⟨oa, oc⟩ d := ⟨_, rfl⟩
  have HD6 := Lib.hid (show cd0[6]? = some (.slice oa n oc) by rw [hcd0, hn]; rfl)
  have HSD := Lib.hid (show cd0.size = 7 by rw [hcd0]; rfl)
  have HDC := Lib.hid hcd0
  rw [← hcd0]
  have HRO := Lib.hid (show G.RdS w oa 1 n (i64s d.order) by rw [hn]; exact hr)
  have HCE0 := Lib.hid (show #[.int .i8 0, .int .i8 0, .int .i64 0, .int .i64 0, .int .i64 0, .int .i64 0, .int .i64 0, .int .i64 0, .int .i64 0, .int .i32 0, .int .i32 0, .slice oa n oc] = (⟨oa, oc⟩ : EV).arr (ordEv d) by rw [hn]; rfl)
  clear h hr hw hf hs hby hcs he1 hfsS hn hcd0
  have h1 : G.Blk ((w.alloc (.cells cs 27)).alloc (.cells cd0 80)) w.heap.size 27 cs := heap_alloc2_old w _ _
  have h2 : G.Blk ((w.alloc (.cells cs 27)).alloc (.cells cd0 80)) (w.heap.size + 1) 80 cd0 := heap_alloc2_new w _ _
  have hbl0 : Below w.heap.size w ((w.alloc (.cells cs 27)).alloc (.cells cd0 80)) := G.bl_alloc (G.bl_alloc (Below.refl _ _) _) _
  go_enter Tryz.func10, Tryz.ntmps10
  go_upto_region 1 with (fail)
  obtain ⟨w0, hw0⟩ : ∃ w0, w0 = (w.alloc (.cells cs 27)).alloc (.cells cd0 80) := ⟨_, rfl⟩
  rw [← hw0] at h1 h2 hbl0 ⊢
  clear hw0
  obtain ⟨g, hg⟩ : ∃ g, g = w.heap.size := ⟨_, rfl⟩
  have HGE := Lib.hid (show w.heap.size ≤ g + 1 by omega)
  rw [← hg] at h1 h2 ⊢
  have HBL0 := Lib.hid hbl0
  have HX0 := Lib.hid h1
  have HD0 := Lib.hid h2
  have d6 := (h2.cell 6).trans HD6.out
  have f6 := h2.frozen 6
  have l1 := h2.lt
  clear h1 h2 hbl0 hg
  have HEV := Lib.hid (show RdEvs (w0.alloc (.cells #[.int .i8 0, .int .i8 0, .int .i64 0, .int .i64 0, .int .i64 0, .int .i64 0, .int .i64 0, .int .i64 0, .int .i64 0, .int .i32 0, .int .i32 0, .slice oa n oc] 30)) (some ⟨w0.heap.size, 0, none⟩) 1 [((⟨oa, oc⟩ : EV), ordEv d)] from ⟨by
    have h9 := rd_blk (sz := 12) (n := 1) (G.Blk.new w0 30 #[.int .i8 0, .int .i8 0, .int .i64 0, .int .i64 0, .int .i64 0, .int .i64 0, .int .i64 0, .int .i64 0, .int .i64 0, .int .i32 0, .int .i32 0, .slice oa n oc]) rfl
    have e9 : flatE [((⟨oa, oc⟩ : EV), ordEv d)] = (#[.int .i8 0, .int .i8 0, .int .i64 0, .int .i64 0, .int .i64 0, .int .i64 0, .int .i64 0, .int .i64 0, .int .i64 0, .int .i32 0, .int .i32 0, .slice oa n oc] : Array Value).toList := by rw [HCE0.out]; simp [flatE, cellsE]
    rw [e9]
    exact h9, fun i hi => by
      obtain rfl : i = 0 := by omega
      exact (show G.RdS w oa 1 d.order.length (i64s d.order) by rw [← HN.out]; exact HRO.out).below (G.bl_alloc HBL0.out _)⟩)
  go_upto_region 3 with (first | (refine wpList_load_row rfl 27 _ rfl g rfl _ cs (0, 0) _ HX0.out HFS.out rfl (by rw [HS.out]; exact sizeSt) ?_) | ((with_reducible refine (HBY.out _ _ _ (G.bl_alloc HBL0.out _) HEV.out).mono ?_); rintro e1 w1 ⟨rfl, hb1⟩; have HBW1 := Lib.hid hb1; clear hb1))
  have hw1 := G.bl_trans (G.bl_alloc (Below.refl w0.heap.size w0) _) HBW1.out
  have HBL1 := Lib.hid (G.bl_trans HBL0.out hw1)
  have HX1 := Lib.hid (HX0.out.below hw1 HX0.out.lt)
  have HD1 := Lib.hid (HD0.out.below hw1 HD0.out.lt)
  have HCI := Lib.hid (HCIw.out w1 HBL1.out)
  clear d6 f6 l1 hw1
  have d6 := (HD1.out.cell 6).trans HD6.out
  have l1 := HD1.out.lt
  go_upto_region 4 with ((with_reducible refine (HCI.out).mono ?_); rintro e2 wB hp2; obtain ⟨A2, k2, rfl, ho2, hb2⟩ := hp2; have HO2 := Lib.hid ho2; have HB2 := Lib.hid hb2; have f6b := (HD1.out.below hb2 HD1.out.lt).frozen 6; have d6b := ((HD1.out.below hb2 HD1.out.lt).cell 6).trans HD6.out; clear ho2 hb2)
  have hD2 := (HD1.out.below HB2.out HD1.out.lt).put 6 (.slice A2 n k2)
  have hX2 : G.Blk (wB.setCell ⟨g + 1, 6, none⟩ (.slice A2 n k2)) g 27 cs := (Below.heap_setCell wB ⟨g + 1, 6, none⟩ _ g (by simp)).trans (HX1.out.below HB2.out HX1.out.lt)
  have hO2 := HO2.out.kept (row := some (g + 1)) (w' := wB.setCell ⟨g + 1, 6, none⟩ (.slice A2 n k2)) ⟨rfl, rfl, rfl, by simp, fun j hj hne => Below.heap_setCell wB ⟨g + 1, 6, none⟩ _ j (fun e => hne (by rw [e]))⟩ (G.row_ne HO2.out (HD1.out.below HB2.out HD1.out.lt) (by decide))
  have hbl2 : Below w.heap.size w (wB.setCell ⟨g + 1, 6, none⟩ (.slice A2 n k2)) := G.bl_set (G.bl_trans HBL1.out HB2.out) (p := ⟨g + 1, 6, none⟩) HGE.out _
  have hdq : cd0.setIfInBounds 6 (.slice A2 n k2) = dqArr ⟨A2, k2⟩ d := by rw [HDC.out, HN.out]; rfl
  obtain ⟨w2, hw2⟩ : ∃ w2, w2 = wB.setCell ⟨g + 1, 6, none⟩ (.slice A2 n k2) := ⟨_, rfl⟩
  rw [← hw2] at hD2 hX2 hO2 hbl2 ⊢
  rw [hdq] at hD2
  have HBL2 := Lib.hid hbl2
  have HRO2 := Lib.hid (show G.RdS w2 A2 1 d.order.length (i64s d.order) by rw [← HN.out]; exact G.RdS.of_own hO2)
  obtain ⟨cd, hcd⟩ : ∃ c, c = dqArr ⟨A2, k2⟩ d := ⟨_, rfl⟩
  rw [← hcd] at hD2
  have HTD := Lib.hid (show TwD w2 g cs (g + 1) cd w2 from ⟨Below.refl _ _, hX2, hD2, HS.out, by rw [hcd]; rfl, hX2.lt, hD2.lt⟩)
  have HCP := Lib.hid (fun W (hW : Below w2.heap.size w2 W) => HCPw.out W (G.bl_trans hbl2 hW))
  have HAS := Lib.hid (fun x6 W (hW : Below w2.heap.size w2 W) (hx : RdSt W x6 s) => asked_any x6 s ⟨A2, k2⟩ d W hx HSZ.out (HRO2.out.below hW) HDF.out)
  rw [← hcd] at HAS
  clear hw2 hD2 hX2 hO2 hbl2 hdq hcd d6 l1 f6b d6b
  refine wp_region_held_drew (S := TwD w2 g cs (g + 1) cd) (by kernel_rfl) ?_ (fun hHeld => ?_)
  · exact TwD.below HTD.out (Below.refl _ _).drew
  refine wpAnyH_take (i := 0) (oi := ⟨some 20, _, _, _, _, _⟩) (v := ?_) rfl (by kernel_rfl) (by kernel_rfl) (by kernel_rfl) (fun _ _ _ h => h) (Or.inl ⟨by rfl, ?_⟩) (by assumption) ?_
  rotate_left
  · (intro w hSw; refine exec_load_held 80 (.tmp 3) ?_ (g + 1) ?_ _ (run_do hSw.bd hSw.sd) <;> rfl)
  try simp only [Act.put, List.setIfInBounds_toArray, List.set_cons_zero, List.set_cons_succ]
  refine wpAnyH_take (i := 1) (oi := ⟨some 21, _, _, _, _, _⟩) (v := ?_) rfl (by kernel_rfl) (by kernel_rfl) (by kernel_rfl) (fun _ _ _ h => h) (Or.inl ⟨by rfl, ?_⟩) (by assumption) ?_
  rotate_left
  · (intro w hSw; refine exec_load_held 27 (.tmp 2) ?_ g ?_ _ (run_st hSw.bx hSw.sx) <;> rfl)
  try simp only [Act.put, List.setIfInBounds_toArray, List.set_cons_zero, List.set_cons_succ]
  refine wpAnyH_ready (rs := [2]) (by kernel_rfl) (by simp) ?_
  refine AllReadyH.cons rfl (fun K hK => ?_) AllReadyH.nil
  go_simp
  (refine (HCP.out _ hHeld.bl).mono ?_; rintro e6 w6 hp6; obtain ⟨x6, rfl, ho6, hb6⟩ := hp6; have HB6 := Lib.hid hb6; have HO6 := Lib.hid ho6.rd; clear ho6 hb6)
  go_wp2_with fail
  refine hK.out _ _ ?_ (fun hHeld => ?_)
  · exact TwD.below (by assumption) HB6.out
  clear hK K
  try simp only [Act.put, List.setIfInBounds_toArray, List.set_cons_zero, List.set_cons_succ]
  refine wpAnyH_ready (rs := [3]) (by kernel_rfl) (by simp) ?_
  refine AllReadyH.cons rfl (fun K hK => ?_) AllReadyH.nil
  go_simp
  (refine (HAS.out x6 _ (hHeld.bl) HO6.out).mono ?_; rintro e8 w8 hp8; obtain ⟨A8, n8, c8, L8, k8, rfl, ho8, hb8, hc8⟩ := hp8; have HB8 := Lib.hid hb8; have HO8 := Lib.hid ho8; have HC8 := Lib.hid hc8; clear ho8 hb8 hc8)
  go_wp2_with fail
  refine hK.out _ _ ?_ (fun hHeld => ?_)
  · exact TwD.below (by assumption) HB8.out
  clear hK K
  try simp only [Act.put, List.setIfInBounds_toArray, List.set_cons_zero, List.set_cons_succ]
  refine wpAnyH_take (i := 4) (oi := ⟨some 19, _, _, _, _, _⟩) (v := ?_) rfl (by kernel_rfl) (by kernel_rfl) (by kernel_rfl) (fun _ _ _ h => h) (Or.inl ⟨by rfl, ?_⟩) (by assumption) ?_
  rotate_left
  · (intro w hSw; (try dsimp only at hSw); go_split_ands; go_simp; try with_reducible rfl)
  try simp only [Act.put, List.setIfInBounds_toArray, List.set_cons_zero, List.set_cons_succ]
  refine wpAnyH_take (i := 5) (oi := ⟨some 24, _, _, _, _, _⟩) (v := ?_) rfl (by kernel_rfl) (by kernel_rfl) (by kernel_rfl) (fun _ _ _ h => h) (Or.inl ⟨by rfl, ?_⟩) (by assumption) ?_
  rotate_left
  · (intro w hSw; (try dsimp only at hSw); go_split_ands; go_simp; try with_reducible rfl)
  try simp only [Act.put, List.setIfInBounds_toArray, List.set_cons_zero, List.set_cons_succ]
  refine wpAnyH_take (i := 6) (oi := ⟨some 25, _, _, _, _, _⟩) (v := ?_) rfl (by kernel_rfl) (by kernel_rfl) (by kernel_rfl) (fun _ _ _ h => h) (Or.inl ⟨by rfl, ?_⟩) (by assumption) ?_
  rotate_left
  · (intro w hSw; (try dsimp only at hSw); go_split_ands; go_simp; try with_reducible rfl)
  try simp only [Act.put, List.setIfInBounds_toArray, List.set_cons_zero, List.set_cons_succ]
  refine wpAnyH_take (i := 7) (oi := ⟨some 5, _, _, _, _, _⟩) (v := ?_) rfl (by kernel_rfl) (by kernel_rfl) (by kernel_rfl) (fun _ _ _ h => h) (Or.inl ⟨by rfl, ?_⟩) (by assumption) ?_
  rotate_left
  · (intro w hSw; (try dsimp only at hSw); go_split_ands; go_simp; try with_reducible rfl)
  try simp only [Act.put, List.setIfInBounds_toArray, List.set_cons_zero, List.set_cons_succ]
  refine wpAnyH_take (i := 8) (oi := ⟨some 6, _, _, _, _, _⟩) (v := ?_) rfl (by kernel_rfl) (by kernel_rfl) (by kernel_rfl) (fun _ _ _ h => h) (Or.inl ⟨by rfl, ?_⟩) (by assumption) ?_
  rotate_left
  · (intro w hSw; (try dsimp only at hSw); go_split_ands; go_simp; try with_reducible rfl)
  try simp only [Act.put, List.setIfInBounds_toArray, List.set_cons_zero, List.set_cons_succ]
  refine wpAnyH_done (by kernel_rfl) ?_ _
  have HBL4 := Lib.hid (G.bl_trans HBL2.out hHeld.bl)
  have HXC := Lib.hid hHeld.bx
  clear hHeld HTD
  obtain ⟨w4, hw4⟩ : ∃ w4 : World, w4 = w8 := ⟨_, rfl⟩
  subst hw4
  have HBC := Lib.hid (Below.refl w4.heap.size w4)
  have HMY := Lib.hid (fun W (hW : Below w4.heap.size w4 W) => HLM.out W (G.bl_trans HBL4.out hW))
  have HLI := Lib.hid (fun W (hW : Below w4.heap.size w4 W) => lives_any W)
  rcases HC8.out with ⟨hk, hm, hL⟩ | ⟨hk, hm, hno, hL⟩ | ⟨hk, hm, hok, hL⟩
  · subst hk hL
    obtain rfl := HO8.out.zero
    rw [may_no hm] at HMY
    clear hm HC8
    go_wp2_with (first | (refine wpList_load_row_g (by rfl) 27 _ rfl g rfl _ cs (0, 0) _ HXC.out HFS.out rfl (by rw [HS.out]; exact sizeSt) ?_))
    refine (HMY.out _ HBC.out).mono ?_
    rintro e10 w10 ⟨rfl, hb10⟩
    have HN10 := Lib.hid hb10
    clear hb10
    have HBC := Lib.hid (G.bl_trans HBC.out HN10.out)
    go_wp2_with (first | fail)
    refine (HLI.out _ HBC.out).mono ?_
    rintro e11 w11 ⟨rfl, hb11⟩
    have HN11 := Lib.hid hb11
    clear hb11
    have HBC := Lib.hid (G.bl_trans HBC.out HN11.out)
    go_wp2_with fail
    go_ret
    exact ⟨rfl, G.bl_trans HBL4.out HBC.out⟩
  · subst hk hL
    obtain rfl := HO8.out.zero
    rw [may_yes hm] at HMY
    clear hm hno HC8
    go_wp2_with (first | (refine wpList_load_row_g (by rfl) 27 _ rfl g rfl _ cs (0, 0) _ HXC.out HFS.out rfl (by rw [HS.out]; exact sizeSt) ?_))
    refine (HMY.out _ HBC.out).mono ?_
    rintro e10 w10 ⟨rfl, hb10⟩
    have HN10 := Lib.hid hb10
    clear hb10
    have HBC := Lib.hid (G.bl_trans HBC.out HN10.out)
    go_wp2_with (first | fail)
    refine (HLI.out _ HBC.out).mono ?_
    rintro e11 w11 ⟨rfl, hb11⟩
    have HN11 := Lib.hid hb11
    clear hb11
    have HBC := Lib.hid (G.bl_trans HBC.out HN11.out)
    go_wp2_with fail
    go_ret
    exact ⟨rfl, G.bl_trans HBL4.out HBC.out⟩
  · subst hk
    have hle : L8.length ≤ 1 := by
      have h1 := congrArg List.length hL
      rw [List.length_map] at h1
      rw [h1]
      exact askEv_one s d
    rcases list_one hle with rfl | ⟨p, rfl⟩
    · obtain rfl := HO8.out.zero
      rw [may_yes hm] at HMY
      clear hm hok hL hle HC8
      go_wp2_with (first | (refine wpList_load_row_g (by rfl) 27 _ rfl g rfl _ cs (0, 0) _ HXC.out HFS.out rfl (by rw [HS.out]; exact sizeSt) ?_))
      refine (HMY.out _ HBC.out).mono ?_
      rintro e10 w10 ⟨rfl, hb10⟩
      have HN10 := Lib.hid hb10
      clear hb10
      have HBC := Lib.hid (G.bl_trans HBC.out HN10.out)
      go_wp2_with (first | fail)
      refine (HLI.out _ HBC.out).mono ?_
      rintro e11 w11 ⟨rfl, hb11⟩
      have HN11 := Lib.hid hb11
      clear hb11
      have HBC := Lib.hid (G.bl_trans HBC.out HN11.out)
      go_wp2_with fail
      go_ret
      exact ⟨rfl, G.bl_trans HBL4.out HBC.out⟩
    · obtain ⟨y9, e9⟩ := p
      have hL1 : askEv s d = [e9] := hL.symm
      obtain ⟨hpl, t, ht⟩ := askEv_fits hm hok e9 (by rw [hL1]; exact List.mem_singleton_self _)
      obtain ⟨hf9, hl9⟩ := askEv_range hm hok HDF.out.field HDF.out.order e9 (by rw [hL1]; exact List.mem_singleton_self _)
      have HST := Lib.hid (step_fits hpl ht)
      have HM := Lib.hid hm
      have HF9 := Lib.hid hf9
      have HL9 := Lib.hid hl9
      obtain ⟨hn8, b9, hA8, hev, hrd⟩ := HO8.out.one
      subst hn8 hA8
      simp only at hev hrd
      have HCE := Lib.hid (fun W (hW : Below w4.heap.size w4 W) => copyEvent_any y9 e9 W (RdEv.below hrd hW) hl9)
      obtain ⟨ce9, hce9⟩ : ∃ c, c = y9.arr e9 := ⟨_, rfl⟩
      have hv9 : y9.val e9 = .agg ce9 := by rw [hce9]; rfl
      rw [hv9] at HCE
      rw [← hce9] at hev
      have HLW := Lib.hid (show LwS w4 g cs b9 ce9 w4 from ⟨Below.refl _ _, HXC.out, hev, HS.out, by rw [hce9]; rfl, HXC.out.lt, hev.lt (by rw [hce9]; rfl)⟩)
      have HCP := Lib.hid (fun W (hW : Below w4.heap.size w4 W) => HCPw.out W (G.bl_trans HBL4.out hW))
      clear hm hok hL hle hL1 hpl ht hf9 hl9 hev hrd hce9 hv9 HC8
      go_upto_region 9 with (fail)
      go_cut [7, 8] from 9 to 77 (fun s7 s8 wx => CallRel w4 s (stepE s e9 false) s7 s8 wx)
      case first =>
        refine wp_region_held_drew (S := LwS w4 g cs b9 ce9) (by kernel_rfl) ?_ (fun hHeld => ?_)
        · exact LwS.below HLW.out (Below.refl _ _).drew
        refine wpAnyH_take (i := 0) (oi := ⟨some 59, _, _, _, _, _⟩) (v := ?_) rfl (by kernel_rfl) (by kernel_rfl) (by kernel_rfl) (fun _ _ _ h => h) (Or.inl ⟨by rfl, ?_⟩) (by assumption) ?_
        rotate_left
        · (intro w hSw; refine exec_load_held 27 (.tmp 2) ?_ g ?_ _ (run_st hSw.bx hSw.sx) <;> rfl)
        try simp only [Act.put, List.setIfInBounds_toArray, List.set_cons_zero, List.set_cons_succ]
        refine wpAnyH_take (i := 2) (oi := ⟨some 61, _, _, _, _, _⟩) (v := ?_) rfl (by kernel_rfl) (by kernel_rfl) (by kernel_rfl) (fun _ _ _ h => h) (Or.inl ⟨by rfl, ?_⟩) (by assumption) ?_
        rotate_left
        · (intro w hSw; (try dsimp only at hSw); go_split_ands; go_simp; try with_reducible rfl)
        try simp only [Act.put, List.setIfInBounds_toArray, List.set_cons_zero, List.set_cons_succ]
        refine wpAnyH_take (i := 3) (oi := ⟨some 62, _, _, _, _, _⟩) (v := ?_) rfl (by kernel_rfl) (by kernel_rfl) (by kernel_rfl) (fun _ _ _ h => h) (Or.inl ⟨by rfl, ?_⟩) (by assumption) ?_
        rotate_left
        · (intro w hSw; (try dsimp only at hSw); go_split_ands; go_simp; try with_reducible rfl)
        try simp only [Act.put, List.setIfInBounds_toArray, List.set_cons_zero, List.set_cons_succ]
        refine wpAnyH_take (i := 4) (oi := ⟨some 63, _, _, _, _, _⟩) (v := ?_) rfl (by kernel_rfl) (by kernel_rfl) (by kernel_rfl) (fun _ _ _ h => h) (Or.inl ⟨by rfl, ?_⟩) (by assumption) ?_
        rotate_left
        · (intro w hSw; refine exec_load_held 30 (.tmp 62) ?_ b9 ?_ _ hSw.be.1 <;> rfl)
        try simp only [Act.put, List.setIfInBounds_toArray, List.set_cons_zero, List.set_cons_succ]
        refine wpAnyH_ready (rs := [1, 10]) (by kernel_rfl) (by simp) ?_
        refine AllReadyH.cons rfl (fun K hK => ?_) ?_
        · go_simp
          (refine (HCP.out _ hHeld.bl).mono ?_; rintro e6 w6 hp6; obtain ⟨x6, rfl, ho6, hb6⟩ := hp6; have HB6 := Lib.hid hb6; have HO6 := Lib.hid ho6.rd; clear ho6 hb6)
          go_wp2_with fail
          refine hK.out _ _ ?_ (fun hHeld => ?_)
          · exact LwS.below (by assumption) HB6.out
          clear hK K
          try simp only [Act.put, List.setIfInBounds_toArray, List.set_cons_zero, List.set_cons_succ]
          refine wpAnyH_ready (rs := [5, 10]) (by kernel_rfl) (by simp) ?_
          refine AllReadyH.cons rfl (fun K hK => ?_) ?_
          · go_simp
            (refine (HCE.out _ hHeld.bl).mono ?_; rintro e7 w7 hp7; obtain ⟨y7, rfl, ho7, hb7⟩ := hp7; have HB7 := Lib.hid hb7; have HO7 := Lib.hid ho7.rd; clear ho7 hb7)
            go_wp2_with fail
            refine hK.out _ _ ?_ (fun hHeld => ?_)
            · exact LwS.below (by assumption) HB7.out
            clear hK K
            try simp only [Act.put, List.setIfInBounds_toArray, List.set_cons_zero, List.set_cons_succ]
            refine wpAnyH_ready (rs := [6, 10]) (by kernel_rfl) (by simp) ?_
            refine AllReadyH.cons rfl (fun K hK => ?_) ?_
            · go_simp
              (refine (apply_any x6 s y7 e9 _ (HO6.out.below (by first | exact Below.refl _ _ | exact G.bl_alloc (Below.refl _ _) _ | exact HB7.out | exact G.bl_alloc HB7.out _ | exact G.bl_trans (G.bl_alloc (Below.refl _ _) _) HB7.out)) HSZ.out (RdEv.below HO7.out (by first | exact Below.refl _ _ | exact G.bl_alloc (Below.refl _ _) _ | exact HB6.out | exact G.bl_alloc HB6.out _ | exact G.bl_trans (G.bl_alloc (Below.refl _ _) _) HB6.out)) HF9.out HL9.out).mono ?_; rintro e8 w8 hp8; obtain ⟨x8, t8, k8, rfl, ho8, hb8, hc8⟩ := hp8; have HB8 := Lib.hid hb8; have HO8 := Lib.hid ho8; have HC8 := Lib.hid hc8; clear ho8 hb8 hc8)
              go_wp2_with fail
              refine hK.out _ _ ?_ (fun hHeld => ?_)
              · exact LwS.below (by assumption) HB8.out
              clear hK K
              try simp only [Act.put, List.setIfInBounds_toArray, List.set_cons_zero, List.set_cons_succ]
              refine wpAnyH_take (i := 7) (oi := ⟨some 58, _, _, _, _, _⟩) (v := ?_) rfl (by kernel_rfl) (by kernel_rfl) (by kernel_rfl) (fun _ _ _ h => h) (Or.inl ⟨by rfl, ?_⟩) (by assumption) ?_
              rotate_left
              · (intro w hSw; (try dsimp only at hSw); go_split_ands; go_simp; try with_reducible rfl)
              try simp only [Act.put, List.setIfInBounds_toArray, List.set_cons_zero, List.set_cons_succ]
              refine wpAnyH_take (i := 8) (oi := ⟨some 66, _, _, _, _, _⟩) (v := ?_) rfl (by kernel_rfl) (by kernel_rfl) (by kernel_rfl) (fun _ _ _ h => h) (Or.inl ⟨by rfl, ?_⟩) (by assumption) ?_
              rotate_left
              · (intro w hSw; (try dsimp only at hSw); go_split_ands; go_simp; try with_reducible rfl)
              try simp only [Act.put, List.setIfInBounds_toArray, List.set_cons_zero, List.set_cons_succ]
              refine wpAnyH_take (i := 9) (oi := ⟨some 67, _, _, _, _, _⟩) (v := ?_) rfl (by kernel_rfl) (by kernel_rfl) (by kernel_rfl) (fun _ _ _ h => h) (Or.inl ⟨by rfl, ?_⟩) (by assumption) ?_
              rotate_left
              · (intro w hSw; (try dsimp only at hSw); go_split_ands; go_simp; try with_reducible rfl)
              try simp only [Act.put, List.setIfInBounds_toArray, List.set_cons_zero, List.set_cons_succ]
              refine wpAnyH_ready (rs := [10]) (by kernel_rfl) (by simp) ?_
              refine AllReadyH.cons rfl (fun K hK => ?_) AllReadyH.nil
              go_simp
              go_wp2_with fail
              refine hK.out _ _ ?_ (fun hHeld => ?_)
              · exact LwS.below (by assumption) (G.bl_alloc (Below.refl _ _) _)
              clear hK K
              try simp only [Act.put, List.setIfInBounds_toArray, List.set_cons_zero, List.set_cons_succ]
              refine wpAnyH_ready (rs := [11]) (by kernel_rfl) (by simp) ?_
              refine AllReadyH.cons rfl (fun K hK => ?_) AllReadyH.nil
              first | (refine wp_store_row 27 (.tmp 7) (.tmp 66) rfl _ (x8.arr t8) rfl rfl 27 #[.slice none 0 0, .slice none 0 0, .slice none 0 0, .int .i32 0, .int .i64 0, .int .i8 0, .int .i64 0] (heap_alloc_new _ _) (by kernel_rfl) rfl (arr_one _ _) ?_) | (refine wp_store_row 27 (.tmp 7) (.tmp 66) rfl _ (x8.arr t8) rfl rfl 27 #[.slice none 0 0, .slice none 0 0, .slice none 0 0, .int .i32 0, .int .i64 0, .int .i8 0, .int .i64 0] (blk_after HB8.out) (by kernel_rfl) rfl (arr_one _ _) ?_) | (refine wp_store_row 27 (.tmp 7) (.tmp 66) rfl _ (x8.arr t8) rfl rfl 27 #[.slice none 0 0, .slice none 0 0, .slice none 0 0, .int .i32 0, .int .i64 0, .int .i8 0, .int .i64 0] (blk_after2 HB6.out HB8.out) (by kernel_rfl) rfl (arr_one _ _) ?_) | (refine wp_store_row 27 (.tmp 7) (.tmp 66) rfl _ (x8.arr t8) rfl rfl 27 #[.slice none 0 0, .slice none 0 0, .slice none 0 0, .int .i32 0, .int .i64 0, .int .i8 0, .int .i64 0] (blk_after2 HB7.out HB8.out) (by kernel_rfl) rfl (arr_one _ _) ?_) | (refine wp_store_row 27 (.tmp 7) (.tmp 66) rfl _ (x8.arr t8) rfl rfl 27 #[.slice none 0 0, .slice none 0 0, .slice none 0 0, .int .i32 0, .int .i64 0, .int .i8 0, .int .i64 0] (blk_after2 HB6.out (G.bl_trans HB7.out HB8.out)) (by kernel_rfl) rfl (arr_one _ _) ?_) | (refine wp_store_row 27 (.tmp 7) (.tmp 66) rfl _ (x8.arr t8) rfl rfl 27 #[.slice none 0 0, .slice none 0 0, .slice none 0 0, .int .i32 0, .int .i64 0, .int .i8 0, .int .i64 0] (blk_after3 HB6.out (G.bl_trans HB7.out HB8.out)) (by kernel_rfl) rfl (arr_one _ _) ?_) | (refine wp_store_row 27 (.tmp 7) (.tmp 66) rfl _ (x8.arr t8) rfl rfl 27 #[.slice none 0 0, .slice none 0 0, .slice none 0 0, .int .i32 0, .int .i64 0, .int .i8 0, .int .i64 0] (blk_after3 HB7.out (G.bl_trans HB6.out HB8.out)) (by kernel_rfl) rfl (arr_one _ _) ?_)
              try simp only [Act.put, List.getElem_toArray, List.getElem_cons_succ, List.getElem_cons_zero]
              refine hK.out _ _ ?_ (fun hHeld => ?_)
              · exact LwS.row (by assumption) (by have s6 := HB6.out.size; have s7 := HB7.out.size; have s8 := HB8.out.size; first | omega | (simp at s6 s7 s8 ⊢; omega))
              clear hK K
              try simp only [Act.put, List.setIfInBounds_toArray, List.set_cons_zero, List.set_cons_succ]
              refine wpAnyH_take (i := 12) (oi := ⟨some 8, _, _, _, _, _⟩) (v := ?_) rfl (by kernel_rfl) (by kernel_rfl) (by kernel_rfl) (fun _ _ _ h => h) (Or.inl ⟨by rfl, ?_⟩) (by assumption) ?_
              rotate_left
              · (intro w hSw; (try dsimp only at hSw); go_split_ands; go_simp; try with_reducible rfl)
              try simp only [Act.put, List.setIfInBounds_toArray, List.set_cons_zero, List.set_cons_succ]
              refine wpAnyH_done (by kernel_rfl) ?_ _
              go_wp2_with fail
              go_meet
              case rel => first | exact callRel_mk (HO8.out.below (G.bl_alloc (Below.refl _ _) _)) hHeld.bl (G.Blk.new _ _ _) (by have s6 := HB6.out.size; have s7 := HB7.out.size; have s8 := HB8.out.size; first | omega | (simp at s6 s7 s8 ⊢; omega)) HC8.out | exact callRel_mk HO8.out hHeld.bl (blk_after HB8.out) (by have s6 := HB6.out.size; have s7 := HB7.out.size; have s8 := HB8.out.size; first | omega | (simp at s6 s7 s8 ⊢; omega)) HC8.out | exact callRel_mk HO8.out hHeld.bl (blk_after2 HB6.out HB8.out) (by have s6 := HB6.out.size; have s7 := HB7.out.size; have s8 := HB8.out.size; first | omega | (simp at s6 s7 s8 ⊢; omega)) HC8.out | exact callRel_mk HO8.out hHeld.bl (blk_after2 HB7.out HB8.out) (by have s6 := HB6.out.size; have s7 := HB7.out.size; have s8 := HB8.out.size; first | omega | (simp at s6 s7 s8 ⊢; omega)) HC8.out | exact callRel_mk HO8.out hHeld.bl (blk_after2 HB6.out (G.bl_trans HB7.out HB8.out)) (by have s6 := HB6.out.size; have s7 := HB7.out.size; have s8 := HB8.out.size; first | omega | (simp at s6 s7 s8 ⊢; omega)) HC8.out | exact callRel_mk HO8.out hHeld.bl (blk_after3 HB6.out (G.bl_trans HB7.out HB8.out)) (by have s6 := HB6.out.size; have s7 := HB7.out.size; have s8 := HB8.out.size; first | omega | (simp at s6 s7 s8 ⊢; omega)) HC8.out | exact callRel_mk HO8.out hHeld.bl (blk_after3 HB7.out (G.bl_trans HB6.out HB8.out)) (by have s6 := HB6.out.size; have s7 := HB7.out.size; have s8 := HB8.out.size; first | omega | (simp at s6 s7 s8 ⊢; omega)) HC8.out
            refine AllReadyH.cons rfl (fun K hK => ?_) ?_
            · go_simp
              go_wp2_with fail
              refine hK.out _ _ ?_ (fun hHeld => ?_)
              · exact LwS.below (by assumption) (G.bl_alloc (Below.refl _ _) _)
              clear hK K
              try simp only [Act.put, List.setIfInBounds_toArray, List.set_cons_zero, List.set_cons_succ]
              refine wpAnyH_ready (rs := [6]) (by kernel_rfl) (by simp) ?_
              refine AllReadyH.cons rfl (fun K hK => ?_) AllReadyH.nil
              go_simp
              (refine (apply_any x6 s y7 e9 _ (HO6.out.below (by first | exact Below.refl _ _ | exact G.bl_alloc (Below.refl _ _) _ | exact HB7.out | exact G.bl_alloc HB7.out _ | exact G.bl_trans (G.bl_alloc (Below.refl _ _) _) HB7.out)) HSZ.out (RdEv.below HO7.out (by first | exact Below.refl _ _ | exact G.bl_alloc (Below.refl _ _) _ | exact HB6.out | exact G.bl_alloc HB6.out _ | exact G.bl_trans (G.bl_alloc (Below.refl _ _) _) HB6.out)) HF9.out HL9.out).mono ?_; rintro e8 w8 hp8; obtain ⟨x8, t8, k8, rfl, ho8, hb8, hc8⟩ := hp8; have HB8 := Lib.hid hb8; have HO8 := Lib.hid ho8; have HC8 := Lib.hid hc8; clear ho8 hb8 hc8)
              go_wp2_with fail
              refine hK.out _ _ ?_ (fun hHeld => ?_)
              · exact LwS.below (by assumption) HB8.out
              clear hK K
              try simp only [Act.put, List.setIfInBounds_toArray, List.set_cons_zero, List.set_cons_succ]
              refine wpAnyH_take (i := 7) (oi := ⟨some 58, _, _, _, _, _⟩) (v := ?_) rfl (by kernel_rfl) (by kernel_rfl) (by kernel_rfl) (fun _ _ _ h => h) (Or.inl ⟨by rfl, ?_⟩) (by assumption) ?_
              rotate_left
              · (intro w hSw; (try dsimp only at hSw); go_split_ands; go_simp; try with_reducible rfl)
              try simp only [Act.put, List.setIfInBounds_toArray, List.set_cons_zero, List.set_cons_succ]
              refine wpAnyH_take (i := 8) (oi := ⟨some 66, _, _, _, _, _⟩) (v := ?_) rfl (by kernel_rfl) (by kernel_rfl) (by kernel_rfl) (fun _ _ _ h => h) (Or.inl ⟨by rfl, ?_⟩) (by assumption) ?_
              rotate_left
              · (intro w hSw; (try dsimp only at hSw); go_split_ands; go_simp; try with_reducible rfl)
              try simp only [Act.put, List.setIfInBounds_toArray, List.set_cons_zero, List.set_cons_succ]
              refine wpAnyH_take (i := 9) (oi := ⟨some 67, _, _, _, _, _⟩) (v := ?_) rfl (by kernel_rfl) (by kernel_rfl) (by kernel_rfl) (fun _ _ _ h => h) (Or.inl ⟨by rfl, ?_⟩) (by assumption) ?_
              rotate_left
              · (intro w hSw; (try dsimp only at hSw); go_split_ands; go_simp; try with_reducible rfl)
              try simp only [Act.put, List.setIfInBounds_toArray, List.set_cons_zero, List.set_cons_succ]
              refine wpAnyH_ready (rs := [11]) (by kernel_rfl) (by simp) ?_
              refine AllReadyH.cons rfl (fun K hK => ?_) AllReadyH.nil
              first | (refine wp_store_row 27 (.tmp 7) (.tmp 66) rfl _ (x8.arr t8) rfl rfl 27 #[.slice none 0 0, .slice none 0 0, .slice none 0 0, .int .i32 0, .int .i64 0, .int .i8 0, .int .i64 0] (heap_alloc_new _ _) (by kernel_rfl) rfl (arr_one _ _) ?_) | (refine wp_store_row 27 (.tmp 7) (.tmp 66) rfl _ (x8.arr t8) rfl rfl 27 #[.slice none 0 0, .slice none 0 0, .slice none 0 0, .int .i32 0, .int .i64 0, .int .i8 0, .int .i64 0] (blk_after HB8.out) (by kernel_rfl) rfl (arr_one _ _) ?_) | (refine wp_store_row 27 (.tmp 7) (.tmp 66) rfl _ (x8.arr t8) rfl rfl 27 #[.slice none 0 0, .slice none 0 0, .slice none 0 0, .int .i32 0, .int .i64 0, .int .i8 0, .int .i64 0] (blk_after2 HB6.out HB8.out) (by kernel_rfl) rfl (arr_one _ _) ?_) | (refine wp_store_row 27 (.tmp 7) (.tmp 66) rfl _ (x8.arr t8) rfl rfl 27 #[.slice none 0 0, .slice none 0 0, .slice none 0 0, .int .i32 0, .int .i64 0, .int .i8 0, .int .i64 0] (blk_after2 HB7.out HB8.out) (by kernel_rfl) rfl (arr_one _ _) ?_) | (refine wp_store_row 27 (.tmp 7) (.tmp 66) rfl _ (x8.arr t8) rfl rfl 27 #[.slice none 0 0, .slice none 0 0, .slice none 0 0, .int .i32 0, .int .i64 0, .int .i8 0, .int .i64 0] (blk_after2 HB6.out (G.bl_trans HB7.out HB8.out)) (by kernel_rfl) rfl (arr_one _ _) ?_) | (refine wp_store_row 27 (.tmp 7) (.tmp 66) rfl _ (x8.arr t8) rfl rfl 27 #[.slice none 0 0, .slice none 0 0, .slice none 0 0, .int .i32 0, .int .i64 0, .int .i8 0, .int .i64 0] (blk_after3 HB6.out (G.bl_trans HB7.out HB8.out)) (by kernel_rfl) rfl (arr_one _ _) ?_) | (refine wp_store_row 27 (.tmp 7) (.tmp 66) rfl _ (x8.arr t8) rfl rfl 27 #[.slice none 0 0, .slice none 0 0, .slice none 0 0, .int .i32 0, .int .i64 0, .int .i8 0, .int .i64 0] (blk_after3 HB7.out (G.bl_trans HB6.out HB8.out)) (by kernel_rfl) rfl (arr_one _ _) ?_)
              try simp only [Act.put, List.getElem_toArray, List.getElem_cons_succ, List.getElem_cons_zero]
              refine hK.out _ _ ?_ (fun hHeld => ?_)
              · exact LwS.row (by assumption) (by have s6 := HB6.out.size; have s7 := HB7.out.size; have s8 := HB8.out.size; first | omega | (simp at s6 s7 s8 ⊢; omega))
              clear hK K
              try simp only [Act.put, List.setIfInBounds_toArray, List.set_cons_zero, List.set_cons_succ]
              refine wpAnyH_take (i := 12) (oi := ⟨some 8, _, _, _, _, _⟩) (v := ?_) rfl (by kernel_rfl) (by kernel_rfl) (by kernel_rfl) (fun _ _ _ h => h) (Or.inl ⟨by rfl, ?_⟩) (by assumption) ?_
              rotate_left
              · (intro w hSw; (try dsimp only at hSw); go_split_ands; go_simp; try with_reducible rfl)
              try simp only [Act.put, List.setIfInBounds_toArray, List.set_cons_zero, List.set_cons_succ]
              refine wpAnyH_done (by kernel_rfl) ?_ _
              go_wp2_with fail
              go_meet
              case rel => first | exact callRel_mk (HO8.out.below (G.bl_alloc (Below.refl _ _) _)) hHeld.bl (G.Blk.new _ _ _) (by have s6 := HB6.out.size; have s7 := HB7.out.size; have s8 := HB8.out.size; first | omega | (simp at s6 s7 s8 ⊢; omega)) HC8.out | exact callRel_mk HO8.out hHeld.bl (blk_after HB8.out) (by have s6 := HB6.out.size; have s7 := HB7.out.size; have s8 := HB8.out.size; first | omega | (simp at s6 s7 s8 ⊢; omega)) HC8.out | exact callRel_mk HO8.out hHeld.bl (blk_after2 HB6.out HB8.out) (by have s6 := HB6.out.size; have s7 := HB7.out.size; have s8 := HB8.out.size; first | omega | (simp at s6 s7 s8 ⊢; omega)) HC8.out | exact callRel_mk HO8.out hHeld.bl (blk_after2 HB7.out HB8.out) (by have s6 := HB6.out.size; have s7 := HB7.out.size; have s8 := HB8.out.size; first | omega | (simp at s6 s7 s8 ⊢; omega)) HC8.out | exact callRel_mk HO8.out hHeld.bl (blk_after2 HB6.out (G.bl_trans HB7.out HB8.out)) (by have s6 := HB6.out.size; have s7 := HB7.out.size; have s8 := HB8.out.size; first | omega | (simp at s6 s7 s8 ⊢; omega)) HC8.out | exact callRel_mk HO8.out hHeld.bl (blk_after3 HB6.out (G.bl_trans HB7.out HB8.out)) (by have s6 := HB6.out.size; have s7 := HB7.out.size; have s8 := HB8.out.size; first | omega | (simp at s6 s7 s8 ⊢; omega)) HC8.out | exact callRel_mk HO8.out hHeld.bl (blk_after3 HB7.out (G.bl_trans HB6.out HB8.out)) (by have s6 := HB6.out.size; have s7 := HB7.out.size; have s8 := HB8.out.size; first | omega | (simp at s6 s7 s8 ⊢; omega)) HC8.out
            exact AllReadyH.nil
          refine AllReadyH.cons rfl (fun K hK => ?_) ?_
          · go_simp
            go_wp2_with fail
            refine hK.out _ _ ?_ (fun hHeld => ?_)
            · exact LwS.below (by assumption) (G.bl_alloc (Below.refl _ _) _)
            clear hK K
            try simp only [Act.put, List.setIfInBounds_toArray, List.set_cons_zero, List.set_cons_succ]
            refine wpAnyH_ready (rs := [5]) (by kernel_rfl) (by simp) ?_
            refine AllReadyH.cons rfl (fun K hK => ?_) AllReadyH.nil
            go_simp
            (refine (HCE.out _ hHeld.bl).mono ?_; rintro e7 w7 hp7; obtain ⟨y7, rfl, ho7, hb7⟩ := hp7; have HB7 := Lib.hid hb7; have HO7 := Lib.hid ho7.rd; clear ho7 hb7)
            go_wp2_with fail
            refine hK.out _ _ ?_ (fun hHeld => ?_)
            · exact LwS.below (by assumption) HB7.out
            clear hK K
            try simp only [Act.put, List.setIfInBounds_toArray, List.set_cons_zero, List.set_cons_succ]
            refine wpAnyH_ready (rs := [6]) (by kernel_rfl) (by simp) ?_
            refine AllReadyH.cons rfl (fun K hK => ?_) AllReadyH.nil
            go_simp
            (refine (apply_any x6 s y7 e9 _ (HO6.out.below (by first | exact Below.refl _ _ | exact G.bl_alloc (Below.refl _ _) _ | exact HB7.out | exact G.bl_alloc HB7.out _ | exact G.bl_trans (G.bl_alloc (Below.refl _ _) _) HB7.out)) HSZ.out (RdEv.below HO7.out (by first | exact Below.refl _ _ | exact G.bl_alloc (Below.refl _ _) _ | exact HB6.out | exact G.bl_alloc HB6.out _ | exact G.bl_trans (G.bl_alloc (Below.refl _ _) _) HB6.out)) HF9.out HL9.out).mono ?_; rintro e8 w8 hp8; obtain ⟨x8, t8, k8, rfl, ho8, hb8, hc8⟩ := hp8; have HB8 := Lib.hid hb8; have HO8 := Lib.hid ho8; have HC8 := Lib.hid hc8; clear ho8 hb8 hc8)
            go_wp2_with fail
            refine hK.out _ _ ?_ (fun hHeld => ?_)
            · exact LwS.below (by assumption) HB8.out
            clear hK K
            try simp only [Act.put, List.setIfInBounds_toArray, List.set_cons_zero, List.set_cons_succ]
            refine wpAnyH_take (i := 7) (oi := ⟨some 58, _, _, _, _, _⟩) (v := ?_) rfl (by kernel_rfl) (by kernel_rfl) (by kernel_rfl) (fun _ _ _ h => h) (Or.inl ⟨by rfl, ?_⟩) (by assumption) ?_
            rotate_left
            · (intro w hSw; (try dsimp only at hSw); go_split_ands; go_simp; try with_reducible rfl)
            try simp only [Act.put, List.setIfInBounds_toArray, List.set_cons_zero, List.set_cons_succ]
            refine wpAnyH_take (i := 8) (oi := ⟨some 66, _, _, _, _, _⟩) (v := ?_) rfl (by kernel_rfl) (by kernel_rfl) (by kernel_rfl) (fun _ _ _ h => h) (Or.inl ⟨by rfl, ?_⟩) (by assumption) ?_
            rotate_left
            · (intro w hSw; (try dsimp only at hSw); go_split_ands; go_simp; try with_reducible rfl)
            try simp only [Act.put, List.setIfInBounds_toArray, List.set_cons_zero, List.set_cons_succ]
            refine wpAnyH_take (i := 9) (oi := ⟨some 67, _, _, _, _, _⟩) (v := ?_) rfl (by kernel_rfl) (by kernel_rfl) (by kernel_rfl) (fun _ _ _ h => h) (Or.inl ⟨by rfl, ?_⟩) (by assumption) ?_
            rotate_left
            · (intro w hSw; (try dsimp only at hSw); go_split_ands; go_simp; try with_reducible rfl)
            try simp only [Act.put, List.setIfInBounds_toArray, List.set_cons_zero, List.set_cons_succ]
            refine wpAnyH_ready (rs := [11]) (by kernel_rfl) (by simp) ?_
            refine AllReadyH.cons rfl (fun K hK => ?_) AllReadyH.nil
            first | (refine wp_store_row 27 (.tmp 7) (.tmp 66) rfl _ (x8.arr t8) rfl rfl 27 #[.slice none 0 0, .slice none 0 0, .slice none 0 0, .int .i32 0, .int .i64 0, .int .i8 0, .int .i64 0] (heap_alloc_new _ _) (by kernel_rfl) rfl (arr_one _ _) ?_) | (refine wp_store_row 27 (.tmp 7) (.tmp 66) rfl _ (x8.arr t8) rfl rfl 27 #[.slice none 0 0, .slice none 0 0, .slice none 0 0, .int .i32 0, .int .i64 0, .int .i8 0, .int .i64 0] (blk_after HB8.out) (by kernel_rfl) rfl (arr_one _ _) ?_) | (refine wp_store_row 27 (.tmp 7) (.tmp 66) rfl _ (x8.arr t8) rfl rfl 27 #[.slice none 0 0, .slice none 0 0, .slice none 0 0, .int .i32 0, .int .i64 0, .int .i8 0, .int .i64 0] (blk_after2 HB6.out HB8.out) (by kernel_rfl) rfl (arr_one _ _) ?_) | (refine wp_store_row 27 (.tmp 7) (.tmp 66) rfl _ (x8.arr t8) rfl rfl 27 #[.slice none 0 0, .slice none 0 0, .slice none 0 0, .int .i32 0, .int .i64 0, .int .i8 0, .int .i64 0] (blk_after2 HB7.out HB8.out) (by kernel_rfl) rfl (arr_one _ _) ?_) | (refine wp_store_row 27 (.tmp 7) (.tmp 66) rfl _ (x8.arr t8) rfl rfl 27 #[.slice none 0 0, .slice none 0 0, .slice none 0 0, .int .i32 0, .int .i64 0, .int .i8 0, .int .i64 0] (blk_after2 HB6.out (G.bl_trans HB7.out HB8.out)) (by kernel_rfl) rfl (arr_one _ _) ?_) | (refine wp_store_row 27 (.tmp 7) (.tmp 66) rfl _ (x8.arr t8) rfl rfl 27 #[.slice none 0 0, .slice none 0 0, .slice none 0 0, .int .i32 0, .int .i64 0, .int .i8 0, .int .i64 0] (blk_after3 HB6.out (G.bl_trans HB7.out HB8.out)) (by kernel_rfl) rfl (arr_one _ _) ?_) | (refine wp_store_row 27 (.tmp 7) (.tmp 66) rfl _ (x8.arr t8) rfl rfl 27 #[.slice none 0 0, .slice none 0 0, .slice none 0 0, .int .i32 0, .int .i64 0, .int .i8 0, .int .i64 0] (blk_after3 HB7.out (G.bl_trans HB6.out HB8.out)) (by kernel_rfl) rfl (arr_one _ _) ?_)
            try simp only [Act.put, List.getElem_toArray, List.getElem_cons_succ, List.getElem_cons_zero]
            refine hK.out _ _ ?_ (fun hHeld => ?_)
            · exact LwS.row (by assumption) (by have s6 := HB6.out.size; have s7 := HB7.out.size; have s8 := HB8.out.size; first | omega | (simp at s6 s7 s8 ⊢; omega))
            clear hK K
            try simp only [Act.put, List.setIfInBounds_toArray, List.set_cons_zero, List.set_cons_succ]
            refine wpAnyH_take (i := 12) (oi := ⟨some 8, _, _, _, _, _⟩) (v := ?_) rfl (by kernel_rfl) (by kernel_rfl) (by kernel_rfl) (fun _ _ _ h => h) (Or.inl ⟨by rfl, ?_⟩) (by assumption) ?_
            rotate_left
            · (intro w hSw; (try dsimp only at hSw); go_split_ands; go_simp; try with_reducible rfl)
            try simp only [Act.put, List.setIfInBounds_toArray, List.set_cons_zero, List.set_cons_succ]
            refine wpAnyH_done (by kernel_rfl) ?_ _
            go_wp2_with fail
            go_meet
            case rel => first | exact callRel_mk (HO8.out.below (G.bl_alloc (Below.refl _ _) _)) hHeld.bl (G.Blk.new _ _ _) (by have s6 := HB6.out.size; have s7 := HB7.out.size; have s8 := HB8.out.size; first | omega | (simp at s6 s7 s8 ⊢; omega)) HC8.out | exact callRel_mk HO8.out hHeld.bl (blk_after HB8.out) (by have s6 := HB6.out.size; have s7 := HB7.out.size; have s8 := HB8.out.size; first | omega | (simp at s6 s7 s8 ⊢; omega)) HC8.out | exact callRel_mk HO8.out hHeld.bl (blk_after2 HB6.out HB8.out) (by have s6 := HB6.out.size; have s7 := HB7.out.size; have s8 := HB8.out.size; first | omega | (simp at s6 s7 s8 ⊢; omega)) HC8.out | exact callRel_mk HO8.out hHeld.bl (blk_after2 HB7.out HB8.out) (by have s6 := HB6.out.size; have s7 := HB7.out.size; have s8 := HB8.out.size; first | omega | (simp at s6 s7 s8 ⊢; omega)) HC8.out | exact callRel_mk HO8.out hHeld.bl (blk_after2 HB6.out (G.bl_trans HB7.out HB8.out)) (by have s6 := HB6.out.size; have s7 := HB7.out.size; have s8 := HB8.out.size; first | omega | (simp at s6 s7 s8 ⊢; omega)) HC8.out | exact callRel_mk HO8.out hHeld.bl (blk_after3 HB6.out (G.bl_trans HB7.out HB8.out)) (by have s6 := HB6.out.size; have s7 := HB7.out.size; have s8 := HB8.out.size; first | omega | (simp at s6 s7 s8 ⊢; omega)) HC8.out | exact callRel_mk HO8.out hHeld.bl (blk_after3 HB7.out (G.bl_trans HB6.out HB8.out)) (by have s6 := HB6.out.size; have s7 := HB7.out.size; have s8 := HB8.out.size; first | omega | (simp at s6 s7 s8 ⊢; omega)) HC8.out
          exact AllReadyH.nil
        refine AllReadyH.cons rfl (fun K hK => ?_) ?_
        · go_simp
          go_wp2_with fail
          refine hK.out _ _ ?_ (fun hHeld => ?_)
          · exact LwS.below (by assumption) (G.bl_alloc (Below.refl _ _) _)
          clear hK K
          try simp only [Act.put, List.setIfInBounds_toArray, List.set_cons_zero, List.set_cons_succ]
          refine wpAnyH_ready (rs := [1]) (by kernel_rfl) (by simp) ?_
          refine AllReadyH.cons rfl (fun K hK => ?_) AllReadyH.nil
          go_simp
          (refine (HCP.out _ hHeld.bl).mono ?_; rintro e6 w6 hp6; obtain ⟨x6, rfl, ho6, hb6⟩ := hp6; have HB6 := Lib.hid hb6; have HO6 := Lib.hid ho6.rd; clear ho6 hb6)
          go_wp2_with fail
          refine hK.out _ _ ?_ (fun hHeld => ?_)
          · exact LwS.below (by assumption) HB6.out
          clear hK K
          try simp only [Act.put, List.setIfInBounds_toArray, List.set_cons_zero, List.set_cons_succ]
          refine wpAnyH_ready (rs := [5]) (by kernel_rfl) (by simp) ?_
          refine AllReadyH.cons rfl (fun K hK => ?_) AllReadyH.nil
          go_simp
          (refine (HCE.out _ hHeld.bl).mono ?_; rintro e7 w7 hp7; obtain ⟨y7, rfl, ho7, hb7⟩ := hp7; have HB7 := Lib.hid hb7; have HO7 := Lib.hid ho7.rd; clear ho7 hb7)
          go_wp2_with fail
          refine hK.out _ _ ?_ (fun hHeld => ?_)
          · exact LwS.below (by assumption) HB7.out
          clear hK K
          try simp only [Act.put, List.setIfInBounds_toArray, List.set_cons_zero, List.set_cons_succ]
          refine wpAnyH_ready (rs := [6]) (by kernel_rfl) (by simp) ?_
          refine AllReadyH.cons rfl (fun K hK => ?_) AllReadyH.nil
          go_simp
          (refine (apply_any x6 s y7 e9 _ (HO6.out.below (by first | exact Below.refl _ _ | exact G.bl_alloc (Below.refl _ _) _ | exact HB7.out | exact G.bl_alloc HB7.out _ | exact G.bl_trans (G.bl_alloc (Below.refl _ _) _) HB7.out)) HSZ.out (RdEv.below HO7.out (by first | exact Below.refl _ _ | exact G.bl_alloc (Below.refl _ _) _ | exact HB6.out | exact G.bl_alloc HB6.out _ | exact G.bl_trans (G.bl_alloc (Below.refl _ _) _) HB6.out)) HF9.out HL9.out).mono ?_; rintro e8 w8 hp8; obtain ⟨x8, t8, k8, rfl, ho8, hb8, hc8⟩ := hp8; have HB8 := Lib.hid hb8; have HO8 := Lib.hid ho8; have HC8 := Lib.hid hc8; clear ho8 hb8 hc8)
          go_wp2_with fail
          refine hK.out _ _ ?_ (fun hHeld => ?_)
          · exact LwS.below (by assumption) HB8.out
          clear hK K
          try simp only [Act.put, List.setIfInBounds_toArray, List.set_cons_zero, List.set_cons_succ]
          refine wpAnyH_take (i := 7) (oi := ⟨some 58, _, _, _, _, _⟩) (v := ?_) rfl (by kernel_rfl) (by kernel_rfl) (by kernel_rfl) (fun _ _ _ h => h) (Or.inl ⟨by rfl, ?_⟩) (by assumption) ?_
          rotate_left
          · (intro w hSw; (try dsimp only at hSw); go_split_ands; go_simp; try with_reducible rfl)
          try simp only [Act.put, List.setIfInBounds_toArray, List.set_cons_zero, List.set_cons_succ]
          refine wpAnyH_take (i := 8) (oi := ⟨some 66, _, _, _, _, _⟩) (v := ?_) rfl (by kernel_rfl) (by kernel_rfl) (by kernel_rfl) (fun _ _ _ h => h) (Or.inl ⟨by rfl, ?_⟩) (by assumption) ?_
          rotate_left
          · (intro w hSw; (try dsimp only at hSw); go_split_ands; go_simp; try with_reducible rfl)
          try simp only [Act.put, List.setIfInBounds_toArray, List.set_cons_zero, List.set_cons_succ]
          refine wpAnyH_take (i := 9) (oi := ⟨some 67, _, _, _, _, _⟩) (v := ?_) rfl (by kernel_rfl) (by kernel_rfl) (by kernel_rfl) (fun _ _ _ h => h) (Or.inl ⟨by rfl, ?_⟩) (by assumption) ?_
          rotate_left
          · (intro w hSw; (try dsimp only at hSw); go_split_ands; go_simp; try with_reducible rfl)
          try simp only [Act.put, List.setIfInBounds_toArray, List.set_cons_zero, List.set_cons_succ]
          refine wpAnyH_ready (rs := [11]) (by kernel_rfl) (by simp) ?_
          refine AllReadyH.cons rfl (fun K hK => ?_) AllReadyH.nil
          first | (refine wp_store_row 27 (.tmp 7) (.tmp 66) rfl _ (x8.arr t8) rfl rfl 27 #[.slice none 0 0, .slice none 0 0, .slice none 0 0, .int .i32 0, .int .i64 0, .int .i8 0, .int .i64 0] (heap_alloc_new _ _) (by kernel_rfl) rfl (arr_one _ _) ?_) | (refine wp_store_row 27 (.tmp 7) (.tmp 66) rfl _ (x8.arr t8) rfl rfl 27 #[.slice none 0 0, .slice none 0 0, .slice none 0 0, .int .i32 0, .int .i64 0, .int .i8 0, .int .i64 0] (blk_after HB8.out) (by kernel_rfl) rfl (arr_one _ _) ?_) | (refine wp_store_row 27 (.tmp 7) (.tmp 66) rfl _ (x8.arr t8) rfl rfl 27 #[.slice none 0 0, .slice none 0 0, .slice none 0 0, .int .i32 0, .int .i64 0, .int .i8 0, .int .i64 0] (blk_after2 HB6.out HB8.out) (by kernel_rfl) rfl (arr_one _ _) ?_) | (refine wp_store_row 27 (.tmp 7) (.tmp 66) rfl _ (x8.arr t8) rfl rfl 27 #[.slice none 0 0, .slice none 0 0, .slice none 0 0, .int .i32 0, .int .i64 0, .int .i8 0, .int .i64 0] (blk_after2 HB7.out HB8.out) (by kernel_rfl) rfl (arr_one _ _) ?_) | (refine wp_store_row 27 (.tmp 7) (.tmp 66) rfl _ (x8.arr t8) rfl rfl 27 #[.slice none 0 0, .slice none 0 0, .slice none 0 0, .int .i32 0, .int .i64 0, .int .i8 0, .int .i64 0] (blk_after2 HB6.out (G.bl_trans HB7.out HB8.out)) (by kernel_rfl) rfl (arr_one _ _) ?_) | (refine wp_store_row 27 (.tmp 7) (.tmp 66) rfl _ (x8.arr t8) rfl rfl 27 #[.slice none 0 0, .slice none 0 0, .slice none 0 0, .int .i32 0, .int .i64 0, .int .i8 0, .int .i64 0] (blk_after3 HB6.out (G.bl_trans HB7.out HB8.out)) (by kernel_rfl) rfl (arr_one _ _) ?_) | (refine wp_store_row 27 (.tmp 7) (.tmp 66) rfl _ (x8.arr t8) rfl rfl 27 #[.slice none 0 0, .slice none 0 0, .slice none 0 0, .int .i32 0, .int .i64 0, .int .i8 0, .int .i64 0] (blk_after3 HB7.out (G.bl_trans HB6.out HB8.out)) (by kernel_rfl) rfl (arr_one _ _) ?_)
          try simp only [Act.put, List.getElem_toArray, List.getElem_cons_succ, List.getElem_cons_zero]
          refine hK.out _ _ ?_ (fun hHeld => ?_)
          · exact LwS.row (by assumption) (by have s6 := HB6.out.size; have s7 := HB7.out.size; have s8 := HB8.out.size; first | omega | (simp at s6 s7 s8 ⊢; omega))
          clear hK K
          try simp only [Act.put, List.setIfInBounds_toArray, List.set_cons_zero, List.set_cons_succ]
          refine wpAnyH_take (i := 12) (oi := ⟨some 8, _, _, _, _, _⟩) (v := ?_) rfl (by kernel_rfl) (by kernel_rfl) (by kernel_rfl) (fun _ _ _ h => h) (Or.inl ⟨by rfl, ?_⟩) (by assumption) ?_
          rotate_left
          · (intro w hSw; (try dsimp only at hSw); go_split_ands; go_simp; try with_reducible rfl)
          try simp only [Act.put, List.setIfInBounds_toArray, List.set_cons_zero, List.set_cons_succ]
          refine wpAnyH_done (by kernel_rfl) ?_ _
          go_wp2_with fail
          go_meet
          case rel => first | exact callRel_mk (HO8.out.below (G.bl_alloc (Below.refl _ _) _)) hHeld.bl (G.Blk.new _ _ _) (by have s6 := HB6.out.size; have s7 := HB7.out.size; have s8 := HB8.out.size; first | omega | (simp at s6 s7 s8 ⊢; omega)) HC8.out | exact callRel_mk HO8.out hHeld.bl (blk_after HB8.out) (by have s6 := HB6.out.size; have s7 := HB7.out.size; have s8 := HB8.out.size; first | omega | (simp at s6 s7 s8 ⊢; omega)) HC8.out | exact callRel_mk HO8.out hHeld.bl (blk_after2 HB6.out HB8.out) (by have s6 := HB6.out.size; have s7 := HB7.out.size; have s8 := HB8.out.size; first | omega | (simp at s6 s7 s8 ⊢; omega)) HC8.out | exact callRel_mk HO8.out hHeld.bl (blk_after2 HB7.out HB8.out) (by have s6 := HB6.out.size; have s7 := HB7.out.size; have s8 := HB8.out.size; first | omega | (simp at s6 s7 s8 ⊢; omega)) HC8.out | exact callRel_mk HO8.out hHeld.bl (blk_after2 HB6.out (G.bl_trans HB7.out HB8.out)) (by have s6 := HB6.out.size; have s7 := HB7.out.size; have s8 := HB8.out.size; first | omega | (simp at s6 s7 s8 ⊢; omega)) HC8.out | exact callRel_mk HO8.out hHeld.bl (blk_after3 HB6.out (G.bl_trans HB7.out HB8.out)) (by have s6 := HB6.out.size; have s7 := HB7.out.size; have s8 := HB8.out.size; first | omega | (simp at s6 s7 s8 ⊢; omega)) HC8.out | exact callRel_mk HO8.out hHeld.bl (blk_after3 HB7.out (G.bl_trans HB6.out HB8.out)) (by have s6 := HB6.out.size; have s7 := HB7.out.size; have s8 := HB8.out.size; first | omega | (simp at s6 s7 s8 ⊢; omega)) HC8.out
        exact AllReadyH.nil
      obtain ⟨g7, x7, t7, k7, rfl, rfl, hB7, hR7, hb7, hc7⟩ := hcut
      obtain rfl : k7 = 0 := by
        rcases hc7 with ⟨a, _, b⟩ | ⟨_, _, b, _⟩ | ⟨_, b, _⟩
        · exact a
        · rw [HST.out] at b
          cases b
        · exact absurd HM.out b
      obtain ⟨w5, hw5⟩ : ∃ w5 : World, w5 = wc := ⟨_, rfl⟩
      subst hw5
      have HBL4 := Lib.hid (G.bl_trans HBL4.out hb7)
      have HBC := Lib.hid (Below.refl w5.heap.size w5)
      have HLI := Lib.hid (fun W (hW : Below w5.heap.size w5 W) => lives_any W)
      clear hB7 hR7 hb7 hc7
      go_wp2_with (first | fail)
      refine (HLI.out _ HBC.out).mono ?_
      rintro e20 w20 ⟨rfl, hb20⟩
      have HN20 := Lib.hid hb20
      clear hb20
      have HBC := Lib.hid (G.bl_trans HBC.out HN20.out)
      go_wp2_with fail
      go_ret
      exact ⟨rfl, G.bl_trans HBL4.out HBC.out⟩
end Go.Proofs.YtofgmijmhpmabaaGreatDoor.D

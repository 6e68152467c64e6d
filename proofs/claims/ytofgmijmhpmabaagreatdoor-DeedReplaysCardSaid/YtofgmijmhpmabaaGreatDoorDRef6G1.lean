/- The reference of layer 06: moved between two zones. Printed by gen_ref6g.py. -/
import Derived.Test.YtofgmijmhpmabaaGreatDoorDRef6F
namespace Go.Proofs.YtofgmijmhpmabaaGreatDoor.D
open Go Go.RowKit
set_option linter.unusedVariables false
set_option linter.unusedSimpArgs false
set_option maxRecDepth 100000 in
set_option maxHeartbeats 16000000 in
theorem refMoved_ne (x : SV) (s : St) (card src srcAt dst dstAt : Int) (w : World) (h : RdSt w x s) (hz : Sz s) (hm : May s) (hd : (src == dst) = false) : Calls Tryz.prog 119 #[x.val s, .int .i64 card, .int .i64 src, .int .i64 srcAt, .int .i64 dst, .int .i64 dstAt] w (RPost (moveS s card src srcAt dst dstAt) w) := by
 obtain ⟨fsS, hfsS⟩ := undSt
 have HFS := Lib.hid hfsS
 have HCP := Lib.hid (fun W (hW : Below w.heap.size w W) => copyState_any x s W (h.below hW) hz)
 have HSTD := Lib.hid (fun W (hW : Below w.heap.size w W) => stands_any x s card src srcAt W (h.below hW))
 have HZ := Lib.hid hz
 have HMAY := Lib.hid hm
 obtain ⟨n, hn⟩ : ∃ n, n = s.zones.length := ⟨_, rfl⟩
 obtain ⟨m, hmm⟩ : ∃ m, m = s.cards.length := ⟨_, rfl⟩
 have HN := Lib.hid hn
 have HM := Lib.hid hmm
 have HI1 := Lib.hid (fun W => refIs_any card m W)
 have HI2 := Lib.hid (fun W => refIs_any dst n W)
 obtain ⟨c, hc⟩ : ∃ c, c = x.arr s := ⟨_, rfl⟩
 have HS := Lib.hid (show c.size = 7 by rw [hc]; rfl)
 have HC1 := Lib.hid (show c[1]? = some (.slice x.ca m x.cc) by rw [hc, hmm]; rfl)
 have HC2 := Lib.hid (show c[2]? = some (.slice x.za n x.zc) by rw [hc, hn]; rfl)
 have he : x.val s = .agg c := by rw [hc]; rfl
 rw [he] at HCP HSTD ⊢
 clear h hz hm hc he hfsS hn hmm
 have HDD := Lib.hid hd
 clear hd
 have H0 := two_new w 27 c zeroA
 go_enter Tryz.func119, Tryz.ntmps119
 go_upto_region 1 with (fail)
 obtain ⟨w0, hw0⟩ : ∃ w0, w0 = (w.alloc (.cells c 27)).alloc (.cells zeroA 27) := ⟨_, rfl⟩
 rw [← hw0] at H0
 unfold zeroA at hw0
 rw [← hw0]
 clear hw0
 obtain ⟨hb0, hb0', hbl0⟩ := H0
 have HBL0 := Lib.hid hbl0
 obtain ⟨g, hg⟩ : ∃ g, g = w.heap.size := ⟨_, rfl⟩
 have HG := Lib.hid hg
 rw [← hg] at hb0 hb0' ⊢
 have HB0 := Lib.hid hb0
 have HB0' := Lib.hid hb0'
 have c1 := (hb0.cell 1).trans HC1.out
 have c2 := (hb0.cell 2).trans HC2.out
 have l0 := hb0.lt
 clear hb0 hb0' hbl0 hg
 cases t1 : withinB card m with
 | false =>
  rw [t1] at HI1
  have HO := Lib.hid (moveS_none (s := s) (card := card) (src := src) (srcAt := srcAt) (dst := dst) (dstAt := dstAt) (fun h => by rw [HM.out, moveOk_card HMAY.out h] at t1; cases t1))
  clear t1
  go_wp2_with (first | (refine wpList_load_row_g (by rfl) 27 _ rfl g rfl _ c (0, 0) _ HB0.out HFS.out rfl (by rw [HS.out]; exact sizeSt) ?_) | (go_at_call 122; with_reducible refine (HI1.out _).mono ?_; rintro e wq ⟨rfl, rfl⟩) | (go_at_call 122; with_reducible refine (HI2.out _).mono ?_; rintro e wq ⟨rfl, rfl⟩) | ((with_reducible refine (HSTD.out _ HBL0.out).mono ?_); rintro e1 w1 ⟨rfl, hb1⟩; have HB1 := Lib.hid (HB0.out.below hb1 HB0.out.lt); have HR1 := Lib.hid (HB0'.out.below hb1 HB0'.out.lt); have HBL1 := Lib.hid (G.bl_trans HBL0.out hb1); have c2q := (HB1.out.cell 2).trans HC2.out; have l1q := HB1.out.lt; clear hb1) | (refine build_to zeroA rfl 27 _ rfl _ (by kernel_rfl) zeroA_b ?_) | (refine wpList_store_row rfl 27 _ _ rfl (g + 1) zeroA rfl rfl 27 _ HB0'.out (by kernel_rfl) (by kernel_rfl) (by kernel_rfl) ?_))
  refine bodyPost_ret (v := .tuple #[.agg zeroA, .bool false]) (st_results2 rfl _ _ (g + 1) _ _ rfl rfl (setRow_heap _ _ _ _ _ _ HB0'.out) rfl) rfl (rP_no HO.out ?_)
  exact below_setRow HBL0.out (by have := HG.out; omega) _
 | true =>
  rw [t1] at HI1
  clear t1
  cases t2 : standsB s card src srcAt with
  | false =>
   rw [t2] at HSTD
   have HO := Lib.hid (moveS_none (s := s) (card := card) (src := src) (srcAt := srcAt) (dst := dst) (dstAt := dstAt) (fun h => by rw [moveOk_stands h] at t2; cases t2))
   clear t2
   go_wp2_with (first | (refine wpList_load_row_g (by rfl) 27 _ rfl g rfl _ c (0, 0) _ HB0.out HFS.out rfl (by rw [HS.out]; exact sizeSt) ?_) | (go_at_call 122; with_reducible refine (HI1.out _).mono ?_; rintro e wq ⟨rfl, rfl⟩) | (go_at_call 122; with_reducible refine (HI2.out _).mono ?_; rintro e wq ⟨rfl, rfl⟩) | ((with_reducible refine (HSTD.out _ HBL0.out).mono ?_); rintro e1 w1 ⟨rfl, hb1⟩; have HB1 := Lib.hid (HB0.out.below hb1 HB0.out.lt); have HR1 := Lib.hid (HB0'.out.below hb1 HB0'.out.lt); have HBL1 := Lib.hid (G.bl_trans HBL0.out hb1); have c2q := (HB1.out.cell 2).trans HC2.out; have l1q := HB1.out.lt; clear hb1) | (refine build_to zeroA rfl 27 _ rfl _ (by kernel_rfl) zeroA_b ?_) | (refine wpList_store_row rfl 27 _ _ rfl (g + 1) zeroA rfl rfl 27 _ HR1.out (by kernel_rfl) (by kernel_rfl) (by kernel_rfl) ?_))
   refine bodyPost_ret (v := .tuple #[.agg zeroA, .bool false]) (st_results2 rfl _ _ (g + 1) _ _ rfl rfl (setRow_heap _ _ _ _ _ _ HR1.out) rfl) rfl (rP_no HO.out ?_)
   exact below_setRow HBL1.out (by have := HG.out; omega) _
  | true =>
   rw [t2] at HSTD
   have HT2 := Lib.hid t2
   clear t2
   cases t3 : withinB dst n with
   | false =>
    rw [t3] at HI2
    have HO := Lib.hid (moveS_none (s := s) (card := card) (src := src) (srcAt := srcAt) (dst := dst) (dstAt := dstAt) (fun h => by rw [HN.out, within_yes h.2.1] at t3; cases t3))
    clear t3
    go_wp2_with (first | (refine wpList_load_row_g (by rfl) 27 _ rfl g rfl _ c (0, 0) _ HB0.out HFS.out rfl (by rw [HS.out]; exact sizeSt) ?_) | (go_at_call 122; with_reducible refine (HI1.out _).mono ?_; rintro e wq ⟨rfl, rfl⟩) | (go_at_call 122; with_reducible refine (HI2.out _).mono ?_; rintro e wq ⟨rfl, rfl⟩) | ((with_reducible refine (HSTD.out _ HBL0.out).mono ?_); rintro e1 w1 ⟨rfl, hb1⟩; have HB1 := Lib.hid (HB0.out.below hb1 HB0.out.lt); have HR1 := Lib.hid (HB0'.out.below hb1 HB0'.out.lt); have HBL1 := Lib.hid (G.bl_trans HBL0.out hb1); have c2q := (HB1.out.cell 2).trans HC2.out; have l1q := HB1.out.lt; clear hb1) | (refine build_to zeroA rfl 27 _ rfl _ (by kernel_rfl) zeroA_b ?_) | (refine wpList_store_row rfl 27 _ _ rfl (g + 1) zeroA rfl rfl 27 _ HR1.out (by kernel_rfl) (by kernel_rfl) (by kernel_rfl) ?_))
    refine bodyPost_ret (v := .tuple #[.agg zeroA, .bool false]) (st_results2 rfl _ _ (g + 1) _ _ rfl rfl (setRow_heap _ _ _ _ _ _ HR1.out) rfl) rfl (rP_no HO.out ?_)
    exact below_setRow HBL1.out (by have := HG.out; omega) _
   | true =>
    rw [t3] at HI2
    obtain ⟨hd1, hd2⟩ := of_decide_eq_true (show decide (Within dst n) = true from t3)
    obtain ⟨di, rfl⟩ := Int.eq_ofNat_of_zero_le hd1
    clear t3
    have hT2 := HT2.out
    unfold standsB at hT2
    rw [Bool.and_eq_true, Bool.and_eq_true] at hT2
    obtain ⟨⟨q1, q2⟩, q3⟩ := hT2
    obtain ⟨hs1, hs2⟩ := of_decide_eq_true (show decide (Within src s.zones.length) = true from q1)
    obtain ⟨si, rfl⟩ := Int.eq_ofNat_of_zero_le hs1
    obtain ⟨ha1, ha2⟩ := of_decide_eq_true (show decide (Within srcAt (zone s ((si : Nat) : Int)).length) = true from q2)
    obtain ⟨sa, rfl⟩ := Int.eq_ofNat_of_zero_le ha1
    have hsi : si < s.zones.length := by omega
    have hdi : di < s.zones.length := by rw [← HN.out]; omega
    have hdn : di < n := by omega
    have hsn : si < n := by rw [HN.out]; exact hsi
    have hdnI : ((di : Nat) : Int) < n := by omega
    have hsnI : ((si : Nat) : Int) < n := by omega
    have hsa : sa < (s.zones.getD si []).length := by unfold zone at ha2; rw [Int.toNat_natCast] at ha2; omega
    have HQ3 := Lib.hid (show (s.zones.getD si []).getD sa 0 = card by unfold zone at q3; rw [Int.toNat_natCast, Int.toNat_natCast] at q3; exact eq_of_beq q3)
    have HSA := Lib.hid hsa
    clear q1 q2 q3 hs1 hs2 ha1 ha2 hsa hd1 hd2
    by_cases k4 : ((si : Nat) : Int) = ((di : Nat) : Int) ∧ ((sa : Nat) : Int) = ((dstAt))
    ·have k4a : (((si : Nat) : Int) == ((di : Nat) : Int)) = true := by rw [k4.1]; simp
     have k4b : (((sa : Nat) : Int) == dstAt) = true := by rw [k4.2]; simp
     have HO := Lib.hid (moveS_none (s := s) (card := card) (src := ((si : Nat) : Int)) (srcAt := ((sa : Nat) : Int)) (dst := ((di : Nat) : Int)) (dstAt := dstAt) (fun h => h.2.2.1 k4))
     clear k4
     go_wp2_with (first | (refine wpList_load_row_g (by rfl) 27 _ rfl g rfl _ c (0, 0) _ HB0.out HFS.out rfl (by rw [HS.out]; exact sizeSt) ?_) | (go_at_call 122; with_reducible refine (HI1.out _).mono ?_; rintro e wq ⟨rfl, rfl⟩) | (go_at_call 122; with_reducible refine (HI2.out _).mono ?_; rintro e wq ⟨rfl, rfl⟩) | ((with_reducible refine (HSTD.out _ HBL0.out).mono ?_); rintro e1 w1 ⟨rfl, hb1⟩; have HB1 := Lib.hid (HB0.out.below hb1 HB0.out.lt); have HR1 := Lib.hid (HB0'.out.below hb1 HB0'.out.lt); have HBL1 := Lib.hid (G.bl_trans HBL0.out hb1); have c2q := (HB1.out.cell 2).trans HC2.out; have l1q := HB1.out.lt; clear hb1) | (refine build_to zeroA rfl 27 _ rfl _ (by kernel_rfl) zeroA_b ?_) | (refine wpList_store_row rfl 27 _ _ rfl (g + 1) zeroA rfl rfl 27 _ HR1.out (by kernel_rfl) (by kernel_rfl) (by kernel_rfl) ?_))
     refine bodyPost_ret (v := .tuple #[.agg zeroA, .bool false]) (st_results2 rfl _ _ (g + 1) _ _ rfl rfl (setRow_heap _ _ _ _ _ _ HR1.out) rfl) rfl (rP_no HO.out ?_)
     exact below_setRow HBL1.out (by have := HG.out; omega) _
    ·have K4 := Lib.hid k4
     have HW4 := Lib.hid (show ((((si : Nat) : Int) == ((di : Nat) : Int)) = false) ∨ ((((si : Nat) : Int) == ((di : Nat) : Int)) = true ∧ (((sa : Nat) : Int) == dstAt) = false) by
      by_cases e : ((si : Nat) : Int) = ((di : Nat) : Int)
      ·exact .inr ⟨by rw [e]; simp, by rw [beq_eq_false_iff_ne]; exact fun e2 => k4 ⟨e, e2⟩⟩
      ·exact .inl (by rw [beq_eq_false_iff_ne]; exact e))
     clear k4
     have hw4 := HDD.out
     clear HW4
     go_upto_region 3 with (first | (refine wpList_load_row_g (by rfl) 27 _ rfl g rfl _ c (0, 0) _ HB0.out HFS.out rfl (by rw [HS.out]; exact sizeSt) ?_) | (go_at_call 122; with_reducible refine (HI1.out _).mono ?_; rintro e wq ⟨rfl, rfl⟩) | (go_at_call 122; with_reducible refine (HI2.out _).mono ?_; rintro e wq ⟨rfl, rfl⟩) | ((with_reducible refine (HSTD.out _ HBL0.out).mono ?_); rintro e1 w1 ⟨rfl, hb1⟩; have HB1 := Lib.hid (HB0.out.below hb1 HB0.out.lt); have HR1 := Lib.hid (HB0'.out.below hb1 HB0'.out.lt); have HBL1 := Lib.hid (G.bl_trans HBL0.out hb1); have c2q := (HB1.out.cell 2).trans HC2.out; have l1q := HB1.out.lt; clear hb1))
     have HCPq := Lib.hid (HCP.out _ HBL1.out)
     go_upto_region 4 with (first | (refine wpList_load_row rfl 27 _ rfl g rfl _ c (0, 0) _ HB1.out HFS.out rfl (by rw [HS.out]; exact sizeSt) ?_) | ((with_reducible refine (HCPq.out).mono ?_); rintro e2 w2 hp; obtain ⟨x2, rfl, ho2, hb2⟩ := hp; have HO2 := Lib.hid ho2; have HBW2 := Lib.hid hb2; have HB2 := Lib.hid (HB1.out.below hb2 HB1.out.lt); have HR2 := Lib.hid (HR1.out.below hb2 HR1.out.lt); clear ho2 hb2) | (refine wpList_store_row rfl 27 _ _ rfl g (x2.arr s) rfl rfl 27 _ HB2.out (by kernel_rfl) (by rw [HS.out]; rfl) (arr_one _ _) ?_))
     have HST := Lib.hid (copied HB2.out HO2.out (show g ≤ _ by have := HBL1.out.size; rw [HG.out]; exact this))
     have HR3 := Lib.hid (show G.Blk (w2.setRow g (x2.arr s)) (g + 1) 27 zeroA from (setRow_other w2 g (g + 1) _ (by omega)).trans HR2.out)
     have HBL3 := Lib.hid (show Below g w (w2.setRow g (x2.arr s)) by rw [HG.out]; exact below_setRow (G.bl_trans HBL1.out HBW2.out) (by omega) _)
     obtain ⟨w3, hw3⟩ : ∃ w3, w3 = w2.setRow g (x2.arr s) := ⟨_, rfl⟩
     rw [← hw3] at HST HR3 HBL3 ⊢
     clear hw3 HB2 HR2 HO2 HBW2 HCPq c1 c2 l0 c2q l1q HB0 HB0' HBL0 HB1 HR1 HBL1 HCP HSTD
     have d2 := HST.out.cells.2.2.1
     have l3 := HST.out.blk.lt
     obtain ⟨gz, ra, rk, hza, hgz, hrv, hrc, hrf, hrr⟩ := HST.out.row hsi
     rw [hza, ← HN.out] at d2
     have HZA := Lib.hid hza
     have HRV := Lib.hid hrv
     have HGZ := Lib.hid hgz
     have hzl := HZ.out.r si
     obtain ⟨Z, hZ⟩ : ∃ Z, Z = s.zones.getD si [] := ⟨_, rfl⟩
     have HQZ := Lib.hid (show Z.getD sa 0 = card by rw [hZ]; exact HQ3.out)
     have HSZ := Lib.hid (show sa < Z.length by rw [hZ]; exact HSA.out)
     rw [← hZ] at hrc hrv hzl
     have HZZ := Lib.hid hZ
     have HNZ := Lib.hid (own_ne_blk HST.out.own.z hza HR3.out (by decide))
     have HNE := Lib.hid (HST.out.gne hza)
     obtain ⟨zl, hzl'⟩ : ∃ zl, zl = Z.length := ⟨_, rfl⟩
     have HRD := Lib.hid (show G.RdS w3.drew ra 1 zl (i64s Z) by have h9 := HST.out.own.rows si hsi; rw [HRV.out, ← hZ] at h9; rw [hzl']; exact (G.RdS.of_own h9).below (Below.refl _ _).drew)
     rw [← hzl'] at hrc hzl
     have HZL := Lib.hid hzl'
     have HWO := Lib.hid (without_any ra zl rk sa Z w3.drew HZL.out HRD.out hzl)
     have hgzl := World.block_lt_of_cell? _ _ hrc
     clear hza hrv hgz hrr hZ hzl'
     refine wp_region_held_drew (S := FrZ g gz n x2.zc) (by kernel_rfl) ?_ (fun hHeld => ?_)
     ·exact d2
     refine wpAnyH_take (i := 0) (oi := ⟨some 49, _, _, _, _, _⟩) (v := ?_) rfl (by kernel_rfl) (by kernel_rfl) (by kernel_rfl) (fun _ _ _ h => h) (Or.inl ⟨by rfl, ?_⟩) (by assumption) ?_
     rotate_left
     ·(intro w hSw; unfold FrZ at hSw; go_split_ands; go_simp; try with_reducible rfl)
     try simp only [Act.put, List.setIfInBounds_toArray, List.set_cons_zero, List.set_cons_succ]
     refine wpAnyH_take (i := 1) (oi := ⟨some 50, _, _, _, _, _⟩) (v := ?_) rfl (by kernel_rfl) (by kernel_rfl) (by kernel_rfl) (fun _ _ _ h => h) (Or.inl ⟨by rfl, ?_⟩) (by assumption) ?_
     rotate_left
     ·(intro w hSw; unfold FrZ at hSw; go_split_ands; go_simp; try with_reducible rfl)
     try simp only [Act.put, List.setIfInBounds_toArray, List.set_cons_zero, List.set_cons_succ]
     refine wpAnyH_take (i := 2) (oi := ⟨some 51, _, _, _, _, _⟩) (v := ?_) rfl (by kernel_rfl) (by kernel_rfl) (by kernel_rfl) (fun _ _ _ h => h) (Or.inl ⟨by rfl, ?_⟩) (by assumption) ?_
     rotate_left
     ·(intro w hSw; rfl)
     try simp only [Act.put, List.setIfInBounds_toArray, List.set_cons_zero, List.set_cons_succ]
     refine wpAnyH_take (i := 3) (oi := ⟨some 52, _, _, _, _, _⟩) (v := ?_) rfl (by kernel_rfl) (by kernel_rfl) (by kernel_rfl) (fun _ _ _ h => h) (Or.inl ⟨by rfl, ?_⟩) (by assumption) ?_
     rotate_left
     ·(intro w hSw; unfold FrZ at hSw; go_split_ands; go_simp; try with_reducible rfl)
     try simp only [Act.put, List.setIfInBounds_toArray, List.set_cons_zero, List.set_cons_succ]
     refine wpAnyH_take (i := 4) (oi := ⟨some 53, _, _, _, _, _⟩) (v := ?_) rfl (by kernel_rfl) (by kernel_rfl) (by kernel_rfl) (fun _ _ _ h => h) (Or.inl ⟨by rfl, ?_⟩) (by assumption) ?_
     rotate_left
     ·(intro w hSw; unfold FrZ at hSw; go_split_ands; go_simp; try with_reducible rfl)
     try simp only [Act.put, List.setIfInBounds_toArray, List.set_cons_zero, List.set_cons_succ]
     refine wpAnyH_take (i := 5) (oi := ⟨some 54, _, _, _, _, _⟩) (v := ?_) rfl (by kernel_rfl) (by kernel_rfl) (by kernel_rfl) (fun _ _ _ h => h) (Or.inl ⟨by rfl, ?_⟩) (by assumption) ?_
     rotate_left
     ·(intro w hSw; rfl)
     try simp only [Act.put, List.setIfInBounds_toArray, List.set_cons_zero, List.set_cons_succ]
     refine wpAnyH_take (i := 6) (oi := ⟨some 55, _, _, _, _, _⟩) (v := ?_) rfl (by kernel_rfl) (by kernel_rfl) (by kernel_rfl) (fun _ _ _ h => h) (Or.inl ⟨by rfl, ?_⟩) (by assumption) ?_
     rotate_left
     ·(intro w hSw; unfold FrZ at hSw; go_split_ands; go_simp; try with_reducible rfl)
     try simp only [Act.put, List.setIfInBounds_toArray, List.set_cons_zero, List.set_cons_succ]
     refine wpAnyH_take (i := 8) (oi := ⟨some 57, _, _, _, _, _⟩) (v := ?_) rfl (by kernel_rfl) (by kernel_rfl) (by kernel_rfl) (fun _ _ _ h => h) (Or.inl ⟨by rfl, ?_⟩) (by assumption) ?_
     rotate_left
     ·(intro w hSw; rfl)
     try simp only [Act.put, List.setIfInBounds_toArray, List.set_cons_zero, List.set_cons_succ]
     refine wpAnyH_ready (rs := [7]) (by kernel_rfl) (by simp) ?_
     refine AllReadyH.cons rfl (fun K hK => ?_) AllReadyH.nil
     go_simp
     go_wp2_with fail
     refine hK.out _ _ ?_ (fun hHeld => ?_)
     ·assumption
     clear hK K
     try simp only [Act.put, List.setIfInBounds_toArray, List.set_cons_zero, List.set_cons_succ]
     refine wpAnyH_ready (rs := [9]) (by kernel_rfl) (by simp) ?_
     refine AllReadyH.cons rfl (fun K hK => ?_) AllReadyH.nil
     go_simp
     (refine (HWO.out).mono ?_; rintro e4 w4 ⟨v4, rfl, ho4, hb4⟩; obtain ⟨a4, q4, hv4⟩ := G.own_shape ho4; subst hv4; have HG4 := Lib.hid (show w3.grownBy w4 (x2.rows.getD si undef).ownBlock from grown_drew2 (grown_below hb4 _)); have HBW4 := Lib.hid (show Below w3.heap.size w3 w4 from ⟨hb4.os, hb4.tape, hb4.output, hb4.size, hb4.block⟩); obtain ⟨m2, mrc, mrf⟩ := HST.out.mid hsi HZA.out HG4.out; rw [HRV.out, ← HZZ.out, ← HZL.out] at mrc; rw [← HN.out] at m2; have HO4 := Lib.hid ho4; have l4 := World.block_lt_of_cell? _ _ mrc; have l4' := World.block_lt_of_cell? _ _ m2; clear ho4 hb4)
     go_wp2_with fail
     refine hK.out _ _ ?_ (fun hHeld => ?_)
     ·exact m2
     clear hK K
     try simp only [Act.put, List.setIfInBounds_toArray, List.set_cons_zero, List.set_cons_succ]
     refine wpAnyH_take (i := 10) (oi := ⟨some 59, _, _, _, _, _⟩) (v := ?_) rfl (by kernel_rfl) (by kernel_rfl) (by kernel_rfl) (fun _ _ _ h => h) (Or.inl ⟨by rfl, ?_⟩) (by assumption) ?_
     rotate_left
     ·(intro w hSw; unfold FrZ at hSw; go_split_ands; go_simp; try with_reducible rfl)
     try simp only [Act.put, List.setIfInBounds_toArray, List.set_cons_zero, List.set_cons_succ]
     refine wpAnyH_ready (rs := [11]) (by kernel_rfl) (by simp) ?_
     refine AllReadyH.cons rfl (fun K hK => ?_) AllReadyH.nil
     go_simp
     go_wp2_with fail
     refine hK.out _ _ ?_ (fun hHeld => ?_)
     ·exact FrZ.set (by assumption) HNE.out
     clear hK K
     try simp only [Act.put, List.setIfInBounds_toArray, List.set_cons_zero, List.set_cons_succ]
     refine wpAnyH_done (by kernel_rfl) ?_ _
     have HS5 := Lib.hid (HST.out.rowput (l := Z.eraseIdx sa) hsi HZA.out (G.own_ge HO4.out (show g ≤ w3.heap.size by have := HST.out.blk.lt; omega)) HG4.out (fun q hq => .inr ((HO4.out.lt q hq).1)))
     have HBL5 := Lib.hid (HBL3.out.trans (HST.out.rowbl (v1 := .slice a4 (Z.eraseIdx sa).length q4) hsi HZA.out HG4.out))
     have HR5 := Lib.hid (blk_cell_ne (i := si) (u := .slice a4 (Z.eraseIdx sa).length q4) (HR3.out.below HBW4.out HR3.out.lt) HNZ.out)
     obtain ⟨w5, hw5⟩ : ∃ w5, w5 = w4.setCell ⟨gz, si, none⟩ (.slice a4 (Z.eraseIdx sa).length q4) := ⟨_, rfl⟩
     rw [← hw5] at HS5 HBL5 HR5 ⊢
     obtain ⟨s5, hs5⟩ : ∃ s5 : St, s5 = { s with zones := s.zones.set si (Z.eraseIdx sa) } := ⟨_, rfl⟩
     obtain ⟨x5, hx5⟩ : ∃ x5 : SV, x5 = { x2 with rows := x2.rows.set si (.slice a4 (Z.eraseIdx sa).length q4) } := ⟨_, rfl⟩
     rw [← hs5, ← hx5] at HS5
     have HSE := Lib.hid hs5
     have HX5 := Lib.hid (show x5.za = some ⟨gz, 0, none⟩ ∧ x5.zc = x2.zc by rw [hx5]; exact ⟨HZA.out, rfl⟩)
     clear hw5 mrc mrf m2 hs5 hx5 HO4 HG4 HBW4 HWO HRD d2 l3 hrc hrf hgzl l4 l4' hzl hHeld
     have hdi5 : di < s5.zones.length := by rw [HSE.out, List.length_set]; exact hdi
     have HZL5 := Lib.hid (show s5.zones.length = n by rw [HSE.out, HN.out]; simp)
     obtain ⟨gz2, ba, bk, hza2, _, hbv, hbc, hbf, hbr⟩ := HS5.out.row hdi5
     obtain rfl : gz2 = gz := by rw [HX5.out.1] at hza2; simpa using hza2.symm
     obtain ⟨B, hB⟩ : ∃ B, B = s5.zones.getD di [] := ⟨_, rfl⟩
     have HRM := Lib.hid (show (B.length : Int) = if ((si : Nat) : Int) = ((di : Nat) : Int) then ((s.zones.getD di []).length : Int) - 1 else ((s.zones.getD di []).length : Int) by rw [hB, HSE.out]; simp only; rw [HZZ.out]; exact room_len hsi HSA.out)
     have hblm : B.length ≤ 33554432 := by have h8 := HZ.out.r di; have h9 := HRM.out; split at h9 <;> omega
     rw [← hB] at hbc hbv
     have HBE := Lib.hid hB
     obtain ⟨bl, hbl⟩ : ∃ bl, bl = B.length := ⟨_, rfl⟩
     have HBL := Lib.hid hbl
     have HBV := Lib.hid hbv
     have HRD := Lib.hid (show G.RdS w5.drew ba 1 bl (i64s B) by have h9 := HS5.out.own.rows di hdi5; rw [hbv, ← hB] at h9; rw [hbl]; exact (G.RdS.of_own h9).below (Below.refl _ _).drew)
     rw [← hbl] at hbc hblm
     have d2 := HS5.out.cells.2.2.1
     rw [HX5.out.1, HX5.out.2, HZL5.out] at d2
     have l5 := HS5.out.blk.lt
     have hgzl := World.block_lt_of_cell? _ _ hbc
     clear hbl hB hbv hbr hza2
     by_cases k5 : 0 ≤ dstAt
     ·obtain ⟨da, rfl⟩ := Int.eq_ofNat_of_zero_le k5
      have hda0 : ¬ ((da : Nat) : Int) < 0 := by omega
      by_cases k6 : da ≤ bl
      ·have k6I : ¬ ((da : Nat) : Int) > bl := by omega
       go_upto_region 7 with (fail)
       have HWI := Lib.hid (with_any ba bl bk da card B w5.drew HBL.out HRD.out hblm k6)
       refine wp_region_held_drew (S := FrZ g gz2 n x2.zc) (by kernel_rfl) ?_ (fun hHeld => ?_)
       ·exact d2
       refine wpAnyH_take (i := 0) (oi := ⟨some 73, _, _, _, _, _⟩) (v := ?_) rfl (by kernel_rfl) (by kernel_rfl) (by kernel_rfl) (fun _ _ _ h => h) (Or.inl ⟨by rfl, ?_⟩) (by assumption) ?_
       rotate_left
       ·(intro w hSw; unfold FrZ at hSw; go_split_ands; go_simp; try with_reducible rfl)
       try simp only [Act.put, List.setIfInBounds_toArray, List.set_cons_zero, List.set_cons_succ]
       refine wpAnyH_take (i := 1) (oi := ⟨some 74, _, _, _, _, _⟩) (v := ?_) rfl (by kernel_rfl) (by kernel_rfl) (by kernel_rfl) (fun _ _ _ h => h) (Or.inl ⟨by rfl, ?_⟩) (by assumption) ?_
       rotate_left
       ·(intro w hSw; unfold FrZ at hSw; go_split_ands; go_simp; try with_reducible rfl)
       try simp only [Act.put, List.setIfInBounds_toArray, List.set_cons_zero, List.set_cons_succ]
       refine wpAnyH_take (i := 2) (oi := ⟨some 75, _, _, _, _, _⟩) (v := ?_) rfl (by kernel_rfl) (by kernel_rfl) (by kernel_rfl) (fun _ _ _ h => h) (Or.inl ⟨by rfl, ?_⟩) (by assumption) ?_
       rotate_left
       ·(intro w hSw; rfl)
       try simp only [Act.put, List.setIfInBounds_toArray, List.set_cons_zero, List.set_cons_succ]
       refine wpAnyH_take (i := 3) (oi := ⟨some 76, _, _, _, _, _⟩) (v := ?_) rfl (by kernel_rfl) (by kernel_rfl) (by kernel_rfl) (fun _ _ _ h => h) (Or.inl ⟨by rfl, ?_⟩) (by assumption) ?_
       rotate_left
       ·(intro w hSw; unfold FrZ at hSw; go_split_ands; go_simp; try with_reducible rfl)
       try simp only [Act.put, List.setIfInBounds_toArray, List.set_cons_zero, List.set_cons_succ]
       refine wpAnyH_take (i := 4) (oi := ⟨some 77, _, _, _, _, _⟩) (v := ?_) rfl (by kernel_rfl) (by kernel_rfl) (by kernel_rfl) (fun _ _ _ h => h) (Or.inl ⟨by rfl, ?_⟩) (by assumption) ?_
       rotate_left
       ·(intro w hSw; unfold FrZ at hSw; go_split_ands; go_simp; try with_reducible rfl)
       try simp only [Act.put, List.setIfInBounds_toArray, List.set_cons_zero, List.set_cons_succ]
       refine wpAnyH_take (i := 5) (oi := ⟨some 78, _, _, _, _, _⟩) (v := ?_) rfl (by kernel_rfl) (by kernel_rfl) (by kernel_rfl) (fun _ _ _ h => h) (Or.inl ⟨by rfl, ?_⟩) (by assumption) ?_
       rotate_left
       ·(intro w hSw; rfl)
       try simp only [Act.put, List.setIfInBounds_toArray, List.set_cons_zero, List.set_cons_succ]
       refine wpAnyH_take (i := 6) (oi := ⟨some 79, _, _, _, _, _⟩) (v := ?_) rfl (by kernel_rfl) (by kernel_rfl) (by kernel_rfl) (fun _ _ _ h => h) (Or.inl ⟨by rfl, ?_⟩) (by assumption) ?_
       rotate_left
       ·(intro w hSw; unfold FrZ at hSw; go_split_ands; go_simp; try with_reducible rfl)
       try simp only [Act.put, List.setIfInBounds_toArray, List.set_cons_zero, List.set_cons_succ]
       refine wpAnyH_take (i := 8) (oi := ⟨some 81, _, _, _, _, _⟩) (v := ?_) rfl (by kernel_rfl) (by kernel_rfl) (by kernel_rfl) (fun _ _ _ h => h) (Or.inl ⟨by rfl, ?_⟩) (by assumption) ?_
       rotate_left
       ·(intro w hSw; rfl)
       try simp only [Act.put, List.setIfInBounds_toArray, List.set_cons_zero, List.set_cons_succ]
       refine wpAnyH_take (i := 9) (oi := ⟨some 82, _, _, _, _, _⟩) (v := ?_) rfl (by kernel_rfl) (by kernel_rfl) (by kernel_rfl) (fun _ _ _ h => h) (Or.inl ⟨by rfl, ?_⟩) (by assumption) ?_
       rotate_left
       ·(intro w hSw; rfl)
       try simp only [Act.put, List.setIfInBounds_toArray, List.set_cons_zero, List.set_cons_succ]
       refine wpAnyH_ready (rs := [7]) (by kernel_rfl) (by simp) ?_
       refine AllReadyH.cons rfl (fun K hK => ?_) AllReadyH.nil
       go_simp
       go_wp2_with fail
       refine hK.out _ _ ?_ (fun hHeld => ?_)
       ·assumption
       clear hK K
       try simp only [Act.put, List.setIfInBounds_toArray, List.set_cons_zero, List.set_cons_succ]
       refine wpAnyH_ready (rs := [10]) (by kernel_rfl) (by simp) ?_
       refine AllReadyH.cons rfl (fun K hK => ?_) AllReadyH.nil
       go_simp
       (refine (HWI.out).mono ?_; rintro e6 w6 ⟨v6, rfl, ho6, hb6⟩; obtain ⟨a6, q6, hv6⟩ := G.own_shape ho6; subst hv6; have HG6 := Lib.hid (show w5.grownBy w6 (x5.rows.getD di undef).ownBlock from grown_drew2 (grown_below hb6 _)); have HBW6 := Lib.hid (show Below w5.heap.size w5 w6 from ⟨hb6.os, hb6.tape, hb6.output, hb6.size, hb6.block⟩); obtain ⟨m2, mrc, mrf⟩ := HS5.out.mid hdi5 HX5.out.1 HG6.out; rw [HBV.out, ← HBL.out] at mrc; rw [HX5.out.2, HZL5.out] at m2; have HO6 := Lib.hid ho6; have l6 := World.block_lt_of_cell? _ _ mrc; have l6' := World.block_lt_of_cell? _ _ m2; clear ho6 hb6)
       go_wp2_with fail
       refine hK.out _ _ ?_ (fun hHeld => ?_)
       ·exact m2
       clear hK K
       try simp only [Act.put, List.setIfInBounds_toArray, List.set_cons_zero, List.set_cons_succ]
       refine wpAnyH_take (i := 11) (oi := ⟨some 84, _, _, _, _, _⟩) (v := ?_) rfl (by kernel_rfl) (by kernel_rfl) (by kernel_rfl) (fun _ _ _ h => h) (Or.inl ⟨by rfl, ?_⟩) (by assumption) ?_
       rotate_left
       ·(intro w hSw; unfold FrZ at hSw; go_split_ands; go_simp; try with_reducible rfl)
       try simp only [Act.put, List.setIfInBounds_toArray, List.set_cons_zero, List.set_cons_succ]
       refine wpAnyH_ready (rs := [12]) (by kernel_rfl) (by simp) ?_
       refine AllReadyH.cons rfl (fun K hK => ?_) AllReadyH.nil
       go_simp
       go_wp2_with fail
       refine hK.out _ _ ?_ (fun hHeld => ?_)
       ·exact FrZ.set (by assumption) HNE.out
       clear hK K
       try simp only [Act.put, List.setIfInBounds_toArray, List.set_cons_zero, List.set_cons_succ]
       refine wpAnyH_done (by kernel_rfl) ?_ _
       have HS7 := Lib.hid (HS5.out.rowput (l := B.insertIdx da card) hdi5 HX5.out.1 (G.own_ge HO6.out (show g ≤ w5.heap.size by have := HS5.out.blk.lt; omega)) HG6.out (fun q hq => .inr ((HO6.out.lt q hq).1)))
       have HBL7 := Lib.hid (HBL5.out.trans (HS5.out.rowbl (v1 := .slice a6 (B.insertIdx da card).length q6) hdi5 HX5.out.1 HG6.out))
       have HR7 := Lib.hid (blk_cell_ne (i := di) (u := .slice a6 (B.insertIdx da card).length q6) (HR5.out.below HBW6.out HR5.out.lt) HNZ.out)
       have HO := Lib.hid (show moveS s card ((si : Nat) : Int) ((sa : Nat) : Int) ((di : Nat) : Int) ((da : Nat) : Int) = some { s5 with zones := s5.zones.set di (B.insertIdx da card) } from moveS_yes (by omega) (by omega) K4.out (by rw [Int.toNat_natCast]; exact HSA.out) (by rw [Int.toNat_natCast, Int.toNat_natCast]; exact HQ3.out) (by rw [Int.toNat_natCast, ← HRM.out, ← HBL.out]; omega) (by rw [HSE.out, HZZ.out]) HBE.out)
       obtain ⟨w7, hw7⟩ : ∃ w7, w7 = w6.setCell ⟨gz2, di, none⟩ (.slice a6 (B.insertIdx da card).length q6) := ⟨_, rfl⟩
       rw [← hw7] at HS7 HBL7 HR7 ⊢
       obtain ⟨s7, hs7⟩ : ∃ s7 : St, s7 = { s5 with zones := s5.zones.set di (B.insertIdx da card) } := ⟨_, rfl⟩
       obtain ⟨x7, hx7⟩ : ∃ x7 : SV, x7 = { x5 with rows := x5.rows.set di (.slice a6 (B.insertIdx da card).length q6) } := ⟨_, rfl⟩
       rw [← hs7, ← hx7] at HS7
       rw [← hs7] at HO
       clear hs7 hx7 hw7 m2 mrc mrf HO6 HG6 HBW6 HWI d2 hbc hbf l5 l6 l6' hgzl hHeld
       go_wp2_with (first | (refine wpList_load_row rfl 27 _ rfl g rfl _ (x7.arr s7) (0, 0) _ HS7.out.blk HFS.out rfl sizeSt ?_) | (refine wpList_store_row rfl 27 _ _ rfl (g + 1) (x7.arr s7) rfl rfl 27 _ HR7.out (by kernel_rfl) rfl (arr_one _ _) ?_))
       exact bodyPost_ret (v := .tuple #[.agg (x7.arr s7), .bool true]) (st_results2 rfl _ _ (g + 1) _ _ rfl rfl (setRow_heap _ _ _ _ _ _ HR7.out) rfl) rfl (rP_yes HO.out (st_done HS7.out HR7.out HBL7.out HG.out))
      ·have k6I : ((da : Nat) : Int) > bl := by omega
       have HO := Lib.hid (moveS_none (s := s) (card := card) (src := ((si : Nat) : Int)) (srcAt := ((sa : Nat) : Int)) (dst := ((di : Nat) : Int)) (dstAt := ((da : Nat) : Int)) (fun h => k6 (by have h9 := h.2.2.2.2.2.2; unfold zone at h9; rw [Int.toNat_natCast, ← HRM.out, ← HBL.out] at h9; omega)))
       go_wp2_with (first | (refine build_to zeroA rfl 27 _ rfl _ (by kernel_rfl) zeroA_b ?_) | (refine wpList_store_row rfl 27 _ _ rfl (g + 1) zeroA rfl rfl 27 _ HR5.out (by kernel_rfl) (by kernel_rfl) (by kernel_rfl) ?_))
       refine bodyPost_ret (v := .tuple #[.agg zeroA, .bool false]) (st_results2 rfl _ _ (g + 1) _ _ rfl rfl (setRow_heap _ _ _ _ _ _ HR5.out) rfl) rfl (rP_no HO.out ?_)
       exact below_setRow (by rw [← HG.out]; exact HBL5.out) (by have := HG.out; omega) _
     ·have hda0 : dstAt < 0 := by omega
      have HO := Lib.hid (moveS_none (s := s) (card := card) (src := ((si : Nat) : Int)) (srcAt := ((sa : Nat) : Int)) (dst := ((di : Nat) : Int)) (dstAt := dstAt) (fun h => k5 h.2.2.2.2.2.1))
      go_wp2_with (first | (refine build_to zeroA rfl 27 _ rfl _ (by kernel_rfl) zeroA_b ?_) | (refine wpList_store_row rfl 27 _ _ rfl (g + 1) zeroA rfl rfl 27 _ HR5.out (by kernel_rfl) (by kernel_rfl) (by kernel_rfl) ?_))
      refine bodyPost_ret (v := .tuple #[.agg zeroA, .bool false]) (st_results2 rfl _ _ (g + 1) _ _ rfl rfl (setRow_heap _ _ _ _ _ _ HR5.out) rfl) rfl (rP_no HO.out ?_)
      exact below_setRow (by rw [← HG.out]; exact HBL5.out) (by have := HG.out; omega) _
end Go.Proofs.YtofgmijmhpmabaaGreatDoor.D

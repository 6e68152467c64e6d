/- deed.move within one zone. Printed by gen_move.py. -/
import Derived.Test.YtmhklnjmeoeanaaGreatDoorDRow
import Derived.Test.YtmhklnjmeoeanaaGreatDoorDTurn
import Derived.Deep.RegionHeld3
import Derived.Deep.CutBlock
import Derived.Deep.CutRange
namespace Go.Proofs.YtmhklnjmeoeanaaGreatDoor.D
open Go Go.RowKit
set_option linter.unusedVariables false
set_option linter.unusedSimpArgs false
theorem moveS_noB {s : St} {card src srcAt dst dstAt : Int} (h : ¬ MoveOk s card src srcAt dst dstAt) : moveS s card src srcAt dst dstAt = none := by
  unfold moveS
  rw [if_neg h]
set_option maxRecDepth 100000 in
set_option maxHeartbeats 8000000 in
theorem move_eq (g base : Nat) (x : SV) (s : St) (w : World) (hs : StAt w g base x s) (hz : Sz s) (card src srcAt dst dstAt : Int) (h1 : 0 ≤ src) (h2 : src < s.zones.length) (h3 : 0 ≤ dst) (h4 : dst < s.zones.length) (h5 : ¬ (src = dst ∧ srcAt = dstAt)) (hd : (src == dst) = true ∧ (srcAt == dstAt) = false) :
    Calls Tryz.prog 117 #[.pointer (some ⟨g, 0, none⟩), .int .i64 card, .int .i64 src, .int .i64 srcAt, .int .i64 dst, .int .i64 dstAt] w (StepPost s (moveS s card src srcAt dst dstAt) g base w) := by
  obtain ⟨hd, hd2⟩ := hd
  have HS := Lib.hid hs
  have HZ := Lib.hid hz
  have hnz := hz.z
  obtain ⟨c0, c1, c2, c3, c4, c5, c6⟩ := hs.cells
  have hlt := hs.blk.lt
  obtain ⟨n, hn⟩ : ∃ n, n = s.zones.length := ⟨_, rfl⟩
  rw [← hn] at hnz c2 h2 h4
  have HN := Lib.hid hn
  clear hs hz hn c0 c1 c3 c4 c5 c6
  have H5 := Lib.hid h5
  clear h5
  obtain ⟨si, rfl⟩ := Int.eq_ofNat_of_zero_le h1
  obtain ⟨di, rfl⟩ := Int.eq_ofNat_of_zero_le h3
  have hsi : si < s.zones.length := by rw [← HN.out]; omega
  have hdi : di < s.zones.length := by rw [← HN.out]; omega
  obtain ⟨gz, ra, rk, hza, hgz, hrv, hrc, hrf, hrr⟩ := HS.out.row hsi
  obtain ⟨gz', ya, yk, hza', _, hyv, hyc, hyf, hyr⟩ := HS.out.row hdi
  obtain rfl : gz = gz' := by rw [hza] at hza'; simpa using hza'
  rw [hza] at c2
  have HZA := Lib.hid hza
  have HRV := Lib.hid hrv
  have HYV := Lib.hid hyv
  have hzl := HZ.out.r si
  have hyl := HZ.out.r di
  obtain ⟨Z, hZ⟩ : ∃ Z, Z = s.zones.getD si [] := ⟨_, rfl⟩
  obtain ⟨Y, hY⟩ : ∃ Y, Y = s.zones.getD di [] := ⟨_, rfl⟩
  rw [← hZ] at hrc hrr hzl
  rw [← hY] at hyc hyr hyl
  obtain ⟨zl, hzl'⟩ : ∃ zl, zl = Z.length := ⟨_, rfl⟩
  obtain ⟨yl, hyl'⟩ : ∃ yl, yl = Y.length := ⟨_, rfl⟩
  rw [← hzl'] at hrc hrr hzl
  rw [← hyl'] at hyc hyl
  have HZZ := Lib.hid hZ
  have HYY := Lib.hid hY
  have HZL := Lib.hid hzl'
  have HYL := Lib.hid hyl'
  have hgzl := World.block_lt_of_cell? _ _ hrc
  clear hza hza' hrv hyv hZ hY hzl' hyl' hyr hyf
  have HSD := Lib.hid (show si = di by have h9 := hd; simp at h9; omega)
  go_enter Tryz.func117, Tryz.ntmps117
  go_upto_region 4 with (fail)
  by_cases k1 : 0 ≤ srcAt
  · obtain ⟨sa, rfl⟩ := Int.eq_ofNat_of_zero_le k1
    by_cases k2 : sa < zl
    · have k2I : ((sa : Nat) : Int) < zl := by omega
      obtain ⟨gr, rfl, hcells⟩ := hrr (by omega)
      have hcz := hcells sa k2
      obtain ⟨cz, hcz'⟩ : ∃ cz, cz = Z.getD sa 0 := ⟨_, rfl⟩
      rw [← hcz'] at hcz
      have HCZ := Lib.hid hcz'
      have hgrl := World.block_lt_of_cell? _ _ hcz
      clear hcz' hcells hrr
      by_cases k3 : cz = card
      · have k3b : (cz != card) = false := by rw [k3]; simp
        have HK3 := Lib.hid k3
        clear k3
        go_upto_region 9 with (fail)
        by_cases k4 : 0 ≤ dstAt
        · obtain ⟨da, rfl⟩ := Int.eq_ofNat_of_zero_le k4
          have hroom : 0 < zl := by omega
          have HZY := Lib.hid (show zl = yl by rw [HZL.out, HYL.out, HZZ.out, HYY.out, HSD.out])
          have hyl0 : 1 ≤ yl := by have := HZY.out; omega
          by_cases k5 : da ≤ yl - 1
          · have k5I : ((da : Nat) : Int) ≤ (yl : Int) - 1 := by omega
            have HR1 := Lib.hid (HS.out.own.rows si hsi)
            have HDL := Lib.hid (delete_own (w := w.drew) (i := sa) (show w.drew.ownsRow base 3 1 _ _ _ from HR1.out) (by rw [← HZZ.out, ← HZL.out]; exact k2) (by rw [← HZZ.out, ← HZL.out]; exact hzl))
            rw [HRV.out, ← HZZ.out, ← HZL.out] at HDL
            have hs1 : IntKind.i64.wrap (((sa : Nat) : Int) + 1) = ((sa : Nat) : Int) + 1 := IntWalk.i64_in _ (by omega)
            have HC2 := Lib.hid c2
            have HRC := Lib.hid hrc
            have HRF := Lib.hid hrf
            go_wp2_with fail
            have HNE := Lib.hid (HS.out.gne HZA.out)
            refine wp_region_held_drew (S := FrZ g gz n x.zc) (by kernel_rfl) ?_ (fun hHeld => ?_)
            · exact c2
            refine wpAnyH_take (i := 0) (oi := ⟨some 94, _, _, _, _, _⟩) (v := ?_) rfl (by kernel_rfl) (by kernel_rfl) (by kernel_rfl) (fun _ _ _ h => h) (Or.inl ⟨by rfl, ?_⟩) (by assumption) ?_
            rotate_left
            · (intro w hSw; rfl)
            try simp only [Act.put, List.setIfInBounds_toArray, List.set_cons_zero, List.set_cons_succ]
            refine wpAnyH_take (i := 1) (oi := ⟨some 95, _, _, _, _, _⟩) (v := ?_) rfl (by kernel_rfl) (by kernel_rfl) (by kernel_rfl) (fun _ _ _ h => h) (Or.inl ⟨by rfl, ?_⟩) (by assumption) ?_
            rotate_left
            · (intro w hSw; unfold FrZ at hSw; go_split_ands; go_simp; try with_reducible rfl)
            try simp only [Act.put, List.setIfInBounds_toArray, List.set_cons_zero, List.set_cons_succ]
            refine wpAnyH_take (i := 2) (oi := ⟨some 96, _, _, _, _, _⟩) (v := ?_) rfl (by kernel_rfl) (by kernel_rfl) (by kernel_rfl) (fun _ _ _ h => h) (Or.inl ⟨by rfl, ?_⟩) (by assumption) ?_
            rotate_left
            · (intro w hSw; unfold FrZ at hSw; go_split_ands; go_simp; try with_reducible rfl)
            try simp only [Act.put, List.setIfInBounds_toArray, List.set_cons_zero, List.set_cons_succ]
            refine wpAnyH_take (i := 3) (oi := ⟨some 97, _, _, _, _, _⟩) (v := ?_) rfl (by kernel_rfl) (by kernel_rfl) (by kernel_rfl) (fun _ _ _ h => h) (Or.inl ⟨by rfl, ?_⟩) (by assumption) ?_
            rotate_left
            · (intro w hSw; unfold FrZ at hSw; go_split_ands; go_simp; try with_reducible rfl)
            try simp only [Act.put, List.setIfInBounds_toArray, List.set_cons_zero, List.set_cons_succ]
            refine wpAnyH_take (i := 4) (oi := ⟨some 98, _, _, _, _, _⟩) (v := ?_) rfl (by kernel_rfl) (by kernel_rfl) (by kernel_rfl) (fun _ _ _ h => h) (Or.inl ⟨by rfl, ?_⟩) (by assumption) ?_
            rotate_left
            · (intro w hSw; rfl)
            try simp only [Act.put, List.setIfInBounds_toArray, List.set_cons_zero, List.set_cons_succ]
            refine wpAnyH_take (i := 5) (oi := ⟨some 99, _, _, _, _, _⟩) (v := ?_) rfl (by kernel_rfl) (by kernel_rfl) (by kernel_rfl) (fun _ _ _ h => h) (Or.inl ⟨by rfl, ?_⟩) (by assumption) ?_
            rotate_left
            · (intro w hSw; rfl)
            try simp only [Act.put, List.setIfInBounds_toArray, List.set_cons_zero, List.set_cons_succ]
            refine wpAnyH_take (i := 6) (oi := ⟨some 100, _, _, _, _, _⟩) (v := ?_) rfl (by kernel_rfl) (by kernel_rfl) (by kernel_rfl) (fun _ _ _ h => h) (Or.inl ⟨by rfl, ?_⟩) (by assumption) ?_
            rotate_left
            · (intro w hSw; unfold FrZ at hSw; go_split_ands; go_simp; try with_reducible rfl)
            try simp only [Act.put, List.setIfInBounds_toArray, List.set_cons_zero, List.set_cons_succ]
            refine wpAnyH_take (i := 7) (oi := ⟨some 101, _, _, _, _, _⟩) (v := ?_) rfl (by kernel_rfl) (by kernel_rfl) (by kernel_rfl) (fun _ _ _ h => h) (Or.inl ⟨by rfl, ?_⟩) (by assumption) ?_
            rotate_left
            · (intro w hSw; unfold FrZ at hSw; go_split_ands; go_simp; try with_reducible rfl)
            try simp only [Act.put, List.setIfInBounds_toArray, List.set_cons_zero, List.set_cons_succ]
            refine wpAnyH_take (i := 8) (oi := ⟨some 102, _, _, _, _, _⟩) (v := ?_) rfl (by kernel_rfl) (by kernel_rfl) (by kernel_rfl) (fun _ _ _ h => h) (Or.inl ⟨by rfl, ?_⟩) (by assumption) ?_
            rotate_left
            · (intro w hSw; unfold FrZ at hSw; go_split_ands; go_simp; try with_reducible rfl)
            try simp only [Act.put, List.setIfInBounds_toArray, List.set_cons_zero, List.set_cons_succ]
            refine wpAnyH_take (i := 9) (oi := ⟨some 103, _, _, _, _, _⟩) (v := ?_) rfl (by kernel_rfl) (by kernel_rfl) (by kernel_rfl) (fun _ _ _ h => h) (Or.inl ⟨by rfl, ?_⟩) (by assumption) ?_
            rotate_left
            · (intro w hSw; rfl)
            try simp only [Act.put, List.setIfInBounds_toArray, List.set_cons_zero, List.set_cons_succ]
            refine wpAnyH_take (i := 10) (oi := ⟨some 104, _, _, _, _, _⟩) (v := ?_) rfl (by kernel_rfl) (by kernel_rfl) (by kernel_rfl) (fun _ _ _ h => h) (Or.inl ⟨by rfl, ?_⟩) (by assumption) ?_
            rotate_left
            · (intro w hSw; unfold FrZ at hSw; go_split_ands; go_simp; try with_reducible rfl)
            try simp only [Act.put, List.setIfInBounds_toArray, List.set_cons_zero, List.set_cons_succ]
            refine wpAnyH_take (i := 12) (oi := ⟨some 106, _, _, _, _, _⟩) (v := ?_) rfl (by kernel_rfl) (by kernel_rfl) (by kernel_rfl) (fun _ _ _ h => h) (Or.inl ⟨by rfl, ?_⟩) (by assumption) ?_
            rotate_left
            · (intro w hSw; rfl)
            try simp only [Act.put, List.setIfInBounds_toArray, List.set_cons_zero, List.set_cons_succ]
            refine wpAnyH_take (i := 13) (oi := ⟨some 107, _, _, _, _, _⟩) (v := ?_) rfl (by kernel_rfl) (by kernel_rfl) (by kernel_rfl) (fun _ _ _ h => h) (Or.inl ⟨by rfl, ?_⟩) (by assumption) ?_
            rotate_left
            · (intro w hSw; rfl)
            try simp only [Act.put, List.setIfInBounds_toArray, List.set_cons_zero, List.set_cons_succ]
            refine wpAnyH_take (i := 14) (oi := ⟨some 108, _, _, _, _, _⟩) (v := ?_) rfl (by kernel_rfl) (by kernel_rfl) (by kernel_rfl) (fun _ _ _ h => h) (Or.inl ⟨by rfl, ?_⟩) (by assumption) ?_
            rotate_left
            · (intro w hSw; unfold FrZ at hSw; go_split_ands; go_simp; try with_reducible rfl)
            try simp only [Act.put, List.setIfInBounds_toArray, List.set_cons_zero, List.set_cons_succ]
            refine wpAnyH_ready (rs := [11]) (by kernel_rfl) (by simp) ?_
            refine AllReadyH.cons rfl (fun K hK => ?_) AllReadyH.nil
            go_simp
            go_wp2_with fail
            refine hK.out _ _ ?_ (fun hHeld => ?_)
            · assumption
            clear hK K
            try simp only [Act.put, List.setIfInBounds_toArray, List.set_cons_zero, List.set_cons_succ]
            refine wpAnyH_ready (rs := [15]) (by kernel_rfl) (by simp) ?_
            refine AllReadyH.cons rfl (fun K hK => ?_) AllReadyH.nil
            go_simp
            (refine (HDL.out).mono ?_; rintro e w1 ⟨v1, rfl, ho1, hg1, hb1⟩; obtain ⟨a1, q1, hv1⟩ := G.own_shape ho1; subst hv1; have HG1 := Lib.hid (show w.grownBy w1 (x.rows.getD si undef).ownBlock by rw [HRV.out]; exact grown_drew hg1); obtain ⟨m2, mrc, mrf⟩ := HS.out.mid hsi HZA.out HG1.out; rw [HRV.out, ← HZZ.out, ← HZL.out] at mrc; rw [← HN.out] at m2; have HO1 := Lib.hid ho1; have HB1 := Lib.hid hb1; clear ho1 hg1 hb1)
            go_wp2_with fail
            refine hK.out _ _ ?_ (fun hHeld => ?_)
            · exact m2
            clear hK K
            try simp only [Act.put, List.setIfInBounds_toArray, List.set_cons_zero, List.set_cons_succ]
            refine wpAnyH_take (i := 16) (oi := ⟨some 110, _, _, _, _, _⟩) (v := ?_) rfl (by kernel_rfl) (by kernel_rfl) (by kernel_rfl) (fun _ _ _ h => h) (Or.inl ⟨by rfl, ?_⟩) (by assumption) ?_
            rotate_left
            · (intro w hSw; unfold FrZ at hSw; go_split_ands; go_simp; try with_reducible rfl)
            try simp only [Act.put, List.setIfInBounds_toArray, List.set_cons_zero, List.set_cons_succ]
            refine wpAnyH_ready (rs := [17]) (by kernel_rfl) (by simp) ?_
            refine AllReadyH.cons rfl (fun K hK => ?_) AllReadyH.nil
            go_simp
            go_wp2_with fail
            refine hK.out _ _ ?_ (fun hHeld => ?_)
            · exact FrZ.set (by assumption) HNE.out
            clear hK K
            try simp only [Act.put, List.setIfInBounds_toArray, List.set_cons_zero, List.set_cons_succ]
            refine wpAnyH_done (by kernel_rfl) ?_ _
            go_wp2_with fail
            have HS2 := Lib.hid (HS.out.rowput (l := Z.eraseIdx sa) hsi HZA.out (own_n HO1.out (erase_length (by rw [← HZL.out]; exact k2)).symm) HG1.out (fun q hq => .inl (by rw [HRV.out]; have h9 := HB1.out; rw [h9] at hq; rw [← HZZ.out, ← HZL.out]; exact hq)))
            have HBL2 := Lib.hid (HS.out.rowbk (v1 := .slice a1 (Z.length - 1) q1) hsi HZA.out HG1.out)
            obtain ⟨w2, hw2⟩ : ∃ w2, w2 = w1.setCell ⟨gz, si, none⟩ (.slice a1 (Z.length - 1) q1) := ⟨_, rfl⟩
            rw [← hw2] at HS2 HBL2 ⊢
            clear hw2 mrc mrf m2 hcz HO1 HB1 hgrl
            obtain ⟨s2, hs2⟩ : ∃ s2 : St, s2 = { s with zones := s.zones.set si (Z.eraseIdx sa) } := ⟨_, rfl⟩
            obtain ⟨x2, hx2⟩ : ∃ x2 : SV, x2 = { x with rows := x.rows.set si (.slice a1 (Z.length - 1) q1) } := ⟨_, rfl⟩
            rw [← hs2, ← hx2] at HS2
            have HS2E := Lib.hid hs2
            have HX2 := Lib.hid (show x2.za = some ⟨gz, 0, none⟩ ∧ x2.zc = x.zc by rw [hx2]; exact ⟨HZA.out, rfl⟩)
            clear hs2 hx2
            have hdi2 : di < s2.zones.length := by rw [HS2E.out, List.length_set]; exact hdi
            obtain ⟨gz2, ba, bk, hza2, _, hbv, hbc, hbf, hbr⟩ := HS2.out.row hdi2
            obtain rfl : gz2 = gz := by rw [HX2.out.1] at hza2; simpa using hza2.symm
            obtain ⟨B, hB⟩ : ∃ B, B = s2.zones.getD di [] := ⟨_, rfl⟩
            rw [← hB] at hbv hbc
            obtain ⟨bl, hbl⟩ : ∃ bl, bl = B.length := ⟨_, rfl⟩
            have HBE := Lib.hid hB
            have HBB := Lib.hid (show B = Z.eraseIdx sa by rw [hB, HS2E.out]; simp only; rw [HSD.out, getD_set_eq hdi])
            have hblv : bl = yl - 1 := by rw [hbl, HBB.out, erase_length (by rw [← HZL.out]; exact k2), ← HZL.out]; have := HZY.out; omega
            rw [← hbl] at hbv hbc
            have hdab : da ≤ bl := by omega
            have hblm : bl ≤ 33554432 := by omega
            have HBLE := Lib.hid hbl
            have HBV := Lib.hid hbv
            have hbz := World.block_lt_of_cell? _ _ hbc
            clear hB hbl hblv hbv hbr hza2
            have HW := Lib.hid (show StAt (w2.alloc (.cells #[.int .i64 card] 3)).drew g base x2 s2 from HS2.out.below (G.bl_alloc (Below.refl _ _) _).drew)
            have HIN := Lib.hid (show Calls Tryz.prog 161 #[.slice ba bl bk, .int .i64 (da : Int), .slice (some ⟨w2.heap.size, 0, none⟩) 1 1] (w2.alloc (.cells #[.int .i64 card] 3)).drew _ from insert_own (base := base) (l := B) (by have h9 := HW.out.own.rows di hdi2; rw [HBV.out, ← HBE.out] at h9; exact h9) (by rw [← HBLE.out]; exact hdab) (by rw [← HBLE.out]; exact hblm) (by have h8 := HS2.out.ge; have h9 := HS2.out.blk.lt; simp; omega) (show G.Blk (w2.alloc (.cells #[.int .i64 card] 3)).drew w2.heap.size 3 #[.int .i64 card] from G.Blk.new w2 _ _) (fun e => by have h9 := ((HS2.out.own.rows di hdi2).lt w2.heap.size (by rw [HBV.out]; exact e)).2; omega))
            have hc2' := HS2.out.cells.2.2.1
            rw [HX2.out.1, HX2.out.2] at hc2'
            have hzl2 : s2.zones.length = n := by rw [HS2E.out, HN.out]; simp
            rw [hzl2] at hc2'
            have HZL2 := Lib.hid hzl2
            clear hzl2 hrc hrf c2 HDL
            refine wp_region_held_drew (S := FrZ g gz2 n x.zc) (by kernel_rfl) ?_ (fun hHeld => ?_)
            · exact hc2'
            refine wpAnyH_take (i := 0) (oi := ⟨some 111, _, _, _, _, _⟩) (v := ?_) rfl (by kernel_rfl) (by kernel_rfl) (by kernel_rfl) (fun _ _ _ h => h) (Or.inl ⟨by rfl, ?_⟩) (by assumption) ?_
            rotate_left
            · (intro w hSw; rfl)
            try simp only [Act.put, List.setIfInBounds_toArray, List.set_cons_zero, List.set_cons_succ]
            refine wpAnyH_take (i := 1) (oi := ⟨some 112, _, _, _, _, _⟩) (v := ?_) rfl (by kernel_rfl) (by kernel_rfl) (by kernel_rfl) (fun _ _ _ h => h) (Or.inl ⟨by rfl, ?_⟩) (by assumption) ?_
            rotate_left
            · (intro w hSw; unfold FrZ at hSw; go_split_ands; go_simp; try with_reducible rfl)
            try simp only [Act.put, List.setIfInBounds_toArray, List.set_cons_zero, List.set_cons_succ]
            refine wpAnyH_take (i := 2) (oi := ⟨some 113, _, _, _, _, _⟩) (v := ?_) rfl (by kernel_rfl) (by kernel_rfl) (by kernel_rfl) (fun _ _ _ h => h) (Or.inl ⟨by rfl, ?_⟩) (by assumption) ?_
            rotate_left
            · (intro w hSw; unfold FrZ at hSw; go_split_ands; go_simp; try with_reducible rfl)
            try simp only [Act.put, List.setIfInBounds_toArray, List.set_cons_zero, List.set_cons_succ]
            refine wpAnyH_take (i := 3) (oi := ⟨some 114, _, _, _, _, _⟩) (v := ?_) rfl (by kernel_rfl) (by kernel_rfl) (by kernel_rfl) (fun _ _ _ h => h) (Or.inl ⟨by rfl, ?_⟩) (by assumption) ?_
            rotate_left
            · (intro w hSw; unfold FrZ at hSw; go_split_ands; go_simp; try with_reducible rfl)
            try simp only [Act.put, List.setIfInBounds_toArray, List.set_cons_zero, List.set_cons_succ]
            refine wpAnyH_take (i := 4) (oi := ⟨some 115, _, _, _, _, _⟩) (v := ?_) rfl (by kernel_rfl) (by kernel_rfl) (by kernel_rfl) (fun _ _ _ h => h) (Or.inl ⟨by rfl, ?_⟩) (by assumption) ?_
            rotate_left
            · (intro w hSw; rfl)
            try simp only [Act.put, List.setIfInBounds_toArray, List.set_cons_zero, List.set_cons_succ]
            refine wpAnyH_take (i := 5) (oi := ⟨some 116, _, _, _, _, _⟩) (v := ?_) rfl (by kernel_rfl) (by kernel_rfl) (by kernel_rfl) (fun _ _ _ h => h) (Or.inl ⟨by rfl, ?_⟩) (by assumption) ?_
            rotate_left
            · (intro w hSw; rfl)
            try simp only [Act.put, List.setIfInBounds_toArray, List.set_cons_zero, List.set_cons_succ]
            refine wpAnyH_take (i := 6) (oi := ⟨some 117, _, _, _, _, _⟩) (v := ?_) rfl (by kernel_rfl) (by kernel_rfl) (by kernel_rfl) (fun _ _ _ h => h) (Or.inl ⟨by rfl, ?_⟩) (by assumption) ?_
            rotate_left
            · (intro w hSw; unfold FrZ at hSw; go_split_ands; go_simp; try with_reducible rfl)
            try simp only [Act.put, List.setIfInBounds_toArray, List.set_cons_zero, List.set_cons_succ]
            refine wpAnyH_take (i := 7) (oi := ⟨some 118, _, _, _, _, _⟩) (v := ?_) rfl (by kernel_rfl) (by kernel_rfl) (by kernel_rfl) (fun _ _ _ h => h) (Or.inl ⟨by rfl, ?_⟩) (by assumption) ?_
            rotate_left
            · (intro w hSw; unfold FrZ at hSw; go_split_ands; go_simp; try with_reducible rfl)
            try simp only [Act.put, List.setIfInBounds_toArray, List.set_cons_zero, List.set_cons_succ]
            refine wpAnyH_take (i := 8) (oi := ⟨some 119, _, _, _, _, _⟩) (v := ?_) rfl (by kernel_rfl) (by kernel_rfl) (by kernel_rfl) (fun _ _ _ h => h) (Or.inl ⟨by rfl, ?_⟩) (by assumption) ?_
            rotate_left
            · (intro w hSw; unfold FrZ at hSw; go_split_ands; go_simp; try with_reducible rfl)
            try simp only [Act.put, List.setIfInBounds_toArray, List.set_cons_zero, List.set_cons_succ]
            refine wpAnyH_take (i := 9) (oi := ⟨some 120, _, _, _, _, _⟩) (v := ?_) rfl (by kernel_rfl) (by kernel_rfl) (by kernel_rfl) (fun _ _ _ h => h) (Or.inl ⟨by rfl, ?_⟩) (by assumption) ?_
            rotate_left
            · (intro w hSw; rfl)
            try simp only [Act.put, List.setIfInBounds_toArray, List.set_cons_zero, List.set_cons_succ]
            refine wpAnyH_take (i := 10) (oi := ⟨some 121, _, _, _, _, _⟩) (v := ?_) rfl (by kernel_rfl) (by kernel_rfl) (by kernel_rfl) (fun _ _ _ h => h) (Or.inl ⟨by rfl, ?_⟩) (by assumption) ?_
            rotate_left
            · (intro w hSw; unfold FrZ at hSw; go_split_ands; go_simp; try with_reducible rfl)
            try simp only [Act.put, List.setIfInBounds_toArray, List.set_cons_zero, List.set_cons_succ]
            refine wpAnyH_take (i := 12) (oi := ⟨some 123, _, _, _, _, _⟩) (v := ?_) rfl (by kernel_rfl) (by kernel_rfl) (by kernel_rfl) (fun _ _ _ h => h) (Or.inl ⟨by rfl, ?_⟩) (by assumption) ?_
            rotate_left
            · (intro w hSw; rfl)
            try simp only [Act.put, List.setIfInBounds_toArray, List.set_cons_zero, List.set_cons_succ]
            refine wpAnyH_take (i := 13) (oi := ⟨some 124, _, _, _, _, _⟩) (v := ?_) rfl (by kernel_rfl) (by kernel_rfl) (by kernel_rfl) (fun _ _ _ h => h) (Or.inl ⟨by rfl, ?_⟩) (by assumption) ?_
            rotate_left
            · (intro w hSw; rfl)
            try simp only [Act.put, List.setIfInBounds_toArray, List.set_cons_zero, List.set_cons_succ]
            refine wpAnyH_ready (rs := [11, 14]) (by kernel_rfl) (by simp) ?_
            refine AllReadyH.cons rfl (fun K hK => ?_) ?_
            · go_simp
              go_wp2_with fail
              refine hK.out _ _ ?_ (fun hHeld => ?_)
              · assumption
              clear hK K
              try simp only [Act.put, List.setIfInBounds_toArray, List.set_cons_zero, List.set_cons_succ]
              refine wpAnyH_ready (rs := [14]) (by kernel_rfl) (by simp) ?_
              refine AllReadyH.cons rfl (fun K hK => ?_) AllReadyH.nil
              go_simp
              go_wp2_with fail
              refine hK.out _ _ ?_ (fun hHeld => ?_)
              · exact FrZ.alloc (by assumption) _
              clear hK K
              try simp only [Act.put, List.setIfInBounds_toArray, List.set_cons_zero, List.set_cons_succ]
              refine wpAnyH_ready (rs := [15]) (by kernel_rfl) (by simp) ?_
              refine AllReadyH.cons rfl (fun K hK => ?_) AllReadyH.nil
              go_simp
              (refine (HIN.out).mono ?_; rintro e w3 ⟨v3, rfl, ho3, hg3, hb3⟩; obtain ⟨a3, q3, hv3⟩ := G.own_shape ho3; subst hv3; have HG3 := Lib.hid (show World.grownBy _ w3 (x2.rows.getD di undef).ownBlock by rw [HBV.out]; exact hg3); obtain ⟨m3, mrc, mrf⟩ := HW.out.mid hdi2 HX2.out.1 HG3.out; rw [HX2.out.2, HZL2.out] at m3; have HO3 := Lib.hid ho3; have HB3 := Lib.hid hb3; clear ho3 hg3 hb3)
              go_wp2_with fail
              refine hK.out _ _ ?_ (fun hHeld => ?_)
              · exact m3
              clear hK K
              try simp only [Act.put, List.setIfInBounds_toArray, List.set_cons_zero, List.set_cons_succ]
              refine wpAnyH_take (i := 16) (oi := ⟨some 127, _, _, _, _, _⟩) (v := ?_) rfl (by kernel_rfl) (by kernel_rfl) (by kernel_rfl) (fun _ _ _ h => h) (Or.inl ⟨by rfl, ?_⟩) (by assumption) ?_
              rotate_left
              · (intro w hSw; unfold FrZ at hSw; go_split_ands; go_simp; try with_reducible rfl)
              try simp only [Act.put, List.setIfInBounds_toArray, List.set_cons_zero, List.set_cons_succ]
              refine wpAnyH_ready (rs := [17]) (by kernel_rfl) (by simp) ?_
              refine AllReadyH.cons rfl (fun K hK => ?_) AllReadyH.nil
              go_simp
              go_wp2_with fail
              refine hK.out _ _ ?_ (fun hHeld => ?_)
              · exact FrZ.set (by assumption) HNE.out
              clear hK K
              try simp only [Act.put, List.setIfInBounds_toArray, List.set_cons_zero, List.set_cons_succ]
              refine wpAnyH_done (by kernel_rfl) ?_ _
              go_wp2_with fail
              go_ret
              exact stepP_yes (moveS_yes (by rw [← HN.out]; exact h2) (by rw [← HN.out]; exact h4) H5.out (by rw [Int.toNat_natCast, ← HZZ.out, ← HZL.out]; exact k2) (by rw [Int.toNat_natCast, Int.toNat_natCast, ← HZZ.out, ← HCZ.out, HK3.out]) (by rw [Int.toNat_natCast, ← HYY.out, ← HYL.out]; rw [if_pos (by rw [HSD.out])]; omega) (by rw [HS2E.out, ← HZZ.out]) (by rw [← HBE.out]))
                (HW.out.rowput (l := B.insertIdx da card) hdi2 HX2.out.1 (own_n HO3.out (insert_length (a := card) (by rw [← HBLE.out]; exact hdab)).symm) HG3.out (fun q hq => by rw [HBV.out]; exact HB3.out q hq))
                (HBL2.out.trans ((Bk.of (G.bl_alloc (Below.refl _ _) _).drew (by have h8 := HS2.out.ge; have h9 := HS2.out.blk.lt; omega)).trans (HW.out.rowbk hdi2 HX2.out.1 HG3.out)))
            refine AllReadyH.cons rfl (fun K hK => ?_) ?_
            · go_simp
              go_wp2_with fail
              refine hK.out _ _ ?_ (fun hHeld => ?_)
              · exact FrZ.alloc (by assumption) _
              clear hK K
              try simp only [Act.put, List.setIfInBounds_toArray, List.set_cons_zero, List.set_cons_succ]
              refine wpAnyH_ready (rs := [11]) (by kernel_rfl) (by simp) ?_
              refine AllReadyH.cons rfl (fun K hK => ?_) AllReadyH.nil
              go_simp
              go_wp2_with fail
              refine hK.out _ _ ?_ (fun hHeld => ?_)
              · assumption
              clear hK K
              try simp only [Act.put, List.setIfInBounds_toArray, List.set_cons_zero, List.set_cons_succ]
              refine wpAnyH_ready (rs := [15]) (by kernel_rfl) (by simp) ?_
              refine AllReadyH.cons rfl (fun K hK => ?_) AllReadyH.nil
              go_simp
              (refine (HIN.out).mono ?_; rintro e w3 ⟨v3, rfl, ho3, hg3, hb3⟩; obtain ⟨a3, q3, hv3⟩ := G.own_shape ho3; subst hv3; have HG3 := Lib.hid (show World.grownBy _ w3 (x2.rows.getD di undef).ownBlock by rw [HBV.out]; exact hg3); obtain ⟨m3, mrc, mrf⟩ := HW.out.mid hdi2 HX2.out.1 HG3.out; rw [HX2.out.2, HZL2.out] at m3; have HO3 := Lib.hid ho3; have HB3 := Lib.hid hb3; clear ho3 hg3 hb3)
              go_wp2_with fail
              refine hK.out _ _ ?_ (fun hHeld => ?_)
              · exact m3
              clear hK K
              try simp only [Act.put, List.setIfInBounds_toArray, List.set_cons_zero, List.set_cons_succ]
              refine wpAnyH_take (i := 16) (oi := ⟨some 127, _, _, _, _, _⟩) (v := ?_) rfl (by kernel_rfl) (by kernel_rfl) (by kernel_rfl) (fun _ _ _ h => h) (Or.inl ⟨by rfl, ?_⟩) (by assumption) ?_
              rotate_left
              · (intro w hSw; unfold FrZ at hSw; go_split_ands; go_simp; try with_reducible rfl)
              try simp only [Act.put, List.setIfInBounds_toArray, List.set_cons_zero, List.set_cons_succ]
              refine wpAnyH_ready (rs := [17]) (by kernel_rfl) (by simp) ?_
              refine AllReadyH.cons rfl (fun K hK => ?_) AllReadyH.nil
              go_simp
              go_wp2_with fail
              refine hK.out _ _ ?_ (fun hHeld => ?_)
              · exact FrZ.set (by assumption) HNE.out
              clear hK K
              try simp only [Act.put, List.setIfInBounds_toArray, List.set_cons_zero, List.set_cons_succ]
              refine wpAnyH_done (by kernel_rfl) ?_ _
              go_wp2_with fail
              go_ret
              exact stepP_yes (moveS_yes (by rw [← HN.out]; exact h2) (by rw [← HN.out]; exact h4) H5.out (by rw [Int.toNat_natCast, ← HZZ.out, ← HZL.out]; exact k2) (by rw [Int.toNat_natCast, Int.toNat_natCast, ← HZZ.out, ← HCZ.out, HK3.out]) (by rw [Int.toNat_natCast, ← HYY.out, ← HYL.out]; rw [if_pos (by rw [HSD.out])]; omega) (by rw [HS2E.out, ← HZZ.out]) (by rw [← HBE.out]))
                (HW.out.rowput (l := B.insertIdx da card) hdi2 HX2.out.1 (own_n HO3.out (insert_length (a := card) (by rw [← HBLE.out]; exact hdab)).symm) HG3.out (fun q hq => by rw [HBV.out]; exact HB3.out q hq))
                (HBL2.out.trans ((Bk.of (G.bl_alloc (Below.refl _ _) _).drew (by have h8 := HS2.out.ge; have h9 := HS2.out.blk.lt; omega)).trans (HW.out.rowbk hdi2 HX2.out.1 HG3.out)))
            exact AllReadyH.nil
          · have k5I : ¬ ((da : Nat) : Int) ≤ (yl : Int) - 1 := by omega
            have HO := Lib.hid (moveS_noB (s := s) (fun h => k5 (by have h9 := h.2.2.2.2.2.2; unfold zone at h9; rw [Int.toNat_natCast, ← HYY.out, ← HYL.out, if_pos (by rw [HSD.out])] at h9; omega) : ¬ MoveOk s card ((si : Nat) : Int) ((sa : Nat) : Int) ((di : Nat) : Int) ((da : Nat) : Int)))
            go_wp2_with fail
            go_ret
            exact stepP_no HO.out (Bk.refl _ _)

        · have HO := Lib.hid (moveS_noB (s := s) (fun h => k4 h.2.2.2.2.2.1 : ¬ MoveOk s card ((si : Nat) : Int) ((sa : Nat) : Int) ((di : Nat) : Int) dstAt))
          go_wp2_with fail
          go_ret
          exact stepP_no HO.out (Bk.refl _ _)

      · have k3b : (cz != card) = true := by rw [bne_iff_ne]; exact k3
        have HO := Lib.hid (moveS_noB (s := s) (fun h => k3 (by have h9 := h.2.2.2.2.1; unfold zone at h9; rw [Int.toNat_natCast, Int.toNat_natCast, ← HZZ.out, ← HCZ.out] at h9; exact h9) : ¬ MoveOk s card ((si : Nat) : Int) ((sa : Nat) : Int) ((di : Nat) : Int) dstAt))
        clear k3
        go_wp2_with fail
        go_ret
        exact stepP_no HO.out (Bk.refl _ _)

    · have k2I : ¬ ((sa : Nat) : Int) < zl := by omega
      have HO := Lib.hid (moveS_noB (s := s) (fun h => k2 (by have h9 := h.2.2.2.1.2; unfold zone at h9; rw [Int.toNat_natCast, ← HZZ.out, ← HZL.out] at h9; omega) : ¬ MoveOk s card ((si : Nat) : Int) ((sa : Nat) : Int) ((di : Nat) : Int) dstAt))
      go_wp2_with fail
      go_ret
      exact stepP_no HO.out (Bk.refl _ _)

  · have HO := Lib.hid (moveS_noB (s := s) (fun h => k1 h.2.2.2.1.1 : ¬ MoveOk s card ((si : Nat) : Int) srcAt ((di : Nat) : Int) dstAt))
    go_wp2_with fail
    go_ret
    exact stepP_no HO.out (Bk.refl _ _)

end Go.Proofs.YtmhklnjmeoeanaaGreatDoor.D

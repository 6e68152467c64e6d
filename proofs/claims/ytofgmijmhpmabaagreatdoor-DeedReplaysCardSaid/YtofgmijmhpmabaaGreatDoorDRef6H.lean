/- The reference of layer 06: shuffled. Printed by gen_ref6h.py. -/
import Derived.Test.YtofgmijmhpmabaaGreatDoorDRef6F
import Derived.Test.YtofgmijmhpmabaaGreatDoorDRef6E
import Derived.Test.YtofgmijmhpmabaaGreatDoorDShuf
import Derived.Test.YtofgmijmhpmabaaGreatDoorDRow
import Derived.Test.YtofgmijmhpmabaaGreatDoorDMay
namespace Go.Proofs.YtofgmijmhpmabaaGreatDoor.D
open Go Go.RowKit
set_option linter.unusedVariables false
set_option linter.unusedSimpArgs false
/-- A row that shares nothing with the others is laid into the list of rows. -/
theorem StAt.rowset {w : World} {g base i gz : Nat} {x : SV} {s : St} {v1 : Value} {l : List Int} (h : StAt w g base x s) (hi : i < s.zones.length) (hza : x.za = some ⟨gz, 0, none⟩) (ho1 : w.ownsRow base 3 1 v1 l.length (i64s l))
 (ha : ∀ j, j < s.zones.length → j ≠ i → (x.rows.getD j undef).ownBlock = none ∨ (x.rows.getD j undef).ownBlock ≠ v1.ownBlock) :
 StAt (w.setCell ⟨gz, i, none⟩ v1) g base { x with rows := x.rows.set i v1 } { s with zones := s.zones.set i l } := by
 have hb := h.own.but i
 have hzz := hb.z
 refine ⟨?_, hb.zset hi hza ho1 ha, h.ge⟩
 have hk2 := blk_far h.blk hzz (by rw [hza] at hzz ⊢; exact (hzz.stored i v1).2) (by decide)
 simpa [SV.arr] using hk2
theorem old_ne {w : World} {base e sz n k : Nat} {v u : Value} {xs : List Value} (h : w.ownsRow base e sz v n xs) (hu : u.ownBlock = some k) (hk : k < base) : v.ownBlock = none ∨ v.ownBlock ≠ u.ownBlock := by
 cases hv : v.ownBlock with
 | none => exact .inl rfl
 | some q =>
  refine .inr fun e => ?_
  have := (h.lt q hv).1
  rw [hu] at e
  obtain rfl := Option.some.inj e
  omega
set_option maxRecDepth 100000 in
set_option maxHeartbeats 16000000 in
theorem refShuffled_any (x : SV) (s : St) (z : Int) (A : Option Addr) (ol c : Nat) (order : List Int) (back : Bool) (w : World) (h : RdSt w x s) (hz : Sz s) (hn : ol = order.length) (hr : G.RdS w A 1 ol (i64s order)) (hl : ol ≤ 33554432) :
 Calls Tryz.prog 121 #[x.val s, .int .i64 z, .slice A ol c, .bool back] w (RPost (shuffleS s z order back) w) := by
 obtain ⟨i0, hi0, hz0, hz1, hz2⟩ := info_parts infoInt
 obtain ⟨fsS, hfsS⟩ := undSt
 have HFS := Lib.hid hfsS
 have HCP := Lib.hid (fun W (hW : Below w.heap.size w W) => copyState_any x s W (h.below hW) hz)
 have HRR := Lib.hid h
 have HZ := Lib.hid hz
 have HR := Lib.hid hr
 have HOL := Lib.hid hn
 obtain ⟨n, hnn⟩ : ∃ n, n = s.zones.length := ⟨_, rfl⟩
 have HN := Lib.hid hnn
 have HI := Lib.hid (fun W => refIs_any z n W)
 have HRI := Lib.hid (fun W hW => refRises_any A ol c order W hn.symm hl (hr.below hW))
 obtain ⟨cs, hc⟩ : ∃ c, c = x.arr s := ⟨_, rfl⟩
 have HS := Lib.hid (show cs.size = 7 by rw [hc]; rfl)
 have HC2 := Lib.hid (show cs[2]? = some (.slice x.za n x.zc) by rw [hc, hnn]; rfl)
 have he : x.val s = .agg cs := by rw [hc]; rfl
 rw [he] at HCP ⊢
 clear h hz hc he hfsS hnn hn hr
 have H0 := two_new w 27 cs zeroA
 go_enter Tryz.func121, Tryz.ntmps121
 go_upto_region 1 with (fail)
 obtain ⟨w0, hw0⟩ : ∃ w0, w0 = (w.alloc (.cells cs 27)).alloc (.cells zeroA 27) := ⟨_, rfl⟩
 rw [← hw0] at H0
 unfold zeroA at hw0
 rw [← hw0]
 clear hw0
 obtain ⟨hb0, hb0', hbl0⟩ := H0
 have HBL0 := Lib.hid hbl0
 obtain ⟨g, hg⟩ : ∃ g, g = w.heap.size := ⟨_, rfl⟩
 have HG := Lib.hid hg
 rw [← hg] at hb0 hb0' ⊢
 have HB0 := Lib.hid hb0
 have HB0' := Lib.hid hb0'
 obtain ⟨za, hzae⟩ : ∃ za, za = x.za := ⟨_, rfl⟩
 rw [← hzae] at HC2
 have c2 := (hb0.cell 2).trans HC2.out
 have l0 := hb0.lt
 clear hb0 hb0' hbl0 hg
 cases t1 : withinB z n with
 | false =>
  rw [t1] at HI
  have HO := Lib.hid (shuffleS_no (s := s) (z := z) (order := order) (back := back) (fun h => by rw [HN.out, within_yes h.1] at t1; cases t1))
  clear t1
  go_wp2_with (first | (go_at_call 122; with_reducible refine (HI.out _).mono ?_; rintro e wq ⟨rfl, rfl⟩) | fail | fail | (refine build_to zeroA rfl 27 _ rfl _ (by kernel_rfl) zeroA_b ?_) | (refine wpList_store_row rfl 27 _ _ rfl (g + 1) zeroA rfl rfl 27 _ HB0'.out (by kernel_rfl) (by kernel_rfl) (by kernel_rfl) ?_))
  refine bodyPost_ret (v := .tuple #[.agg zeroA, .bool false]) (st_results2 rfl _ _ (g + 1) _ _ rfl rfl (setRow_heap _ _ _ _ _ _ HB0'.out) rfl) rfl (rP_no HO.out ?_)
  exact below_setRow HBL0.out (by have := HG.out; omega) _
 | true =>
  rw [t1] at HI
  obtain ⟨hd1, hd2⟩ := of_decide_eq_true (show decide (Within z n) = true from t1)
  obtain ⟨zi, rfl⟩ := Int.eq_ofNat_of_zero_le hd1
  clear t1
  have hzi : zi < s.zones.length := by rw [← HN.out]; omega
  have hzn : zi < n := by omega
  have hznI : ((zi : Nat) : Int) < n := by omega
  obtain ⟨bz, oz, hza, hcz⟩ := rows_at HRR.out.z hzi
  obtain ⟨ra, rk, hrv, hrz⟩ := HRR.out.rows zi hzi
  rw [hrv] at hcz
  rw [← hzae] at hza
  subst hza
  have hzl := HZ.out.r zi
  obtain ⟨Z, hZ⟩ : ∃ Z, Z = s.zones.getD zi [] := ⟨_, rfl⟩
  rw [← hZ] at hcz hrz hzl
  obtain ⟨zl, hzl'⟩ : ∃ zl, zl = Z.length := ⟨_, rfl⟩
  rw [← hzl'] at hcz hrz hzl
  have HZZ := Lib.hid hZ
  have HZL := Lib.hid hzl'
  have HCZ := Lib.hid hcz
  have HRZ := Lib.hid hrz
  have HLBZ := Lib.hid (World.block_lt_of_cell? _ _ hcz)
  have hcz0 := (HBL0.out.cell (p := ⟨bz, oz + zi, none⟩) HLBZ.out).trans hcz
  have HOR := Lib.hid (fun W hW => refOrder_any A ol c zl order W HOL.out.symm hl (HR.out.below hW) hzl)
  clear hZ hzl' hcz hrz hrv hd1 hd2 hzae
  by_cases h3 : IsOrder order zl
  ·have b3 := order_yes h3
   rw [b3] at HOR
   obtain rfl : ol = zl := by rw [HOL.out]; exact h3.1
   have H3 := Lib.hid h3
   clear h3 b3
   by_cases h4 : Rises order
   ·have b4 := rises_yes h4
    have HO := Lib.hid (shuffleS_no (s := s) (z := zi) (order := order) (back := back) (fun h => h.2.2 h4))
    rw [b4] at HRI
    clear h4 b4
    go_wp2_with (first | (go_at_call 122; with_reducible refine (HI.out _).mono ?_; rintro e wq ⟨rfl, rfl⟩) | ((with_reducible refine (HOR.out _ HBL0.out).mono ?_); rintro e1 w1 ⟨rfl, hb1⟩; have HB1 := Lib.hid (HB0.out.below hb1 HB0.out.lt); have HR1 := Lib.hid (HB0'.out.below hb1 HB0'.out.lt); have HBL1 := Lib.hid (G.bl_trans HBL0.out hb1); have c2q := (HB1.out.cell 2).trans HC2.out; have l1q := HB1.out.lt; clear hb1) | (go_at_call 152; with_reducible refine (HRI.out _ HBL1.out).mono ?_; rintro e2 wq ⟨rfl, rfl⟩) | (refine build_to zeroA rfl 27 _ rfl _ (by kernel_rfl) zeroA_b ?_) | (refine wpList_store_row rfl 27 _ _ rfl (g + 1) zeroA rfl rfl 27 _ HR1.out (by kernel_rfl) (by kernel_rfl) (by kernel_rfl) ?_))
    refine bodyPost_ret (v := .tuple #[.agg zeroA, .bool false]) (st_results2 rfl _ _ (g + 1) _ _ rfl rfl (setRow_heap _ _ _ _ _ _ HR1.out) rfl) rfl (rP_no HO.out ?_)
    exact below_setRow HBL1.out (by have := HG.out; omega) _
   ·have b4 := rises_no h4
    rw [b4] at HRI
    have H4 := Lib.hid h4
    have hol1 : 1 ≤ ol := by
     rcases Nat.eq_zero_or_pos ol with h0 | h0
     ·refine absurd ?_ h4
      have h9 := HOL.out
      obtain rfl : order = [] := List.eq_nil_of_length_eq_zero (by omega)
      rfl
     ·exact h0
    clear h4 b4
    go_upto_region 3 with (first | (go_at_call 122; with_reducible refine (HI.out _).mono ?_; rintro e wq ⟨rfl, rfl⟩) | ((with_reducible refine (HOR.out _ HBL0.out).mono ?_); rintro e1 w1 ⟨rfl, hb1⟩; have HB1 := Lib.hid (HB0.out.below hb1 HB0.out.lt); have HR1 := Lib.hid (HB0'.out.below hb1 HB0'.out.lt); have HBL1 := Lib.hid (G.bl_trans HBL0.out hb1); have c2q := (HB1.out.cell 2).trans HC2.out; have l1q := HB1.out.lt; clear hb1) | (go_at_call 152; with_reducible refine (HRI.out _ HBL1.out).mono ?_; rintro e2 wq ⟨rfl, rfl⟩))
    go_upto_region 4 with (refine wpList_make_full _ rfl _ _ 28 rfl w1.heap.size 3 i0 _ 1 Tryz.underlying28 hi0 hz0 hz1 .i64 .i64 _ _ ol rfl rfl rfl rfl (by rw [hz2]; omega) (by unfold maxLen; omega) (Nat.le_refl _) ?_; intro w2 ho2 hg2)
    have HB2 := Lib.hid (show Below w1.heap.size w1 w2 from (Below.refl _ _).grown hg2 (Nat.le_refl _) (by simp))
    have hz : (madeCells (Value.int .i64 0).cells (ol * 1)).toList = List.replicate ol (.int .i64 0) := by
     rw [show (Value.int .i64 0).cells = #[.int .i64 0] from rfl, toList_madeCells_one, Nat.mul_one]
    rw [hz] at ho2
    have HO2 := Lib.hid ho2
    clear hz ho2 hg2 c2 c2q hcz0 l0 l1q
    go_wp2_with fail
    cases back
    ·have HZ0 := Lib.hid (show w2.ownsRow w1.heap.size 3 1 (.slice (some ⟨w1.heap.size, 0, none⟩) ol ol) ol (i64s (fwdP order Z ol 0)) by rw [fwd_zero, i64s, List.map_replicate]; exact HO2.out)
     go_loopw [11] (fun i wr => ∃ j : Nat, j ≤ ol ∧ i = .int .i64 j ∧ Below w1.heap.size w1 wr ∧ wr.ownsRow w1.heap.size 3 1 (.slice (some ⟨w1.heap.size, 0, none⟩) ol ol) ol (i64s (fwdP order Z ol j))) (fun i _ => ol - (intOf i).toNat)
     case atStart => exact ⟨0, Nat.zero_le _, rfl, HB2.out, HZ0.out⟩
     case round =>
      obtain ⟨j, hj, rfl, hbw, hown⟩ := hrel
      have HBW := Lib.hid hbw
      have HOW := Lib.hid hown
      have hj0 : (0 : Int) ≤ j := by omega
      have HBLr := Lib.hid (G.bl_trans HBL1.out HBW.out)
      have HBr := Lib.hid (HB1.out.below hbw HB1.out.lt)
      have c2r := (HBr.out.cell 2).trans HC2.out
      have lr := HBr.out.lt
      have lw1 := hbw.size
      clear hbw hown
      by_cases hlt : j < ol
      ·have hjI : (j : Int) < ol := by omega
       obtain ⟨bo, oo, rfl, hrd⟩ := (HR.out.below HBLr.out).2 (by omega)
       have hco := i64_at hrd (k := j) (by rw [← HOL.out]; exact hlt)
       obtain ⟨o0, o1⟩ := H3.out.2.1 _ (mem_getD (d := 0) (show j < order.length by rw [← HOL.out]; exact hlt))
       obtain ⟨on, hon⟩ := Int.eq_ofNat_of_zero_le o0
       rw [hon] at hco o1
       have hon2 : on < ol := by omega
       have honI : ((on : Nat) : Int) < ol := by omega
       have HON := Lib.hid (show (order.getD j 0).toNat = on by rw [hon]; rfl)
       have hcr := (HBLr.out.cell (p := ⟨bz, oz + zi, none⟩) HLBZ.out).trans HCZ.out
       obtain ⟨br, or_, hra, hrz⟩ := (HRZ.out.below HBLr.out).2 (by omega)
       have hcz := i64_at hrz (k := on) (by rw [← HZL.out]; omega)
       subst hra
       obtain ⟨v, hv⟩ : ∃ v, v = Z.getD on 0 := ⟨_, rfl⟩
       rw [← hv] at hcz
       obtain ⟨y, hy⟩ := G.own_some HOW.out j (by omega)
       have hfy := HOW.out.frozenAt j
       have hst := HOW.out.stored j (.int .i64 v)
       have hfs : (fwdP order Z ol j).set j v = fwdP order Z ol (j + 1) := by
        rw [hv, ← HON.out]
        exact fwd_step HOL.out.symm hlt
       rw [i64s_set, hfs] at hst
       clear hfs
       have HST := Lib.hid hst
       have HBN := Lib.hid (Bl.sc HBW.out (p := ⟨w1.heap.size, j, none⟩) (Nat.le_refl _) (.int .i64 v))
       clear hrd hrz hon hv hst o0 o1
       go_wp2_with fail
       go_region
       go_wp2_with fail
       go_roundw
       case rel => exact ⟨j + 1, by omega, by go_num, HBN.out.drew, HST.out.1.drew⟩
       case measure => simp [intOf] <;> omega
      ·obtain rfl : ol = j := by omega
       have hjI : ¬ (ol : Int) < ol := by omega
       have HCPr := Lib.hid (HCP.out wr HBLr.out)
       have HRr := Lib.hid (HR1.out.below HBW.out HR1.out.lt)
       go_upto_region 11 with (first | (refine wpList_load_row rfl 27 _ rfl g rfl _ cs (0, 0) _ HBr.out HFS.out rfl (by rw [HS.out]; exact sizeSt) ?_) | ((with_reducible refine (HCPr.out).mono ?_); rintro e3 w3 hp; obtain ⟨x2, rfl, ho3, hb3⟩ := hp; have HO3 := Lib.hid ho3; have HBW3 := Lib.hid hb3; have HB3 := Lib.hid (HBr.out.below hb3 HBr.out.lt); have HR3 := Lib.hid (HRr.out.below hb3 HRr.out.lt); clear ho3 hb3) | (refine wpList_store_row rfl 27 _ _ rfl g (x2.arr s) rfl rfl 27 _ HB3.out (by kernel_rfl) (by rw [HS.out]; rfl) (arr_one _ _) ?_))
       have HST := Lib.hid (copied HB3.out HO3.out (show g ≤ _ by have := HBLr.out.size; rw [HG.out]; exact this))
       have HO4 := Lib.hid (HO3.out.only (only_row (cs2 := x2.arr s) HB3.out) (by decide) (by decide) (by decide) (by decide))
       have HR4 := Lib.hid (show G.Blk (w3.setRow g (x2.arr s)) (g + 1) 27 zeroA from (setRow_other w3 g (g + 1) _ (by omega)).trans HR3.out)
       have HBL4 := Lib.hid (show Below g w (w3.setRow g (x2.arr s)) by rw [HG.out]; exact below_setRow (G.bl_trans HBLr.out HBW3.out) (by omega) _)
       have HOL4 := Lib.hid (show (w3.setRow g (x2.arr s)).ownsRow w1.heap.size 3 1 (.slice (some ⟨w1.heap.size, 0, none⟩) ol ol) ol (i64s (shufF order Z)) by
        have h9 := HOW.out
        rw [fwd_end HOL.out.symm] at h9
        exact (only_row (cs2 := x2.arr s) HB3.out).own (G.own_below h9 HBW3.out) (by decide))
       have HWL := Lib.hid (show w1.heap.size < wr.heap.size from ((HOW.out.lt w1.heap.size rfl).2))
       obtain ⟨w4, hw4⟩ : ∃ w4, w4 = w3.setRow g (x2.arr s) := ⟨_, rfl⟩
       rw [← hw4] at HST HO4 HR4 HBL4 HOL4 ⊢
       clear hw4 HB3 HR3 HO3 HBW3 HCPr c2r
       have d2 := HST.out.cells.2.2.1
       have l4 := HST.out.blk.lt
       obtain ⟨gz, ra4, rk4, hza4, hgz, hrv4, hrc4, hrf4, _⟩ := HST.out.row hzi
       rw [hza4, ← HN.out] at d2
       have HNZ := Lib.hid (own_ne_blk HST.out.own.z hza4 HR4.out (by decide))
       have HLE := Lib.hid (show g ≤ w1.heap.size by have := HBL1.out.size; rw [HG.out]; exact this)
       have HFIN := Lib.hid (HST.out.rowset (l := shufF order Z) (v1 := .slice (some ⟨w1.heap.size, 0, none⟩) ol ol) hzi hza4 (own_n (G.own_ge HOL4.out HLE.out) (by rw [shufF_length]; exact HOL.out)) (fun k hk hne => old_ne (HO4.out.rows k hk) rfl HWL.out))
       have HRF := Lib.hid (blk_cell_ne (i := zi) (u := .slice (some ⟨w1.heap.size, 0, none⟩) ol ol) HR4.out HNZ.out)
       have HBF := Lib.hid (HBL4.out.setCell (p := ⟨gz, zi, none⟩) hgz (.slice (some ⟨w1.heap.size, 0, none⟩) ol ol))
       have HO := Lib.hid (shuffleS_yes (s := s) (z := zi) (Z := Z) (order := order) (back := false) hzi HZZ.out (by rw [← HZL.out]; exact H3.out) H4.out)
       have hgzl := World.block_lt_of_cell? _ _ hrc4
       clear hza4 hrv4 hgz
       go_wp2_with (first | (refine wpList_load_row rfl 27 _ rfl g rfl _ (SV.arr _ _) (0, 0) _ HFIN.out.blk HFS.out rfl sizeSt ?_) | (refine wpList_store_row rfl 27 _ _ rfl (g + 1) (SV.arr _ _) rfl rfl 27 _ HRF.out (by kernel_rfl) rfl (arr_one _ _) ?_))
       exact bodyPost_ret (v := .tuple #[.agg (SV.arr _ _), .bool true]) (st_results2 rfl _ _ (g + 1) _ _ rfl rfl (setRow_heap _ _ _ _ _ _ HRF.out) rfl) rfl (rP_yes HO.out (st_done HFIN.out HRF.out HBF.out HG.out))
    ·have HZ0 := Lib.hid (show w2.ownsRow w1.heap.size 3 1 (.slice (some ⟨w1.heap.size, 0, none⟩) ol ol) ol (i64s (bwdP order Z ol 0)) by rw [bwd_zero, i64s, List.map_replicate]; exact HO2.out)
     go_loopw [11] (fun i wr => ∃ j : Nat, j ≤ ol ∧ i = .int .i64 j ∧ Below w1.heap.size w1 wr ∧ wr.ownsRow w1.heap.size 3 1 (.slice (some ⟨w1.heap.size, 0, none⟩) ol ol) ol (i64s (bwdP order Z ol j))) (fun i _ => ol - (intOf i).toNat)
     case atStart => exact ⟨0, Nat.zero_le _, rfl, HB2.out, HZ0.out⟩
     case round =>
      obtain ⟨j, hj, rfl, hbw, hown⟩ := hrel
      have HBW := Lib.hid hbw
      have HOW := Lib.hid hown
      have hj0 : (0 : Int) ≤ j := by omega
      have HBLr := Lib.hid (G.bl_trans HBL1.out HBW.out)
      have HBr := Lib.hid (HB1.out.below hbw HB1.out.lt)
      have c2r := (HBr.out.cell 2).trans HC2.out
      have lr := HBr.out.lt
      have lw1 := hbw.size
      clear hbw hown
      by_cases hlt : j < ol
      ·have hjI : (j : Int) < ol := by omega
       obtain ⟨bo, oo, rfl, hrd⟩ := (HR.out.below HBLr.out).2 (by omega)
       have hco := i64_at hrd (k := j) (by rw [← HOL.out]; exact hlt)
       obtain ⟨o0, o1⟩ := H3.out.2.1 _ (mem_getD (d := 0) (show j < order.length by rw [← HOL.out]; exact hlt))
       obtain ⟨on, hon⟩ := Int.eq_ofNat_of_zero_le o0
       rw [hon] at hco o1
       have hon2 : on < ol := by omega
       have honI : ((on : Nat) : Int) < ol := by omega
       have HON := Lib.hid (show (order.getD j 0).toNat = on by rw [hon]; rfl)
       have hcr := (HBLr.out.cell (p := ⟨bz, oz + zi, none⟩) HLBZ.out).trans HCZ.out
       obtain ⟨br, or_, hra, hrz⟩ := (HRZ.out.below HBLr.out).2 (by omega)
       have hcz := i64_at hrz (k := j) (by rw [← HZL.out]; omega)
       subst hra
       obtain ⟨v, hv⟩ : ∃ v, v = Z.getD j 0 := ⟨_, rfl⟩
       rw [← hv] at hcz
       obtain ⟨y, hy⟩ := G.own_some HOW.out on (by omega)
       have hfy := HOW.out.frozenAt on
       have hst := HOW.out.stored on (.int .i64 v)
       have hfs : (bwdP order Z ol j).set on v = bwdP order Z ol (j + 1) := by
        rw [hv, ← HON.out]
        exact bwd_step H3.out hlt
       rw [i64s_set, hfs] at hst
       clear hfs
       have HST := Lib.hid hst
       have HBN := Lib.hid (Bl.sc HBW.out (p := ⟨w1.heap.size, on, none⟩) (Nat.le_refl _) (.int .i64 v))
       clear hrd hrz hon hv hst o0 o1
       go_wp2_with fail
       go_region
       go_wp2_with fail
       go_roundw
       case rel => exact ⟨j + 1, by omega, by go_num, HBN.out.drew, HST.out.1.drew⟩
       case measure => simp [intOf] <;> omega
      ·obtain rfl : ol = j := by omega
       have hjI : ¬ (ol : Int) < ol := by omega
       have HCPr := Lib.hid (HCP.out wr HBLr.out)
       have HRr := Lib.hid (HR1.out.below HBW.out HR1.out.lt)
       go_upto_region 11 with (first | (refine wpList_load_row rfl 27 _ rfl g rfl _ cs (0, 0) _ HBr.out HFS.out rfl (by rw [HS.out]; exact sizeSt) ?_) | ((with_reducible refine (HCPr.out).mono ?_); rintro e3 w3 hp; obtain ⟨x2, rfl, ho3, hb3⟩ := hp; have HO3 := Lib.hid ho3; have HBW3 := Lib.hid hb3; have HB3 := Lib.hid (HBr.out.below hb3 HBr.out.lt); have HR3 := Lib.hid (HRr.out.below hb3 HRr.out.lt); clear ho3 hb3) | (refine wpList_store_row rfl 27 _ _ rfl g (x2.arr s) rfl rfl 27 _ HB3.out (by kernel_rfl) (by rw [HS.out]; rfl) (arr_one _ _) ?_))
       have HST := Lib.hid (copied HB3.out HO3.out (show g ≤ _ by have := HBLr.out.size; rw [HG.out]; exact this))
       have HO4 := Lib.hid (HO3.out.only (only_row (cs2 := x2.arr s) HB3.out) (by decide) (by decide) (by decide) (by decide))
       have HR4 := Lib.hid (show G.Blk (w3.setRow g (x2.arr s)) (g + 1) 27 zeroA from (setRow_other w3 g (g + 1) _ (by omega)).trans HR3.out)
       have HBL4 := Lib.hid (show Below g w (w3.setRow g (x2.arr s)) by rw [HG.out]; exact below_setRow (G.bl_trans HBLr.out HBW3.out) (by omega) _)
       have HOL4 := Lib.hid (show (w3.setRow g (x2.arr s)).ownsRow w1.heap.size 3 1 (.slice (some ⟨w1.heap.size, 0, none⟩) ol ol) ol (i64s (shufB order Z)) by
        have h9 := HOW.out
        rw [bwd_end H3.out] at h9
        exact (only_row (cs2 := x2.arr s) HB3.out).own (G.own_below h9 HBW3.out) (by decide))
       have HWL := Lib.hid (show w1.heap.size < wr.heap.size from ((HOW.out.lt w1.heap.size rfl).2))
       obtain ⟨w4, hw4⟩ : ∃ w4, w4 = w3.setRow g (x2.arr s) := ⟨_, rfl⟩
       rw [← hw4] at HST HO4 HR4 HBL4 HOL4 ⊢
       clear hw4 HB3 HR3 HO3 HBW3 HCPr c2r
       have d2 := HST.out.cells.2.2.1
       have l4 := HST.out.blk.lt
       obtain ⟨gz, ra4, rk4, hza4, hgz, hrv4, hrc4, hrf4, _⟩ := HST.out.row hzi
       rw [hza4, ← HN.out] at d2
       have HNZ := Lib.hid (own_ne_blk HST.out.own.z hza4 HR4.out (by decide))
       have HLE := Lib.hid (show g ≤ w1.heap.size by have := HBL1.out.size; rw [HG.out]; exact this)
       have HFIN := Lib.hid (HST.out.rowset (l := shufB order Z) (v1 := .slice (some ⟨w1.heap.size, 0, none⟩) ol ol) hzi hza4 (own_n (G.own_ge HOL4.out HLE.out) (by rw [shufB_length]; exact HOL.out)) (fun k hk hne => old_ne (HO4.out.rows k hk) rfl HWL.out))
       have HRF := Lib.hid (blk_cell_ne (i := zi) (u := .slice (some ⟨w1.heap.size, 0, none⟩) ol ol) HR4.out HNZ.out)
       have HBF := Lib.hid (HBL4.out.setCell (p := ⟨gz, zi, none⟩) hgz (.slice (some ⟨w1.heap.size, 0, none⟩) ol ol))
       have HO := Lib.hid (shuffleS_yes (s := s) (z := zi) (Z := Z) (order := order) (back := true) hzi HZZ.out (by rw [← HZL.out]; exact H3.out) H4.out)
       have hgzl := World.block_lt_of_cell? _ _ hrc4
       clear hza4 hrv4 hgz
       go_wp2_with (first | (refine wpList_load_row rfl 27 _ rfl g rfl _ (SV.arr _ _) (0, 0) _ HFIN.out.blk HFS.out rfl sizeSt ?_) | (refine wpList_store_row rfl 27 _ _ rfl (g + 1) (SV.arr _ _) rfl rfl 27 _ HRF.out (by kernel_rfl) rfl (arr_one _ _) ?_))
       exact bodyPost_ret (v := .tuple #[.agg (SV.arr _ _), .bool true]) (st_results2 rfl _ _ (g + 1) _ _ rfl rfl (setRow_heap _ _ _ _ _ _ HRF.out) rfl) rfl (rP_yes HO.out (st_done HFIN.out HRF.out HBF.out HG.out))
  ·have b3 := order_no h3
   rw [b3] at HOR
   have HO := Lib.hid (shuffleS_no (s := s) (z := zi) (order := order) (back := back) (fun h => h3 (by have h9 := h.2.1; unfold zone at h9; rw [Int.toNat_natCast, ← HZZ.out, ← HZL.out] at h9; exact h9)))
   clear h3 b3
   go_wp2_with (first | (go_at_call 122; with_reducible refine (HI.out _).mono ?_; rintro e wq ⟨rfl, rfl⟩) | ((with_reducible refine (HOR.out _ HBL0.out).mono ?_); rintro e1 w1 ⟨rfl, hb1⟩; have HB1 := Lib.hid (HB0.out.below hb1 HB0.out.lt); have HR1 := Lib.hid (HB0'.out.below hb1 HB0'.out.lt); have HBL1 := Lib.hid (G.bl_trans HBL0.out hb1); have c2q := (HB1.out.cell 2).trans HC2.out; have l1q := HB1.out.lt; clear hb1) | fail | (refine build_to zeroA rfl 27 _ rfl _ (by kernel_rfl) zeroA_b ?_) | (refine wpList_store_row rfl 27 _ _ rfl (g + 1) zeroA rfl rfl 27 _ HR1.out (by kernel_rfl) (by kernel_rfl) (by kernel_rfl) ?_))
   refine bodyPost_ret (v := .tuple #[.agg zeroA, .bool false]) (st_results2 rfl _ _ (g + 1) _ _ rfl rfl (setRow_heap _ _ _ _ _ _ HR1.out) rfl) rfl (rP_no HO.out ?_)
   exact below_setRow HBL1.out (by have := HG.out; omega) _
end Go.Proofs.YtofgmijmhpmabaaGreatDoor.D

/- Lists of structs (Players) that share no memory: the contract of (*tableauref00.Bag).apartPlayers. -/
import Derived.Test.YtofgmijmhpmabaaGreatDoorApartU8
import Derived.Test.YtofgmijmhpmabaaGreatDoorDMem
import Derived.Test.YtofgmijmhpmabaaGreatDoorBagAll
import Derived.StillTailTactics
namespace Go.Proofs.YtofgmijmhpmabaaGreatDoor.G
open Go Go.RowKit
set_option linter.unusedVariables false
set_option linter.unusedSimpArgs false
def mkPl (n i : Nat) : List Value := [.int .i32 (wrap32 (1048576 * (n : Int) + (i : Int) + 1)), .int .i32 0, .bool false]
theorem mkPl_one (n i : Nat) : ∀ u ∈ mkPl n i, u.oneCell' = true := by
 intro u hu
 simp only [mkPl, List.mem_cons, List.mem_nil_iff, or_false] at hu
 rcases hu with rfl | rfl | rfl <;> rfl
theorem cells3_use {Q : Prop} {w : World} {base : Nat} {e : TypeId} {g n cap j : Nat} {xs : List Value} (h : w.ownsRow base e 3 (.slice (some ⟨g, 0, none⟩) n cap) n xs) (hj : j < n)
 (hQ : ∀ y0 y1 y2, w.cell? ⟨g, j * 3, none⟩ = some y0 → w.cell? ⟨g, j * 3 + 1, none⟩ = some y1 → w.cell? ⟨g, j * 3 + 2, none⟩ = some y2 → w.frozen? ⟨g, j * 3, none⟩ = false → w.frozen? ⟨g, j * 3 + 1, none⟩ = false → w.frozen? ⟨g, j * 3 + 2, none⟩ = false → Q) : Q := by
 have hc : ∀ c, c < 3 → w.cell? ⟨g, j * 3 + c, none⟩ = some (xs.getD (j * 3 + c) undef) := fun c hc => by
  rw [h.cellAt _ (by omega), List.getD_eq_getElem?_getD, List.getElem?_eq_getElem (by rw [h.1]; omega)]
  rfl
 exact hQ _ _ _ (hc 0 (by omega)) (hc 1 (by omega)) (hc 2 (by omega)) (h.frozenAt _) (h.frozenAt _) (h.frozenAt _)
theorem pl_use {Q : Prop} {w : World} {base : Nat} {e : TypeId} {g cap m n j : Nat} (h : w.ownsRow base e 3 (.slice (some ⟨g, 0, none⟩) m cap) m (mks mkPl n m)) (hj : j < m)
 (hQ : w.cell? ⟨g, j * 3, none⟩ = some (.int .i32 (wrap32 (1048576 * (n : Int) + (j : Int) + 1))) → w.cell? ⟨g, j * 3 + 1, none⟩ = some (.int .i32 0) → w.cell? ⟨g, j * 3 + 2, none⟩ = some (.bool false) → Q) : Q :=
 hQ (mark_cellc (sz := 3) (mk := mkPl) (n := n) (c := 0) (fun _ _ => rfl) h hj rfl) (mark_cellc (sz := 3) (mk := mkPl) (n := n) (c := 1) (fun _ _ => rfl) h hj rfl) (mark_cellc (sz := 3) (mk := mkPl) (n := n) (c := 2) (fun _ _ => rfl) h hj rfl)
theorem info22 : (Tryz.prog.info? 22).map (fun i => (i.zero, i.size, i.bytes)) = some (some (.slice none 0 0), 1, 24) := by kernel_rfl
theorem info103 : (Tryz.prog.info? 103).map (fun i => (i.zero, i.size, i.bytes)) = some (some (.agg #[.int .i32 0, .int .i32 0, .bool false]), 3, 12) := by kernel_rfl
set_option maxRecDepth 100000 in
set_option maxHeartbeats 4000000 in
theorem apartPlayers_any (base gb k hc : Nat) (HA : Option Addr) (cs : Array Value) (Ls : List Lst) (w : World) (hB : Blk w gb 64 cs) (hcs : cs[7]? = some (.slice HA k hc)) (hk : Ls.length = k) (hk4 : k ≤ 400)
 (hho : w.ownsRow base 22 1 (.slice HA k hc) k (Ls.map Lst.v)) (hF : Fam w base 103 3 (Rows0 Ls)) (hlen : ∀ l ∈ Ls, l.n ≤ 1099511627776) (hbase : base ≤ w.heap.size) :
 Calls Tryz.prog 73 #[.pointer (some ⟨gb, 0, none⟩)] w (ApartPost base 103 w) := by
 have hmk : ∀ n i, (mkPl n i).length = 3 := fun _ _ => rfl
 have HBAG := Lib.hid (fun wr hO => bag_at (wr := wr) (E := 103) hB hcs hho hO (by decide) (by decide))
 have HHO := Lib.hid hho
 have HF := Lib.hid hF
 have HL := Lib.hid hlen
 have HK := Lib.hid hk
 have hB1 := Lib.hid hbase
 clear hB hho hF hlen hk
 go_enter Tryz.func73, Tryz.ntmps73
 go_wp2
 go_loopw [3] (fun i wr => ∃ n : Nat, n ≤ k ∧ i = .int .i64 n ∧ Only 103 base w wr ∧ Fam wr base 103 3 (P1 Ls mkPl 3 n 0)) (fun i _ => k - (intOf i).toNat)
 case atStart => exact ⟨0, Nat.zero_le _, rfl, Only.refl _ _ _, p1_start HF.out⟩
 case round =>
  obtain ⟨n, hn, rfl, hO, hfam⟩ := hrel
  have hbc := (HBAG.out wr hO).1
  have h0n : (0 : Int) ≤ n := by omega
  by_cases hlt : n < k
  ·obtain ⟨l, hl⟩ : ∃ l, Ls[n]? = some l := ⟨_, List.getElem?_eq_getElem (by rw [HK.out]; exact hlt)⟩
   have hln := HL.out l (List.mem_of_getElem? hl)
   have HL1 := Lib.hid hl
   clear hl
   go_wp2
   obtain ⟨wo, hwo⟩ : ∃ wo : World, wo = wr := ⟨_, rfl⟩
   subst hwo
   go_loopw [4] (fun i wr => ∃ j : Nat, j ≤ l.n ∧ i = .int .i64 j ∧ Only 103 base w wr ∧ Fam wr base 103 3 (P1 Ls mkPl 3 n j)) (fun i _ => l.n - (intOf i).toNat)
   case atStart => exact ⟨0, Nat.zero_le _, rfl, hO, hfam⟩
   case round =>
    obtain ⟨j, hj, rfl, hO2, hfam2⟩ := hrel
    obtain ⟨hbc2, hrd⟩ := HBAG.out wr hO2
    obtain ⟨hb, ho, hHA, hrv⟩ := hrd.2 (by omega)
    subst hHA
    have hhc := hdr_at hrv HL1.out
    have hrow := p1_row hfam2 HL1.out
    have h0j : (0 : Int) ≤ j := by omega
    by_cases hjl : j < l.n
    ·obtain ⟨g, cp, hv, hbg, hcap, cur, hgg⟩ := own_addr hrow (by omega)
     rw [hv] at hhc hrow
     have hst := own_setCells (mkPl n j) (p := j * 3) hrow (by have := hrow.1; rw [hmk]; omega)
     rw [setmid hmk (by have := hrow.1; rw [List.length_append, mks_length hmk, List.length_drop] at this; omega)] at hst
     have HST := Lib.hid hst
     have HV := Lib.hid hv
     have HG := Lib.hid hgg
     have HFAM := Lib.hid hfam2
     have hjn : (j : Int) < l.n := by omega
     refine cells3_use hrow hjl ?_
     intro y0 y1 y2 c0 c1 c2 f0 f1 f2
     clear hst hv hgg hrow hrv hrd hfam hfam2
     go_wp2
     go_still_tail 13, (by kernel_rfl)
     still_call (num_still n j _ (by omega) (by omega))
     repeat still_step
     try refine wpStill_nil ?_
     change wpList _ _ _ _ _ wr.drew
     go_wp2
     go_roundw
     case rel => exact ⟨j + 1, by omega, by go_num, (hO2.grown_in HST.out.2 hbg (by have := hO2.below.size; have := hB1.out; omega) HG.out).drewN 1, (p1_step hmk HFAM.out HL1.out hjl (by rw [HV.out]; exact HST.out.1) (by rw [HV.out]; exact HST.out.2)).drewN 1⟩
     case measure => simp [intOf] <;> omega
    ·obtain rfl : j = l.n := by omega
     obtain ⟨ao, cp, hv⟩ := own_shape hrow
     rw [hv] at hhc
     have HFAM := Lib.hid hfam2
     have hjn : ¬ (l.n : Int) < l.n := by omega
     clear hrow hrv hrd hfam hfam2 hv
     go_wp2
     go_roundw
     case rel => exact ⟨n + 1, by omega, by go_num, hO2, p1_next hmk HFAM.out HL1.out⟩
     case measure => simp [intOf] <;> omega
  ·obtain rfl : k = n := by omega
   have HFAM := Lib.hid (p1_end hfam HK.out.symm)
   have hnk : ¬ (k : Int) < k := by omega
   clear hfam
   obtain ⟨i0, hi, hz0, hz1, hz2⟩ := info_parts info103
   obtain ⟨i1, hi1, hz10, hz11, hz12⟩ := info_parts info22
   go_wp2
   obtain ⟨wp1, hwp1⟩ : ∃ wp1 : World, wp1 = wr := ⟨_, rfl⟩
   subst hwp1
   go_loopw [5, 6, 7] (fun v5 v6 i wr => ∃ (n : Nat) (os ms : List Value), n ≤ k ∧ i = .int .i64 n ∧ os.length = n ∧ ms.length = n ∧ Only 103 base w wr ∧ Fam wr base 103 3 (P2 Ls mkPl os ms) ∧ Fam wr w.heap.size 22 1 (Two v5 n os v6 n ms)) (fun _ _ i _ => k - (intOf i).toNat)
   case atStart => exact ⟨0, [], [], Nat.zero_le _, rfl, rfl, rfl, hO, HFAM.out, two_nil _ _ _⟩
   case round =>
    obtain ⟨n, os, ms, hn, rfl, hos, hms, hO, hfam, htwo⟩ := hrel
    have hbc := (HBAG.out wr hO).1
    have h0n : (0 : Int) ≤ n := by omega
    by_cases hlt : n < k
    ·obtain ⟨l, hl⟩ : ∃ l, Ls[n]? = some l := ⟨_, List.getElem?_eq_getElem (by rw [HK.out]; exact hlt)⟩
     have hln := HL.out l (List.mem_of_getElem? hl)
     obtain ⟨hbc2, hrd⟩ := HBAG.out wr hO
     obtain ⟨hb, ho, hHA, hrv⟩ := hrd.2 (by omega)
     subst hHA
     have hhc := hdr_at hrv hl
     obtain ⟨ao, cp, hv⟩ := own_shape (p2_row hfam hl)
     have hfam2 := p2_first hfam hl
     rw [hv] at hhc hfam2
     have HHC := Lib.hid (fun wr hO => by
      obtain ⟨q1, q2⟩ := HBAG.out wr hO
      obtain ⟨hb', ho', hHA', hrv'⟩ := q2.2 (by omega)
      simp only [Option.some.injEq, Addr.mk.injEq, and_true] at hHA'
      obtain ⟨rfl, rfl⟩ := hHA'
      have q3 := hdr_at hrv' hl
      rw [hv] at q3
      exact And.intro q1 q3)
     have HL1 := Lib.hid hl
     have HFAM := Lib.hid hfam2
     have HTWO := Lib.hid htwo
     clear hl hv hrv hrd hfam hfam2 htwo hbc2
     go_wp2
     obtain ⟨wp2, hwp2⟩ : ∃ wp2 : World, wp2 = wr := ⟨_, rfl⟩
     subst hwp2
     go_loopw [5, 8, 9] (fun v5 v i wr => ∃ (m : Nat) (os : List Value), l.n ≤ m ∧ m ≤ l.n + 70 ∧ i = .int .i64 m ∧ ((m = l.n ∧ os.length = n) ∨ (l.n < m ∧ os.length = n + 1)) ∧ Only 103 base w wr ∧ Fam wr base 103 3 (P2in Ls mkPl os ms n v m) ∧ Fam wr w.heap.size 22 1 (Two v5 os.length os u6 n ms)) (fun _ _ i _ => l.n + 70 - (intOf i).toNat)
     case atStart => exact ⟨l.n, os, Nat.le_refl _, by omega, rfl, .inl ⟨rfl, hos⟩, hO, HFAM.out, by rw [hos]; exact HTWO.out⟩
     case round =>
      obtain ⟨m, os, hm0, hm1, rfl, hom, hO, hfam, htwo⟩ := hrel
      obtain ⟨hbc, hhc⟩ := HHC.out wr hO
      have h0m : (0 : Int) ≤ m := by omega
      have hsz := hO.below.size
      have hpos := hB1.out
      have HCUR := Lib.hid (p2_cur hfam)
      have HFAM := Lib.hid hfam
      have HTWO := Lib.hid htwo
      clear hfam htwo
      by_cases hmt : m < l.n + 70
      ·have h1 : (m : Int) < l.n + 70 := by omega
       by_cases hml : m = l.n
       ·subst hml
        go_wp2_with (first
         | (go_at_call 98; refine (num_any n l.n _ (by omega) (by omega)).mono ?_; rintro e wq ⟨rfl, rfl⟩)
         | (at_builtin; refine wpList_append_keep _ rfl (.tmp 80) (.tmp 86) 22 rfl base 103 i0 _ 3 12 Tryz.underlying22 hi hz0 hz1 hz2 rfl (by decide) _ _ _ rfl (HCUR.out.alloc _) ⟨wr.heap.size, 0, none⟩ 1 1 (mkPl n l.n) rfl rfl (cells_new _ _ _ _ rfl) (mkPl_one _ _) (by unfold maxLen; omega) (by omega) (by simp; omega) ?_; intro v' w2 hown2 hwent2; obtain ⟨pa, pc, hv'⟩ := own_shape hown2; subst hv'; have hO2 := Lib.hid ((hO.alloc (by omega) _).grown hwent2.by_ (by simp; omega) (own_blocks (HCUR.out.alloc _))); have hfam2 := Lib.hid (p2_app (HFAM.out.alloc _) HL1.out (by omega) (by omega) (by omega) hown2 hwent2); have two2 := Lib.hid ((HTWO.out.alloc _).far (HCUR.out.alloc _) hwent2.by_ (by decide)); have hbc2 := (HHC.out w2 hO2.out).1; have hhc2 := (HHC.out w2 hO2.out).2; have hsz2 := hO2.out.below.size; clear hown2 hwent2)
         | (at_builtin; refine wpList_append_keep _ rfl (.tmp 98) (.tmp 100) 49 rfl w.heap.size 22 i1 _ 1 24 Tryz.underlying49 hi1 hz10 hz11 hz12 rfl (by decide) _ _ _ rfl ((two_l two2.out).alloc _) ⟨w2.heap.size, 0, none⟩ 1 1 [.slice pa (l.n + 1) pc] rfl rfl (cells_new _ _ _ _ rfl) (one_of (p2_cur hfam2.out)) (by unfold maxLen; omega) (by omega) (by simp; omega) ?_; intro v5' w3 hown3 hwent3))
        have hO3 := Lib.hid ((hO2.out.alloc (by omega) _).grown_new hwent3.by_ hB1.out (fun g hg => ((two_l two2.out).lt g hg).1))
        have hfam3 := Lib.hid ((hfam2.out.alloc _).far ((two_l two2.out).alloc _) hwent3.by_ (by decide))
        have two3 := Lib.hid (two_app_l (two2.out.alloc _) hown3 hwent3)
        go_roundw
        case rel => exact ⟨l.n + 1, os ++ [_], by omega, by omega, by go_num, .inr ⟨by omega, by rw [List.length_append]; simp; omega⟩, hO3.out, p2_keep1 hfam3.out HL1.out (by omega), by rw [List.length_append]; exact two3.out⟩
        case measure => simp [intOf] <;> omega
       ·have hml1 : ((m : Int) == l.n) = false := by simpa using fun h : (m : Int) = l.n => hml (by omega)
        go_wp2_with (first
         | (go_at_call 98; refine (num_any n m _ (by omega) (by omega)).mono ?_; rintro e wq ⟨rfl, rfl⟩)
         | (at_builtin; refine wpList_append_keep _ rfl (.tmp 80) (.tmp 86) 22 rfl base 103 i0 _ 3 12 Tryz.underlying22 hi hz0 hz1 hz2 rfl (by decide) _ _ _ rfl (HCUR.out.alloc _) ⟨wr.heap.size, 0, none⟩ 1 1 (mkPl n m) rfl rfl (cells_new _ _ _ _ rfl) (mkPl_one _ _) (by unfold maxLen; omega) (by omega) (by simp; omega) ?_; intro v' w2 hown2 hwent2; obtain ⟨pa, pc, hv'⟩ := own_shape hown2; subst hv'; have hO2 := Lib.hid ((hO.alloc (by omega) _).grown hwent2.by_ (by simp; omega) (own_blocks (HCUR.out.alloc _))); have hfam2 := Lib.hid (p2_app (HFAM.out.alloc _) HL1.out (by omega) (by omega) (by omega) hown2 hwent2); have two2 := Lib.hid ((HTWO.out.alloc _).far (HCUR.out.alloc _) hwent2.by_ (by decide)); have hbc2 := (HHC.out w2 hO2.out).1; have hhc2 := (HHC.out w2 hO2.out).2; have hsz2 := hO2.out.below.size; clear hown2 hwent2))
        go_roundw
        case rel => exact ⟨m + 1, os, by omega, by omega, by go_num, .inr ⟨by omega, by omega⟩, hO2.out, hfam2.out, two2.out⟩
        case measure => simp [intOf] <;> omega
      ·obtain rfl : m = l.n + 70 := by omega
       have h1 : ¬ ((l.n + 70 : Nat) : Int) < l.n + 70 := by omega
       obtain ⟨pa, pc, hv'⟩ := own_shape HCUR.out
       subst hv'
       go_wp2_with (at_builtin; refine wpList_append_keep _ rfl (.tmp 102) (.tmp 104) 49 rfl w.heap.size 22 i1 _ 1 24 Tryz.underlying49 hi1 hz10 hz11 hz12 rfl (by decide) _ _ _ rfl ((two_r HTWO.out).alloc _) ⟨wr.heap.size, 0, none⟩ 1 1 [.slice pa (l.n + 70) pc] rfl rfl (cells_new _ _ _ _ rfl) (one_of HCUR.out) (by unfold maxLen; omega) (by omega) (by simp; omega) ?_; intro v6' w3 hown3 hwent3)
       have hO3 := Lib.hid ((hO.alloc (by omega) _).grown_new hwent3.by_ hB1.out (fun g hg => ((two_r HTWO.out).lt g hg).1))
       have hfam3 := Lib.hid ((HFAM.out.alloc _).far ((two_r HTWO.out).alloc _) hwent3.by_ (by decide))
       have two3 := Lib.hid (two_app_r (HTWO.out.alloc _) hown3 hwent3)
       go_roundw
       case rel => exact ⟨n + 1, os, ms ++ [_], by omega, by go_num, by omega, by rw [List.length_append]; simp; omega, hO3.out, p2_keep70 hfam3.out HL1.out hms, (show os.length = n + 1 by omega) ▸ two3.out⟩
       case measure => simp [intOf] <;> omega
    ·obtain rfl : k = n := by omega
     have hnk2 : ¬ (k : Int) < k := by omega
     have HFAM := Lib.hid hfam
     have HTWO := Lib.hid htwo
     clear hfam htwo
     go_wp2
     obtain ⟨wp3, hwp3⟩ : ∃ wp3 : World, wp3 = wr := ⟨_, rfl⟩
     subst hwp3
     obtain ⟨a6, c6, hv6⟩ := own_shape (two_r HTWO.out)
     subst hv6
     obtain ⟨a5, c5, hv5⟩ := own_shape (two_l HTWO.out)
     subst hv5
     go_loopw [10] (fun i wr => ∃ n : Nat, n ≤ k ∧ i = .int .i64 n ∧ Only 103 base w wr ∧ Fam wr base 103 3 (P2 Ls mkPl os ms) ∧ Fam wr w.heap.size 22 1 (Two (.slice a5 k c5) k os (.slice a6 k c6) k ms)) (fun i _ => k - (intOf i).toNat)
     case atStart => exact ⟨0, Nat.zero_le _, rfl, hO, HFAM.out, HTWO.out⟩
     case round =>
      obtain ⟨n, hn, rfl, hO, hfam, htwo⟩ := hrel
      have h0n : (0 : Int) ≤ n := by omega
      by_cases hlt : n < k
      ·refine look_use HBAG.out HHO.out HK.out hos hms hlt HL.out hfam htwo ?_
       intro hb h5 h6 ln gm cm go co cl al e1 e2 e3 hln hlook
       subst e1 e2 e3
       have HLOOK := Lib.hid hlook
       have hm0 := (hlook wr hO hfam htwo).more
       have HFAM := Lib.hid hfam
       have HTWO := Lib.hid htwo
       clear hlook hfam htwo
       go_wp2
       obtain ⟨wp4, hwp4⟩ : ∃ wp4 : World, wp4 = wr := ⟨_, rfl⟩
       subst hwp4
       go_loopw [11] (fun i wr => ∃ j : Nat, j ≤ ln + 70 ∧ i = .int .i64 j ∧ Only 103 base w wr ∧ Fam wr base 103 3 (P2 Ls mkPl os ms) ∧ Fam wr w.heap.size 22 1 (Two (.slice (some ⟨h5, 0, none⟩) k c5) k os (.slice (some ⟨h6, 0, none⟩) k c6) k ms)) (fun i _ => ln + 70 - (intOf i).toNat)
       case atStart => exact ⟨0, Nat.zero_le _, rfl, hO, HFAM.out, HTWO.out⟩
       case round =>
        obtain ⟨j, hj, rfl, hO, hfam, htwo⟩ := hrel
        have hL := HLOOK.out wr hO hfam htwo
        have hbag := hL.bag
        have hhdr := hL.hdr
        have hone := hL.one
        have hmore := hL.more
        have z1 : gb < wr.heap.size := World.block_lt_of_cell? _ _ hbag
        have z2 : hb < wr.heap.size := World.block_lt_of_cell? _ _ hhdr
        have z3 : h5 < wr.heap.size := World.block_lt_of_cell? _ _ hone
        have z4 : h6 < wr.heap.size := World.block_lt_of_cell? _ _ hmore
        have h0j : (0 : Int) ≤ j := by omega
        have HFAM := Lib.hid hfam
        have HTWO := Lib.hid htwo
        have hbz : base ≤ wr.heap.size := by have := hO.below.size; have := hB1.out; omega
        by_cases hjm : j < ln + 70
        ·refine pl_use hL.m hjm ?_
         intro m0 m1 m2
         obtain ⟨Z, hZ⟩ : ∃ Z, 1048576 * (n : Int) + (j : Int) + 1 = Z := ⟨_, rfl⟩
         obtain ⟨V, hV⟩ : ∃ V, wrap32 Z = V := ⟨_, rfl⟩
         have hnum := fun w' => num_still n j w' (by omega) (by omega)
         rw [hZ] at hnum
         rw [hZ, hV] at m0
         have HNUM := Lib.hid hnum
         clear hnum
         have z5 : gm < wr.heap.size := World.block_lt_of_cell? _ _ m0
         have h1 : (j : Int) < ln + 70 := by omega
         by_cases hjl : j < ln
         ·refine own_use hL.r (by omega) ?_
          intro gl hal
          subst hal
          refine pl_use hL.r hjl ?_
          intro r0 r1 r2
          rw [hZ, hV] at r0
          have z6 : gl < wr.heap.size := World.block_lt_of_cell? _ _ r0
          have hje : ((j : Int) == ln) = false := by simp; omega
          clear hL hfam htwo
          go_wp2
          go_quiet ((go_at_call 98; exact Calls.quiet_of_same (HNUM.out _)))
          go_wp2
          go_quiet ((go_at_call 98; exact Calls.quiet_of_same (HNUM.out _)))
          go_wp2
          go_roundw
          case rel => refine ⟨j + 1, by omega, by go_num, hO.later hbz ?_, HFAM.out.below ?_, HTWO.out.below ?_⟩ <;> repeat (first | (with_reducible apply bl_drewN) | (with_reducible refine bl_set ?_ (by simp) _) | (with_reducible apply bl_alloc) | (with_reducible exact Below.refl _ _))
          case measure => simp [intOf] <;> omega
         ·have hjl1 : ¬ (j : Int) < ln := by omega
          by_cases hje : j = ln
          ·subst hje
           refine pl_use hL.o (Nat.lt_succ_self _) ?_
           intro o0 o1 o2
           rw [hZ, hV] at o0
           have z6 : go < wr.heap.size := World.block_lt_of_cell? _ _ o0
           clear hL hfam htwo
           go_wp2
           go_quiet ((go_at_call 98; exact Calls.quiet_of_same (HNUM.out _)))
           go_wp2
           go_quiet ((go_at_call 98; exact Calls.quiet_of_same (HNUM.out _)))
           go_wp2
           go_roundw
           case rel => refine ⟨j + 1, by omega, by go_num, hO.later hbz ?_, HFAM.out.below ?_, HTWO.out.below ?_⟩ <;> repeat (first | (with_reducible apply bl_drewN) | (with_reducible refine bl_set ?_ (by simp) _) | (with_reducible apply bl_alloc) | (with_reducible exact Below.refl _ _))
           case measure => simp [intOf] <;> omega
          ·have hje1 : ((j : Int) == ln) = false := by simp; omega
           clear hL hfam htwo
           go_wp2
           go_quiet ((go_at_call 98; exact Calls.quiet_of_same (HNUM.out _)))
           go_wp2
           go_quiet ((go_at_call 98; exact Calls.quiet_of_same (HNUM.out _)))
           go_wp2
           go_roundw
           case rel => refine ⟨j + 1, by omega, by go_num, hO.later hbz ?_, HFAM.out.below ?_, HTWO.out.below ?_⟩ <;> repeat (first | (with_reducible apply bl_drewN) | (with_reducible refine bl_set ?_ (by simp) _) | (with_reducible apply bl_alloc) | (with_reducible exact Below.refl _ _))
           case measure => simp [intOf] <;> omega
        ·have h1 : ¬ (j : Int) < ln + 70 := by omega
         clear hL hfam htwo
         go_wp2
         go_roundw
         case rel => exact ⟨n + 1, by omega, by go_num, hO, HFAM.out, HTWO.out⟩
         case measure => simp [intOf] <;> omega
      ·go_wp2
       go_ret
       exact ⟨rfl, hO⟩
end Go.Proofs.YtofgmijmhpmabaaGreatDoor.G

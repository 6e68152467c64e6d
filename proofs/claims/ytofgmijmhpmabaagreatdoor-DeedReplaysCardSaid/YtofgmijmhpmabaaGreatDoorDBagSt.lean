/- States in a bag: AddState; two states that share nothing lie apart. -/
import Derived.Test.YtofgmijmhpmabaaGreatDoorBagAll
import Derived.Test.YtofgmijmhpmabaaGreatDoorInBag
import Derived.Test.YtofgmijmhpmabaaGreatDoorApartRows
import Derived.Test.YtofgmijmhpmabaaGreatDoorApartPlayers
import Derived.Test.YtofgmijmhpmabaaGreatDoorApartCards
import Derived.Test.YtofgmijmhpmabaaGreatDoorApartU8
import Derived.Test.YtofgmijmhpmabaaGreatDoorApartInts
import Derived.Test.YtofgmijmhpmabaaGreatDoorDMem
import Derived.Deep.Cut
namespace Go.Proofs.YtofgmijmhpmabaaGreatDoor.G
open Go Go.RowKit
set_option linter.unusedVariables false
set_option linter.unusedSimpArgs false
set_option maxRecDepth 100000 in
set_option maxHeartbeats 1000000 in
theorem addPlayers_raw (base gb k hc n cl : Nat) (HA al : Option Addr) (cs : Array Value) (hdrs : List Value) (w : World) (hB : Blk w gb 64 cs) (hcs : cs[7]? = some (.slice HA k hc)) (hk : k < 400)
 (hho : w.ownsRow base 22 1 (.slice HA k hc) k hdrs) (hgb : base ≤ gb) :
 Calls Tryz.prog 63 #[.pointer (some ⟨gb, 0, none⟩), .slice al n cl] w (AddPost 64 22 base gb 7 k cs hdrs (.slice al n cl) w) := by
 obtain ⟨i1, hi1, hz10, hz11, hz12⟩ := info_parts info22
 have hcell := (hB.cell 7).trans hcs
 have hzb := hB.lt
 have HB := Lib.hid hB
 have HHO := Lib.hid hho
 have hk1 : (k : Int) < 400 := by omega
 clear hB hho
 go_enter Tryz.func63, Tryz.ntmps63
 go_wp2_with (at_builtin; refine wpList_append_own _ rfl (.tmp 14) (.tmp 16) 49 rfl base 22 i1 (.slice none 0 0) 1 24 Tryz.underlying49 hi1 hz10 hz11 hz12 rfl (by decide) _ _ _ rfl (HHO.out.alloc _) ⟨w.heap.size, 0, none⟩ 1 1 [.slice al n cl] rfl rfl (cells_new _ _ _ _ rfl) (by simp [Value.oneCell']) (by unfold maxLen; omega) (by omega) (by simp; omega) ?_; intro v' w1 hown1 hg1 _q; obtain ⟨HA', hc', hv⟩ := own_shape hown1; subst hv; have hB1 := Lib.hid ((HB.out.alloc _).far_row (HHO.out.alloc _) hg1 (by decide)); have hT1 := Lib.hid (((Touch.refl [64, 22] base w).later (by omega) (bl_alloc (Below.refl _ _) _)).grown (HHO.out.alloc _) hg1 (by decide) (Nat.le_refl _) (by simp; omega)); have hc1 := (hB1.out.cell 7).trans hcs; have hf1 := hB1.out.frozen 7)
 go_returns
 refine ⟨rfl, HA', hc', hB1.out.put _ _, ?_, hT1.out.set hB1.out (by decide) hgb _ _⟩
 exact hown1.kept (row := some gb) ((Touch.refl [] 0 w1).below |> fun _ => ⟨rfl, rfl, rfl, by simp, fun j hj hne => Below.heap_setCell w1 ⟨gb, 7, none⟩ _ j (fun e => hne (by rw [e]))⟩) (row_ne hown1 hB1.out (by decide))
theorem addPlayers_bag (gb n cl : Nat) (al : Option Addr) (L : Nat → List Value) (w : World) (hB : BagAll w gb L) (hk : (L 7).length < 400) :
 Calls Tryz.prog 63 #[.pointer (some ⟨gb, 0, none⟩), .slice al n cl] w (BagPost gb (addK L 7 [.slice al n cl]) w) := by
 obtain ⟨cs, h1, h2, h3⟩ := hB.ex
 obtain ⟨HA, hc, h4, h5⟩ := (h3 7 (by decide)).ex
 exact (addPlayers_raw gb gb _ hc n cl HA al cs _ w h1 h4 hk h5 (Nat.le_refl _)).mono fun e w' h => BagAll.add (i := 7) (HA := HA) (hc := hc) (by decide) h1 h2 h3 h
set_option maxRecDepth 100000 in
set_option maxHeartbeats 1000000 in
theorem addCards_raw (base gb k hc n cl : Nat) (HA al : Option Addr) (cs : Array Value) (hdrs : List Value) (w : World) (hB : Blk w gb 64 cs) (hcs : cs[8]? = some (.slice HA k hc)) (hk : k < 400)
 (hho : w.ownsRow base 23 1 (.slice HA k hc) k hdrs) (hgb : base ≤ gb) :
 Calls Tryz.prog 64 #[.pointer (some ⟨gb, 0, none⟩), .slice al n cl] w (AddPost 64 23 base gb 8 k cs hdrs (.slice al n cl) w) := by
 obtain ⟨i1, hi1, hz10, hz11, hz12⟩ := info_parts info23
 have hcell := (hB.cell 8).trans hcs
 have hzb := hB.lt
 have HB := Lib.hid hB
 have HHO := Lib.hid hho
 have hk1 : (k : Int) < 400 := by omega
 clear hB hho
 go_enter Tryz.func64, Tryz.ntmps64
 go_wp2_with (at_builtin; refine wpList_append_own _ rfl (.tmp 14) (.tmp 16) 50 rfl base 23 i1 (.slice none 0 0) 1 24 Tryz.underlying50 hi1 hz10 hz11 hz12 rfl (by decide) _ _ _ rfl (HHO.out.alloc _) ⟨w.heap.size, 0, none⟩ 1 1 [.slice al n cl] rfl rfl (cells_new _ _ _ _ rfl) (by simp [Value.oneCell']) (by unfold maxLen; omega) (by omega) (by simp; omega) ?_; intro v' w1 hown1 hg1 _q; obtain ⟨HA', hc', hv⟩ := own_shape hown1; subst hv; have hB1 := Lib.hid ((HB.out.alloc _).far_row (HHO.out.alloc _) hg1 (by decide)); have hT1 := Lib.hid (((Touch.refl [64, 23] base w).later (by omega) (bl_alloc (Below.refl _ _) _)).grown (HHO.out.alloc _) hg1 (by decide) (Nat.le_refl _) (by simp; omega)); have hc1 := (hB1.out.cell 8).trans hcs; have hf1 := hB1.out.frozen 8)
 go_returns
 refine ⟨rfl, HA', hc', hB1.out.put _ _, ?_, hT1.out.set hB1.out (by decide) hgb _ _⟩
 exact hown1.kept (row := some gb) ((Touch.refl [] 0 w1).below |> fun _ => ⟨rfl, rfl, rfl, by simp, fun j hj hne => Below.heap_setCell w1 ⟨gb, 8, none⟩ _ j (fun e => hne (by rw [e]))⟩) (row_ne hown1 hB1.out (by decide))
theorem addCards_bag (gb n cl : Nat) (al : Option Addr) (L : Nat → List Value) (w : World) (hB : BagAll w gb L) (hk : (L 8).length < 400) :
 Calls Tryz.prog 64 #[.pointer (some ⟨gb, 0, none⟩), .slice al n cl] w (BagPost gb (addK L 8 [.slice al n cl]) w) := by
 obtain ⟨cs, h1, h2, h3⟩ := hB.ex
 obtain ⟨HA, hc, h4, h5⟩ := (h3 8 (by decide)).ex
 exact (addCards_raw gb gb _ hc n cl HA al cs _ w h1 h4 hk h5 (Nat.le_refl _)).mono fun e w' h => BagAll.add (i := 8) (HA := HA) (hc := hc) (by decide) h1 h2 h3 h
set_option maxRecDepth 100000 in
set_option maxHeartbeats 2000000 in
theorem addRows_bag (gb cl n : Nat) (al : Option Addr) (vs : List Value) (L : Nat → List Value) (w0 w : World) (hn : n = vs.length) (hr : RdS w0 al 1 n vs) (hvs : ∀ v ∈ vs, ∃ a n c, v = .slice a n c) (hb0 : Below w0.heap.size w0 w) (hg0 : w0.heap.size ≤ gb) (hB : BagAll w gb L)
 (hk : (L 12).length < 400) (hk1 : (L 1).length + n ≤ 400) :
 Calls Tryz.prog 65 #[.pointer (some ⟨gb, 0, none⟩), .slice al n cl] w (BagPost gb (addK (addK L 12 [.slice al n cl]) 1 vs) w) := by
 have HN := Lib.hid hn
 obtain ⟨cs, hB1, hs, hK⟩ := hB.ex
 obtain ⟨HA, hc, hcs, hho⟩ := (hK 12 (by decide)).ex
 obtain ⟨i1, hi1, hz10, hz11, hz12⟩ := info_parts info24
 have hzb := hB1.lt
 have HB := Lib.hid hB1
 have HHO := Lib.hid (show w.ownsRow gb 24 1 (.slice HA (L 12).length hc) (L 12).length (L 12) from hho)
 have HR := Lib.hid hr
 have HVS := Lib.hid hvs
 have HB0 := Lib.hid hb0
 have HK := Lib.hid hK
 have HS := Lib.hid hs
 obtain ⟨k, hkk⟩ : ∃ k, k = (L 12).length := ⟨_, rfl⟩
 have HK1 := Lib.hid hk1
 rw [← hkk] at hcs HHO hk
 have hcell := (hB1.cell 12).trans hcs
 have HCS := Lib.hid hcs
 have HKK := Lib.hid hkk
 have hkI : (k : Int) < 400 := by omega
 have hnI : (n : Int) ≤ 400 := by omega
 have hn4 : n ≤ 400 := by omega
 clear hr hvs hb0 hB1 hcs hho hK hs hB hkk hn hk1
 go_enter Tryz.func65, Tryz.ntmps65
 go_wp2_with (at_builtin; refine wpList_append_own _ rfl (.tmp 15) (.tmp 17) 54 rfl gb 24 i1 (.slice none 0 0) 1 24 Tryz.underlying54 hi1 hz10 hz11 hz12 rfl (by decide) _ _ _ rfl (HHO.out.alloc _) ⟨w.heap.size, 0, none⟩ 1 1 [.slice al n cl] rfl rfl (cells_new _ _ _ _ rfl) (by simp [Value.oneCell']) (by unfold maxLen; omega) (by omega) (by simp; omega) ?_; intro v' w1 hown1 hg1 _q; obtain ⟨HA', hc', hv⟩ := own_shape hown1; subst hv; have hB1 := Lib.hid ((HB.out.alloc _).far_row (HHO.out.alloc _) hg1 (by decide)); have hT1 := Lib.hid (((Touch.refl [64, 24] gb w).later (by omega) (bl_alloc (Below.refl _ _) _)).grown (HHO.out.alloc _) hg1 (by decide) (Nat.le_refl _) (by simp; omega)); have hc1 := (hB1.out.cell 12).trans HCS.out; have hf1 := hB1.out.frozen 12; have HOWN := Lib.hid hown1; clear hown1 hg1)
 obtain ⟨w2, hw2⟩ : ∃ w2, w2 = w1.setCell ⟨gb, 12, none⟩ (.slice HA' (k + 1) hc') := ⟨_, rfl⟩
 have HP := Lib.hid (show AddPost 64 (kS 12) gb gb 12 k cs (L 12) (.slice al n cl) w (.returned (.tuple #[])) w2 by
  rw [hw2]
  exact ⟨rfl, HA', hc', hB1.out.put _ _, HOWN.out.kept (row := some gb) ((Touch.refl [] 0 w1).below |> fun _ => ⟨rfl, rfl, rfl, by simp, fun j hj hne => Below.heap_setCell w1 ⟨gb, 12, none⟩ _ j (fun e => hne (by rw [e]))⟩) (row_ne HOWN.out hB1.out (by decide)), hT1.out.set hB1.out (by decide) (Nat.le_refl _) _ _⟩)
 rw [HKK.out] at HP
 obtain ⟨-, hb2, hbag2⟩ := BagAll.add (i := 12) (HA := HA) (hc := hc) (by decide) HB.out HS.out HK.out HP.out
 have HB2 := Lib.hid hb2
 have HG2 := Lib.hid hbag2
 clear hb2 hbag2 HP
 rw [← hw2]
 clear hc1 hf1 hB1 hT1 HOWN hw2 hcell
 clear w1
 go_loopw [4] (fun i wr => ∃ j : Nat, j ≤ n ∧ i = .int .i64 j ∧ Touch bagTs gb w wr ∧ BagAll wr gb (addK (addK L 12 [.slice al n cl]) 1 (vs.take j))) (fun i _ => n - (intOf i).toNat)
 case atStart => exact ⟨0, Nat.zero_le _, rfl, HB2.out, by rw [List.take_zero, addK_nil]; exact HG2.out⟩
 case round =>
  obtain ⟨j, hj, rfl, hbw, hbag⟩ := hrel
  have h0j : (0 : Int) ≤ j := by omega
  have hj4 : (j : Int) ≤ 400 := by omega
  by_cases hjn : j < n
  ·have hjnI : (j : Int) < n := by omega
   have hj4' : (j : Int) < 400 := by omega
   obtain ⟨v, hv⟩ : ∃ v, vs[j]? = some v := ⟨_, List.getElem?_eq_getElem (by rw [← HN.out]; exact hjn)⟩
   obtain ⟨ra, rn, rc, rfl⟩ := HVS.out v (List.mem_of_getElem? hv)
   have hrs := HR.out.below (HB0.out.trans (hbw.below.mono hg0))
   obtain ⟨b, off, hal, hrv⟩ := hrs.2 (by omega)
   subst hal
   have hcv := row_at hrv hv
   have HV := Lib.hid hv
   have HBW := Lib.hid hbw
   have HBG := Lib.hid hbag
   have hln : ((addK (addK L 12 [.slice (some ⟨b, off, none⟩) n cl]) 1 (vs.take j)) 1).length < 400 := by
    rw [addK_same, addK_other (by decide), List.length_append, List.length_take]
    have := HK1.out
    omega
   have HLN := Lib.hid hln
   clear hv hbw hbag hrs hrv hln
   go_wp2_with fail
   refine (addInts_bag gb rn rc ra _ _ HBG.out HLN.out).mono ?_
   rintro e w3 ⟨rfl, hb3, hg3⟩
   have HB3 := Lib.hid (HBW.out.trans hb3)
   rw [addK_addK] at hg3
   have HG3 := Lib.hid (show BagAll w3 gb (addK (addK L 12 [.slice (some ⟨b, off, none⟩) n cl]) 1 (vs.take (j + 1))) by
    rw [List.take_add_one, HV.out]
    exact hg3)
   clear hb3 hg3
   go_wp2_with fail
   go_roundw
   case rel => exact ⟨j + 1, by omega, by go_num, HB3.out, HG3.out⟩
   case measure => simp [intOf] <;> omega
  ·obtain rfl : n = j := by omega
   have hnn : ¬ (n : Int) < n := by omega
   have HBW := Lib.hid hbw
   have HBG := Lib.hid (show BagAll wr gb (addK (addK L 12 [.slice al n cl]) 1 vs) by
    rw [show vs = vs.take n by rw [HN.out, List.take_length]]
    exact hbag)
   clear hbw hbag
   go_wp2_with fail
   go_returns
   exact ⟨rfl, HBW.out, HBG.out⟩
end Go.Proofs.YtofgmijmhpmabaaGreatDoor.G
namespace Go.Proofs.YtofgmijmhpmabaaGreatDoor.G
open Go Go.RowKit
set_option linter.unusedVariables false
set_option linter.unusedSimpArgs false
set_option maxRecDepth 100000 in
set_option maxHeartbeats 4000000 in
theorem apart_State (base gb : Nat) (cs : Array Value) (L1 L7 L8 L12 : List Lst) (w : World) (hB : Blk w gb 64 cs) (hnil : ∀ i, i < 21 → i ≠ 1 → i ≠ 7 → i ≠ 8 → i ≠ 12 → cs[i]? = some (.slice none 0 0))
 (h1 : InBag w base cs 1 28 3 1 L1) (h7 : InBag w base cs 7 22 103 3 L7) (h8 : InBag w base cs 8 23 101 6 L8) (h12 : InBag w base cs 12 24 28 1 L12) (hbase : base ≤ w.heap.size) :
 Calls Tryz.prog 23 #[.pointer (some ⟨gb, 0, none⟩)] w (fun e w' => e = .returned (.bool true) ∧ Touch [3, 103, 101, 28] base w w') := by
 have HB := Lib.hid hB
 have HNIL := Lib.hid hnil
 have H1 := Lib.hid h1
 have H7 := Lib.hid h7
 have H8 := Lib.hid h8
 have H12 := Lib.hid h12
 have HN := Lib.hid (fun w' ts (hO : Touch ts base w w') (hb : 64 ∉ ts) i h1 g1 g7 g8 g12 => ((hO.blk hB hb).cell i).trans (hnil i h1 g1 g7 g8 g12))
 have hbs := Lib.hid hbase
 clear hB hnil h1 h7 h8 h12
 have HT0 := Lib.hid (Touch.refl [3, 103, 101, 28] base w)
 go_enter Tryz.func23, Tryz.ntmps23
 go_wp2_with (first
  | (go_at_call 66; refine (apartBytes_none gb _ (HN.out _ _ (Touch.refl [] base w) (by decide) 0 (by decide) (by decide) (by decide) (by decide) (by decide))).mono ?_; rintro e wq ⟨rfl, rfl⟩)
  | (go_at_call 67; obtain ⟨HA1, hc1, q1, r1⟩ := (H1.out.touch (Touch.refl [] base w) (by decide) (by decide)).ex; refine (apartInts_any base gb L1.length hc1 HA1 cs L1 _ ((Touch.refl [] base w).blk HB.out (by decide)) q1 rfl H1.out.few r1 (H1.out.touch (Touch.refl [] base w) (by decide) (by decide)).fam H1.out.len (Nat.le_trans hbs.out (Touch.refl [] base w).below.size)).mono ?_; rintro e1 w1 ⟨rfl, hO1⟩; have HP1 := Lib.hid (((Touch.refl [] base w).weaken (ts' := [3]) (by decide)).trans (Touch.of_only hO1 (by decide))); clear hO1 q1 r1)
  | (go_at_call 68; refine (apartLongs_none gb _ (HN.out _ _ HP1.out (by decide) 2 (by decide) (by decide) (by decide) (by decide) (by decide))).mono ?_; rintro e wq ⟨rfl, rfl⟩)
  | (go_at_call 69; refine (apartWords_none gb _ (HN.out _ _ HP1.out (by decide) 3 (by decide) (by decide) (by decide) (by decide) (by decide))).mono ?_; rintro e wq ⟨rfl, rfl⟩)
  | (go_at_call 70; refine (apartFloats_none gb _ (HN.out _ _ HP1.out (by decide) 4 (by decide) (by decide) (by decide) (by decide) (by decide))).mono ?_; rintro e wq ⟨rfl, rfl⟩)
  | (go_at_call 71; refine (apartSmalls_none gb _ (HN.out _ _ HP1.out (by decide) 5 (by decide) (by decide) (by decide) (by decide) (by decide))).mono ?_; rintro e wq ⟨rfl, rfl⟩)
  | (go_at_call 72; refine (apartTexts_none gb _ (HN.out _ _ HP1.out (by decide) 6 (by decide) (by decide) (by decide) (by decide) (by decide))).mono ?_; rintro e wq ⟨rfl, rfl⟩)
  | (go_at_call 73; obtain ⟨HA7, hc7, q7, r7⟩ := (H7.out.touch HP1.out (by decide) (by decide)).ex; refine (apartPlayers_any base gb L7.length hc7 HA7 cs L7 _ (HP1.out.blk HB.out (by decide)) q7 rfl H7.out.few r7 (H7.out.touch HP1.out (by decide) (by decide)).fam H7.out.len (Nat.le_trans hbs.out HP1.out.below.size)).mono ?_; rintro e2 w2 ⟨rfl, hO2⟩; have HP2 := Lib.hid ((HP1.out.weaken (ts' := [3, 103]) (by decide)).trans (Touch.of_only hO2 (by decide))); clear hO2 q7 r7)
  | (go_at_call 74; obtain ⟨HA8, hc8, q8, r8⟩ := (H8.out.touch HP2.out (by decide) (by decide)).ex; refine (apartCards_any base gb L8.length hc8 HA8 cs L8 _ (HP2.out.blk HB.out (by decide)) q8 rfl H8.out.few r8 (H8.out.touch HP2.out (by decide) (by decide)).fam H8.out.len (Nat.le_trans hbs.out HP2.out.below.size)).mono ?_; rintro e3 w3 ⟨rfl, hO3⟩; have HP3 := Lib.hid ((HP2.out.weaken (ts' := [3, 103, 101]) (by decide)).trans (Touch.of_only hO3 (by decide))); clear hO3 q8 r8)
  | (go_at_call 75; refine (apartTokens_none gb _ (HN.out _ _ HP3.out (by decide) 9 (by decide) (by decide) (by decide) (by decide) (by decide))).mono ?_; rintro e wq ⟨rfl, rfl⟩)
  | (go_at_call 76; refine (apartNodes_none gb _ (HN.out _ _ HP3.out (by decide) 10 (by decide) (by decide) (by decide) (by decide) (by decide))).mono ?_; rintro e wq ⟨rfl, rfl⟩)
  | (go_at_call 77; refine (apartInstrs_none gb _ (HN.out _ _ HP3.out (by decide) 11 (by decide) (by decide) (by decide) (by decide) (by decide))).mono ?_; rintro e wq ⟨rfl, rfl⟩)
  | (go_at_call 78; obtain ⟨HA12, hc12, q12, r12⟩ := (H12.out.touch HP3.out (by decide) (by decide)).ex; refine (apartRows_any base gb L12.length hc12 HA12 cs L12 _ (HP3.out.blk HB.out (by decide)) q12 rfl H12.out.few r12 (H12.out.touch HP3.out (by decide) (by decide)).fam H12.out.len (Nat.le_trans hbs.out HP3.out.below.size)).mono ?_; rintro e4 w4 ⟨rfl, hO4⟩; have HP4 := Lib.hid ((HP3.out.weaken (ts' := [3, 103, 101, 28]) (by decide)).trans (Touch.of_only hO4 (by decide))); clear hO4 q12 r12)
  | (go_at_call 79; refine (apartShapes_none gb _ (HN.out _ _ HP4.out (by decide) 13 (by decide) (by decide) (by decide) (by decide) (by decide))).mono ?_; rintro e wq ⟨rfl, rfl⟩)
  | (go_at_call 80; refine (apartEvents_none gb _ (HN.out _ _ HP4.out (by decide) 14 (by decide) (by decide) (by decide) (by decide) (by decide))).mono ?_; rintro e wq ⟨rfl, rfl⟩)
  | (go_at_call 81; refine (apartValues_none gb _ (HN.out _ _ HP4.out (by decide) 15 (by decide) (by decide) (by decide) (by decide) (by decide))).mono ?_; rintro e wq ⟨rfl, rfl⟩)
  | (go_at_call 82; refine (apartAbilities_none gb _ (HN.out _ _ HP4.out (by decide) 16 (by decide) (by decide) (by decide) (by decide) (by decide))).mono ?_; rintro e wq ⟨rfl, rfl⟩)
  | (go_at_call 83; refine (apartDesigns_none gb _ (HN.out _ _ HP4.out (by decide) 17 (by decide) (by decide) (by decide) (by decide) (by decide))).mono ?_; rintro e wq ⟨rfl, rfl⟩)
  | (go_at_call 84; refine (apartEffects_none gb _ (HN.out _ _ HP4.out (by decide) 18 (by decide) (by decide) (by decide) (by decide) (by decide))).mono ?_; rintro e wq ⟨rfl, rfl⟩)
  | (go_at_call 85; refine (apartKinds_none gb _ (HN.out _ _ HP4.out (by decide) 19 (by decide) (by decide) (by decide) (by decide) (by decide))).mono ?_; rintro e wq ⟨rfl, rfl⟩)
  | (go_at_call 86; refine (apartStates_none gb _ (HN.out _ _ HP4.out (by decide) 20 (by decide) (by decide) (by decide) (by decide) (by decide))).mono ?_; rintro e wq ⟨rfl, rfl⟩))
 go_ret
 exact ⟨rfl, HP4.out⟩
end Go.Proofs.YtofgmijmhpmabaaGreatDoor.G
namespace Go.Proofs.YtofgmijmhpmabaaGreatDoor.D
open Go Go.RowKit
set_option linter.unusedVariables false
set_option linter.unusedSimpArgs false
def addSt (L : Nat → List Value) (x : SV) (s : St) : Nat → List Value :=
 G.addK (G.addK (G.addK (G.addK L 7 [.slice x.pa s.players.length x.pc]) 8 [.slice x.ca s.cards.length x.cc]) 12 [.slice x.za s.zones.length x.zc]) 1 x.rows
theorem addSt_1 (L : Nat → List Value) (x : SV) (s : St) : addSt L x s 1 = L 1 ++ x.rows := by simp [addSt, G.addK]
theorem addSt_7 (L : Nat → List Value) (x : SV) (s : St) : addSt L x s 7 = L 7 ++ [.slice x.pa s.players.length x.pc] := by simp [addSt, G.addK]
theorem addSt_8 (L : Nat → List Value) (x : SV) (s : St) : addSt L x s 8 = L 8 ++ [.slice x.ca s.cards.length x.cc] := by simp [addSt, G.addK]
theorem addSt_12 (L : Nat → List Value) (x : SV) (s : St) : addSt L x s 12 = L 12 ++ [.slice x.za s.zones.length x.zc] := by simp [addSt, G.addK]
theorem addSt_other {L : Nat → List Value} {x : SV} {s : St} {i : Nat} (h1 : i ≠ 1) (h7 : i ≠ 7) (h8 : i ≠ 8) (h12 : i ≠ 12) : addSt L x s i = L i := by simp [addSt, G.addK, h1, h7, h8, h12]
theorem OwnSt.rows_len {w : World} {base : Nat} {x : SV} {s : St} (h : OwnSt w base x s) : x.rows.length = s.zones.length := by
 have := h.z.1
 omega
theorem OwnSt.row_mem {w : World} {base : Nat} {x : SV} {s : St} (h : OwnSt w base x s) : ∀ v ∈ x.rows, ∃ a n c, v = .slice a n c := by
 intro v hv
 obtain ⟨i, hi, rfl⟩ := List.getElem_of_mem hv
 have h1 := h.rows i (by rw [← h.rows_len]; exact hi)
 rw [List.getD_eq_getElem?_getD, List.getElem?_eq_getElem hi] at h1
 obtain ⟨a, c, e⟩ := G.own_shape h1
 exact ⟨a, _, c, e⟩
set_option maxRecDepth 100000 in
set_option maxHeartbeats 2000000 in
theorem addState_any (gb base : Nat) (x : SV) (s : St) (L : Nat → List Value) (w0 w : World) (h : OwnSt w0 base x s) (hb0 : Below w0.heap.size w0 w) (hg0 : w0.heap.size ≤ gb) (hB : G.BagAll w gb L)
 (h7 : (L 7).length < 400) (h8 : (L 8).length < 400) (h12 : (L 12).length < 400) (h1 : (L 1).length + s.zones.length ≤ 400) :
 Calls Tryz.prog 22 #[.pointer (some ⟨gb, 0, none⟩), x.val s] w (G.BagPost gb (addSt L x s) w) := by
 have HO := Lib.hid h
 have HB0 := Lib.hid hb0
 have HG := Lib.hid hB
 have hgb := hB.lt
 obtain ⟨cs, hcs⟩ : ∃ cs, cs = x.arr s := ⟨_, rfl⟩
 have HBX := Lib.hid (G.Blk.new w 27 cs)
 obtain ⟨w1, hw1⟩ : ∃ w1, w1 = w.alloc (.cells cs 27) := ⟨_, rfl⟩
 have HB1 := Lib.hid (show Below w.heap.size w w1 by rw [hw1]; exact G.bl_alloc (Below.refl _ _) _)
 rw [← hw1] at HBX
 have HG1 := Lib.hid (HG.out.below HB1.out)
 have c0 := (HBX.out.cell 0).trans (show cs[0]? = some (.slice x.pa s.players.length x.pc) by rw [hcs]; rfl)
 have hwl : w.heap.size < w1.heap.size := HBX.out.lt
 have HC1 := Lib.hid (show cs[1]? = some (.slice x.ca s.cards.length x.cc) by rw [hcs]; rfl)
 have HC2 := Lib.hid (show cs[2]? = some (.slice x.za s.zones.length x.zc) by rw [hcs]; rfl)
 have HCS := Lib.hid hcs
 clear h hb0 hB
 unfold SV.val
 rw [← hcs]
 clear hcs
 go_enter Tryz.func22, Tryz.ntmps22
 go_upto_region 1 with (fail)
 rw [← hw1]
 clear hw1
 go_wp2_with fail
 refine (G.addPlayers_bag gb _ _ _ L w1 HG1.out h7).mono ?_
 rintro e w2 ⟨rfl, ht2, hg2⟩
 have HT2 := Lib.hid ht2
 have HG2 := Lib.hid hg2
 have HBX2 := Lib.hid (ht2.blk HBX.out (by decide))
 have c1 := (HBX2.out.cell 1).trans HC1.out
 have hwl2 : w.heap.size < w2.heap.size := HBX2.out.lt
 clear ht2 hg2 c0
 go_wp2_with fail
 refine (G.addCards_bag gb _ _ _ _ w2 HG2.out (by rw [G.addK_other (by decide)]; exact h8)).mono ?_
 rintro e w3 ⟨rfl, ht3, hg3⟩
 have HT3 := Lib.hid (HT2.out.trans ht3)
 have HG3 := Lib.hid hg3
 have HBX3 := Lib.hid (ht3.blk HBX2.out (by decide))
 have c2 := (HBX3.out.cell 2).trans HC2.out
 have hwl3 : w.heap.size < w3.heap.size := HBX3.out.lt
 clear ht3 hg3 c1
 go_wp2_with fail
 have HBL := Lib.hid (show Below w0.heap.size w0 w3 from (HB0.out.trans (HB1.out.mono HB0.out.size)).trans (HT3.out.below.mono hg0))
 refine (G.addRows_bag gb _ _ _ x.rows _ w0 w3 HO.out.rows_len.symm (G.RdS.of_own HO.out.z) HO.out.row_mem HBL.out hg0 HG3.out (by rw [G.addK_other (by decide), G.addK_other (by decide)]; exact h12) (by rw [G.addK_other (by decide), G.addK_other (by decide)]; exact h1)).mono ?_
 rintro e w4 ⟨rfl, ht4, hg4⟩
 have HT4 := Lib.hid (HT3.out.trans ht4)
 have HG4 := Lib.hid hg4
 clear ht4 hg4
 go_wp2_with fail
 go_returns
 exact ⟨rfl, (G.Touch.later (G.Touch.refl _ _ _) (Nat.le_of_lt hgb) HB1.out).trans HT4.out, HG4.out⟩
/-! ### Two states that share nothing -/
def LpP (x : SV) (s : St) : G.Lst := ⟨.slice x.pa s.players.length x.pc, s.players.length, flatP s.players⟩
def LpC (x : SV) (s : St) : G.Lst := ⟨.slice x.ca s.cards.length x.cc, s.cards.length, flatC s.cards⟩
def LpZ (x : SV) (s : St) : G.Lst := ⟨.slice x.za s.zones.length x.zc, s.zones.length, x.rows⟩
def LpR (x : SV) (s : St) : List G.Lst := (List.range s.zones.length).map fun i => ⟨x.rows.getD i undef, (s.zones.getD i []).length, i64s (s.zones.getD i [])⟩
theorem LpR_len (x : SV) (s : St) : (LpR x s).length = s.zones.length := by simp [LpR]
theorem LpR_v {x : SV} {s : St} (h : x.rows.length = s.zones.length) : (LpR x s).map G.Lst.v = x.rows := by
 apply List.ext_getElem?
 intro i
 by_cases hi : i < x.rows.length
 ·simp [LpR, List.getElem?_range (show i < s.zones.length by omega), List.getD_eq_getElem?_getD, List.getElem?_eq_getElem hi]
 ·rw [List.getElem?_eq_none (by rw [List.length_map, LpR_len]; omega), List.getElem?_eq_none (by omega)]
theorem LpR_at {x : SV} {s : St} {i : Nat} (hi : i < (LpR x s).length) : (LpR x s)[i] = ⟨x.rows.getD i undef, (s.zones.getD i []).length, i64s (s.zones.getD i [])⟩ := by simp [LpR]
theorem rows_fam {w w1 : World} {base b1 b2 : Nat} {x y : SV} {s t : St} (h1 : OwnSt w1 b1 x s) (hb : Below w1.heap.size w1 w) (h2 : OwnSt w b2 y t) (hs : w1.heap.size ≤ b2) (hb1 : base ≤ b1) (hb2 : base ≤ b2) :
 G.Fam w base 3 1 (G.Rows0 (LpR x s ++ LpR y t)) := by
 have key1 : ∀ i (hi : i < (LpR x s).length), w1.ownsRow b1 3 1 ((LpR x s)[i]).v ((LpR x s)[i]).n ((LpR x s)[i]).xs := fun i hi => by
  rw [LpR_at hi]
  exact h1.rows i (by rw [LpR_len] at hi; exact hi)
 have key2 : ∀ i (hi : i < (LpR y t).length), w.ownsRow b2 3 1 ((LpR y t)[i]).v ((LpR y t)[i]).n ((LpR y t)[i]).xs := fun i hi => by
  rw [LpR_at hi]
  exact h2.rows i (by rw [LpR_len] at hi; exact hi)
 refine G.fam_of (fun i hi => ?_) (fun i j hi hj hne => ?_)
 ·rw [List.getElem_append]
  split
  ·exact G.own_ge (G.own_below (key1 _ _) hb) hb1
  ·exact G.own_ge (key2 _ _) hb2
 ·rw [List.getElem_append, List.getElem_append]
  split
  ·rename_i hi1
   split
   ·rename_i hj1
    rw [LpR_at hi1, LpR_at hj1]
    rw [LpR_len] at hi1 hj1
    exact h1.apart i j hi1 hj1 hne
   ·exact G.own_sep (key1 _ _) (key2 _ _) hs
  ·rename_i hi1
   split
   ·exact G.own_sep' (key1 _ _) (key2 _ _) hs
   ·rename_i hj1
    rw [List.length_append] at hi hj
    have hi2 : i - (LpR x s).length < (LpR y t).length := by omega
    have hj2 : j - (LpR x s).length < (LpR y t).length := by omega
    rw [LpR_at hi2, LpR_at hj2]
    rw [LpR_len y t] at hi2 hj2
    exact h2.apart _ _ hi2 hj2 (by omega)
structure Few (s : St) : Prop where
 p : s.players.length ≤ 1099511627776
 c : s.cards.length ≤ 1099511627776
 z : s.zones.length ≤ 200
 r : ∀ i, (s.zones.getD i []).length ≤ 1099511627776
/-- A bag that holds two states, which share nothing: all is apart. -/
theorem apart_two (gb base b1 b2 : Nat) (x y : SV) (s t : St) (w1 w2 w : World) (h1 : OwnSt w1 b1 x s) (h2 : OwnSt w2 b2 y t) (hs : w1.heap.size ≤ b2) (h12 : Below w1.heap.size w1 w2) (hw : Below w2.heap.size w2 w) (hg : w2.heap.size ≤ gb)
 (hb1 : base ≤ b1) (hb2 : base ≤ b2) (hbg : base ≤ gb) (hB : G.BagAll w gb (addSt (addSt (fun _ => []) x s) y t)) (f1 : Few s) (f2 : Few t) :
 Calls Tryz.prog 23 #[.pointer (some ⟨gb, 0, none⟩)] w (fun e w' => e = .returned (.bool true) ∧ Below base w w') := by
 obtain ⟨cs, hB1, hsz, hK⟩ := hB.ex
 have hw1 : Below w1.heap.size w1 w := h12.trans (hw.mono h12.size)
 have o2 : OwnSt w b2 y t := h2.below hw
 have hgw := hB1.lt
 have inb : ∀ (i : Nat) (S E : TypeId) (sz : Nat) (Ls : List G.Lst) (hi : i < 21) (hS : G.kS i = S) (hL : addSt (addSt (fun _ => []) x s) y t i = Ls.map G.Lst.v) (hf : Ls.length ≤ 400) (hF : G.Fam w base E sz (G.Rows0 Ls)) (hl : ∀ l ∈ Ls, l.n ≤ 1099511627776), G.InBag w base cs i S E sz Ls := by
  intro i S E sz Ls hi hS hL hf hF hl
  obtain ⟨HA, hc, g1, g2⟩ := (hK i hi).ex
  rw [hL, List.length_map] at g1 g2
  rw [hS] at g2
  exact ⟨⟨HA, hc, g1, G.own_ge g2 hbg⟩, hf, hF, hl⟩
 refine (G.apart_State base gb cs (LpR x s ++ LpR y t) [LpP x s, LpP y t] [LpC x s, LpC y t] [LpZ x s, LpZ y t] w hB1 ?_ ?_ ?_ ?_ ?_ (by omega)).mono fun e w' h => ⟨h.1, h.2.below⟩
 ·intro i hi n1 n7 n8 n12
  refine (hK i hi).nil ?_
  rw [addSt_other n1 n7 n8 n12, addSt_other n1 n7 n8 n12]
 ·refine inb 1 _ _ _ _ (by decide) (by rfl) ?_ ?_ (rows_fam h1 hw1 o2 hs hb1 hb2) ?_
  ·rw [addSt_1, addSt_1, List.map_append, LpR_v h1.rows_len, LpR_v h2.rows_len]
   rfl
  ·rw [List.length_append, LpR_len, LpR_len]
   have := f1.z
   have := f2.z
   omega
  ·intro l hl
   rcases List.mem_append.1 hl with hl | hl
   ·obtain ⟨i, hi, rfl⟩ := List.getElem_of_mem hl
    rw [LpR_at hi]
    exact f1.r i
   ·obtain ⟨i, hi, rfl⟩ := List.getElem_of_mem hl
    rw [LpR_at hi]
    exact f2.r i
 ·refine inb 7 _ _ _ _ (by decide) (by rfl) (by rw [addSt_7, addSt_7]; rfl) (by simp) (G.two_fam (l1 := LpP x s) (l2 := LpP y t) h1.p hw1 o2.p hs hb1 hb2) ?_
  intro l hl
  simp only [List.mem_cons, List.mem_nil_iff, or_false] at hl
  rcases hl with rfl | rfl
  ·exact f1.p
  ·exact f2.p
 ·refine inb 8 _ _ _ _ (by decide) (by rfl) (by rw [addSt_8, addSt_8]; rfl) (by simp) (G.two_fam (l1 := LpC x s) (l2 := LpC y t) h1.c hw1 o2.c hs hb1 hb2) ?_
  intro l hl
  simp only [List.mem_cons, List.mem_nil_iff, or_false] at hl
  rcases hl with rfl | rfl
  ·exact f1.c
  ·exact f2.c
 ·refine inb 12 _ _ _ _ (by decide) (by rfl) (by rw [addSt_12, addSt_12]; rfl) (by simp) (G.two_fam (l1 := LpZ x s) (l2 := LpZ y t) h1.z hw1 o2.z hs hb1 hb2) ?_
  intro l hl
  simp only [List.mem_cons, List.mem_nil_iff, or_false] at hl
  rcases hl with rfl | rfl
  ·exact Nat.le_trans f1.z (by decide)
  ·exact Nat.le_trans f2.z (by decide)
end Go.Proofs.YtofgmijmhpmabaaGreatDoor.D

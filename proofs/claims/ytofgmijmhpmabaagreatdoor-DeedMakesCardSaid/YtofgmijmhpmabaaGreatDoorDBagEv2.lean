/- Two short lists of events in a bag, which share nothing: all is apart. -/
import Derived.Test.YtofgmijmhpmabaaGreatDoorBagAll
import Derived.Test.YtofgmijmhpmabaaGreatDoorApartInts
import Derived.Test.YtofgmijmhpmabaaGreatDoorApartNone
import Derived.Test.YtofgmijmhpmabaaGreatDoorDMem
import Derived.Deep.Cut
import Derived.Test.YtofgmijmhpmabaaGreatDoorDEvAt
import Derived.Test.YtofgmijmhpmabaaGreatDoorApartEvents
import Derived.Test.YtofgmijmhpmabaaGreatDoorDMoveD
import Derived.Test.YtofgmijmhpmabaaGreatDoorDCut
namespace Go.Proofs.YtofgmijmhpmabaaGreatDoor.G
open Go Go.RowKit
set_option linter.unusedVariables false
set_option linter.unusedSimpArgs false
set_option maxRecDepth 100000 in
set_option maxHeartbeats 1000000 in
theorem addInts_raw (base gb k hc n cl : Nat) (HA al : Option Addr) (cs : Array Value) (hdrs : List Value) (w : World) (hB : Blk w gb 64 cs) (hcs : cs[1]? = some (.slice HA k hc)) (hk : k < 400)
    (hho : w.ownsRow base 28 1 (.slice HA k hc) k hdrs) (hgb : base ≤ gb) :
    Calls Tryz.prog 126 #[.pointer (some ⟨gb, 0, none⟩), .slice al n cl] w (AddPost 64 28 base gb 1 k cs hdrs (.slice al n cl) w) := by
  obtain ⟨i1, hi1, hz10, hz11, hz12⟩ := info_parts info28
  have hcell := (hB.cell 1).trans hcs
  have hzb := hB.lt
  have HB := Lib.hid hB
  have HHO := Lib.hid hho
  have hk1 : (k : Int) < 400 := by omega
  clear hB hho
  go_enter Tryz.func126, Tryz.ntmps126
  go_wp2_with (at_builtin; refine wpList_append_own _ rfl (.tmp 14) (.tmp 16) 24 rfl base 28 i1 (.slice none 0 0) 1 24 Tryz.underlying24 hi1 hz10 hz11 hz12 rfl (by decide) _ _ _ rfl (HHO.out.alloc _) ⟨w.heap.size, 0, none⟩ 1 1 [.slice al n cl] rfl rfl (cells_new _ _ _ _ rfl) (by simp [Value.oneCell']) (by unfold maxLen; omega) (by omega) (by simp; omega) ?_; intro v' w1 hown1 hg1 _q; obtain ⟨HA', hc', hv⟩ := own_shape hown1; subst hv; have hB1 := Lib.hid ((HB.out.alloc _).far_row (HHO.out.alloc _) hg1 (by decide)); have hT1 := Lib.hid (((Touch.refl [64, 28] base w).later (by omega) (bl_alloc (Below.refl _ _) _)).grown (HHO.out.alloc _) hg1 (by decide) (Nat.le_refl _) (by simp; omega)); have hc1 := (hB1.out.cell 1).trans hcs; have hf1 := hB1.out.frozen 1)
  go_returns
  refine ⟨rfl, HA', hc', hB1.out.put _ _, ?_, hT1.out.set hB1.out (by decide) hgb _ _⟩
  exact hown1.kept (row := some gb) ((Touch.refl [] 0 w1).below |> fun _ => ⟨rfl, rfl, rfl, by simp, fun j hj hne => Below.heap_setCell w1 ⟨gb, 1, none⟩ _ j (fun e => hne (by rw [e]))⟩) (row_ne hown1 hB1.out (by decide))
theorem addInts_bag (gb n cl : Nat) (al : Option Addr) (L : Nat → List Value) (w : World) (hB : BagAll w gb L) (hk : (L 1).length < 400) :
    Calls Tryz.prog 126 #[.pointer (some ⟨gb, 0, none⟩), .slice al n cl] w (BagPost gb (addK L 1 [.slice al n cl]) w) := by
  obtain ⟨cs, h1, h2, h3⟩ := hB.ex
  obtain ⟨HA, hc, h4, h5⟩ := (h3 1 (by decide)).ex
  exact (addInts_raw gb gb _ hc n cl HA al cs _ w h1 h4 hk h5 (Nat.le_refl _)).mono fun e w' h => BagAll.add (i := 1) (HA := HA) (hc := hc) (by decide) h1 h2 h3 h
end Go.Proofs.YtofgmijmhpmabaaGreatDoor.G
namespace Go.Proofs.YtofgmijmhpmabaaGreatDoor.D
open Go Go.RowKit Go.Proofs.YtofgmijmhpmabaaGreatDoor.G
set_option linter.unusedVariables false
set_option linter.unusedSimpArgs false
/-- The orders of events, as a bag takes them. -/
def ordsV (L : List (EV × Ev)) : List Value := L.map fun p => .slice p.1.oa p.2.order.length p.1.oc
theorem ords_length (L : List (EV × Ev)) : (ordsV L).length = L.length := by simp [ordsV]
theorem ords_take {L : List (EV × Ev)} {j : Nat} (h : j < L.length) : (ordsV L).take (j + 1) = (ordsV L).take j ++ [.slice (L.getD j zeroP).1.oa (L.getD j zeroP).2.order.length (L.getD j zeroP).1.oc] := by
  rw [List.take_succ_eq_append_getElem (by rw [ords_length]; exact h)]
  congr 2
  simp [ordsV, List.getD_eq_getElem?_getD, List.getElem?_eq_getElem h]
set_option maxHeartbeats 1000000 in
theorem addEvent_any (gb : Nat) (y : EV) (e : Ev) (L : Nat → List Value) (w : World) (hB : BagAll w gb L) (hk : (L 1).length < 400) :
    Calls Tryz.prog 115 #[.pointer (some ⟨gb, 0, none⟩), y.val e] w (BagPost gb (addK L 1 [.slice y.oa e.order.length y.oc]) w) := by
  have HG := Lib.hid hB
  have hgb := hB.lt
  obtain ⟨n, hn⟩ : ∃ n, n = e.order.length := ⟨_, rfl⟩
  obtain ⟨ce, hce⟩ : ∃ c, c = y.arr e := ⟨_, rfl⟩
  have HBX := Lib.hid (Blk.new w 30 ce)
  obtain ⟨w1, hw1⟩ : ∃ w1, w1 = w.alloc (.cells ce 30) := ⟨_, rfl⟩
  have HB1 := Lib.hid (show Below w.heap.size w w1 by rw [hw1]; exact bl_alloc (Below.refl _ _) _)
  rw [← hw1] at HBX
  have HG1 := Lib.hid (HG.out.below HB1.out)
  have c11 := (HBX.out.cell 11).trans (show ce[11]? = some (.slice y.oa n y.oc) by rw [hce, hn]; rfl)
  have hl := HBX.out.lt
  have he : y.val e = .agg ce := by rw [hce]; rfl
  rw [he, ← hn]
  clear hB hce he hn
  go_enter Tryz.func115, Tryz.ntmps115
  go_upto_region 1 with (fail)
  rw [← hw1]
  clear hw1
  go_wp2_with fail
  refine (addInts_bag gb _ _ _ L w1 HG1.out hk).mono ?_
  rintro e2 w2 ⟨rfl, ht2, hg2⟩
  have HT2 := Lib.hid ht2
  have HG2 := Lib.hid hg2
  clear ht2 hg2
  go_wp2_with fail
  go_returns
  exact ⟨rfl, (Touch.later (Touch.refl _ _ _) (Nat.le_of_lt hgb) HB1.out).trans HT2.out, HG2.out⟩
set_option maxRecDepth 100000 in
set_option maxHeartbeats 2000000 in
theorem addEvents_bag (gb cl n : Nat) (al : Option Addr) (Lv : List (EV × Ev)) (L : Nat → List Value) (w0 w : World) (hr : RdEvs w0 al n Lv) (hb0 : Below w0.heap.size w0 w) (hg0 : w0.heap.size ≤ gb) (hB : BagAll w gb L)
    (hk : (L 14).length < 400) (hk1 : (L 1).length + n ≤ 400) :
    Calls Tryz.prog 48 #[.pointer (some ⟨gb, 0, none⟩), .slice al n cl] w (BagPost gb (addK (addK L 14 [.slice al n cl]) 1 (ordsV Lv)) w) := by
  have HN := Lib.hid hr.len
  obtain ⟨cs, hB1, hs, hK⟩ := hB.ex
  obtain ⟨HA, hc, hcs, hho⟩ := (hK 14 (by decide)).ex
  obtain ⟨i1, hi1, hz10, hz11, hz12⟩ := info_parts info32
  have hzb := hB1.lt
  have HB := Lib.hid hB1
  have HHO := Lib.hid (show w.ownsRow gb 32 1 (.slice HA (L 14).length hc) (L 14).length (L 14) from hho)
  have HR := Lib.hid hr
  have HB0 := Lib.hid hb0
  have HK := Lib.hid hK
  have HS := Lib.hid hs
  obtain ⟨k, hkk⟩ : ∃ k, k = (L 14).length := ⟨_, rfl⟩
  have HK1 := Lib.hid hk1
  rw [← hkk] at hcs HHO hk
  have hcell := (hB1.cell 14).trans hcs
  have HCS := Lib.hid hcs
  have HKK := Lib.hid hkk
  have hkI : (k : Int) < 400 := by omega
  have hnI : (n : Int) ≤ 400 := by omega
  have hn4 : n ≤ 400 := by omega
  clear hr hb0 hB1 hcs hho hK hs hB hkk hk1
  go_enter Tryz.func48, Tryz.ntmps48
  go_wp2_with (at_builtin; refine wpList_append_own _ rfl (.tmp 15) (.tmp 17) 56 rfl gb 32 i1 (.slice none 0 0) 1 24 Tryz.underlying56 hi1 hz10 hz11 hz12 rfl (by decide) _ _ _ rfl (HHO.out.alloc _) ⟨w.heap.size, 0, none⟩ 1 1 [.slice al n cl] rfl rfl (cells_new _ _ _ _ rfl) (by simp [Value.oneCell']) (by unfold maxLen; omega) (by omega) (by simp; omega) ?_; intro v' w1 hown1 hg1 _q; obtain ⟨HA', hc', hv⟩ := own_shape hown1; subst hv; have hB1 := Lib.hid ((HB.out.alloc _).far_row (HHO.out.alloc _) hg1 (by decide)); have hT1 := Lib.hid (((Touch.refl [64, 32] gb w).later (by omega) (bl_alloc (Below.refl _ _) _)).grown (HHO.out.alloc _) hg1 (by decide) (Nat.le_refl _) (by simp; omega)); have hc1 := (hB1.out.cell 14).trans HCS.out; have hf1 := hB1.out.frozen 14; have HOWN := Lib.hid hown1; clear hown1 hg1)
  obtain ⟨w2, hw2⟩ : ∃ w2, w2 = w1.setCell ⟨gb, 14, none⟩ (.slice HA' (k + 1) hc') := ⟨_, rfl⟩
  have HP := Lib.hid (show AddPost 64 (kS 14) gb gb 14 k cs (L 14) (.slice al n cl) w (.returned (.tuple #[])) w2 by
    rw [hw2]
    exact ⟨rfl, HA', hc', hB1.out.put _ _, HOWN.out.kept (row := some gb) ((Touch.refl [] 0 w1).below |> fun _ => ⟨rfl, rfl, rfl, by simp, fun j hj hne => Below.heap_setCell w1 ⟨gb, 14, none⟩ _ j (fun e => hne (by rw [e]))⟩) (row_ne HOWN.out hB1.out (by decide)), hT1.out.set hB1.out (by decide) (Nat.le_refl _) _ _⟩)
  rw [HKK.out] at HP
  obtain ⟨-, hb2, hbag2⟩ := BagAll.add (i := 14) (HA := HA) (hc := hc) (by decide) HB.out HS.out HK.out HP.out
  have HB2 := Lib.hid hb2
  have HG2 := Lib.hid hbag2
  clear hb2 hbag2 HP
  rw [← hw2]
  clear hc1 hf1 hB1 hT1 HOWN hw2 hcell
  clear w1
  go_loopw [4] (fun i wr => ∃ j : Nat, j ≤ n ∧ i = .int .i64 j ∧ G.Touch bagTs gb w wr ∧ BagAll wr gb (addK (addK L 14 [.slice al n cl]) 1 ((ordsV Lv).take j))) (fun i _ => n - (intOf i).toNat)
  case atStart => exact ⟨0, Nat.zero_le _, rfl, HB2.out, by rw [List.take_zero, addK_nil]; exact HG2.out⟩
  case round =>
    obtain ⟨j, hj, rfl, hbw, hbag⟩ := hrel
    have h0j : (0 : Int) ≤ j := by omega
    have hj4 : (j : Int) ≤ 400 := by omega
    by_cases hjn : j < n
    · have hjnI : (j : Int) < n := by omega
      have hj4' : (j : Int) < 400 := by omega
      have HBW := Lib.hid hbw
      have HBG := Lib.hid hbag
      clear hbw hbag
      obtain ⟨b, off, hA, lb, hrun, _, _⟩ := ev_whole (HR.out.below (HB0.out.trans (HBW.out.below.mono hg0))) hjn
      subst hA
      obtain ⟨p, hp⟩ : ∃ p, p = Lv.getD j zeroP := ⟨_, rfl⟩
      rw [← hp] at hrun
      obtain ⟨ce, hce⟩ : ∃ c, c = p.1.arr p.2 := ⟨_, rfl⟩
      rw [← hce] at hrun
      have HRUN := Lib.hid hrun
      have hln : ((addK (addK L 14 [.slice (some ⟨b, off, none⟩) n cl]) 1 ((ordsV Lv).take j)) 1).length < 400 := by
        rw [addK_same, addK_other (by decide), List.length_append, List.length_take]
        have := HK1.out
        omega
      have HAE := Lib.hid (addEvent_any gb p.1 p.2 _ wr HBG.out hln)
      rw [show p.1.val p.2 = .agg ce by rw [hce]; rfl] at HAE
      have HTN := Lib.hid (show (ordsV Lv).take (j + 1) = (ordsV Lv).take j ++ [.slice p.1.oa p.2.order.length p.1.oc] by rw [hp]; exact ords_take (by rw [HN.out]; exact hjn))
      clear hrun hp hce hln
      go_wp2_with (first | (refine wpList_load_run (by rfl) 30 _ rfl b (off + j * 12) rfl ce HRUN.out ?_) | ((with_reducible refine (HAE.out).mono ?_); rintro e3 w3 ⟨rfl, ht3, hg3⟩; have HT3 := Lib.hid (HBW.out.trans ht3); have HG3 := Lib.hid hg3; clear ht3 hg3))
      rw [addK_addK, ← HTN.out] at HG3
      go_roundw
      case rel => exact ⟨j + 1, by omega, by go_num, HT3.out, HG3.out⟩
      case measure => simp [intOf]; omega
    · obtain rfl : n = j := by omega
      have hjnI : ¬ (n : Int) < n := by omega
      have HBW := Lib.hid hbw
      have HBG := Lib.hid (show BagAll wr gb (addK (addK L 14 [.slice al n cl]) 1 (ordsV Lv)) from by
        rw [List.take_of_length_le (by rw [ords_length, HN.out]; exact Nat.le_refl _)] at hbag
        exact hbag)
      clear hbw hbag
      go_wp2_with fail
      go_returns
      exact ⟨rfl, HBW.out, HBG.out⟩
end Go.Proofs.YtofgmijmhpmabaaGreatDoor.D
namespace Go.Proofs.YtofgmijmhpmabaaGreatDoor.G
open Go Go.RowKit
set_option linter.unusedVariables false
set_option linter.unusedSimpArgs false
theorem Fam.touch {w w' : World} {base B : Nat} {e : TypeId} {size : Nat} {R : Rw → Prop} {ts : List TypeId} (h : Fam w base e size R) (ht : Touch ts B w w') (he : e ∉ ts) : Fam w' base e size R := ⟨fun r hr => ht.own (h.1 r hr) he, h.2⟩
/-- The lists of one kind in a bag. -/
structure InBag (w : World) (base : Nat) (cs : Array Value) (i : Nat) (S E : TypeId) (sz : Nat) (Ls : List Lst) : Prop where
  ex : ∃ HA hc, cs[i]? = some (.slice HA Ls.length hc) ∧ w.ownsRow base S 1 (.slice HA Ls.length hc) Ls.length (Ls.map Lst.v)
  few : Ls.length ≤ 400
  fam : Fam w base E sz (Rows0 Ls)
  len : ∀ l ∈ Ls, l.n ≤ 1099511627776
theorem InBag.touch {w w' : World} {base B i : Nat} {cs : Array Value} {S E : TypeId} {sz : Nat} {Ls : List Lst} {ts : List TypeId} (h : InBag w base cs i S E sz Ls) (ht : Touch ts B w w') (hS : S ∉ ts) (hE : E ∉ ts) : InBag w' base cs i S E sz Ls := by
  obtain ⟨HA, hc, h1, h2⟩ := h.ex
  exact ⟨⟨HA, hc, h1, ht.own h2 hS⟩, h.few, h.fam.touch ht hE, h.len⟩
end Go.Proofs.YtofgmijmhpmabaaGreatDoor.G
namespace Go.Proofs.YtofgmijmhpmabaaGreatDoor.G
open Go Go.RowKit
set_option linter.unusedVariables false
set_option linter.unusedSimpArgs false
set_option maxRecDepth 100000 in
set_option maxHeartbeats 4000000 in
theorem apart_Evs (base gb : Nat) (cs : Array Value) (L1 L14 : List Lst) (w : World) (hB : Blk w gb 64 cs) (hnil : ∀ i, i < 21 → i ≠ 1 → i ≠ 14 → cs[i]? = some (.slice none 0 0))
    (h1 : InBag w base cs 1 28 3 1 L1) (h14 : InBag w base cs 14 32 30 12 L14) (hbase : base ≤ w.heap.size) :
    Calls Tryz.prog 23 #[.pointer (some ⟨gb, 0, none⟩)] w (fun e w' => e = .returned (.bool true) ∧ Touch [3, 30] base w w') := by
  have HB := Lib.hid hB
  have HNIL := Lib.hid hnil
  have H1 := Lib.hid h1
  have H14 := Lib.hid h14
  have HN := Lib.hid (fun w' ts (hO : Touch ts base w w') (hb : 64 ∉ ts) i h1 g1 g14 => ((hO.blk hB hb).cell i).trans (hnil i h1 g1 g14))
  have hbs := Lib.hid hbase
  clear hB hnil h1 h14
  have HT0 := Lib.hid (Touch.refl [3, 30] base w)
  go_enter Tryz.func23, Tryz.ntmps23
  go_wp2_with (first
    | (go_at_call 66; refine (apartBytes_none gb _ (HN.out _ _ (Touch.refl [] base w) (by decide) 0 (by decide) (by decide) (by decide))).mono ?_; rintro e wq ⟨rfl, rfl⟩)
    | (go_at_call 67; obtain ⟨HA1, hc1, q1, r1⟩ := (H1.out.touch (Touch.refl [] base w) (by decide) (by decide)).ex; refine (apartInts_any base gb L1.length hc1 HA1 cs L1 _ ((Touch.refl [] base w).blk HB.out (by decide)) q1 rfl H1.out.few r1 (H1.out.touch (Touch.refl [] base w) (by decide) (by decide)).fam H1.out.len (Nat.le_trans hbs.out (Touch.refl [] base w).below.size)).mono ?_; rintro e1 w1 ⟨rfl, hO1⟩; have HP1 := Lib.hid (((Touch.refl [] base w).weaken (ts' := [3]) (by decide)).trans (Touch.of_only hO1 (by decide))); clear hO1 q1 r1)
    | (go_at_call 68; refine (apartLongs_none gb _ (HN.out _ _ HP1.out (by decide) 2 (by decide) (by decide) (by decide))).mono ?_; rintro e wq ⟨rfl, rfl⟩)
    | (go_at_call 69; refine (apartWords_none gb _ (HN.out _ _ HP1.out (by decide) 3 (by decide) (by decide) (by decide))).mono ?_; rintro e wq ⟨rfl, rfl⟩)
    | (go_at_call 70; refine (apartFloats_none gb _ (HN.out _ _ HP1.out (by decide) 4 (by decide) (by decide) (by decide))).mono ?_; rintro e wq ⟨rfl, rfl⟩)
    | (go_at_call 71; refine (apartSmalls_none gb _ (HN.out _ _ HP1.out (by decide) 5 (by decide) (by decide) (by decide))).mono ?_; rintro e wq ⟨rfl, rfl⟩)
    | (go_at_call 72; refine (apartTexts_none gb _ (HN.out _ _ HP1.out (by decide) 6 (by decide) (by decide) (by decide))).mono ?_; rintro e wq ⟨rfl, rfl⟩)
    | (go_at_call 73; refine (apartPlayers_none gb _ (HN.out _ _ HP1.out (by decide) 7 (by decide) (by decide) (by decide))).mono ?_; rintro e wq ⟨rfl, rfl⟩)
    | (go_at_call 74; refine (apartCards_none gb _ (HN.out _ _ HP1.out (by decide) 8 (by decide) (by decide) (by decide))).mono ?_; rintro e wq ⟨rfl, rfl⟩)
    | (go_at_call 75; refine (apartTokens_none gb _ (HN.out _ _ HP1.out (by decide) 9 (by decide) (by decide) (by decide))).mono ?_; rintro e wq ⟨rfl, rfl⟩)
    | (go_at_call 76; refine (apartNodes_none gb _ (HN.out _ _ HP1.out (by decide) 10 (by decide) (by decide) (by decide))).mono ?_; rintro e wq ⟨rfl, rfl⟩)
    | (go_at_call 77; refine (apartInstrs_none gb _ (HN.out _ _ HP1.out (by decide) 11 (by decide) (by decide) (by decide))).mono ?_; rintro e wq ⟨rfl, rfl⟩)
    | (go_at_call 78; refine (apartRows_none gb _ (HN.out _ _ HP1.out (by decide) 12 (by decide) (by decide) (by decide))).mono ?_; rintro e wq ⟨rfl, rfl⟩)
    | (go_at_call 79; refine (apartShapes_none gb _ (HN.out _ _ HP1.out (by decide) 13 (by decide) (by decide) (by decide))).mono ?_; rintro e wq ⟨rfl, rfl⟩)
    | (go_at_call 80; obtain ⟨HA14, hc14, q14, r14⟩ := (H14.out.touch HP1.out (by decide) (by decide)).ex; refine (apartEvents_any base gb L14.length hc14 HA14 cs L14 _ (HP1.out.blk HB.out (by decide)) q14 rfl H14.out.few r14 (H14.out.touch HP1.out (by decide) (by decide)).fam H14.out.len (Nat.le_trans hbs.out HP1.out.below.size)).mono ?_; rintro e2 w2 ⟨rfl, hO2⟩; have HP2 := Lib.hid ((HP1.out.weaken (ts' := [3, 30]) (by decide)).trans (Touch.of_only hO2 (by decide))); clear hO2 q14 r14)
    | (go_at_call 81; refine (apartValues_none gb _ (HN.out _ _ HP2.out (by decide) 15 (by decide) (by decide) (by decide))).mono ?_; rintro e wq ⟨rfl, rfl⟩)
    | (go_at_call 82; refine (apartAbilities_none gb _ (HN.out _ _ HP2.out (by decide) 16 (by decide) (by decide) (by decide))).mono ?_; rintro e wq ⟨rfl, rfl⟩)
    | (go_at_call 83; refine (apartDesigns_none gb _ (HN.out _ _ HP2.out (by decide) 17 (by decide) (by decide) (by decide))).mono ?_; rintro e wq ⟨rfl, rfl⟩)
    | (go_at_call 84; refine (apartEffects_none gb _ (HN.out _ _ HP2.out (by decide) 18 (by decide) (by decide) (by decide))).mono ?_; rintro e wq ⟨rfl, rfl⟩)
    | (go_at_call 85; refine (apartKinds_none gb _ (HN.out _ _ HP2.out (by decide) 19 (by decide) (by decide) (by decide))).mono ?_; rintro e wq ⟨rfl, rfl⟩)
    | (go_at_call 86; refine (apartStates_none gb _ (HN.out _ _ HP2.out (by decide) 20 (by decide) (by decide) (by decide))).mono ?_; rintro e wq ⟨rfl, rfl⟩))
  go_ret
  exact ⟨rfl, HP2.out⟩
end Go.Proofs.YtofgmijmhpmabaaGreatDoor.G
namespace Go.Proofs.YtofgmijmhpmabaaGreatDoor.D
open Go Go.RowKit
set_option linter.unusedVariables false
set_option linter.unusedSimpArgs false
def addEvs (L : Nat → List Value) (A : Option Addr) (n c : Nat) (E : List (EV × Ev)) : Nat → List Value := G.addK (G.addK L 14 [.slice A n c]) 1 (ordsV E)
theorem addEvs_1 (L : Nat → List Value) (A : Option Addr) (n c : Nat) (E : List (EV × Ev)) : addEvs L A n c E 1 = L 1 ++ ordsV E := by simp [addEvs, G.addK]
theorem addEvs_14 (L : Nat → List Value) (A : Option Addr) (n c : Nat) (E : List (EV × Ev)) : addEvs L A n c E 14 = L 14 ++ [.slice A n c] := by simp [addEvs, G.addK]
theorem addEvs_other {L : Nat → List Value} {A : Option Addr} {n c : Nat} {E : List (EV × Ev)} {i : Nat} (h1 : i ≠ 1) (h14 : i ≠ 14) : addEvs L A n c E i = L i := by simp [addEvs, G.addK, h1, h14]
def LpE (A : Option Addr) (n c : Nat) (E : List (EV × Ev)) : G.Lst := ⟨.slice A n c, n, flatE E⟩
def LpO (E : List (EV × Ev)) : List G.Lst := E.map fun p => ⟨.slice p.1.oa p.2.order.length p.1.oc, p.2.order.length, i64s p.2.order⟩
theorem LpO_v (E : List (EV × Ev)) : (LpO E).map G.Lst.v = ordsV E := by simp [LpO, ordsV]
theorem LpO_len (E : List (EV × Ev)) : (LpO E).length = E.length := by simp [LpO]
theorem OwnEvs.lenE {w : World} {base : Nat} {A : Option Addr} {n c : Nat} {E : List (EV × Ev)} (h : OwnEvs w base A n c E) : E.length = n := by
  have := h.s.1
  rw [flatE_length] at this
  omega
theorem LpO_own {w : World} {base : Nat} {A : Option Addr} {n c : Nat} {E : List (EV × Ev)} (h : OwnEvs w base A n c E) : ∀ i (hi : i < (LpO E).length), w.ownsRow base 3 1 ((LpO E)[i]).v ((LpO E)[i]).n ((LpO E)[i]).xs := fun i hi => by
  have hi2 : i < E.length := by rw [LpO_len] at hi; exact hi
  have h1 := h.o i (by rw [← h.lenE]; exact hi2)
  have e : (LpO E)[i] = ⟨.slice (E.getD i zeroP).1.oa (E.getD i zeroP).2.order.length (E.getD i zeroP).1.oc, (E.getD i zeroP).2.order.length, i64s (E.getD i zeroP).2.order⟩ := by
    simp [LpO, List.getD_eq_getElem?_getD, List.getElem?_eq_getElem hi2]
  rw [e]
  exact h1
theorem ords_fam {w w1 : World} {base b1 b2 : Nat} {A B : Option Addr} {n c m d : Nat} {E F : List (EV × Ev)} (h1 : OwnEvs w1 b1 A n c E) (hb : Below w1.heap.size w1 w) (h2 : OwnEvs w b2 B m d F) (hs : w1.heap.size ≤ b2) (hb1 : base ≤ b1) (hb2 : base ≤ b2) (e1 : n ≤ 1) (e2 : m ≤ 1) :
    G.Fam w base 3 1 (G.Rows0 (LpO E ++ LpO F)) := by
  have hl1 := h1.lenE
  have hl2 := h2.lenE
  refine G.fam_of (fun i hi => ?_) (fun i j hi hj hne => ?_)
  · rw [List.getElem_append]
    split
    · exact G.own_ge (G.own_below (LpO_own h1 _ _) hb) hb1
    · exact G.own_ge (LpO_own h2 _ _) hb2
  · rw [List.getElem_append, List.getElem_append]
    rw [List.length_append, LpO_len, LpO_len] at hi hj
    split
    · rename_i hi1
      split
      · rename_i hj1
        rw [LpO_len] at hi1 hj1
        omega
      · exact G.own_sep (LpO_own h1 _ _) (LpO_own h2 _ _) hs
    · rename_i hi1
      split
      · exact G.own_sep' (LpO_own h1 _ _) (LpO_own h2 _ _) hs
      · rename_i hj1
        rw [LpO_len] at hi1 hj1
        omega
theorem OwnEvs.cut {w1 w : World} {base : Nat} {A : Option Addr} {n c : Nat} {E : List (EV × Ev)} (h : OwnEvs w base A n c E) (h1 : OwnEvs w1 base A n c E) : OwnEvs (cutW w w1.heap.size) base A n c E :=
  ⟨own_cut h.s fun k hk => (h1.s.lt k hk).2, fun i hi => own_cut (h.o i hi) fun k hk => ((h1.o i hi).lt k hk).2⟩
/-- A bag that holds two short lists of events, of which the elder was there before the younger: all is apart. -/
theorem apart_evs2 (gb base b1 b2 : Nat) (A B : Option Addr) (n c m d : Nat) (E F : List (EV × Ev)) (w1 wN w : World) (h0 : OwnEvs w1 b1 A n c E) (h1 : OwnEvs wN b1 A n c E) (h2 : OwnEvs wN b2 B m d F) (hs : w1.heap.size ≤ b2) (h12 : w1.heap.size ≤ wN.heap.size) (hw : Below wN.heap.size wN w) (hg : wN.heap.size ≤ gb)
    (hb1 : base ≤ b1) (hb2 : base ≤ b2) (hbg : base ≤ gb) (hB : G.BagAll w gb (addEvs (addEvs (fun _ => []) A n c E) B m d F)) (e1 : n ≤ 1) (e2 : m ≤ 1) (o1 : ∀ p ∈ E, p.2.order.length ≤ 1099511627776) (o2 : ∀ p ∈ F, p.2.order.length ≤ 1099511627776) :
    Calls Tryz.prog 23 #[.pointer (some ⟨gb, 0, none⟩)] w (fun e w' => e = .returned (.bool true) ∧ Below base w w') := by
  obtain ⟨cs, hB1, hsz, hK⟩ := hB.ex
  have hc1 : OwnEvs (cutW wN w1.heap.size) b1 A n c E := h1.cut h0
  have hcs : (cutW wN w1.heap.size).heap.size = w1.heap.size := cutW_size h12
  have hw1 : Below (cutW wN w1.heap.size).heap.size (cutW wN w1.heap.size) w := (cutW_below h12).trans (hw.mono (by rw [hcs]; exact h12))
  have q2 : OwnEvs w b2 B m d F := ⟨G.own_below h2.s hw, fun i hi => (h2.o i hi).below hw⟩
  have hgw := hB1.lt
  have inb : ∀ (i : Nat) (S T : TypeId) (sz : Nat) (Ls : List G.Lst) (hi : i < 21) (hS : G.kS i = S) (hL : addEvs (addEvs (fun _ => []) A n c E) B m d F i = Ls.map G.Lst.v) (hf : Ls.length ≤ 400) (hF : G.Fam w base T sz (G.Rows0 Ls)) (hl : ∀ l ∈ Ls, l.n ≤ 1099511627776), G.InBag w base cs i S T sz Ls := by
    intro i S T sz Ls hi hS hL hf hF hl
    obtain ⟨HA, hc, g1, g2⟩ := (hK i hi).ex
    rw [hL, List.length_map] at g1 g2
    rw [hS] at g2
    exact ⟨⟨HA, hc, g1, G.own_ge g2 hbg⟩, hf, hF, hl⟩
  refine (G.apart_Evs base gb cs (LpO E ++ LpO F) [LpE A n c E, LpE B m d F] w hB1 ?_ ?_ ?_ (by omega)).mono fun e w' h => ⟨h.1, h.2.below⟩
  · intro i hi n1 n14
    refine (hK i hi).nil ?_
    rw [addEvs_other n1 n14, addEvs_other n1 n14]
  · refine inb 1 _ _ _ _ (by decide) (by rfl) ?_ ?_ (ords_fam hc1 hw1 q2 (by rw [hcs]; exact hs) hb1 hb2 e1 e2) ?_
    · rw [addEvs_1, addEvs_1, List.map_append, LpO_v, LpO_v]
      rfl
    · rw [List.length_append, LpO_len, LpO_len, h1.lenE, h2.lenE]
      omega
    · intro l hl
      rcases List.mem_append.1 hl with hl | hl
      · obtain ⟨p, hp, rfl⟩ := List.mem_map.1 hl
        exact o1 p hp
      · obtain ⟨p, hp, rfl⟩ := List.mem_map.1 hl
        exact o2 p hp
  · refine inb 14 _ _ _ _ (by decide) (by rfl) (by rw [addEvs_14, addEvs_14]; rfl) (by simp) (G.two_fam (l1 := LpE A n c E) (l2 := LpE B m d F) hc1.s hw1 q2.s (by rw [hcs]; exact hs) hb1 hb2) ?_
    intro l hl
    simp only [List.mem_cons, List.mem_nil_iff, or_false] at hl
    rcases hl with rfl | rfl
    · exact Nat.le_trans e1 (by decide)
    · exact Nat.le_trans e2 (by decide)
end Go.Proofs.YtofgmijmhpmabaaGreatDoor.D

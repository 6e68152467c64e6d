/- The walk of tableaulaw09.TreeBehinds. -/
import Derived.Test.YtamienmbpdbnnaaDoorTOpen
import Derived.Test.YtamienmbpdbnnaaDoorTWide
import Derived.Test.YtamienmbpdbnnaaDoorEqInts
import Derived.Test.YtamienmbpdbnnaaDoorAddInts
import Derived.Test.YtamienmbpdbnnaaDoorTwo
namespace Go.Proofs.YtamienmbpdbnnaaDoor.T
open Go Go.RowKit
set_option linter.unusedVariables false
set_option linter.unusedSimpArgs false
theorem kidsL_len (t : List Nd) (a : Int) : (kidsL t a).length ≤ t.length := by
  unfold kidsL
  split
  · simp
  · rename_i h
    obtain ⟨i, K, rfl, hi, hK, hKn, _⟩ := behind_ok h
    rw [List.length_map, List.length_range, Int.toNat_natCast, hK, Int.toNat_natCast]
    exact hKn
set_option maxRecDepth 100000 in
set_option maxHeartbeats 4000000 in
theorem behinds_walk (A : Option Addr) (c : Nat) (xs : List Nd) (p : Int) (w : World) (hx : G.RdS w A 7 xs.length (flat xs)) (hxn : xs.length ≤ 140737488355328)
    (hxt : ∀ x ∈ xs, x.text.size ≤ 140737488355328) (hci : ContIn w) :
    Calls Tryd.prog 3 #[.slice A xs.length c, .int .i64 p] w (LivesPost w) := by
  have HX := Lib.hid hx
  have HCI := Lib.hid hci
  have HB1 := Lib.hid (beyond_any A xs.length c xs w rfl hxn hx hxt)
  unfold LivesPost
  unfold BeyondPost at HB1
  clear hx hci hxt
  go_enter Tryd.func3, Tryd.ntmps3
  go_wp2_with fail
  refine HB1.out.mono ?_
  rintro e w1 ⟨b1, rfl, rfl, h1⟩
  cases b1 with
  | true =>
    clear h1
    go_wp2_with fail
    go_ret
    exact ⟨rfl, Below.refl _ _⟩
  | false =>
    have hxl : xs.length ≤ 65536 := (h1 rfl).1
    clear h1
    go_wp2_with fail
    refine (wideNodes_any A c xs w HX.out (by omega)).mono ?_
    rintro e w1 he
    unfold WideNdPost at he
    obtain ⟨rfl, ho1, hb1⟩ := he
    have HO1 := Lib.hid ho1
    have HW1 := Lib.hid hb1
    obtain ⟨ga, hga⟩ : ∃ ga, ga = w.heap.size := ⟨_, rfl⟩
    rw [← hga] at HO1 ⊢
    clear ho1 hb1 hga
    have HXW := Lib.hid (fun W (h : Below w1.heap.size w1 W) => (wide_rdS HO1.out).below h)
    have HXA := Lib.hid (fun W (h : Below w1.heap.size w1 W) => HX.out.below (G.bl_trans HW1.out h))
    have HM1 := Lib.hid (show xs.length ≤ maxLen by unfold maxLen; omega)
    have hxm : xs.length ≤ 16777216 := by omega
    obtain ⟨N, hN⟩ : ∃ N, N = behindOf xs p := ⟨_, rfl⟩
    obtain ⟨L, hL⟩ : ∃ L, L = kidsL xs p := ⟨_, rfl⟩
    have hLl : L.length ≤ 65536 := by rw [hL]; exact Nat.le_trans (kidsL_len xs p) hxl
    have HNN := Lib.hid hN
    have HLL := Lib.hid hL
    clear hN hL
    go_wp2_with fail
    refine (behind_any (some ⟨ga, 0, none⟩) xs.length _ xs p w1 rfl hxm (HXW.out _ (Below.refl _ _))).mono ?_
    rintro e wq ⟨he, rfl⟩
    rw [← HNN.out] at he
    subst he
    go_wp2_with fail
    refine (kids_any (some ⟨ga, 0, none⟩) xs.length _ xs p w1 rfl hxm (HXW.out _ (Below.refl _ _))).mono ?_
    rintro e w2 ⟨v2, rfl, ho2, hb2⟩
    rw [← HLL.out] at ho2
    obtain ⟨a2, c2, rfl⟩ := G.own_shape ho2
    have HO2 := Lib.hid ho2
    have HW2 := Lib.hid hb2
    clear ho2 hb2
    go_wp2_with fail
    refine (kids_any (some ⟨ga, 0, none⟩) xs.length _ xs p w2 rfl hxm (HXW.out _ HW2.out)).mono ?_
    rintro e w3 ⟨v3, rfl, ho3, hb3⟩
    rw [← HLL.out] at ho3
    obtain ⟨a3, c3, rfl⟩ := G.own_shape ho3
    have HO3 := Lib.hid ho3
    have HO23 := Lib.hid (G.own_below HO2.out hb3)
    have HW3 := Lib.hid (G.bl_trans HW2.out hb3)
    clear ho3 hb3
    go_wp2_with fail
    refine (refKids_any A xs.length c xs p w3 rfl hxm (HXA.out _ HW3.out)).mono ?_
    rintro e w4 ⟨v4, rfl, ho4, hb4⟩
    rw [← HLL.out] at ho4
    obtain ⟨a4, c4, rfl⟩ := G.own_shape ho4
    have HO4 := Lib.hid ho4
    have HO24 := Lib.hid (G.own_below HO23.out hb4)
    have HO34 := Lib.hid (G.own_below HO3.out hb4)
    have HW4 := Lib.hid (G.bl_trans HW3.out hb4)
    clear ho4 hb4
    go_wp2_with fail
    refine (refBehind_any A xs.length c xs p w4 rfl hxm (HXA.out _ HW4.out)).mono ?_
    rintro e wq ⟨he, rfl⟩
    rw [← HNN.out] at he
    subst he
    have hLm : L.length ≤ maxLen := by unfold maxLen; omega
    have HLM := Lib.hid hLm
    clear hLm
    go_wp2_with fail
    have d1 := (G.eqInts_any a2 a4 L.length L.length c2 c4 L L w4 (G.RdS.of_own HO24.out) (G.RdS.of_own HO4.out) HLM.out HLM.out)
    rw [decide_eq_true rfl] at d1
    refine d1.mono ?_
    rintro e w5 ⟨rfl, q5, rfl⟩
    clear d1
    go_wp2_with fail
    have HW5 := Lib.hid (show Below w1.heap.size w1 (w4.drewN q5) from G.bl_trans HW4.out (bl_drew q5))
    have d2 := (G.eqInts_any a3 a4 L.length L.length c3 c4 L L (w4.drewN q5) (G.RdS.of_own HO34.out) (G.RdS.of_own HO4.out) HLM.out HLM.out)
    rw [decide_eq_true rfl] at d2
    refine d2.mono ?_
    rintro e w6 ⟨rfl, q6, hw6⟩
    have hb6 : Below w4.heap.size w4 w6 := by rw [hw6]; exact G.bl_trans (bl_drew q5) (bl_drew q6)
    have HW6 := Lib.hid (show Below w1.heap.size w1 w6 from G.bl_trans HW4.out hb6)
    have HO26 := Lib.hid (G.own_below HO24.out hb6)
    have HO36 := Lib.hid (G.own_below HO34.out hb6)
    clear d2 hb6 hw6
    go_wp2_with fail
    refine (eq_bl (some ⟨ga, 0, none⟩) A xs.length xs.length _ c xs xs w6 (HXW.out _ HW6.out) (HXA.out _ HW6.out) HM1.out HM1.out).mono ?_
    rintro e w7 ⟨he, hb7⟩
    rw [decide_eq_true (rfl : xs = xs)] at he
    subst he
    have HW7 := Lib.hid (G.bl_trans HW6.out hb7)
    have HO27 := Lib.hid (G.own_below HO26.out hb7)
    have HO37 := Lib.hid (G.own_below HO36.out hb7)
    clear hb7
    go_wp2_with fail
    refine (spareNodes_any ga xs w7 ((wide_all HO1.out).below HW7.out) (by omega)).mono ?_
    rintro e w8 ⟨rfl, hb8⟩
    have HW8 := Lib.hid (G.bl_trans HW7.out hb8)
    have HO28 := Lib.hid (G.own_below HO27.out hb8)
    have HO38 := Lib.hid (G.own_below HO37.out hb8)
    clear hb8
    go_wp2_with fail
    -- the bag
    obtain ⟨y0, hy0⟩ : ∃ y0, y0 = w8.alloc (.cells G.nilBag 53) := ⟨_, rfl⟩
    have HYY := Lib.hid hy0
    have hbx : Below w8.heap.size w8 y0 := by rw [hy0]; exact G.bl_alloc (Below.refl _ _) _
    have hblk : G.Blk y0 w8.heap.size 53 G.nilBag := by rw [hy0]; exact G.Blk.new w8 53 G.nilBag
    have HBY := Lib.hid (G.bl_trans HW8.out hbx)
    have HY2 := Lib.hid (G.own_below HO28.out hbx)
    have HY3 := Lib.hid (G.own_below HO38.out hbx)
    have hwx : w1.heap.size ≤ w8.heap.size := HW8.out.size
    have e1 := G.addInts_any w1.heap.size w8.heap.size 0 0 L.length c2 none a2 G.nilBag [] y0 hblk rfl (by omega) (World.ownsRow_nil _ _ _ _) hwx
    rw [hy0] at e1
    refine e1.mono ?_
    rintro e y1 ⟨rfl, HA1, hc1, hk1, hr1, ht1⟩
    rw [← HYY.out] at ht1
    have HBK1 := Lib.hid hk1
    have HRW1 := Lib.hid hr1
    have HT1 := Lib.hid ht1
    clear e1 hk1 hr1 ht1 hy0 hbx hblk
    go_wp2_with fail
    have e2 := G.addInts_any w1.heap.size w8.heap.size 1 hc1 L.length c3 HA1 a3 _ [.slice a2 L.length c2] y1 HBK1.out (by simp [G.nilBag]) (by omega) HRW1.out hwx
    refine e2.mono ?_
    rintro e y2 ⟨rfl, HA2, hc2, hk2, hr2, ht2⟩
    have HBK2 := Lib.hid hk2
    have HRW2 := Lib.hid hr2
    have HT2 := Lib.hid (HT1.out.trans ht2)
    clear e2 hk2 hr2 ht2
    go_wp2_with fail
    have f2 := HT2.out.own HY2.out (by decide)
    have f3 := HT2.out.own HY3.out (by decide)
    have hsz := HT2.out.below.size
    have hsy := HBY.out.size
    have hfam := G.fam2 f2 (G.own_ge f3 HW2.out.size) (G.later_ne HO2.out HO3.out (Nat.le_refl _))
    have e4 := G.apart_Ints w1.heap.size w8.heap.size 2 hc2 HA2 _ [⟨.slice a2 L.length c2, L.length, ints L⟩, ⟨.slice a3 L.length c3, L.length, ints L⟩] y2 HBK2.out (by simp [G.nilBag]) (fun i h1 h2 => by
      rw [Array.getElem?_setIfInBounds_ne (Ne.symm h2), Array.getElem?_setIfInBounds_ne (Ne.symm h2)]
      exact G.nilBag_at i h1) rfl (by omega) HRW2.out hfam (by intro l hl; simp only [List.mem_cons, List.mem_nil_iff, or_false] at hl; rcases hl with rfl | rfl <;> simp only <;> omega) (by omega)
    refine e4.mono ?_
    rintro e y4 ⟨rfl, hO⟩
    have HBF := Lib.hid ((HBY.out.trans HT2.out.below).trans hO.below)
    have HBG := Lib.hid (G.bl_trans HW1.out HBF.out)
    clear e4 hO hfam f2 f3
    go_wp2_with fail
    refine (lives_any y4 (HCI.out.below HBG.out)).mono ?_
    rintro e y5 he
    unfold LivesPost at he
    obtain ⟨rfl, hb9⟩ := he
    have HBH := Lib.hid (G.bl_trans HBG.out hb9)
    clear hb9
    go_wp2_with fail
    go_ret
    exact ⟨rfl, HBH.out⟩
end Go.Proofs.YtamienmbpdbnnaaDoor.T

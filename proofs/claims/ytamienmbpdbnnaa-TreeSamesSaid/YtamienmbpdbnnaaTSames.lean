/- The walk of tableaulaw09.TreeSames. -/
import Derived.Test.YtamienmbpdbnnaaTWide
namespace Go.Proofs.Ytamienmbpdbnnaa.T
open Go Go.RowKit
set_option linter.unusedVariables false
set_option linter.unusedSimpArgs false
set_option maxRecDepth 100000 in
set_option maxHeartbeats 4000000 in
theorem sames_walk (A B : Option Addr) (c d : Nat) (xs ys : List Nd) (w : World) (hx : G.RdS w A 7 xs.length (flat xs)) (hy : G.RdS w B 7 ys.length (flat ys)) (hxn : xs.length ≤ 140737488355328) (hyn : ys.length ≤ 140737488355328)
    (hxt : ∀ x ∈ xs, x.text.size ≤ 140737488355328) (hyt : ∀ x ∈ ys, x.text.size ≤ 140737488355328) (hci : ContIn w) :
    Calls Try.prog 4 #[.slice A xs.length c, .slice B ys.length d] w (LivesPost w) := by
  have HX := Lib.hid hx
  have HY := Lib.hid hy
  have HCI := Lib.hid hci
  have HB1 := Lib.hid (beyond_any A xs.length c xs w rfl hxn hx hxt)
  have HB2 := Lib.hid (beyond_any B ys.length d ys w rfl hyn hy hyt)
  unfold LivesPost
  unfold BeyondPost at HB1 HB2
  clear hx hy hci hxt hyt
  go_enter Try.func4, Try.ntmps4
  go_wp2_with fail
  refine HB1.out.mono ?_
  rintro e w1 ⟨b1, rfl, rfl, h1⟩
  cases b1 with
  | true =>
    clear h1
    go_wp2_with fail
    go_ret
    exact ⟨rfl, Below.refl _ _⟩
  | false =>
    have hxl : xs.length ≤ 65536 := (h1 rfl).1
    clear h1
    go_wp2_with fail
    refine HB2.out.mono ?_
    rintro e w1 ⟨b2, rfl, rfl, h2⟩
    cases b2 with
    | true =>
      clear h2
      go_wp2_with fail
      go_ret
      exact ⟨rfl, Below.refl _ _⟩
    | false =>
      have hyl : ys.length ≤ 65536 := (h2 rfl).1
      clear h2
      go_wp2_with fail
      refine (wideNodes_any A c xs w HX.out (by omega)).mono ?_
      rintro e w1 he
      unfold WideNdPost at he
      obtain ⟨rfl, ho1, hb1⟩ := he
      have HO1 := Lib.hid ho1
      have HW1 := Lib.hid hb1
      obtain ⟨ga, hga⟩ : ∃ ga, ga = w.heap.size := ⟨_, rfl⟩
      rw [← hga] at HO1 ⊢
      clear ho1 hb1 hga
      go_wp2_with fail
      refine (wideNodes_any B d ys w1 (HY.out.below HW1.out) (by omega)).mono ?_
      rintro e w2 he
      unfold WideNdPost at he
      obtain ⟨rfl, ho2, hb2⟩ := he
      have HO2 := Lib.hid ho2
      have HW2 := Lib.hid (G.bl_trans HW1.out hb2)
      have HO1' := Lib.hid (G.own_below HO1.out hb2)
      obtain ⟨gb, hgb⟩ : ∃ gb, gb = w1.heap.size := ⟨_, rfl⟩
      rw [← hgb] at HO2 ⊢
      clear ho2 hb2 hgb
      have HXW := Lib.hid (fun W (h : Below w2.heap.size w2 W) => (wide_rdS HO1'.out).below h)
      have HYW := Lib.hid (fun W (h : Below w2.heap.size w2 W) => (wide_rdS HO2.out).below h)
      have HXA := Lib.hid (fun W (h : Below w2.heap.size w2 W) => HX.out.below (G.bl_trans HW2.out h))
      have HYA := Lib.hid (fun W (h : Below w2.heap.size w2 W) => HY.out.below (G.bl_trans HW2.out h))
      have HM1 := Lib.hid (show xs.length ≤ maxLen by unfold maxLen; omega)
      have HM2 := Lib.hid (show ys.length ≤ maxLen by unfold maxLen; omega)
      obtain ⟨sb, hsb⟩ : ∃ sb, sb = decide (SameP xs ys) := ⟨_, rfl⟩
      have HSB := Lib.hid hsb
      clear hsb
      go_wp2_with fail
      refine (same_any (some ⟨ga, 0, none⟩) (some ⟨gb, 0, none⟩) xs.length ys.length _ _ xs ys w2 (HXW.out _ (Below.refl _ _)) (HYW.out _ (Below.refl _ _)) HM1.out HM2.out).mono ?_
      rintro e w3 ⟨he, hb3⟩
      rw [← HSB.out] at he
      subst he
      have HW3 := Lib.hid hb3
      clear hb3
      go_wp2_with fail
      refine (refSame_any A B xs.length ys.length c d xs ys w3 (HXA.out _ HW3.out) (HYA.out _ HW3.out) HM1.out HM2.out).mono ?_
      rintro e w4 ⟨he, hb4⟩
      rw [← HSB.out] at he
      subst he
      have HW4 := Lib.hid (G.bl_trans HW3.out hb4)
      clear hb4
      go_wp2_with fail
      refine (eq_bl (some ⟨ga, 0, none⟩) A xs.length xs.length _ c xs xs w4 (HXW.out _ HW4.out) (HXA.out _ HW4.out) HM1.out HM1.out).mono ?_
      rintro e w5 ⟨he, hb5⟩
      rw [decide_eq_true (rfl : xs = xs)] at he
      subst he
      have HW5 := Lib.hid (G.bl_trans HW4.out hb5)
      clear hb5
      go_wp2_with fail
      refine (eq_bl (some ⟨gb, 0, none⟩) B ys.length ys.length _ d ys ys _ (HYW.out _ HW5.out) (HYA.out _ HW5.out) HM2.out HM2.out).mono ?_
      rintro e w6 ⟨he, hb6⟩
      rw [decide_eq_true (rfl : ys = ys)] at he
      subst he
      have HW6 := Lib.hid (G.bl_trans HW5.out hb6)
      clear hb6
      go_wp2_with fail
      refine (spareNodes_any ga xs _ ((wide_all HO1'.out).below HW6.out) (by omega)).mono ?_
      rintro e w7 ⟨rfl, hb7⟩
      have HW7 := Lib.hid (G.bl_trans HW6.out hb7)
      clear hb7
      go_wp2_with fail
      refine (spareNodes_any gb ys _ ((wide_all HO2.out).below HW7.out) (by omega)).mono ?_
      rintro e w8 ⟨rfl, hb8⟩
      have HW8 := Lib.hid (G.bl_trans HW7.out hb8)
      clear hb8
      go_wp2_with fail
      refine (lives_any w8 (HCI.out.below (G.bl_trans HW2.out HW8.out))).mono ?_
      rintro e w9 he
      unfold LivesPost at he
      obtain ⟨rfl, hb9⟩ := he
      have HW9 := Lib.hid (G.bl_trans HW8.out hb9)
      clear hb9
      go_wp2_with fail
      go_ret
      exact ⟨rfl, G.bl_trans HW2.out HW9.out⟩
end Go.Proofs.Ytamienmbpdbnnaa.T

/- The contracts of tree.Depth, Weight, Check in one word each. -/
import Derived.Test.YtamienmbpdbnnaaTDep
import Derived.Test.YtamienmbpdbnnaaTSpec
namespace Go.Proofs.Ytamienmbpdbnnaa.T
open Go Go.RowKit
set_option linter.unusedVariables false
set_option linter.unusedSimpArgs false
theorem depth_any (A : Option Addr) (n cap : Nat) (t : List Nd) (w : World) (hn : t.length = n) (hm : n ≤ 16777216) (hr : G.RdS w A 7 n (flat t)) (hci : ContIn w) (ht : ∀ x ∈ t, x.text.size ≤ 16777216 ∧ x.kids ≤ 9223372036854775807) :
    Calls Try.prog 11 #[.slice A n cap] w (DepPost (depthOf t) w) := by
  rcases shapeOf_bd t with h | h
  · obtain ⟨x, k, he, hok⟩ := shape_tree.1 h
    rw [depthOf_yes he hok]
    exact depth_yes A n cap t x k w hn hm hr hci ht he hok
  · rw [depthOf_no h.1]
    exact depth_no A n cap t w hn hm hr hci ht h.1
set_option maxRecDepth 100000 in
set_option maxHeartbeats 4000000 in
theorem weight_any (A : Option Addr) (n cap : Nat) (t : List Nd) (w : World) (hn : t.length = n) (hm : n ≤ 16777216) (hr : G.RdS w A 7 n (flat t)) (hci : ContIn w) (ht : ∀ x ∈ t, x.text.size ≤ 16777216 ∧ x.kids ≤ 9223372036854775807) :
    Calls Try.prog 12 #[.slice A n cap] w (DepPost (weightOf t) w) := by
  have HSH := Lib.hid (shape_any A n cap t w hn hm hr hci ht)
  unfold ShPost at HSH
  unfold DepPost
  have hbd := shapeOf_bd t
  obtain ⟨R, hR⟩ : ∃ R, R = weightOf t := ⟨_, rfl⟩
  rw [← hR]
  unfold weightOf at hR
  obtain ⟨S, hS⟩ : ∃ S, S = shapeOf t := ⟨_, rfl⟩
  rw [← hS] at HSH hbd hR
  clear hS
  by_cases hs : 0 ≤ S
  · rw [if_pos hs] at hR
    have HRR := Lib.hid hR
    clear hn hr ht hci hR hbd
    go_enter Try.func12, Try.ntmps12
    go_wp2_with fail
    refine HSH.out.mono ?_
    rintro e w1 ⟨rfl, hb1⟩
    have HB1 := Lib.hid hb1
    clear hb1
    go_wp2_with fail
    go_ret
    exact ⟨ret_int HRR.out.symm, HB1.out⟩
  · rw [if_neg hs] at hR
    obtain rfl : S = -1 := by omega
    have HEN := Lib.hid (fun W (h : G.RdS W A 7 n (flat t)) => ends_any A n cap t W hn hm h)
    have HRR := Lib.hid hR
    have HN := Lib.hid hn
    have HR := Lib.hid hr
    clear hn hr ht hci hR hbd hs
    go_enter Try.func12, Try.ntmps12
    go_wp2_with fail
    refine HSH.out.mono ?_
    rintro e w1 ⟨rfl, hb1⟩
    have HB1 := Lib.hid hb1
    have hz1w := hb1.size
    have HR1 := Lib.hid (HR.out.below hb1)
    clear hb1
    go_wp2_with fail
    refine (HEN.out w1 HR1.out).mono ?_
    rintro e w2 he
    unfold EndsPost at he
    obtain ⟨rfl, ho2, hb2⟩ := he
    have HB2 := Lib.hid (G.bl_trans HB1.out hb2)
    have HR2 := Lib.hid (HR1.out.below hb2)
    have HE2 := Lib.hid (G.RdS.of_own ho2)
    have hz2w := hb2.size
    obtain ⟨ge, hge⟩ : ∃ ge, ge = w1.heap.size := ⟨_, rfl⟩
    rw [← hge] at HE2 ⊢
    clear hb2 ho2 hge
    go_wp2_with fail
    go_loopw [4, 14] (fun m i wr => ∃ k : Nat, k ≤ n ∧ i = .int .i64 k ∧ m = .int .i64 (wtUpTo t k) ∧ Below w2.heap.size w2 wr) (fun _ i _ => n - (intOf i).toNat)
    case atStart => exact ⟨0, Nat.zero_le _, rfl, rfl, Below.refl _ _⟩
    case round =>
      obtain ⟨k, hk, rfl, rfl, hbel⟩ := hrel
      have h0k : (0 : Int) ≤ k := by omega
      have HBEL := Lib.hid hbel
      by_cases hkn : k < n
      · have hkn1 : (k : Int) < n := by omega
        obtain ⟨b, off, hA, hr⟩ := (HR2.out.below hbel).2 (by omega)
        subst hA
        obtain ⟨x, hx⟩ : ∃ x, x = t.getD k zeroNd := ⟨_, rfl⟩
        obtain ⟨c0, c1, c2, c3, c4, c5, c6⟩ := nd_at hr (by rw [HN.out]; exact hkn) hx.symm
        obtain ⟨be, oe, hbe, hre⟩ := (HE2.out.below hbel).2 (by omega)
        obtain ⟨rfl, rfl⟩ : ge = be ∧ 0 = oe := by simpa using hbe
        have ce : wr.cell? ⟨ge, k, none⟩ = some (.int .i64 (behindOf t k)) := by
          have h1 := hre.2 k (by simp [ints, endsOf_length]; rw [HN.out]; exact hkn)
          rw [Nat.zero_add] at h1
          rw [h1, ← endsOf_get t (by rw [HN.out]; exact hkn)]
          unfold ints
          rw [List.getD_eq_getElem?_getD, List.getElem?_map, List.getElem?_eq_getElem (by rw [endsOf_length, HN.out]; exact hkn), List.getD_eq_getElem?_getD, List.getElem?_eq_getElem (by rw [endsOf_length, HN.out]; exact hkn)]
          rfl
        have hbb := behind_bd t k
        have hwb := wt_bd t k
        rw [HN.out] at hbb hwb
        have HW := Lib.hid (show wtUpTo t (k + 1) = if x.op = 7 then max (wtUpTo t k) (behindOf t (k : Int) - k - 1) else wtUpTo t k by rw [hx]; rfl)
        obtain ⟨W0, hW0⟩ : ∃ W0, W0 = wtUpTo t k := ⟨_, rfl⟩
        obtain ⟨B0, hB0⟩ : ∃ B0, B0 = behindOf t (k : Int) := ⟨_, rfl⟩
        rw [← hW0] at HW hwb ⊢
        rw [← hB0] at HW hbb ce
        have hbw := World.block_lt_of_cell? _ _ c0
        have hbw2 := World.block_lt_of_cell? _ _ ce
        have hwr := hbel.size
        obtain ⟨xo, xk, xn, xm, xt, xa, xq⟩ := x
        simp only at c0 c1 c2 c3 c4 c5 c6 HW
        clear hr hx hre hbe hW0 hB0 hbel
        by_cases h7 : xo = 7
        · have HW2 := Lib.hid (show wtUpTo t (k + 1) = max W0 (B0 - k - 1) by rw [HW.out, if_pos h7])
          subst h7
          go_wp2_with fail
          go_roundw
          case rel => exact ⟨k + 1, by omega, by go_num, by rw [HW2.out], HBEL.out.alloc hwr _⟩
          case measure => simp [intOf]; omega
        · have HW2 := Lib.hid (show wtUpTo t (k + 1) = W0 by rw [HW.out, if_neg h7])
          have h72 := ne_b h7
          clear h7
          go_wp2_with fail
          go_roundw
          case rel => exact ⟨k + 1, by omega, by go_num, by rw [HW2.out], HBEL.out.alloc hwr _⟩
          case measure => simp [intOf]; omega
      · have hkn1 : ¬ (k : Int) < n := by omega
        obtain rfl : k = n := by omega
        clear hbel
        go_wp2_with fail
        go_ret
        exact ⟨ret_int (by rw [HRR.out, HN.out]), G.bl_trans HB2.out HBEL.out⟩
def ChkPost (t : List Nd) (w : World) (e : Ending) (w' : World) : Prop := e = .returned (.tuple #[.int .i64 (checkE t), .int .i64 (checkP t)]) ∧ Below w.heap.size w w'
theorem ret_two {a b c d : Int} (h : a = c) (h2 : b = d) : Ending.returned (.tuple #[.int .i64 a, .int .i64 b]) = .returned (.tuple #[.int .i64 c, .int .i64 d]) := by rw [h, h2]
set_option maxRecDepth 100000 in
set_option maxHeartbeats 4000000 in
theorem check_any (A : Option Addr) (n cap : Nat) (t : List Nd) (w : World) (hn : t.length = n) (hm : n ≤ 16777216) (hr : G.RdS w A 7 n (flat t)) (hci : ContIn w) (ht : ∀ x ∈ t, x.text.size ≤ 16777216 ∧ x.kids ≤ 9223372036854775807) :
    Calls Try.prog 10 #[.slice A n cap] w (ChkPost t w) := by
  have HSH := Lib.hid (shape_any A n cap t w hn hm hr hci ht)
  have HDP := Lib.hid (fun W (hb : Below w.heap.size w W) => depth_any A n cap t W hn hm (hr.below hb) (hci.below hb) ht)
  unfold ShPost at HSH
  unfold DepPost at HDP
  have hbd := shapeOf_bd t
  unfold ChkPost
  obtain ⟨E, hE⟩ : ∃ E, E = checkE t := ⟨_, rfl⟩
  obtain ⟨P, hP⟩ : ∃ P, P = checkP t := ⟨_, rfl⟩
  rw [← hE, ← hP]
  unfold checkE at hE
  unfold checkP at hP
  obtain ⟨S, hS⟩ : ∃ S, S = shapeOf t := ⟨_, rfl⟩
  obtain ⟨D, hD⟩ : ∃ D, D = depthOf t := ⟨_, rfl⟩
  rw [← hS] at HSH hbd hE hP
  rw [← hD] at hE HDP
  clear hS hD hn hr ht hci
  by_cases hs : 0 ≤ S
  · rw [if_pos hs] at hE hP
    have HE := Lib.hid hE
    have HP := Lib.hid hP
    clear hE hP hbd
    go_enter Try.func10, Try.ntmps10
    go_wp2_with fail
    refine HSH.out.mono ?_
    rintro e w1 ⟨rfl, hb1⟩
    have HB1 := Lib.hid hb1
    clear hb1
    go_wp2_with fail
    go_ret2
    exact ⟨ret_two HE.out.symm HP.out.symm, HB1.out⟩
  · rw [if_neg hs] at hE hP
    obtain rfl : S = -1 := by omega
    have HE := Lib.hid hE
    have HP := Lib.hid hP
    clear hE hP hbd hs
    by_cases h64 : 64 < D
    · go_enter Try.func10, Try.ntmps10
      go_wp2_with fail
      refine HSH.out.mono ?_
      rintro e w1 ⟨rfl, hb1⟩
      have HB1 := Lib.hid hb1
      clear hb1
      go_wp2_with fail
      refine (HDP.out w1 HB1.out).mono ?_
      rintro e w2 ⟨rfl, hb2⟩
      have HB2 := Lib.hid (G.bl_trans HB1.out hb2)
      clear hb2
      go_wp2_with fail
      go_ret2
      exact ⟨ret_two (by rw [HE.out, if_pos h64]) HP.out.symm, HB2.out⟩
    · have HH := Lib.hid (show ¬ 64 < D by omega)
      go_enter Try.func10, Try.ntmps10
      go_wp2_with fail
      refine HSH.out.mono ?_
      rintro e w1 ⟨rfl, hb1⟩
      have HB1 := Lib.hid hb1
      clear hb1
      go_wp2_with fail
      refine (HDP.out w1 HB1.out).mono ?_
      rintro e w2 ⟨rfl, hb2⟩
      have HB2 := Lib.hid (G.bl_trans HB1.out hb2)
      clear hb2
      go_wp2_with fail
      go_ret2
      exact ⟨ret_two (by rw [HE.out, if_neg (by omega)]) HP.out.symm, HB2.out⟩
end Go.Proofs.Ytamienmbpdbnnaa.T

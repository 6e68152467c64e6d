/- The contracts of the reference's Depth, Weight, Check. -/
import Derived.Test.YtamienmbpdbnnaaTRefS
import Derived.Test.YtamienmbpdbnnaaTRefO
import Derived.Test.YtamienmbpdbnnaaTSpec
namespace Go.Proofs.Ytamienmbpdbnnaa.T
open Go Go.RowKit
set_option linter.unusedVariables false
set_option linter.unusedSimpArgs false
def SmallR (t : List Nd) : Prop := ∀ x ∈ t, x.text.size ≤ 16777216 ∧ x.kids ≤ 9223372036854775807 ∧ x.n ≤ 9223372036854775807
set_option maxRecDepth 100000 in
set_option maxHeartbeats 4000000 in
theorem refDepth_any (A : Option Addr) (n cap : Nat) (t : List Nd) (w : World) (hn : t.length = n) (hm : n ≤ 16777216) (hr : G.RdS w A 7 n (flat t)) (ht : SmallR t) :
    Calls Try.prog 14 #[.slice A n cap] w (IPost (depthOf t) w) := by
  have HSH := Lib.hid (refShape_any A n cap t w hn hm hr ht)
  unfold ShPost2 at HSH
  unfold IPost
  rcases shapeOf_bd t with h | h
  · obtain ⟨x, k, he, hok⟩ := shape_tree.1 h
    have hst : StandsAt t 0 (.cons x k .nil) := ⟨[], by rw [List.drop_zero, List.append_nil]; exact he⟩
    have hsz : 1 + k.size = n := by
      have h1 := congrArg List.length he
      rw [Fo.size_flat] at h1
      have h2 : (Fo.cons x k .nil).size = 1 + k.size + 0 := rfl
      omega
    have HO := Lib.hid (fun (W : World) (hb : Below w.heap.size w W) => open_all (A := A) (cap := cap) hn hm k.size x k (Nat.le_refl _) 0 0 W (hr.below hb) hst hok.good (Int.le_refl _) (by omega))
    unfold IPost at HO
    rw [depthOf_yes he hok]
    generalize openT x k 0 = V at HO
    rw [h] at HSH
    clear hr ht hn he hok hst hsz h
    go_enter Try.func14, Try.ntmps14
    go_wp2_with fail
    refine HSH.out.mono ?_
    rintro e w1 ⟨rfl, hb1⟩
    have HB1 := Lib.hid hb1
    clear hb1
    go_wp2_with fail
    refine (HO.out w1 HB1.out).mono ?_
    rintro e w2 ⟨rfl, hb2⟩
    have HB2 := Lib.hid (G.bl_trans HB1.out hb2)
    clear hb2
    go_wp2_with fail
    go_ret
    exact ⟨rfl, HB2.out⟩
  · rw [depthOf_no h.1]
    obtain ⟨S, hS⟩ : ∃ S, S = shapeOf t := ⟨_, rfl⟩
    rw [← hS] at HSH h
    have h0 := h.1
    clear hr ht hn h hS
    go_enter Try.func14, Try.ntmps14
    go_wp2_with fail
    refine HSH.out.mono ?_
    rintro e w1 ⟨rfl, hb1⟩
    have HB1 := Lib.hid hb1
    clear hb1
    go_wp2_with fail
    go_ret
    exact ⟨rfl, HB1.out⟩
set_option maxRecDepth 100000 in
set_option maxHeartbeats 4000000 in
theorem refWeight_any (A : Option Addr) (n cap : Nat) (t : List Nd) (w : World) (hn : t.length = n) (hm : n ≤ 16777216) (hr : G.RdS w A 7 n (flat t)) (ht : SmallR t) :
    Calls Try.prog 15 #[.slice A n cap] w (IPost (weightOf t) w) := by
  have HSH := Lib.hid (refShape_any A n cap t w hn hm hr ht)
  unfold ShPost2 at HSH
  unfold IPost
  have hbd := shapeOf_bd t
  obtain ⟨R, hR⟩ : ∃ R, R = weightOf t := ⟨_, rfl⟩
  rw [← hR]
  unfold weightOf at hR
  obtain ⟨S, hS⟩ : ∃ S, S = shapeOf t := ⟨_, rfl⟩
  rw [← hS] at HSH hbd hR
  clear hS
  by_cases hs : 0 ≤ S
  · rw [if_pos hs] at hR
    have HRR := Lib.hid hR
    clear hn hr ht hR hbd
    go_enter Try.func15, Try.ntmps15
    go_wp2_with fail
    refine HSH.out.mono ?_
    rintro e w1 ⟨rfl, hb1⟩
    have HB1 := Lib.hid hb1
    clear hb1
    go_wp2_with fail
    go_ret
    exact ⟨ret_int HRR.out.symm, HB1.out⟩
  · rw [if_neg hs] at hR
    obtain rfl : S = -1 := by omega
    have HBE := Lib.hid (fun W (h : G.RdS W A 7 n (flat t)) x => refBehind_any A n cap t x W hn hm h)
    have HRR := Lib.hid hR
    have HN := Lib.hid hn
    have HR := Lib.hid hr
    clear hn hr ht hR hbd hs
    go_enter Try.func15, Try.ntmps15
    go_wp2_with fail
    refine HSH.out.mono ?_
    rintro e w1 ⟨rfl, hb1⟩
    have HB1 := Lib.hid hb1
    have HR1 := Lib.hid (HR.out.below hb1)
    clear hb1
    go_wp2_with fail
    go_loop [3, 4] (fun m i => ∃ k : Nat, k ≤ n ∧ i = .int .i64 k ∧ m = .int .i64 (wtUpTo t k)) (fun _ i => n - (intOf i).toNat)
    case atStart => exact ⟨0, Nat.zero_le _, rfl, rfl⟩
    case round =>
      obtain ⟨k, hk, rfl, rfl⟩ := hrel
      have h0k : (0 : Int) ≤ k := by omega
      by_cases hkn : k < n
      · have hkn1 : (k : Int) < n := by omega
        obtain ⟨b, off, hA, hr⟩ := HR1.out.2 (by omega)
        subst hA
        have hc := (nd_at hr (by rw [HN.out]; exact hkn) rfl).1
        have hbb := behind_bd t k
        have hwb := wt_bd t k
        rw [HN.out] at hbb hwb
        have HW := Lib.hid (show wtUpTo t (k + 1) = if (t.getD k zeroNd).op = 7 then max (wtUpTo t k) (behindOf t (k : Int) - k - 1) else wtUpTo t k from rfl)
        obtain ⟨W0, hW0⟩ : ∃ W0, W0 = wtUpTo t k := ⟨_, rfl⟩
        have HBE2 := Lib.hid (HBE.out w1 HR1.out k)
        obtain ⟨B0, hB0⟩ : ∃ B0, B0 = behindOf t (k : Int) := ⟨_, rfl⟩
        rw [← hW0] at HW hwb ⊢
        rw [← hB0] at HW hbb HBE2
        generalize (t.getD k zeroNd).op = xo at hc HW
        clear hr hW0 hB0
        by_cases h7 : xo = 7
        · have HW2 := Lib.hid (show wtUpTo t (k + 1) = max W0 (B0 - k - 1) by rw [HW.out, if_pos h7])
          subst h7
          go_wp2_with fail
          refine HBE2.out.mono ?_
          rintro e wq ⟨rfl, rfl⟩
          go_wp2_with fail
          go_round
          case rel => exact ⟨k + 1, by omega, by go_num, by rw [HW2.out]⟩
          case measure => simp [intOf]; omega
        · have HW2 := Lib.hid (show wtUpTo t (k + 1) = W0 by rw [HW.out, if_neg h7])
          have h72 := ne_b h7
          clear h7
          go_wp2_with fail
          go_round
          case rel => exact ⟨k + 1, by omega, by go_num, by rw [HW2.out]⟩
          case measure => simp [intOf]; omega
      · have hkn1 : ¬ (k : Int) < n := by omega
        have HRN := Lib.hid (show R = wtUpTo t k by rw [HRR.out, HN.out, show n = k by omega])
        go_wp2_with fail
        go_ret
        exact ⟨ret_int HRN.out.symm, HB1.out⟩
def ChkPost2 (t : List Nd) (w : World) (e : Ending) (w' : World) : Prop := e = .returned (.tuple #[.int .i64 (checkE t), .int .i64 (checkP t)]) ∧ Below w.heap.size w w'
set_option maxRecDepth 100000 in
set_option maxHeartbeats 4000000 in
theorem refCheck_any (A : Option Addr) (n cap : Nat) (t : List Nd) (w : World) (hn : t.length = n) (hm : n ≤ 16777216) (hr : G.RdS w A 7 n (flat t)) (ht : SmallR t) :
    Calls Try.prog 13 #[.slice A n cap] w (ChkPost2 t w) := by
  have HSH := Lib.hid (refShape_any A n cap t w hn hm hr ht)
  have HDP := Lib.hid (fun W (h : Below w.heap.size w W) => refDepth_any A n cap t W hn hm (hr.below h) ht)
  unfold ShPost2 at HSH
  unfold IPost at HDP
  unfold ChkPost2
  have hbd := shapeOf_bd t
  obtain ⟨E, hE⟩ : ∃ E, E = checkE t := ⟨_, rfl⟩
  obtain ⟨P, hP⟩ : ∃ P, P = checkP t := ⟨_, rfl⟩
  rw [← hE, ← hP]
  unfold checkE at hE
  unfold checkP at hP
  obtain ⟨S, hS⟩ : ∃ S, S = shapeOf t := ⟨_, rfl⟩
  obtain ⟨D, hD⟩ : ∃ D, D = depthOf t := ⟨_, rfl⟩
  rw [← hS] at HSH hbd hE hP
  rw [← hD] at HDP hE
  clear hS hD hn hr ht
  by_cases hs : 0 ≤ S
  · rw [if_pos hs] at hE hP
    have HE := Lib.hid hE
    have HP := Lib.hid hP
    clear hE hP hbd HDP
    go_enter Try.func13, Try.ntmps13
    go_wp2_with fail
    refine HSH.out.mono ?_
    rintro e w1 ⟨rfl, hb1⟩
    have HB1 := Lib.hid hb1
    clear hb1
    go_wp2_with fail
    go_ret2
    exact ⟨ret_ints HE.out.symm HP.out.symm, HB1.out⟩
  · rw [if_neg hs] at hE hP
    obtain rfl : S = -1 := by omega
    have HP := Lib.hid hP
    clear hP hbd hs
    by_cases hd : 64 < D
    · rw [if_pos hd] at hE
      have HE := Lib.hid hE
      clear hE
      go_enter Try.func13, Try.ntmps13
      go_wp2_with fail
      refine HSH.out.mono ?_
      rintro e w1 ⟨rfl, hb1⟩
      have HB1 := Lib.hid hb1
      clear hb1
      go_wp2_with fail
      refine (HDP.out w1 HB1.out).mono ?_
      rintro e w2 ⟨rfl, hb2⟩
      have HB2 := Lib.hid (G.bl_trans HB1.out hb2)
      clear hb2
      go_wp2_with fail
      go_ret2
      exact ⟨ret_ints HE.out.symm HP.out.symm, HB2.out⟩
    · rw [if_neg hd] at hE
      have HE := Lib.hid hE
      clear hE
      go_enter Try.func13, Try.ntmps13
      go_wp2_with fail
      refine HSH.out.mono ?_
      rintro e w1 ⟨rfl, hb1⟩
      have HB1 := Lib.hid hb1
      clear hb1
      go_wp2_with fail
      refine (HDP.out w1 HB1.out).mono ?_
      rintro e w2 ⟨rfl, hb2⟩
      have HB2 := Lib.hid (G.bl_trans HB1.out hb2)
      clear hb2
      go_wp2_with fail
      go_ret2
      exact ⟨ret_ints HE.out.symm HP.out.symm, HB2.out⟩
end Go.Proofs.Ytamienmbpdbnnaa.T

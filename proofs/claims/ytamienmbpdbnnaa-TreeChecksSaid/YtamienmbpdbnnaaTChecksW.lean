/- The walk of tableaulaw09.TreeChecks. -/
import Derived.Test.YtamienmbpdbnnaaTCom
import Derived.Test.YtamienmbpdbnnaaTWide
import Derived.Test.YtamienmbpdbnnaaTRefD
import Derived.Deep.Cut
import Derived.Deep.CutRange
namespace Go.Proofs.Ytamienmbpdbnnaa.T
open Go Go.RowKit
set_option linter.unusedVariables false
set_option linter.unusedSimpArgs false
/-- A node that has been written over. -/
def Nd.tru (x : Nd) : Nd := ⟨31, x.kind, 0, x.m, ⟨#[]⟩, x.at_, x.kids⟩
theorem flat_tru : ∀ (l : List Nd) (k : Nat), k < l.length → (((flat l).set (k * 7) (.int .i8 31)).set (k * 7 + 4) (.string ⟨#[]⟩)).set (k * 7 + 2) (.int .i64 0) = flat (l.set k ((l.getD k zeroNd).tru))
  | [], k, h => by simp at h
  | x :: l, 0, _ => rfl
  | x :: l, k + 1, h => by
    have e1 : flat (x :: l) = x.cells ++ flat l := rfl
    have e2 : (x :: l).set (k + 1) (((x :: l).getD (k + 1) zeroNd).tru) = x :: l.set k ((l.getD k zeroNd).tru) := rfl
    have e3 : flat (x :: l.set k ((l.getD k zeroNd).tru)) = x.cells ++ flat (l.set k ((l.getD k zeroNd).tru)) := rfl
    have hl : x.cells.length = 7 := rfl
    rw [e2, e3, e1, List.set_append_right _ _ (by omega), List.set_append_right _ _ (by omega), List.set_append_right _ _ (by omega), hl, show (k + 1) * 7 - 7 = k * 7 by omega, show (k + 1) * 7 + 4 - 7 = k * 7 + 4 by omega, show (k + 1) * 7 + 2 - 7 = k * 7 + 2 by omega, flat_tru l k (by simp at h; omega)]
theorem tru_wide {xs : List Nd} {k : Nat} (hk : k < xs.length) : (wideNd xs).set k (((wideNd xs).getD k zeroNd).tru) = wideNd (xs.set k ((xs.getD k zeroNd).tru)) := by
  have e : (wideNd xs).getD k zeroNd = xs.getD k zeroNd := by
    unfold wideNd
    rw [List.getD_eq_getElem?_getD, List.getElem?_append_left hk, List.getD_eq_getElem?_getD]
  rw [e]
  unfold wideNd
  rw [List.set_append_left _ _ hk, List.length_set]
theorem SmallR.small {t : List Nd} (h : SmallR t) : Small t := fun x hx => ⟨(h x hx).1, (h x hx).2.1⟩
theorem SmallR.tru {t : List Nd} (h : SmallR t) {k : Nat} (hk : k < t.length) : SmallR (t.set k ((t.getD k zeroNd).tru)) := by
  intro x hx
  rcases List.mem_or_eq_of_mem_set hx with h1 | rfl
  · exact h x h1
  · refine ⟨by show (0 : Nat) ≤ _; omega, ?_, by show (0 : Int) ≤ _; omega⟩
    rw [List.getD_eq_getElem?_getD, List.getElem?_eq_getElem hk]
    exact (h _ (List.getElem_mem hk)).2.1
set_option maxRecDepth 100000 in
set_option maxHeartbeats 8000000 in
theorem checks_walk (A : Option Addr) (c : Nat) (xs : List Nd) (w : World) (hx : G.RdS w A 7 xs.length (flat xs)) (hxn : xs.length ≤ 140737488355328)
    (hxf : ∀ x ∈ xs, NdFit x) (hci : ContIn w) :
    Calls Try.prog 3 #[.slice A xs.length c] w (LivesPost w) := by
  have HX := Lib.hid hx
  have HCI := Lib.hid hci
  have HXF := Lib.hid hxf
  have HB1 := Lib.hid (beyond_any A xs.length c xs w rfl hxn hx (fun x h => (hxf x h).text))
  unfold LivesPost
  unfold BeyondPost at HB1
  have HLV := Lib.hid (fun W (h : Below w.heap.size w W) => lives_any W (HCI.out.below h))
  unfold LivesPost at HLV
  clear hx hci hxf
  go_enter Try.func3, Try.ntmps3
  go_wp2_with fail
  refine HB1.out.mono ?_
  rintro e w1 ⟨b1, rfl, rfl, h1⟩
  cases b1 with
  | true =>
    clear h1
    go_wp2_with fail
    go_ret
    exact ⟨rfl, Below.refl _ _⟩
  | false =>
    have hxl : xs.length ≤ 65536 := (h1 rfl).1
    have HSM := Lib.hid (show SmallR xs from fun x hx => ⟨(h1 rfl).2 x hx, (HXF.out x hx).kids.2, (HXF.out x hx).n.2⟩)
    clear h1
    have hxm : xs.length ≤ 16777216 := by omega
    have hmx : xs.length ≤ maxLen := by unfold maxLen; omega
    have HMX := Lib.hid hmx
    clear hmx
    have HCK := Lib.hid (fun W (A : Option Addr) (n c : Nat) (t : List Nd) (hn : t.length = n) (hm : n ≤ 16777216) (hr : G.RdS W A 7 n (flat t)) (hb : Below w.heap.size w W) (ht : SmallR t) => check_any A n c t W hn hm hr (HCI.out.below hb) ht.small)
    have HDP := Lib.hid (fun W (A : Option Addr) (n c : Nat) (t : List Nd) (hn : t.length = n) (hm : n ≤ 16777216) (hr : G.RdS W A 7 n (flat t)) (hb : Below w.heap.size w W) (ht : SmallR t) => depth_any A n c t W hn hm hr (HCI.out.below hb) ht.small)
    have HWT := Lib.hid (fun W (A : Option Addr) (n c : Nat) (t : List Nd) (hn : t.length = n) (hm : n ≤ 16777216) (hr : G.RdS W A 7 n (flat t)) (hb : Below w.heap.size w W) (ht : SmallR t) => weight_any A n c t W hn hm hr (HCI.out.below hb) ht.small)
    have HRC := Lib.hid (fun W (A : Option Addr) (n c : Nat) (t : List Nd) (hn : t.length = n) (hm : n ≤ 16777216) (hr : G.RdS W A 7 n (flat t)) (ht : SmallR t) => refCheck_any A n c t W hn hm hr ht)
    have HRD := Lib.hid (fun W (A : Option Addr) (n c : Nat) (t : List Nd) (hn : t.length = n) (hm : n ≤ 16777216) (hr : G.RdS W A 7 n (flat t)) (ht : SmallR t) => refDepth_any A n c t W hn hm hr ht)
    have HRW := Lib.hid (fun W (A : Option Addr) (n c : Nat) (t : List Nd) (hn : t.length = n) (hm : n ≤ 16777216) (hr : G.RdS W A 7 n (flat t)) (ht : SmallR t) => refWeight_any A n c t W hn hm hr ht)
    unfold ChkPost at HCK
    unfold ChkPost2 at HRC
    unfold DepPost at HDP HWT
    unfold IPost at HRD HRW
    go_wp2_with fail
    refine (wideNodes_any A c xs w HX.out (by omega)).mono ?_
    rintro e w1 he
    unfold WideNdPost at he
    obtain ⟨rfl, ho1, hb1⟩ := he
    have HO1 := Lib.hid ho1
    have HW1 := Lib.hid hb1
    obtain ⟨ga, hga⟩ : ∃ ga, ga = w.heap.size := ⟨_, rfl⟩
    rw [← hga] at HO1 ⊢
    have hgaw : w.heap.size ≤ ga := by omega
    clear ho1 hb1 hga
    have HXW := Lib.hid (fun W (h : Below w1.heap.size w1 W) => (wide_rdS HO1.out).below h)
    have HXA := Lib.hid (fun W (h : Below w1.heap.size w1 W) => HX.out.below (G.bl_trans HW1.out h))
    obtain ⟨E, hE⟩ : ∃ E, E = checkE xs := ⟨_, rfl⟩
    obtain ⟨P, hP⟩ : ∃ P, P = checkP xs := ⟨_, rfl⟩
    obtain ⟨D, hD⟩ : ∃ D, D = depthOf xs := ⟨_, rfl⟩
    obtain ⟨WW, hWW⟩ : ∃ WW, WW = weightOf xs := ⟨_, rfl⟩
    have HE := Lib.hid hE
    have HP := Lib.hid hP
    have HD := Lib.hid hD
    have HWW := Lib.hid hWW
    clear hE hP hD hWW
    go_wp2_with fail
    refine (HCK.out w1 (some ⟨ga, 0, none⟩) xs.length _ xs rfl hxm (HXW.out _ (Below.refl _ _)) HW1.out HSM.out).mono ?_
    rintro e w2 ⟨he, hb2⟩
    rw [← HE.out, ← HP.out] at he
    subst he
    have HW2 := Lib.hid hb2
    clear hb2
    go_wp2_with fail
    refine (HDP.out w2 (some ⟨ga, 0, none⟩) xs.length _ xs rfl hxm (HXW.out _ HW2.out) (G.bl_trans HW1.out HW2.out) HSM.out).mono ?_
    rintro e w3 ⟨he, hb3⟩
    rw [← HD.out] at he
    subst he
    have HW3 := Lib.hid (G.bl_trans HW2.out hb3)
    clear hb3
    go_wp2_with fail
    refine (HWT.out w3 (some ⟨ga, 0, none⟩) xs.length _ xs rfl hxm (HXW.out _ HW3.out) (G.bl_trans HW1.out HW3.out) HSM.out).mono ?_
    rintro e w4 ⟨he, hb4⟩
    rw [← HWW.out] at he
    subst he
    have HW4 := Lib.hid (G.bl_trans HW3.out hb4)
    clear hb4
    go_wp2_with fail
    refine (HRC.out w4 A xs.length c xs rfl hxm (HXA.out _ HW4.out) HSM.out).mono ?_
    rintro e w5 ⟨he, hb5⟩
    rw [← HE.out, ← HP.out] at he
    subst he
    have HW5 := Lib.hid (G.bl_trans HW4.out hb5)
    clear hb5
    go_wp2_with fail
    refine (HRD.out w5 A xs.length c xs rfl hxm (HXA.out _ HW5.out) HSM.out).mono ?_
    rintro e w6 ⟨he, hb6⟩
    rw [← HD.out] at he
    subst he
    have HW6 := Lib.hid (G.bl_trans HW5.out hb6)
    clear hb6
    go_wp2_with fail
    refine (HRW.out w6 A xs.length c xs rfl hxm (HXA.out _ HW6.out) HSM.out).mono ?_
    rintro e w7 ⟨he, hb7⟩
    rw [← HWW.out] at he
    subst he
    have HW7 := Lib.hid (G.bl_trans HW6.out hb7)
    clear hb7
    go_wp2_with fail
    refine (eq_bl (some ⟨ga, 0, none⟩) A xs.length xs.length _ c xs xs w7 (HXW.out _ HW7.out) (HXA.out _ HW7.out) HMX.out HMX.out).mono ?_
    rintro e w8 ⟨he, hb8⟩
    rw [decide_eq_true (rfl : xs = xs)] at he
    subst he
    have HW8 := Lib.hid (G.bl_trans HW7.out hb8)
    clear hb8
    go_wp2_with fail
    refine (spareNodes_any ga xs w8 ((wide_all HO1.out).below HW8.out) (by omega)).mono ?_
    rintro e w9 ⟨rfl, hb9⟩
    have HW9 := Lib.hid (G.bl_trans HW8.out hb9)
    clear hb9
    by_cases hn0 : xs.length = 0
    · have hz1 : ((xs.length : Int) == 0) = true := by simpa using hn0
      have hz2 : (xs.length : Int) = 0 := by omega
      clear hn0
      go_wp2_with fail
      refine (HLV.out w9 (G.bl_trans HW1.out HW9.out)).mono ?_
      rintro e wa ⟨rfl, hba⟩
      have HBA := Lib.hid (G.bl_trans HW1.out (G.bl_trans HW9.out hba))
      clear hba
      go_wp2_with fail
      go_ret
      exact ⟨rfl, HBA.out⟩
    · have hn1 : 1 ≤ xs.length := by omega
      have hz1 : ((xs.length : Int) == 0) = false := by simpa using hn0
      clear hn0
      go_upto_region 13 with (fail)
      obtain ⟨kk, hkk⟩ : ∃ kk : Nat, kk = xs.length * 2 / 3 := ⟨_, rfl⟩
      have hk1 : kk < xs.length := by omega
      have hk2 : (kk : Int) < xs.length := by omega
      have hk0 : (0 : Int) ≤ kk := by omega
      have ek : (xs.length : Int) * 2 / 3 = kk := by omega
      try rw [ek]
      have HO9 := Lib.hid (G.own_below HO1.out HW9.out)
      have hfl : (flat (wideNd xs)).length = (xs.length + 64) * 7 := HO9.out.1
      have hcg : ∀ j, j < 7 → ∃ v, w9.cell? ⟨ga, kk * 7 + j, none⟩ = some v := fun j hj => ⟨_, (HO9.out.cellAt (kk * 7 + j) (by omega)).trans (List.getElem?_eq_getElem (by rw [hfl]; omega))⟩
      obtain ⟨z0, q0⟩ := hcg 0 (by omega)
      obtain ⟨z2, q2⟩ := hcg 2 (by omega)
      obtain ⟨z4, q4⟩ := hcg 4 (by omega)
      rw [Nat.add_zero] at q0
      have p0 := HO9.out.frozenAt (kk * 7)
      have p2 := HO9.out.frozenAt (kk * 7 + 2)
      have p4 := HO9.out.frozenAt (kk * 7 + 4)
      obtain ⟨ys, hys⟩ : ∃ ys, ys = xs.set kk ((xs.getD kk zeroNd).tru) := ⟨_, rfl⟩
      have hyl : ys.length = xs.length := by rw [hys, List.length_set]
      have HYL := Lib.hid hyl
      have HSY := Lib.hid (show SmallR ys by rw [hys]; exact HSM.out.tru hk1)
      obtain ⟨wS, hwS⟩ : ∃ wS, wS = ((w9.setCell ⟨ga, kk * 7, none⟩ (.int .i8 31)).setCell ⟨ga, kk * 7 + 4, none⟩ (.string ⟨#[]⟩)).setCell ⟨ga, kk * 7 + 2, none⟩ (.int .i64 0) := ⟨_, rfl⟩
      have HOS := Lib.hid (show wS.ownsRow ga 33 7 (.slice (some ⟨ga, 0, none⟩) (xs.length + 64) (xs.length + 64)) (xs.length + 64) (flat (wideNd ys)) by
        have h := ((((HO9.out.stored (kk * 7) (.int .i8 31)).1.stored (kk * 7 + 4) (.string ⟨#[]⟩)).1).stored (kk * 7 + 2) (.int .i64 0)).1
        rw [flat_tru _ _ (by have := flat_length (wideNd xs); omega), tru_wide hk1, ← hys] at h
        rw [hwS]
        exact h)
      have HBS := Lib.hid (show Below w.heap.size w wS by
        rw [hwS]
        exact (((G.bl_trans HW1.out HW9.out).setCell (p := ⟨ga, kk * 7, none⟩) hgaw _).setCell (p := ⟨ga, kk * 7 + 4, none⟩) hgaw _).setCell (p := ⟨ga, kk * 7 + 2, none⟩) hgaw _)
      have HWS := Lib.hid hwS
      clear hcg hfl hys hyl hwS ek hkk
      go_upto_region 16 with (fail)
      rw [← HWS.out]
      clear q0 q2 q4 p0 p2 p4
      have HYW := Lib.hid (fun W (h : Below wS.heap.size wS W) => (HYL.out ▸ (wide_rdS (N := xs.length + 64) HOS.out)).below h)
      obtain ⟨E2, hE2⟩ : ∃ E2, E2 = checkE ys := ⟨_, rfl⟩
      obtain ⟨P2, hP2⟩ : ∃ P2, P2 = checkP ys := ⟨_, rfl⟩
      obtain ⟨D2, hD2⟩ : ∃ D2, D2 = depthOf ys := ⟨_, rfl⟩
      have HE2 := Lib.hid hE2
      have HP2 := Lib.hid hP2
      have HD2 := Lib.hid hD2
      clear hE2 hP2 hD2
      go_wp2_with fail
      refine (copy_any (some ⟨ga, 0, none⟩) xs.length _ ys wS HYL.out (by omega) (HYW.out _ (Below.refl _ _))).mono ?_
      rintro e wa ⟨Ba, da, rfl, hoa, hba⟩
      have HWA := Lib.hid hba
      have HRA := Lib.hid (G.RdS.of_own hoa)
      clear hoa hba
      go_wp2_with fail
      refine (HCK.out wa (some ⟨ga, 0, none⟩) xs.length _ ys HYL.out hxm (HYW.out _ HWA.out) (G.bl_trans HBS.out HWA.out) HSY.out).mono ?_
      rintro e wb ⟨he, hbb⟩
      rw [← HE2.out, ← HP2.out] at he
      subst he
      have HWB := Lib.hid (G.bl_trans HWA.out hbb)
      have HRB := Lib.hid (HRA.out.below hbb)
      clear hbb
      go_wp2_with fail
      refine (HRC.out wb Ba xs.length da ys HYL.out hxm HRB.out HSY.out).mono ?_
      rintro e wd ⟨he, hbd⟩
      rw [← HE2.out, ← HP2.out] at he
      subst he
      have HWD := Lib.hid (G.bl_trans HWB.out hbd)
      have HRDd := Lib.hid (HRB.out.below hbd)
      clear hbd
      go_wp2_with fail
      refine (HDP.out wd (some ⟨ga, 0, none⟩) xs.length _ ys HYL.out hxm (HYW.out _ HWD.out) (G.bl_trans HBS.out HWD.out) HSY.out).mono ?_
      rintro e we ⟨he, hbe⟩
      rw [← HD2.out] at he
      subst he
      have HWE := Lib.hid (G.bl_trans HWD.out hbe)
      have HRE := Lib.hid (HRDd.out.below hbe)
      clear hbe
      go_wp2_with fail
      refine (HRD.out we Ba xs.length da ys HYL.out hxm HRE.out HSY.out).mono ?_
      rintro e wf ⟨he, hbf⟩
      rw [← HD2.out] at he
      subst he
      have HWF := Lib.hid (G.bl_trans HWE.out hbf)
      clear hbf
      go_wp2_with fail
      refine (HLV.out wf (G.bl_trans HBS.out HWF.out)).mono ?_
      rintro e wg ⟨rfl, hbg⟩
      have HBG := Lib.hid (G.bl_trans HBS.out (G.bl_trans HWF.out hbg))
      clear hbg
      go_wp2_with fail
      go_ret
      exact ⟨rfl, HBG.out⟩
end Go.Proofs.Ytamienmbpdbnnaa.T

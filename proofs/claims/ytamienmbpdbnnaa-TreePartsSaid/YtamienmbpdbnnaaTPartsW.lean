/- The walk of tableaulaw09.TreeParts. -/
import Derived.Test.YtamienmbpdbnnaaTCom
import Derived.Test.YtamienmbpdbnnaaTStrip
import Derived.Deep.Cut
import Derived.Deep.CutRange
namespace Go.Proofs.Ytamienmbpdbnnaa.T
open Go Go.RowKit
set_option linter.unusedVariables false
set_option linter.unusedSimpArgs false
theorem kids_at {K q : Nat} (f : Nat → Int) (h : q < K) : (ints ((List.range K).map f)).getD q undef = .int .i64 (f q) := by
  simp [ints, List.getD_eq_getElem?_getD, h]
/-- The place of a node is another one. -/
def Nd.reAt (x : Nd) (a : Int) : Nd := ⟨x.op, x.kind, x.n, x.m, x.text, a, x.kids⟩
theorem flat_set (a : Int) : ∀ (l : List Nd) (k : Nat), k < l.length → (flat l).set (k * 7 + 5) (.int .i64 a) = flat (l.set k ((l.getD k zeroNd).reAt a))
  | [], k, h => by simp at h
  | x :: l, 0, _ => rfl
  | x :: l, k + 1, h => by
    have e1 : flat (x :: l) = x.cells ++ flat l := rfl
    have e2 : (x :: l).set (k + 1) (((x :: l).getD (k + 1) zeroNd).reAt a) = x :: l.set k ((l.getD k zeroNd).reAt a) := rfl
    have e3 : flat (x :: l.set k ((l.getD k zeroNd).reAt a)) = x.cells ++ flat (l.set k ((l.getD k zeroNd).reAt a)) := rfl
    have hl : x.cells.length = 7 := rfl
    rw [e2, e3, e1, List.set_append_right _ _ (by omega), hl, show (k + 1) * 7 + 5 - 7 = k * 7 + 5 by omega, flat_set a l k (by simp at h; omega)]
/-- The first k nodes have got other places. -/
def Re (xs : List Nd) (k : Nat) (l : List Nd) : Prop := l.length = xs.length ∧ (∀ j, j < k → l.getD j zeroNd = (xs.getD j zeroNd).reAt (3 * (j : Int))) ∧ ∀ j, k ≤ j → l.getD j zeroNd = xs.getD j zeroNd
theorem getD_set (l : List Nd) (k j : Nat) (x : Nd) (h : k < l.length) : (l.set k x).getD j zeroNd = if j = k then x else l.getD j zeroNd := by
  rw [List.getD_eq_getElem?_getD, List.getD_eq_getElem?_getD, List.getElem?_set]
  by_cases e : j = k
  · subst e
    rw [if_pos rfl, if_pos rfl, if_pos h]
    rfl
  · rw [if_neg (fun e' => e e'.symm), if_neg e]
theorem Re.next {xs l : List Nd} {k : Nat} (h : Re xs k l) (hk : k < xs.length) : Re xs (k + 1) (l.set k ((l.getD k zeroNd).reAt (3 * (k : Int)))) := by
  obtain ⟨h1, h2, h3⟩ := h
  refine ⟨by rw [List.length_set]; exact h1, fun j hj => ?_, fun j hj => ?_⟩
  · rw [getD_set _ _ _ _ (by omega)]
    by_cases e : j = k
    · subst e
      rw [if_pos rfl, h3 j (Nat.le_refl _)]
    · rw [if_neg e, h2 j (by omega)]
  · rw [getD_set _ _ _ _ (by omega), if_neg (by omega), h3 j (by omega)]
theorem Re.all {xs l : List Nd} (h : Re xs xs.length l) : xs.map Nd.z = l.map Nd.z ∧ (∀ x ∈ l, 0 ≤ x.at_) ∧ SameP xs l ∧ (Small xs → Small l) := by
  obtain ⟨h1, h2, _⟩ := h
  have key : ∀ j (hj : j < l.length), l[j] = (xs[j]'(by omega)).reAt (3 * (j : Int)) := by
    intro j hj
    have := h2 j (by omega)
    rwa [List.getD_eq_getElem?_getD, List.getD_eq_getElem?_getD, List.getElem?_eq_getElem hj, List.getElem?_eq_getElem (show j < xs.length by omega)] at this
  refine ⟨?_, ?_, ⟨h1.symm, fun k hk => ?_⟩, fun hs x hx => ?_⟩
  · refine List.ext_getElem (by simp [h1]) fun j ha hb => ?_
    simp only [List.getElem_map]
    rw [key j (by simpa using hb)]
    rfl
  · intro x hx
    obtain ⟨j, hj, rfl⟩ := List.mem_iff_getElem.1 hx
    rw [key j hj]
    show 0 ≤ 3 * (j : Int)
    omega
  · rw [h2 k hk]
    exact ⟨rfl, rfl, rfl, rfl, rfl, rfl⟩
  · obtain ⟨j, hj, rfl⟩ := List.mem_iff_getElem.1 hx
    rw [key j hj]
    have h9 := hs (xs[j]'(by omega)) (List.getElem_mem _)
    exact h9
theorem checkE_no {t : List Nd} {k : Int} (h : shapeOf t = k) (hk : 0 ≤ k) : checkE t = 24 ∧ checkP t = k := by
  unfold checkE checkP
  rw [h, if_pos hk, if_pos hk]
  exact ⟨rfl, rfl⟩
theorem checkE_yes {t : List Nd} (h : shapeOf t = -1) (hd : depthOf t ≤ 64) : checkE t = 0 ∧ checkP t = 0 := by
  unfold checkE checkP
  rw [h, if_neg (by decide), if_neg (by omega), if_neg (by decide)]
  exact ⟨rfl, rfl⟩
set_option maxRecDepth 100000 in
set_option maxHeartbeats 8000000 in
theorem parts_walk (A : Option Addr) (c : Nat) (xs : List Nd) (p : Int) (w : World) (hx : G.RdS w A 7 xs.length (flat xs)) (hxn : xs.length ≤ 140737488355328) (hc : xs.length ≤ c)
    (hxf : ∀ x ∈ xs, NdFit x) (hp : -9223372036854775808 ≤ p ∧ p ≤ 9223372036854775807) (hci : ContIn w) :
    Calls Try.prog 5 #[.slice A xs.length c, .int .i64 p] w (LivesPost w) := by
  have HX := Lib.hid hx
  have HCI := Lib.hid hci
  have HXF := Lib.hid hxf
  have HB1 := Lib.hid (beyond_any A xs.length c xs w rfl hxn hx (fun x h => (hxf x h).text))
  unfold LivesPost
  unfold BeyondPost at HB1
  have HLV := Lib.hid (fun W (h : Below w.heap.size w W) => lives_any W (HCI.out.below h))
  unfold LivesPost at HLV
  clear hx hci hxf
  go_enter Try.func5, Try.ntmps5
  go_wp2_with fail
  refine HB1.out.mono ?_
  rintro e w1 ⟨b1, rfl, rfl, h1⟩
  cases b1 with
  | true =>
    clear h1
    go_wp2_with fail
    go_ret
    exact ⟨rfl, Below.refl _ _⟩
  | false =>
    have hxl : xs.length ≤ 65536 := (h1 rfl).1
    have HSM := Lib.hid (show Small xs from fun x hx => ⟨(h1 rfl).2 x hx, (HXF.out x hx).kids.2⟩)
    clear h1
    have hxm : xs.length ≤ 16777216 := by omega
    have hxo : xs.length ≤ 1099511627776 := by omega
    have hmx : xs.length ≤ maxLen := by unfold maxLen; omega
    have HMX := Lib.hid hmx
    clear hmx
    have HCP := Lib.hid (fun W (A : Option Addr) (n c : Nat) (t : List Nd) (hn : t.length = n) (hm : n ≤ 1099511627776) (hr : G.RdS W A 7 n (flat t)) => copy_any A n c t W hn hm hr)
    have HCX := Lib.hid (fun W (h : Below w.heap.size w W) => copy_any A xs.length c xs W rfl hxo (HX.out.below h))
    have HBE := Lib.hid (fun W B d (h : G.RdS W B 7 xs.length (flat xs)) q => behind_any B xs.length d xs q W rfl hxm h)
    have HDP := Lib.hid (fun W (A : Option Addr) (n c : Nat) (t : List Nd) (hn : t.length = n) (hm : n ≤ 16777216) (hr : G.RdS W A 7 n (flat t)) (hb : Below w.heap.size w W) (ht : Small t) => depth_any A n c t W hn hm hr (HCI.out.below hb) ht)
    have HCK := Lib.hid (fun W (A : Option Addr) (n c : Nat) (t : List Nd) (hn : t.length = n) (hm : n ≤ 16777216) (hr : G.RdS W A 7 n (flat t)) (hb : Below w.heap.size w W) (ht : Small t) => check_any A n c t W hn hm hr (HCI.out.below hb) ht)
    unfold DepPost at HDP
    unfold ChkPost at HCK
    have HBB := Lib.hid (fun q => behind_bd xs q)
    obtain ⟨N, hN⟩ : ∃ N, N = behindOf xs p := ⟨_, rfl⟩
    obtain ⟨L, hL⟩ : ∃ L, L = kidsL xs p := ⟨_, rfl⟩
    have hNb : -1 ≤ N ∧ N ≤ xs.length := by rw [hN]; exact behind_bd xs p
    have HNN := Lib.hid hN
    have HLL := Lib.hid hL
    clear hN hL
    go_wp2_with fail
    refine (HCX.out w (Below.refl _ _)).mono ?_
    rintro e w2 ⟨B2, d2, rfl, ho2, hb2⟩
    have HW2 := Lib.hid hb2
    have HR2 := Lib.hid (G.RdS.of_own ho2)
    clear ho2 hb2
    go_wp2_with fail
    refine (HBE.out w2 B2 d2 HR2.out p).mono ?_
    rintro e wq ⟨he, rfl⟩
    rw [← HNN.out] at he
    subst he
    go_wp2_with fail
    refine (HCX.out w2 HW2.out).mono ?_
    rintro e w3 ⟨B3, d3, rfl, ho3, hb3⟩
    have HW3 := Lib.hid (G.bl_trans HW2.out hb3)
    have HR3 := Lib.hid (G.RdS.of_own ho3)
    clear ho3 hb3
    go_wp2_with fail
    refine (kids_any B3 xs.length d3 xs p w3 rfl hxm HR3.out).mono ?_
    rintro e w4 ⟨v4, rfl, ho4, hb4⟩
    rw [← HLL.out] at ho4
    obtain ⟨a4, c4, rfl⟩ := G.own_shape ho4
    have hnl0 : ∃ NL, NL = L.length := ⟨_, rfl⟩
    obtain ⟨NL, hNL⟩ := hnl0
    rw [← hNL] at ho4 ⊢
    have HNL := Lib.hid hNL
    have HO4 := Lib.hid (G.RdS.of_own ho4)
    clear hNL
    have HW4 := Lib.hid (G.bl_trans HW3.out hb4)
    clear ho4 hb4
    go_upto_if 30 with (fail)
    go_cut [7, 8] from 19 to 186 (fun s7 s8 wx => Below w.heap.size w wx)
    case first =>
      by_cases hneg : N < 0
      · have hN1 : N = -1 := by omega
        subst hN1
        have hLe : L = [] := by rw [HLL.out]; unfold kidsL; rw [if_pos (by rw [← HNN.out]; omega)]
        have hn0 : NL = 0 := by rw [HNL.out, hLe]; rfl
        subst hn0
        clear hLe
        go_wp2_with fail
        go_meet
        case rel => exact HW4.out
      · have hok := behind_ok (t := xs) (a := p) (by rw [← HNN.out]; exact hneg)
        obtain ⟨i, K, rfl, hi, hK, hKn, hs⟩ := hok
        have hsk : N = skipTo xs (i + 1) K := by
          rw [HNN.out, behind_skip hi (by omega), hK, Int.toNat_natCast]
        have hLL : L = (List.range K).map (fun q => skipTo xs (i + 1) q) := by
          rw [HLL.out]
          unfold kidsL
          rw [if_neg (by rw [← HNN.out]; exact hneg), Int.toNat_natCast, hK, Int.toNat_natCast]
        have h0 : skipTo xs (i + 1) 0 = ((i + 1 : Nat) : Int) := skip_zero (by omega)
        have hge : ((i + 1 : Nat) : Int) ≤ skipTo xs (i + 1) K := skip_ge (by omega) (hs K (Nat.le_refl _))
        have hle : skipTo xs (i + 1) K ≤ xs.length := (skip_bd xs (i + 1) K).2
        have HST := Lib.hid (fun q (h : q < K) => skip_step (hs q (by omega)))
        have HS0 := Lib.hid h0
        obtain ⟨sk, hsk2⟩ : ∃ sk, sk = skipTo xs (i + 1) := ⟨_, rfl⟩
        rw [← hsk2] at hsk hLL hge hle HST HS0
        subst hsk
        have hLn : L.length = K := by rw [hLL]; simp
        have HLN := Lib.hid hLL
        have hNK : NL = K := by rw [HNL.out, hLn]
        subst hNK
        have HR4 := Lib.hid (HX.out.below HW4.out)
        obtain ⟨b, off, hA, hr⟩ := HR4.out.2 (by omega)
        have hc6 := (nd_at hr hi rfl).2.2.2.2.2.2
        rw [hK] at hc6
        have hge1 : (i : Int) < sk NL := by omega
        have hiI : (i : Int) < xs.length := by omega
        have hi0 : (0 : Int) ≤ i := by omega
        have hkk : (NL : Int) ≤ 65536 := by omega
        subst hA
        clear h0 hs hsk2 hLL hLn hr hK hge HR4
        go_wp2_with fail
        go_loopw [7, 8] (fun pl ii wr => ∃ q : Nat, q ≤ NL ∧ ii = .int .i64 q ∧ pl = .int .i64 (sk q) ∧ Below w.heap.size w wr ∧ Below w4.heap.size w4 wr) (fun _ ii _ => NL - (intOf ii).toNat)
        case atStart => exact ⟨0, Nat.zero_le _, rfl, by rw [HS0.out]; go_num, HW4.out, Below.refl _ _⟩
        case round =>
          obtain ⟨q, hq, rfl, rfl, hB, hB4⟩ := hrel
          have HB := Lib.hid hB
          have HB4 := Lib.hid hB4
          clear hB hB4
          by_cases hlt : q < NL
          · have hlt1 : (q : Int) < NL := by omega
            have hq0 : (0 : Int) ≤ q := by omega
            obtain ⟨b4, o4, ha4, hr4⟩ := (HO4.out.below HB4.out).2 (by omega)
            subst ha4
            have hcq := hr4.2 q (by rw [HLN.out]; simp [ints]; exact hlt)
            rw [HLN.out, kids_at sk hlt] at hcq
            clear hr4
            go_wp2_with fail
            refine (HCX.out wr HB.out).mono ?_
            rintro e w5 ⟨B5, d5, rfl, ho5, hb5⟩
            have HW5 := Lib.hid (G.bl_trans HB.out hb5)
            have HB45 := Lib.hid (G.bl_trans HB4.out hb5)
            have HR5 := Lib.hid (G.RdS.of_own ho5)
            clear ho5 hb5
            go_wp2_with fail
            refine (HBE.out w5 B5 d5 HR5.out (sk q)).mono ?_
            rintro e wq ⟨he, rfl⟩
            rw [← HST.out q hlt] at he
            subst he
            go_wp2_with fail
            go_roundw
            case rel => exact ⟨q + 1, by omega, by go_num, rfl, HW5.out, HB45.out⟩
            case measure => simp [intOf]; omega
          · have hlt1 : ¬ (q : Int) < NL := by omega
            obtain rfl : q = NL := by omega
            go_wp2_with fail
            go_meet
            case rel => exact HB.out
    case rest =>
      have HWC := Lib.hid hcut
      clear hcut HW2 HR2 HW3 HR3 HO4 HW4
      go_wp2_with fail
      refine (HCX.out wc HWC.out).mono ?_
      rintro e w5 ⟨B5, d5, rfl, ho5, hb5⟩
      have HW5 := Lib.hid (G.bl_trans HWC.out hb5)
      have HR5 := Lib.hid (G.RdS.of_own ho5)
      clear ho5 hb5
      go_wp2_with fail
      refine (HCK.out w5 B5 xs.length d5 xs rfl hxm HR5.out HW5.out HSM.out).mono ?_
      rintro e w6 ⟨he, hb6⟩
      have HW6 := Lib.hid (G.bl_trans HW5.out hb6)
      clear hb6
      have hce := checkE_cases xs
      generalize checkE xs = E at he hce
      generalize checkP xs = PP at he
      rcases hce with rfl | rfl | ⟨rfl, hsh, hd64⟩
      · subst he
        go_wp2_with fail
        refine (HLV.out w6 HW6.out).mono ?_
        rintro e w7 ⟨rfl, hb7⟩
        have HW7 := Lib.hid (G.bl_trans HW6.out hb7)
        clear hb7
        go_wp2_with fail
        go_ret
        exact ⟨rfl, HW7.out⟩
      · subst he
        go_wp2_with fail
        refine (HLV.out w6 HW6.out).mono ?_
        rintro e w7 ⟨rfl, hb7⟩
        have HW7 := Lib.hid (G.bl_trans HW6.out hb7)
        clear hb7
        go_wp2_with fail
        go_ret
        exact ⟨rfl, HW7.out⟩
      · subst he
        have hn1 := tree_ne hsh
        have HSH := Lib.hid hsh
        have HD64 := Lib.hid hd64
        clear hsh hd64
        go_wp2_with fail
        refine (HCX.out w6 HW6.out).mono ?_
        rintro e w7 ⟨B7, d7, rfl, ho7, hb7⟩
        have HW7 := Lib.hid (G.bl_trans HW6.out hb7)
        obtain ⟨g7, c7, he7, hg7, _⟩ := G.own_addr ho7 hn1
        have hg7w : w.heap.size ≤ g7 := Nat.le_trans HW6.out.size hg7
        simp only [Value.slice.injEq, true_and] at he7
        obtain ⟨rfl, rfl⟩ := he7
        have HO7 := Lib.hid (G.own_ge ho7 HW6.out.size)
        clear ho7 hb7
        go_wp2_with fail
        go_loopw [12] (fun ii wr => ∃ (k : Nat) (l : List Nd), k ≤ xs.length ∧ ii = .int .i64 k ∧ Re xs k l ∧ wr.ownsRow w.heap.size 33 7 (.slice (some ⟨g7, 0, none⟩) xs.length d7) xs.length (flat l) ∧ Below w.heap.size w wr) (fun ii _ => xs.length - (intOf ii).toNat)
        case atStart => exact ⟨0, xs, Nat.zero_le _, rfl, ⟨rfl, fun j hj => by omega, fun j hj => rfl⟩, HO7.out, HW7.out⟩
        case round =>
          obtain ⟨k, l, hk, rfl, hre, hO, hB⟩ := hrel
          have HRE := Lib.hid hre
          have HO := Lib.hid hO
          have HB := Lib.hid hB
          clear hre hB
          by_cases hlt : k < xs.length
          · have hlt1 : (k : Int) < xs.length := by omega
            have hk0 : (0 : Int) ≤ k := by omega
            have hk5 : (k : Int) ≤ 65536 := by omega
            refine cells7_use hO hlt ?_
            intro y0 y1 y2 y3 y4 y5 y6 e0 e1 e2 e3 e4 e5 e6 f0 f1 f2 f3 f4 f5 f6
            have HN7 := Lib.hid (show (wr.setCell ⟨g7, k * 7 + 5, none⟩ (.int .i64 (3 * (k : Int)))).ownsRow w.heap.size 33 7 (.slice (some ⟨g7, 0, none⟩) xs.length d7) xs.length (flat (l.set k ((l.getD k zeroNd).reAt (3 * (k : Int))))) by
              rw [← flat_set _ _ _ (by rw [HRE.out.1]; exact hlt)]
              exact (HO.out.stored (k * 7 + 5) _).1)
            have HBN := Lib.hid (G.bl_set HB.out (p := ⟨g7, k * 7 + 5, none⟩) hg7w (.int .i64 (3 * (k : Int))))
            clear hO e0 e1 e2 e3 e4 e6 f0 f1 f2 f3 f4 f6
            go_wp2_with fail
            go_roundw
            case rel => exact ⟨k + 1, _, by omega, by go_num, HRE.out.next hlt, HN7.out, HBN.out⟩
            case measure => simp [intOf]; omega
          · have hlt1 : ¬ (k : Int) < xs.length := by omega
            obtain rfl : k = xs.length := by omega
            obtain ⟨r1, r2, r3, r4⟩ := HRE.out.all
            have hst := strip_same r1 r2 HSH.out
            have HSL := Lib.hid hst.1
            have HDL := Lib.hid (show depthOf l ≤ 64 by rw [hst.2]; exact HD64.out)
            have HSP := Lib.hid (decide_eq_true r3)
            have HSS := Lib.hid (r4 HSM.out)
            have HRL := Lib.hid (G.RdS.of_own HO.out)
            have HLN := Lib.hid HRE.out.1
            clear hst r1 r2 r3 r4 hO
            obtain ⟨bA, oA, hA, hrA⟩ := HX.out.2 hn1
            subst hA
            clear hrA
            go_wp2_with fail
            refine (HCP.out wr (some ⟨bA, oA, none⟩) (xs.length - 1) c (xs.take (xs.length - 1)) (by rw [List.length_take]; omega) (by omega) (rdS_take7 (HX.out.below HB.out) rfl (by omega))).mono ?_
            rintro e wa ⟨Ba, da, rfl, hoa, hba⟩
            have HWA := Lib.hid (G.bl_trans HB.out hba)
            have HRA := Lib.hid (G.RdS.of_own hoa)
            have HRLA := Lib.hid (HRL.out.below hba)
            have hcut2 := tree_cut HSH.out
            have e1 : ((xs.length - 1 : Nat) : Int) = (xs.length : Int) - 1 := by omega
            rw [e1] at hcut2
            have hk2 := checkE_no hcut2 (by omega)
            have HK2 := Lib.hid hk2
            clear hoa hba hcut2 e1 hk2
            go_wp2_with fail
            refine (HCK.out wa Ba (xs.length - 1) da (xs.take (xs.length - 1)) (by rw [List.length_take]; omega) (by omega) HRA.out HWA.out (fun x hx => HSM.out x (List.mem_of_mem_take hx))).mono ?_
            rintro e wb ⟨he, hbb⟩
            rw [HK2.out.1, HK2.out.2] at he
            subst he
            have HWB := Lib.hid (G.bl_trans HWA.out hbb)
            have HRLB := Lib.hid (HRLA.out.below hbb)
            clear hbb
            go_wp2_with fail
            refine (HCX.out wb HWB.out).mono ?_
            rintro e wd ⟨Bd, dd, rfl, hod, hbd⟩
            have HWD := Lib.hid (G.bl_trans HWB.out hbd)
            have HBD := Lib.hid hbd
            have HOD := Lib.hid hod
            have hzd := hbd.size
            have hm3 := checkE_no (tree_more ⟨2, 0, 0, 0, ⟨#[]⟩, 0, 0⟩ HSH.out) (by omega)
            have HK3 := Lib.hid hm3
            clear hod hbd hm3
            go_wp2_with (at_builtin; refine wpList_app_new rfl (.tmp 131) (.tmp 133) rfl wb.heap.size _ xs.length xs rfl (HOD.out.alloc _) 1 1 wd.heap.size [⟨2, 0, 0, 0, ⟨#[]⟩, 0, 0⟩] _ rfl rfl (G.Blk.new wd _ _) rfl (by omega) (by simp; omega) ?_; intro v1 we ht1 hb1; have HBE2 := Lib.hid (bl_base (G.bl_alloc HBD.out _) hb1); have HWE := Lib.hid (G.bl_trans HWB.out HBE2.out); have HRLE := Lib.hid (HRLB.out.below HBE2.out); obtain ⟨ae, ce, hve⟩ := G.own_shape ht1; subst hve; have HRE2 := Lib.hid (G.RdS.of_own ht1); clear ht1)
            refine (HCK.out we ae (xs.length + 1) ce (xs ++ [⟨2, 0, 0, 0, ⟨#[]⟩, 0, 0⟩]) (by simp) (by omega) HRE2.out HWE.out (HSM.out.app (fun x hx => by obtain rfl := List.mem_singleton.1 hx; exact ⟨by decide, by decide⟩))).mono ?_
            rintro e wf ⟨he, hbf⟩
            rw [HK3.out.1, HK3.out.2] at he
            subst he
            have HWF := Lib.hid (G.bl_trans HWE.out hbf)
            have HRLF := Lib.hid (HRLE.out.below hbf)
            clear hbf
            go_wp2_with fail
            refine (HCK.out wf (some ⟨g7, 0, none⟩) xs.length d7 l HLN.out hxm HRLF.out HWF.out HSS.out).mono ?_
            rintro e wg ⟨he, hbg⟩
            have hk4 := checkE_yes HSL.out HDL.out
            rw [hk4.1, hk4.2] at he
            subst he
            have HWG := Lib.hid (G.bl_trans HWF.out hbg)
            have HRLG := Lib.hid (HRLF.out.below hbg)
            clear hbg hk4
            go_wp2_with fail
            refine (HCX.out wg HWG.out).mono ?_
            rintro e wh ⟨Bh, dh, rfl, hoh, hbh⟩
            have HWH := Lib.hid (G.bl_trans HWG.out hbh)
            have HRLH := Lib.hid (HRLG.out.below hbh)
            have HRH := Lib.hid (G.RdS.of_own hoh)
            clear hoh hbh
            go_wp2_with fail
            refine (HBE.out wh Bh dh HRH.out 0).mono ?_
            rintro e wq ⟨he, rfl⟩
            rw [tree_behind HSH.out] at he
            subst he
            have hln := HLN.out
            go_wp2_with fail
            refine (same_any (some ⟨bA, oA, none⟩) (some ⟨g7, 0, none⟩) xs.length xs.length c d7 xs l wh (HX.out.below HWH.out) HRLH.out HMX.out HMX.out).mono ?_
            rintro e wi ⟨he, hbi⟩
            rw [HSP.out] at he
            subst he
            have HWI := Lib.hid (G.bl_trans HWH.out hbi)
            have HRLI := Lib.hid (HRLH.out.below hbi)
            have hdl := HDL.out
            obtain ⟨DL, hDL⟩ : ∃ DL, DL = depthOf l := ⟨_, rfl⟩
            rw [← hDL] at hdl
            have HDE := Lib.hid hDL
            clear hbi hDL
            go_wp2_with fail
            refine (HDP.out wi (some ⟨g7, 0, none⟩) xs.length d7 l HLN.out hxm HRLI.out HWI.out HSS.out).mono ?_
            rintro e wj ⟨he, hbj⟩
            rw [← HDE.out] at he
            subst he
            have HWJ := Lib.hid (G.bl_trans HWI.out hbj)
            clear hbj
            go_wp2_with fail
            refine (HLV.out wj HWJ.out).mono ?_
            rintro e wk ⟨rfl, hbk⟩
            have HWK := Lib.hid (G.bl_trans HWJ.out hbk)
            clear hbk
            go_wp2_with fail
            go_ret
            exact ⟨rfl, HWK.out⟩
end Go.Proofs.Ytamienmbpdbnnaa.T

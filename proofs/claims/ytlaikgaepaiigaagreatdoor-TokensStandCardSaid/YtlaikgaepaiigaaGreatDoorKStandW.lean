/- The law TokensStand answers true. -/
import Derived.Test.YtlaikgaepaiigaaGreatDoorKStandR
import Derived.Test.YtlaikgaepaiigaaGreatDoorKEq
namespace Go.Proofs.YtlaikgaepaiigaaGreatDoor.K
open Go Go.RowKit
set_option linter.unusedVariables false
set_option linter.unusedSimpArgs false
theorem cutPost_own2 {s : ByteArray} {w : World} {e : Ending} {w' : World} {R : List Tk × Int × Int} (h : CutPost s w e w') (hR : R = resOf s) : ∃ a c, e = .returned (.tuple #[.slice a R.1.length c, .int .i64 R.2.1, .int .i64 R.2.2]) ∧ w'.ownsRow w.heap.size 24 4 (.slice a R.1.length c) R.1.length (flatT R.1) ∧ Below w.heap.size w w' := by
  obtain ⟨v, h1, h2, h3⟩ := h
  rw [← hR] at h1 h2
  obtain ⟨a, c, rfl⟩ := G.own_shape h2
  exact ⟨a, c, h1, h2, h3⟩
set_option maxRecDepth 100000 in
set_option maxHeartbeats 1000000 in
theorem stand_long (A : Option Addr) (n c : Nat) (w : World) (hl : 16777216 < n) :
    Calls Tryz.prog 5 #[.slice A n c] w (WorksPost w) := by
  unfold WorksPost
  go_enter Tryz.func5, Tryz.ntmps5
  go_wp2_with fail
  refine (long_yes n (by omega) w).mono ?_
  rintro e wq ⟨rfl, rfl⟩
  go_wp2_with fail
  go_ret
  exact ⟨rfl, Below.refl _ _⟩
/-- What a list of tokens says of the token at a place. -/
def At (s : ByteArray) (l : List Tk) (j b : Nat) : Prop := b ≤ s.size ∧ (j < l.length → Stands s b (l.drop j))
theorem at_step {s : ByteArray} {l : List Tk} {j b : Nat} (hs : s.size ≤ 65536) (h : At s l j b) (hj : j < l.length) :
    ∃ (t : Tk) (a q : Nat), l.getD j zeroTk = t ∧ b ≤ a ∧ Gap s b a ∧ t.at_ = (a : Int) ∧ a ≤ q ∧ q ≤ s.size ∧ TkOk t ∧ textOf t = s.extract a q ∧ (a = q ↔ j + 1 = l.length) ∧ At s l (j + 1) q := by
  have h1 := h.2 hj
  rw [List.drop_eq_getElem_cons hj] at h1
  obtain ⟨a, q, hg, ha, hq, hqn, hok, ht, hi, hn, _⟩ := h1.step hs
  have hd : l.drop (j + 1) = [] ↔ j + 1 = l.length := by rw [List.drop_eq_nil_iff]; omega
  refine ⟨l[j], a, q, by simp [List.getD_eq_getElem?_getD, hj], hg.le, hg, ha, hq, hqn, hok, ht, hi.trans hd, hqn, fun h2 => hn fun e => ?_⟩
  have := hd.1 e
  omega
theorem at_end {s : ByteArray} {l : List Tk} : ∀ {b : Nat}, Stands s b l → l ≠ [] ∧ l.getD (l.length - 1) zeroTk = endTk s := by
  intro b h
  induction h with
  | last h1 h2 => exact ⟨by simp, rfl⟩
  | @tok b a q t l h1 h2 h3 h4 h5 h6 h7 ih =>
    refine ⟨by simp, ?_⟩
    obtain ⟨i1, i2⟩ := ih
    have hl : 0 < l.length := List.length_pos_iff.2 i1
    rw [← i2]
    simp only [List.length_cons, List.getD_eq_getElem?_getD]
    rw [show l.length + 1 - 1 = (l.length - 1) + 1 by omega, List.getElem?_cons_succ]
theorem win_eq {zs : List Int} {n b a d : Nat} (h1 : (bOf zs).size = n) (h2 : n = zs.length) (ha : a ≤ n) (e : a - b = d) : b ≤ a → bOf ((zs.drop b).take d) = (bOf zs).extract b a ∧ ((zs.drop b).take d).length = d := by
  intro hb
  subst e
  exact ⟨bOf_win zs b a hb (by omega), by simp; omega⟩
set_option maxRecDepth 100000 in
set_option maxHeartbeats 8000000 in
theorem stand_short (A : Option Addr) (c : Nat) (zs : List Int) (w : World) (hl : zs.length ≤ 16777216) (hc : zs.length ≤ c) (hA : A = none → c = 0) (hr : G.RdS w A 1 zs.length (zs.map (Value.int .u8))) (hz : IsBytes zs) (hL : LibIn w) (hF : FmtIn w) :
    Calls Tryz.prog 5 #[.slice A zs.length c] w (WorksPost w) := by
  obtain ⟨n, hn⟩ : ∃ n, n = zs.length := ⟨_, rfl⟩
  have HN := Lib.hid hn
  have HL := Lib.hid (fun W (h : Below w.heap.size w W) => hL.below h)
  have HF := Lib.hid (fun W (h : Below w.heap.size w W) => hF.below h)
  have HR := Lib.hid (fun W (h : Below w.heap.size w W) => hr.below h)
  have HR0 := Lib.hid hr
  have HZ := Lib.hid hz
  have HA := Lib.hid hA
  rw [← hn] at hl hc ⊢
  have HC := Lib.hid hc
  obtain ⟨R, hR⟩ : ∃ R, R = resOf (bOf zs) := ⟨_, rfl⟩
  have HRR := Lib.hid hR
  have HRL := Lib.hid (show R.1.length ≤ 65537 by rw [hR]; exact resOf_len _)
  have HBS := Lib.hid (show (bOf zs).size = n by rw [bOf_size, hn])
  have hcase : (R = ([], 20, 65536) ∧ 65536 < n) ∨ (n ≤ 65536 ∧ ∃ q : Nat, R = ([], 21, (q : Int)) ∧ q < n) ∨ (n ≤ 65536 ∧ ∃ l, R = (l, 0, 0) ∧ Stands (bOf zs) 0 l) := by
    by_cases hb : 65536 < n
    · left; exact ⟨by rw [hR]; exact if_pos (by rw [HBS.out]; exact hb), hb⟩
    · right
      have hb2 : (bOf zs).size ≤ 65536 := by rw [HBS.out]; omega
      cases hcu : cutOf (bOf zs) with
      | bad q => left; exact ⟨by omega, q, by rw [hR, resOf_bad hb2 hcu], by rw [← HBS.out]; exact cutF_bad _ _ _ hcu⟩
      | ok l => right; exact ⟨by omega, l, by rw [hR, resOf_ok hb2 hcu], cut_stands hb2 hcu⟩
  have HCASE := Lib.hid hcase
  clear hr hz hc hL hF hn hR hA hcase
  unfold WorksPost
  go_enter Tryz.func5, Tryz.ntmps5
  go_wp2_with fail
  refine (long_no n (by omega) w).mono ?_
  rintro e wq ⟨rfl, rfl⟩
  go_wp2_with fail
  have c2 := copyZ_any A c zs w HR0.out (by rw [← HN.out]; omega) HA.out
  rw [← HN.out] at c2
  refine c2.mono ?_
  rintro e w2 he
  obtain ⟨v2, rfl, ho2, hb2⟩ := he
  rw [← HN.out] at ho2
  obtain ⟨a2, k2, rfl⟩ := G.own_shape ho2
  have HB2 := Lib.hid hb2
  have HS2 := Lib.hid (show Src w2 a2 (bOf zs) from src_of_rd (by rw [zOf_bOf HZ.out, bOf_size, ← HN.out]; exact G.RdS.of_own ho2))
  have HK2 := Lib.hid (show n ≤ k2 by
    obtain ⟨ao, cp, hv, h1, h2⟩ := own_cap ho2
    simp only [Value.slice.injEq] at hv
    omega)
  clear c2 hb2 ho2
  go_wp2_with fail
  have c3 := cut_any a2 k2 (bOf zs) w2 HS2.out (by rw [HBS.out]; exact HK2.out) (HL.out _ HB2.out)
  rw [HBS.out] at c3
  refine c3.mono ?_
  rintro e w3 he
  obtain ⟨a3, k3, rfl, ho3, hb3⟩ := cutPost_own2 he HRR.out
  have HB3 := Lib.hid (G.bl_trans HB2.out hb3)
  have HO3 := Lib.hid ho3
  clear c3 he ho3 hb3
  rcases HCASE.out with ⟨hR, hbig⟩ | ⟨hn2, q, hR, hq⟩ | ⟨hn2, l, hR, hst⟩
  · subst hR
    have hbI : (65536 : Int) < n := by omega
    clear HCASE HRR HO3 HRL
    have HWK := Lib.hid (works_any w3 (HL.out _ HB3.out))
    go_wp2_with fail
    refine HWK.out.mono ?_
    rintro e y5 he
    unfold WorksPost at he
    obtain ⟨rfl, hb9⟩ := he
    have HBH := Lib.hid (G.bl_trans HB3.out hb9)
    clear hb9
    go_wp2_with fail
    go_ret
    exact ⟨rfl, HBH.out⟩
  · subst hR
    have hqI : (q : Int) < n := by omega
    have hq0 : (0 : Int) ≤ q := by omega
    clear HCASE HRR HO3 HRL
    have HWK := Lib.hid (works_any w3 (HL.out _ HB3.out))
    go_wp2_with fail
    refine HWK.out.mono ?_
    rintro e y5 he
    unfold WorksPost at he
    obtain ⟨rfl, hb9⟩ := he
    have HBH := Lib.hid (G.bl_trans HB3.out hb9)
    clear hb9
    go_wp2_with fail
    go_ret
    exact ⟨rfl, HBH.out⟩
  · subst hR
    simp only at HO3 HRL
    have HST := Lib.hid hst
    have hnI : (n : Int) ≤ 65536 := by omega
    obtain ⟨hne, hend⟩ := at_end hst
    have HEND := Lib.hid hend
    have HNE := Lib.hid (show 0 < l.length from List.length_pos_iff.2 hne)
    clear HCASE HRR hst hne hend
    obtain ⟨b3, o3, rfl, hrv⟩ := (G.RdS.of_own HO3.out).2 HNE.out
    have HRV := Lib.hid (fun W (h : Below w3.heap.size w3 W) => hrv.below h)
    have HC3 := Lib.hid (show l.length ≤ k3 by
      obtain ⟨ao, cp, hv, h1, h2⟩ := own_cap HO3.out
      simp only [Value.slice.injEq] at hv
      omega)
    clear hrv
    have hll := HRL.out
    go_wp2_with fail
    go_loopw [6, 7] (fun b i wr => ∃ (j bb : Nat), i = .int .i64 j ∧ b = .int .i64 bb ∧ j ≤ l.length ∧ At (bOf zs) l j bb ∧ Below w3.heap.size w3 wr) (fun _ i _ => l.length - (intOf i).toNat)
    case atStart => exact ⟨0, 0, rfl, rfl, Nat.zero_le _, ⟨Nat.zero_le _, fun _ => HST.out⟩, Below.refl _ _⟩
    case round =>
      obtain ⟨j, bb, rfl, rfl, hj1, hat, hb⟩ := hrel
      have HB := Lib.hid hb
      clear hb
      by_cases hj : j < l.length
      · obtain ⟨t, a, q, htd, hba, hgap, hta, haq, hqn, hok, htx, hae, hnx⟩ := at_step (by rw [HBS.out]; exact hn2) hat hj
        have hjI : (j : Int) < l.length := by omega
        obtain ⟨z0, z1, z2, z3⟩ := tk_at (HRV.out _ HB.out) hj htd
        have HX := Lib.hid hok
        have HTX := Lib.hid htx
        have HAE := Lib.hid hae
        have HNX := Lib.hid hnx
        have HGAP := Lib.hid hgap
        rw [HBS.out] at hqn
        have HATL := Lib.hid hat
        have HCT := Lib.hid (fun W (hL : LibIn W) (hF : FmtIn W) => Text_any t W hL hF HX.out.1 HX.out.2.1 HX.out.2.2.1)
        obtain ⟨tk, tx, tn, ta⟩ := t
        simp only at hta
        subst hta
        simp only at z0 z1 z2 z3
        rw [HTX.out] at HCT
        unfold Tk.val at HCT
        simp only at HCT
        clear hok htx hae hnx hgap hat htd
        go_upto_region 11 with (fail)
        obtain ⟨wA, hwA⟩ : ∃ wA, wA = wr.alloc (.cells #[.int .i8 tk, .string tx, .int .i64 tn, .int .i64 (a : Int)] 24) := ⟨_, rfl⟩
        obtain ⟨T, hT⟩ : ∃ T, T = wr.heap.size := ⟨_, rfl⟩
        have HBA := Lib.hid (show Below w3.heap.size w3 wA by rw [hwA]; exact G.bl_alloc HB.out _)
        have HBT := Lib.hid (show G.Blk wA T 24 #[.int .i8 tk, .string tx, .int .i64 tn, .int .i64 (a : Int)] by rw [hwA, hT]; exact G.Blk.new wr _ _)
        rw [← hwA, ← hT]
        clear hwA hT z0 z1 z2 z3
        have HZA := Lib.hid (fun W (h : Below wA.heap.size wA W) => (⟨(HBT.out.below h HBT.out.lt).cell 0, (HBT.out.below h HBT.out.lt).cell 1, (HBT.out.below h HBT.out.lt).cell 2, (HBT.out.below h HBT.out.lt).cell 3⟩ : W.cell? ⟨T, 0, none⟩ = some (.int .i8 tk) ∧ W.cell? ⟨T, 1, none⟩ = some (.string tx) ∧ W.cell? ⟨T, 2, none⟩ = some (.int .i64 tn) ∧ W.cell? ⟨T, 3, none⟩ = some (.int .i64 a)))
        obtain ⟨z0, z1, z2, z3⟩ := HZA.out _ (Below.refl _ _)
        go_wp2_with fail
        refine (HCT.out wA (HL.out _ (G.bl_trans HB3.out HBA.out)) (HF.out _ (G.bl_trans HB3.out HBA.out))).mono ?_
        rintro e w4 he
        unfold StrPost at he
        obtain ⟨rfl, hb4⟩ := he
        have HB4 := Lib.hid hb4
        have HB34 := Lib.hid (G.bl_trans HBA.out hb4)
        clear hb4 z0 z1 z2 z3
        obtain ⟨z0, z1, z2, z3⟩ := HZA.out _ HB4.out
        obtain ⟨k, rfl⟩ : ∃ k, q = a + k := ⟨q - a, by omega⟩
        obtain ⟨S, hS⟩ : ∃ S, S = (bOf zs).extract a (a + k) := ⟨_, rfl⟩
        have hSz : S.size = k := by rw [hS, size_ext _ haq (by rw [HBS.out]; exact hqn)]; omega
        obtain ⟨A5, c5, hw5, hA5, hc5, hrd5⟩ := win_run A c n a (a + k) HC.out HA.out haq hqn
        have e5 : a + k - a = k := by omega
        rw [e5] at hw5 hc5 hrd5
        have hcv : ∀ m, (convert 32 9 (.slice A5 k c5)).run Tryz.prog (World.drewN w4 m) = .ok (.string S) (World.drewN w4 m) := fun m => by
          have hb := bOf_win zs a (a + k) haq (by rw [← HN.out]; exact hqn)
          rw [e5] at hb
          rw [hS, ← hb]
          exact win_conv A5 c5 k _ (by have := HN.out; simp; omega) hc5 (isBytes_win HZ.out _ _) _ (hrd5 _ zs HN.out.symm (by rw [HN.out]; exact HR.out _ (G.bl_trans HB3.out (G.bl_drewN HB34.out m))))
        have hsl : ∀ m, (Instr.slice 32 (.slice A n c) (some (.int .i64 (a : Int))) (some (.int .i64 ((a : Int) + (k : Int)))) none).run Tryz.prog (World.drewN w4 m) = .ok (.slice A5 k c5) (World.drewN w4 m) := fun m => by
          have := hw5 (World.drewN w4 m)
          rw [Int.natCast_add] at this
          exact this
        have hcv0 := hcv 0
        have hsl0 := hsl 0
        simp only [World.drewN_zero] at hcv0 hsl0
        have HSE := Lib.hid hS
        go_upto_region 12 with (fail)
        rw [← HSE.out]
        have hbaI : (bb : Int) ≤ a := by omega
        have hakI : (a : Int) + k ≤ n := by omega
        have HSZ := Lib.hid hSz
        clear hS hA5 hrd5 hw5 e5
        obtain ⟨d, hd⟩ : ∃ d, d = a - bb := ⟨_, rfl⟩
        obtain ⟨A6, c6, hw6, hA6, hc6, hrd6⟩ := win_run A c n bb a HC.out HA.out hba (by omega)
        rw [← hd] at hw6 hc6 hrd6
        have hsl6 := hw6 w4
        have HA6 := Lib.hid hA6
        have HC6 := Lib.hid hc6
        have HD := Lib.hid (show bb + d = a by omega)
        have HW6 := Lib.hid (win_eq HBS.out HN.out (show a ≤ n by omega) hd.symm hba)
        have HR6 := Lib.hid (hrd6 w4 zs HN.out.symm (by rw [HN.out]; exact HR.out _ (G.bl_trans HB3.out HB34.out)))
        have HGC := Lib.hid (gap_cutOf HGAP.out (by rw [HBS.out]; omega))
        clear hw6 hA6 hrd6 hd hc6
        have f1 : ¬ a < bb := by omega
        have f2 : ¬ n < a := by omega
        have f3 : ¬ ((n : Int) - a < k) := by omega
        have hsp : (S = ⟨#[]⟩ ∧ k = 0 ∧ ((j : Int) == (l.length : Int) - 1) = true) ∨ ((S.toList.isEmpty = false ∧ (S.toList == []) = false ∧ S.toList ≠ []) ∧ ((j : Int) == (l.length : Int) - 1) = false) := by
          by_cases hlast : j + 1 = l.length
          · have hk0 : k = 0 := by have := HAE.out.2 hlast; omega
            exact .inl ⟨empty_of (by rw [hSz]; exact hk0), hk0, by rw [beq_iff_eq]; omega⟩
          · have hkp : 0 < k := by
              have hq : ¬ a = a + k := fun e => hlast (HAE.out.1 e)
              omega
            exact .inr ⟨not_empty (show 0 < S.size by rw [hSz]; exact hkp), ne_b (by omega)⟩
        have hdI : d ≤ 65536 := by have := HD.out; omega
        rcases hsp with ⟨rfl, hk0, f4⟩ | ⟨⟨e1, e2, e3⟩, f4⟩
        · subst hk0
          simp only [Int.natCast_zero, Int.add_zero] at hsl0
          go_wp2_with fail
          have c7 := copyZ_any A6 c6 ((zs.drop bb).take d) w4 (by rw [HW6.out.2]; exact HR6.out) (by rw [HW6.out.2]; omega) HA6.out
          rw [HW6.out.2] at c7
          refine c7.mono ?_
          rintro e w7 he
          obtain ⟨v7, rfl, ho7, hb7⟩ := he
          rw [HW6.out.2] at ho7
          obtain ⟨a7, k7, rfl⟩ := G.own_shape ho7
          have HB7 := Lib.hid (G.bl_trans HB34.out hb7)
          have HB47 := Lib.hid hb7
          have HS7 := Lib.hid (show Src w7 a7 (bOf ((zs.drop bb).take d)) from src_of_rd (by rw [zOf_bOf (isBytes_win HZ.out _ _), bOf_size, HW6.out.2]; exact G.RdS.of_own ho7))
          have HK7 := Lib.hid (show d ≤ k7 by
            obtain ⟨ao, cp, hv, h1, h2⟩ := own_cap ho7
            simp only [Value.slice.injEq] at hv
            omega)
          clear c7 hb7 ho7
          go_wp2_with fail
          have hE : (([endTk ((bOf zs).extract bb a)], 0, 0) : List Tk × Int × Int) = resOf (bOf ((zs.drop bb).take d)) := by
            rw [HW6.out.1]
            exact (resOf_ok (by rw [← HW6.out.1, bOf_size, HW6.out.2]; exact hdI) HGC.out).symm
          have c8 := cut_any a7 k7 (bOf ((zs.drop bb).take d)) w7 HS7.out (by rw [bOf_size, HW6.out.2]; exact HK7.out) (HL.out _ (G.bl_trans HB3.out HB7.out))
          rw [bOf_size, HW6.out.2] at c8
          refine c8.mono ?_
          rintro e w8 he
          obtain ⟨a8, k8, rfl, ho8, hb8⟩ := cutPost_own2 he hE
          have HB8 := Lib.hid (G.bl_trans HB7.out hb8)
          have HB48 := Lib.hid (G.bl_trans HB47.out hb8)
          clear c8 he ho8 hE z0 z1 z2 z3
          obtain ⟨z0, z1, z2, z3⟩ := HZA.out _ (G.bl_trans HB4.out HB48.out)
          go_wp2_with fail
          go_round
          case rel => exact ⟨j + 1, a + 0, by go_num, by go_num, by omega, HNX.out, HB8.out⟩
          case measure => simp [intOf]; omega
        · skip
          go_wp2_with fail
          have c7 := copyZ_any A6 c6 ((zs.drop bb).take d) w4 (by rw [HW6.out.2]; exact HR6.out) (by rw [HW6.out.2]; omega) HA6.out
          rw [HW6.out.2] at c7
          refine c7.mono ?_
          rintro e w7 he
          obtain ⟨v7, rfl, ho7, hb7⟩ := he
          rw [HW6.out.2] at ho7
          obtain ⟨a7, k7, rfl⟩ := G.own_shape ho7
          have HB7 := Lib.hid (G.bl_trans HB34.out hb7)
          have HB47 := Lib.hid hb7
          have HS7 := Lib.hid (show Src w7 a7 (bOf ((zs.drop bb).take d)) from src_of_rd (by rw [zOf_bOf (isBytes_win HZ.out _ _), bOf_size, HW6.out.2]; exact G.RdS.of_own ho7))
          have HK7 := Lib.hid (show d ≤ k7 by
            obtain ⟨ao, cp, hv, h1, h2⟩ := own_cap ho7
            simp only [Value.slice.injEq] at hv
            omega)
          clear c7 hb7 ho7
          go_wp2_with fail
          have hE : (([endTk ((bOf zs).extract bb a)], 0, 0) : List Tk × Int × Int) = resOf (bOf ((zs.drop bb).take d)) := by
            rw [HW6.out.1]
            exact (resOf_ok (by rw [← HW6.out.1, bOf_size, HW6.out.2]; exact hdI) HGC.out).symm
          have c8 := cut_any a7 k7 (bOf ((zs.drop bb).take d)) w7 HS7.out (by rw [bOf_size, HW6.out.2]; exact HK7.out) (HL.out _ (G.bl_trans HB3.out HB7.out))
          rw [bOf_size, HW6.out.2] at c8
          refine c8.mono ?_
          rintro e w8 he
          obtain ⟨a8, k8, rfl, ho8, hb8⟩ := cutPost_own2 he hE
          have HB8 := Lib.hid (G.bl_trans HB7.out hb8)
          have HB48 := Lib.hid (G.bl_trans HB47.out hb8)
          clear c8 he ho8 hE z0 z1 z2 z3
          obtain ⟨z0, z1, z2, z3⟩ := HZA.out _ (G.bl_trans HB4.out HB48.out)
          go_wp2_with fail
          go_round
          case rel => exact ⟨j + 1, a + k, by go_num, by go_num, by omega, HNX.out, HB8.out⟩
          case measure => simp [intOf]; omega
      · have hje : j = l.length := by omega
        have hL1 : (1 : Int) ≤ l.length := by have := HNE.out; omega
        have hjI : ¬ (j : Int) < l.length := by omega
        have hlt0 : (0 : Int) < l.length := by omega
        obtain ⟨z0, z1, z2, z3⟩ := tk_at (HRV.out _ HB.out) (show l.length - 1 < l.length by have := HNE.out; omega) HEND.out
        have HWK := Lib.hid (works_any wr (HL.out _ (G.bl_trans HB3.out HB.out)))
        simp only [endTk, HBS.out] at z0 z1 z2 z3
        have hE0 : empB.toList = [] := by rw [ByteArray.toList_eq]; rfl
        clear hat
        go_wp2_with fail
        refine HWK.out.mono ?_
        rintro e y5 he
        unfold WorksPost at he
        obtain ⟨rfl, hb9⟩ := he
        have HBH := Lib.hid (G.bl_trans (G.bl_trans HB3.out HB.out) hb9)
        clear hb9
        go_wp2_with fail
        go_ret
        exact ⟨rfl, HBH.out⟩
end Go.Proofs.YtlaikgaepaiigaaGreatDoor.K

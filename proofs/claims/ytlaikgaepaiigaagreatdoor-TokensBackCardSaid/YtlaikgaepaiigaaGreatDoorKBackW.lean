/- The law TokensBack answers true. -/
import Derived.Test.YtlaikgaepaiigaaGreatDoorKOpenB
import Derived.Test.YtlaikgaepaiigaaGreatDoorKStand
import Derived.Test.YtlaikgaepaiigaaGreatDoorKCard
import Derived.Lib.AppendStr
import Derived.Lib.ItoaLen
namespace Go.Proofs.YtlaikgaepaiigaaGreatDoor.K
open Go Go.RowKit
set_option linter.unusedVariables false
set_option linter.unusedSimpArgs false
theorem own_apart {w : World} {b1 b2 : Nat} {e1 e2 : TypeId} {s1 s2 : Nat} {v u : Value} {n m : Nat} {xs ys : List Value} (h : w.ownsRow b1 e1 s1 v n xs) (h' : w.ownsRow b2 e2 s2 u m ys) (he : e1 ≠ e2) : v.ownBlock = none ∨ v.ownBlock ≠ u.ownBlock := by
  rcases h.2 with ⟨rfl, _⟩ | ⟨g, cap, cur, rfl, hb, hgg, hnc, hc, hcs, ht⟩
  · left; rfl
  · right
    rcases h'.2 with ⟨rfl, _⟩ | ⟨g', cap', cur', rfl, hb', hgg', hnc', hc', hcs', ht'⟩
    · intro e; cases e
    · intro e
      have e' : g = g' := by simpa [Value.ownBlock] using e
      subst e'
      rw [hgg] at hgg'
      simp only [Option.some.injEq, Obj.cells.injEq] at hgg'
      exact he hgg'.2.1
theorem cutPost_own3 {s : ByteArray} {w : World} {e : Ending} {w' : World} {R : List Tk × Int × Int} (h : CutPost s w e w') (hR : R = resOf s) : ∃ a c, e = .returned (.tuple #[.slice a R.1.length c, .int .i64 R.2.1, .int .i64 R.2.2]) ∧ w'.ownsRow w.heap.size 24 4 (.slice a R.1.length c) R.1.length (flatT R.1) ∧ Below w.heap.size w w' := by
  obtain ⟨v, h1, h2, h3⟩ := h
  rw [← hR] at h1 h2
  obtain ⟨a, c, rfl⟩ := G.own_shape h2
  exact ⟨a, c, h1, h2, h3⟩
/-- The rows that are written: the source, the tokens. -/
structure BR (w0 w : World) (v u : Value) (src : List UInt8) (want : List Tk) : Prop where
  own : w.ownsRow w0.heap.size 5 1 v src.length (u8L src)
  row : w.ownsRow w0.heap.size 24 4 u want.length (flatT want)
  bl : Below w0.heap.size w0 w
section
variable {w0 w w' : World} {v u v3 : Value} {src : List UInt8} {want : List Tk}
theorem BR.below (h : BR w0 w v u src want) (hb : Below w.heap.size w w') : BR w0 w' v u src want := ⟨G.own_below h.own hb, G.own_below h.row hb, G.bl_trans h.bl hb⟩
theorem BR.app (h : BR w0 w v u src want) (ys : List UInt8) {zs : List Value} {m : Nat} (hm : m = ys.length) (hz : zs = u8L ys) (ho : w'.ownsRow w0.heap.size 5 1 v3 (src.length + m) (u8L src ++ zs)) (hg : w.grownBy w' v.ownBlock) : BR w0 w' v3 u (src ++ ys) want := by
  subst hm hz
  refine ⟨?_, h.row.kept hg (own_apart h.row h.own (by decide)), bl_grown h.bl h.own hg⟩
  rw [List.length_append, show u8L (src ++ ys) = u8L src ++ u8L ys by unfold u8L; rw [List.map_append]]
  exact ho
theorem BR.tok (h : BR w0 w v u src want) (t : Tk) (ho : w'.ownsRow w0.heap.size 24 4 v3 (want.length + 1) (flatT want ++ t.cells)) (hg : w.grownBy w' u.ownBlock) : BR w0 w' v v3 src (want ++ [t]) := by
  refine ⟨h.own.kept hg (own_apart h.own h.row (by decide)), ?_, bl_grown h.bl h.row hg⟩
  rw [List.length_append, show flatT (want ++ [t]) = flatT want ++ t.cells by simp [flatT]]
  exact ho
end
/-- What has been written: the source, the tokens; it is cut as they say. -/
structure BS (w0 w : World) (v u : Value) (src : List UInt8) (want : List Tk) : Prop extends BR w0 w v u src want where
  bk : Bk src want
theorem news_of {W : World} {b o : Nat} {xs : List Value} (h : G.RdV W b o xs) : ∀ j u, xs[j]? = some u → W.cell? ((⟨b, o, none⟩ : Addr).add j) = some u := by
  intro j u hj
  obtain ⟨hl, he⟩ := List.getElem?_eq_some_iff.1 hj
  rw [Addr.add_lit, h.2 j hl, List.getD_eq_getElem?_getD, List.getElem?_eq_getElem hl, ← he]
  rfl
theorem u8_ones (l : List UInt8) : ∀ u ∈ u8L l, u.oneCell' = true := by
  intro u hu
  obtain ⟨c, _, rfl⟩ := List.mem_map.1 hu
  rfl
theorem isGap_pos {g : List UInt8} (h : IsGap g) : 0 < g.length := by
  rcases h with rfl | ⟨b, rfl⟩ <;> simp [gapL]
theorem strCells_u8 (s : ByteArray) : Lib.strCells s = u8L s.data.toList := rfl
theorem zmk (l : List UInt8) : (zOf (mk l)).map (Value.int .u8) = u8L l := by simp [zOf, mk_list, u8L]
theorem textOf_le {t : Tk} (hx : t.text.size ≤ 16777216) (h0 : -9223372036854775808 ≤ t.num) (h1 : t.num ≤ 9223372036854775807) : (textOf t).size ≤ 33554434 := by
  have hz : empB.size = 0 := rfl
  have hq : (quotedB t.text).size ≤ 33554434 := by
    have e : (quotedB t.text).size = (quoteL t.text.data.toList).length + 2 := by
      unfold quotedB quoteB
      simp [ByteArray.size_append]
      show 1 + (quoteL t.text.data.toList).length + 1 = _
      omega
    have h2 := quoteL_length t.text.data.toList
    have h3 : cntE t.text.data.toList ≤ t.text.data.toList.length := List.countP_le_length
    have h4 : t.text.data.toList.length = t.text.size := by simp
    omega
  have hi : (itoaB t.num).size ≤ 21 := Lib.itoa_length_le _ h0 h1
  unfold textOf
  repeat' split
  all_goals omega
set_option maxRecDepth 100000 in
set_option maxHeartbeats 8000000 in
theorem back_walk (A : Option Addr) (c : Nat) (l : List Tk) (B : Option Addr) (m d : Nat) (w : World) (hlm : l.length ≤ 140737488355328) (hr : G.RdS w A 4 l.length (flatT l)) (hfit : ∀ x ∈ l, TkFit x)
    (hrow : 0 < m → ∃ b off, B = some ⟨b, off, none⟩ ∧ ∃ row : Nat → List UInt8, ∀ i, i < m → RowAt w b off i (row i)) (hL : LibIn w) (hF : FmtIn w) :
    Calls Tryz.prog 4 #[.slice A l.length c, .slice B m d] w (WorksPost w) := by
  have HL := Lib.hid (fun W (h : Below w.heap.size w W) => hL.below h)
  have HF := Lib.hid (fun W (h : Below w.heap.size w W) => hF.below h)
  have HR := Lib.hid (fun W (h : Below w.heap.size w W) => hr.below h)
  have HFIT := Lib.hid hfit
  have HROW := Lib.hid hrow
  have HSZ := Lib.hid (sizeTokens_any A l.length c l w rfl hlm hr (fun x hx => (hfit x hx).text))
  clear hr hfit hrow hL hF
  obtain ⟨i8, hinf8, hz80, hz81, hz82⟩ := info_parts infoU8
  obtain ⟨i0, hinf, hz0, hz1, hz2⟩ := info_parts infoTk
  unfold WorksPost
  go_enter Tryz.func4, Tryz.ntmps4
  go_wp2_with fail
  refine HSZ.out.mono ?_
  rintro e wq ⟨N, rfl, rfl, hN, hlN, htx⟩
  have HTX := Lib.hid htx
  clear htx
  by_cases hbig : 16777216 < N
  · go_wp2_with fail
    refine (long_yes (N : Int) (by omega) w).mono ?_
    rintro e wq ⟨rfl, rfl⟩
    go_wp2_with fail
    go_ret
    exact ⟨rfl, Below.refl _ _⟩
  · go_wp2_with fail
    refine (long_no (N : Int) (by omega) w).mono ?_
    rintro e wq ⟨rfl, rfl⟩
    by_cases hm : 65536 < m
    · have hmI : (65536 : Int) < m := by omega
      go_wp2_with fail
      go_ret
      exact ⟨rfl, Below.refl _ _⟩
    · have hmI : ¬ (65536 : Int) < m := by omega
      have hl24 : l.length ≤ 16777216 := by omega
      go_wp2_with fail
      go_loopw [5, 6, 7] (fun v u i wr => ∃ (j : Nat) (src : List UInt8) (want : List Tk), i = .int .i64 j ∧ j ≤ l.length ∧ src.length ≤ 33700000 ∧ want.length ≤ j ∧ BS w wr v u src want) (fun _ _ i _ => l.length - (intOf i).toNat)
      case atStart => exact ⟨0, [], [], rfl, Nat.zero_le _, by simp, by simp, ⟨⟨World.ownsRow_nil _ _ _ _, World.ownsRow_nil _ _ _ _, Below.refl _ _⟩, bk_nil⟩⟩
      case round =>
        obtain ⟨j, src, want, rfl, hj, hsl, hwl, hbs⟩ := hrel
        have HBS := Lib.hid hbs
        obtain ⟨av, cv, rfl⟩ := G.own_shape hbs.own
        obtain ⟨au, cu, rfl⟩ := G.own_shape hbs.row
        clear hbs
        have HWK := Lib.hid (works_any wr (HL.out _ HBS.out.bl))
        by_cases hbg : 65536 < src.length
        · have hbgI : ¬ (src.length : Int) ≤ 65536 := by omega
          have hbgJ : (65536 : Int) < src.length := by omega
          rcases Classical.em ((j : Int) < l.length) with hjI | hjI
          all_goals
            go_wp2_with fail
            refine HWK.out.mono ?_
            rintro e y5 he
            unfold WorksPost at he
            obtain ⟨rfl, hb9⟩ := he
            have HBH := Lib.hid (G.bl_trans HBS.out.bl hb9)
            clear hb9
            go_wp2_with fail
            go_ret
            exact ⟨rfl, HBH.out⟩
        · by_cases hjl : j < l.length
          · skip
            have hbgI : (src.length : Int) ≤ 65536 := by omega
            have hjI : (j : Int) < l.length := by omega
            obtain ⟨bA, oA, rfl, hrv0⟩ := (HR.out _ HBS.out.bl).2 (by omega)
            have HRV := Lib.hid (fun W (h : Below w.heap.size w W) => (show G.RdV W bA oA (flatT l) by
              obtain ⟨b', o', e, h'⟩ := (HR.out W h).2 (by omega)
              simp only [Option.some.injEq, Addr.mk.injEq, and_true] at e
              obtain ⟨rfl, rfl⟩ := e
              exact h'))
            obtain ⟨t, ht⟩ : ∃ t, l.getD j zeroTk = t := ⟨_, rfl⟩
            have hmem : t ∈ l := by
              rw [← ht, List.getD_eq_getElem?_getD, List.getElem?_eq_getElem hjl]
              exact List.getElem_mem hjl
            have hfit := HFIT.out t hmem
            have hx := HTX.out (by omega) t hmem
            have HGT := Lib.hid ht
            have HCT := Lib.hid (fun W (hL : LibIn W) (hF : FmtIn W) => Text_any t W hL hF hx hfit.num.1 hfit.num.2)
            have HTK := Lib.hid (fun (g : List UInt8) (hg : IsGap g) (ht : 0 < (textOf t).size) => bk_tok HBS.out.bk hg hfit.num.2 ht)
            obtain ⟨z0, z1, z2, z3⟩ := tk_at hrv0 hjl ht
            obtain ⟨T, hT⟩ : ∃ T, T = textOf t := ⟨_, rfl⟩
            have hTl : T.size ≤ 33554434 := by rw [hT]; exact textOf_le hx hfit.num.1 hfit.num.2
            rw [← hT] at HCT HTK
            clear hrv0 hmem hfit hx hT ht
            obtain ⟨tk, tx, tn, ta⟩ := t
            simp only at z0 z1 z2 z3
            unfold Tk.val atPlace at *
            simp only at HCT HTK
            go_wp2_with fail
            refine (HCT.out wr (HL.out _ HBS.out.bl) (HF.out _ HBS.out.bl)).mono ?_
            rintro e w4 he
            unfold StrPost at he
            obtain ⟨rfl, hb4⟩ := he
            have HB4 := Lib.hid (HBS.out.toBR.below hb4)
            clear z0 z1 z2 z3
            have hTc : T.size = 0 ∨ 0 < T.size := by omega
            rcases hTc with hT0 | hT0
            · obtain rfl := empty_of hT0
              have HBK := Lib.hid HBS.out.bk
              go_wp2_with fail
              go_round
              case rel => exact ⟨j + 1, src, want, by go_num, by omega, hsl, by omega, ⟨HB4.out, HBK.out⟩⟩
              case measure => simp [intOf]; omega
            · obtain ⟨e1, e2, e3⟩ := not_empty hT0
              have HT0 := Lib.hid hT0
              obtain ⟨g, hg, hgl, hgc⟩ := gap_any B m d j w4 (by omega) (by omega) (fun h => by
                obtain ⟨b, off, hB, row, hrow⟩ := HROW.out (by omega)
                exact ⟨b, off, row j, hB, (hrow j h).below HB4.out.bl⟩)
              have HG := Lib.hid hg
              have HGC := Lib.hid hgc
              have hgp := isGap_pos hg
              clear hg hgc hT0
              go_wp2_with fail
              refine HGC.out.mono ?_
              rintro e w5 he
              unfold GapPost at he
              obtain ⟨vg, rfl, hog, hbg5⟩ := he
              obtain ⟨ag, cg, rfl⟩ := G.own_shape hog
              obtain ⟨bg, og, rfl, hrg⟩ := (G.RdS.of_own hog).2 hgp
              have HRG := Lib.hid hrg
              have HB5 := Lib.hid (HB4.out.below hbg5)
              clear hog hbg5 hrg
              go_upto_region 11 with (at_builtin; refine wpList_append_own _ rfl (.tmp 39) (.tmp 42) 32 rfl w.heap.size 5 i8 (.int .u8 0) 1 1 Tryz.underlying32 hinf8 hz80 hz81 hz82 rfl (by decide) _ _ _ rfl HB5.out.own ⟨bg, og, none⟩ g.length cg (u8L g) rfl (by simp [u8L]) (news_of HRG.out) (u8_ones g) (by unfold maxLen; omega) (by omega) (by have := HB5.out.bl.size; omega) ?_; intro v3 w6 hown3 hg3 _q; have HB6 := Lib.hid (HB5.out.app g rfl rfl hown3 hg3); clear hown3 hg3)
              obtain ⟨P, hP⟩ : ∃ P, P = src ++ g := ⟨_, rfl⟩
              have hPl : P.length ≤ 67540 := by rw [hP, List.length_append]; omega
              have HBK := Lib.hid (HTK.out g HG.out HT0.out)
              rw [← hP] at HB6 HBK
              clear hP
              obtain ⟨a3, c3, hv3⟩ := G.own_shape HB6.out.own
              subst hv3
              obtain ⟨z0, z1, z2, z3⟩ := tk_at (HRV.out _ HB6.out.bl) hjl HGT.out
              simp only at z0 z1 z2 z3
              go_upto_region 13 with (fail)
              obtain ⟨T0, hT0⟩ : ∃ T0, T0 = w6.heap.size := ⟨_, rfl⟩
              obtain ⟨wA, hwA⟩ : ∃ wA, wA = w6.alloc (.cells #[.int .i8 tk, .string tx, .int .i64 tn, .int .i64 (P.length : Int)] 24) := ⟨_, rfl⟩
              have HBA := Lib.hid (show BR w wA (.slice a3 P.length c3) (.slice au want.length cu) P want from HB6.out.below (by rw [hwA]; exact G.bl_alloc (Below.refl _ _) _))
              have HBT := Lib.hid (show G.Blk wA T0 24 #[.int .i8 tk, .string tx, .int .i64 tn, .int .i64 (P.length : Int)] by rw [hwA, hT0]; exact G.Blk.new w6 _ _)
              rw [← hT0, ← hwA]
              clear hwA hT0 z0 z1 z2 z3
              have z0 := HBT.out.cell 0
              have z1 := HBT.out.cell 1
              have z2 := HBT.out.cell 2
              have z3 := HBT.out.cell 3
              simp at z0 z1 z2 z3
              have hwl : want.length ≤ 16777216 := by omega
              go_upto_region 14 with (at_builtin; refine wpList_append_own _ rfl (.tmp 51) (.tmp 53) 29 rfl w.heap.size 24 i0 (.agg #[.int .i8 0, .string ⟨#[]⟩, .int .i64 0, .int .i64 0]) 4 40 Tryz.underlying29 hinf hz0 hz1 hz2 rfl (by decide) _ _ _ rfl (HBA.out.below (G.bl_alloc (Below.refl _ _) _)).row ⟨wA.heap.size, 0, none⟩ 1 1 (Tk.cells ⟨tk, tx, tn, (P.length : Int)⟩) rfl rfl (G.cells_new _ _ _ _ (by simp)) (tk_one _) (by unfold maxLen; omega) (by omega) (by have := HBA.out.bl.size; simp; omega) ?_; intro v7 w7 hown7 hg7 _q; have HB7 := Lib.hid ((HBA.out.below (G.bl_alloc (Below.refl _ _) _)).tok ⟨tk, tx, tn, (P.length : Int)⟩ hown7 hg7); clear hown7 hg7)
              clear z0 z1 z2 z3
              go_wp2_with (at_builtin; refine Lib.wpList_append_own_string _ rfl (.tmp 55) (.tmp 56) 32 9 rfl w.heap.size 5 i8 Tryz.underlying32 Tryz.underlying9 hinf8 hz80 hz81 hz82 _ _ _ rfl HB7.out.own T rfl (by unfold maxLen; omega) (by omega) (by have := HB7.out.bl.size; omega) ?_; intro v8 w8 hown8 hg8 _q; have HB8 := Lib.hid (HB7.out.app T.data.toList (by simp) (strCells_u8 T) hown8 hg8); clear hown8 hg8)
              go_round
              case rel => exact ⟨j + 1, P ++ T.data.toList, want ++ [⟨tk, tx, tn, (P.length : Int)⟩], by go_num, by omega, by simp; omega, by simp; omega, ⟨HB8.out, HBK.out⟩⟩
              case measure => simp [intOf]; omega
          · have hjI : ¬ (j : Int) < l.length := by omega
            have hbgJ : ¬ (65536 : Int) < src.length := by omega
            have hbgI : (src.length : Int) ≤ 65536 := by omega
            have hwl : want.length ≤ 16777216 := by omega
            have HEN := Lib.hid (bk_end HBS.out.bk (by omega))
            have HCV := Lib.hid (show src.length ≤ cv by
              obtain ⟨ao, cp, hv, h1, h2⟩ := own_cap HBS.out.own
              simp only [Value.slice.injEq] at hv
              omega)
            go_upto_region 18 with (at_builtin; refine wpList_append_own _ rfl (.tmp 62) (.tmp 66) 29 rfl w.heap.size 24 i0 (.agg #[.int .i8 0, .string ⟨#[]⟩, .int .i64 0, .int .i64 0]) 4 40 Tryz.underlying29 hinf hz0 hz1 hz2 rfl (by decide) _ _ _ rfl (HBS.out.toBR.below (G.bl_alloc (Below.refl _ _) _)).row ⟨wr.heap.size, 0, none⟩ 1 1 (Tk.cells ⟨0, empB, 0, (src.length : Int)⟩) rfl rfl (G.cells_new _ _ _ _ (by simp)) (tk_one _) (by unfold maxLen; omega) (by omega) (by have := HBS.out.bl.size; simp; omega) ?_; intro v3 w3 hown3 hg3 _q; have HB3 := Lib.hid ((HBS.out.toBR.below (G.bl_alloc (Below.refl _ _) _)).tok ⟨0, empB, 0, (src.length : Int)⟩ hown3 hg3); clear hown3 hg3)
            obtain ⟨WL, hWL⟩ : ∃ WL, WL = want ++ [(⟨0, empB, 0, (src.length : Int)⟩ : Tk)] := ⟨_, rfl⟩
            have hWLl : WL.length ≤ 16777217 := by rw [hWL, List.length_append]; simp; omega
            rw [← hWL] at HB3 HEN
            clear hWL
            obtain ⟨a3, c3, hv3⟩ := G.own_shape HB3.out.row
            subst hv3
            have HSR := Lib.hid (show Src w3 av (mk src) from src_of_rd (by rw [mk_size, zmk]; exact G.RdS.of_own HB3.out.own))
            go_wp2_with fail
            have c4 := cut_any av cv (mk src) w3 HSR.out (by rw [mk_size]; exact HCV.out) (HL.out _ HB3.out.bl)
            rw [mk_size] at c4
            refine c4.mono ?_
            rintro e w4 he
            obtain ⟨a4, k4, rfl, ho4, hb4⟩ := cutPost_own3 he HEN.out.symm
            have HB4 := Lib.hid (HB3.out.below hb4)
            have HO4 := Lib.hid ho4
            clear c4 he ho4 hb4
            go_wp2_with fail
            have c5 := eqTokens_any a4 a3 WL.length WL.length k4 c3 WL WL w4 (G.RdS.of_own HO4.out) (G.RdS.of_own HB4.out.row) (by unfold maxLen; omega) (by unfold maxLen; omega)
            rw [decide_eq_true rfl] at c5
            refine c5.mono ?_
            rintro e w5 ⟨rfl, q5, hw5⟩
            have HB5 := Lib.hid (HB4.out.below (show Below w4.heap.size w4 w5 by rw [hw5]; exact G.bl_drewN (Below.refl _ _) _))
            clear c5 hw5
            have HWK5 := Lib.hid (works_any w5 (HL.out _ HB5.out.bl))
            go_wp2_with fail
            refine HWK5.out.mono ?_
            rintro e y5 he
            unfold WorksPost at he
            obtain ⟨rfl, hb9⟩ := he
            have HBH := Lib.hid (G.bl_trans HB5.out.bl hb9)
            clear hb9
            go_wp2_with fail
            go_ret
            exact ⟨rfl, HBH.out⟩
end Go.Proofs.YtlaikgaepaiigaaGreatDoor.K

/- The law CodeParses answers true. -/
import Derived.Test.YtfldicaaaadgaaaGreatDoorCRefR
import Derived.Test.YtfldicaaaadgaaaGreatDoorCParse
import Derived.Test.YtfldicaaaadgaaaGreatDoorCRefPut
import Derived.Test.YtfldicaaaadgaaaGreatDoorCOwn
import Derived.Test.YtfldicaaaadgaaaGreatDoorCEq
import Derived.Test.YtfldicaaaadgaaaGreatDoorCRefRow
import Derived.Test.YtfldicaaaadgaaaGreatDoorAddInstrs
import Derived.Test.YtfldicaaaadgaaaGreatDoorTwo
namespace Go.Proofs.YtfldicaaaadgaaaGreatDoor.Code
section
open Go Go.RowKit
set_option linter.unusedVariables false
set_option linter.unusedSimpArgs false
theorem refPut_nil (w : World) : Calls Tryz.prog 18 #[.slice none 0 0] w (PutAPost [] w) := by
  go_enter Tryz.func18, Tryz.ntmps18
  go_wp2
  go_rounds 1
  go_ret3
  exact ⟨_, rfl, World.ownsRow_nil _ _ _ _, Below.refl _ _⟩
set_option maxRecDepth 100000 in
set_option maxHeartbeats 8000000 in
theorem refParse_of (s : ByteArray) (w : World) (hs : s.size ≤ 16777216) (hrow : ∀ (q : ByteArray) W, q.size ≤ 16777216 → Calls Tryz.prog 17 #[.string q] W (RowP q.data.toList W)) : Calls Tryz.prog 6 #[.string s] w (ParseP s.data.toList w) := by
  obtain ⟨i0, hi, hz0, hz1, hz2⟩ := info_parts info26
  have HROW := Lib.hid hrow
  have HRO := Lib.hid (fun W => refRows_any s W hs)
  have hsl : s.data.toList.length = s.size := by simp
  have hpl := splitC_len 10 s.data.toList
  have hpm := splitC_mem 10 s.data.toList
  have hpp := splitC_pos 10 s.data.toList
  rw [hsl] at hpl hpm
  have HPO := Lib.hid (show parseOf s.data.toList = match rowsGo (splitC 10 s.data.toList).dropLast 0 [] with
    | .error i => ([], 80, i)
    | .ok l => if (splitC 10 s.data.toList).getLastD [] ≠ [] then ([], 80, ((splitC 10 s.data.toList).length : Int) - 1) else if (putOf l).2.1 ≠ 0 then ([], (putOf l).2.1, (putOf l).2.2) else (l, 0, 0) from rfl)
  obtain ⟨PS, hPS⟩ : ∃ PS, PS = splitC 10 s.data.toList := ⟨_, rfl⟩
  unfold RowsP at HRO
  rw [← hPS] at HRO hpl hpm HPO hpp
  have HPM := Lib.hid hpm
  obtain ⟨n, hn⟩ : ∃ n, PS.length = n + 1 := ⟨PS.length - 1, by omega⟩
  have HN := Lib.hid hn
  rw [hn] at hpl
  have hnb : n ≤ 16777216 := by omega
  have HRL := Lib.hid (show PS.dropLast.length = n by rw [List.length_dropLast, hn]; omega)
  have HRG := Lib.hid (show ∀ j, j < n → PS.dropLast.getD j [] = PS.getD j [] from fun j hj => by
    rw [List.getD_eq_getElem?_getD, List.getD_eq_getElem?_getD, List.getElem?_dropLast, if_pos (by rw [hn]; omega)])
  have HLA := Lib.hid (show PS.getLastD [] = PS.getD n [] by
    rw [List.getLastD_eq_getLast?, List.getLast?_eq_getElem?, hn, List.getD_eq_getElem?_getD]
    rfl)
  clear hrow hsl hpm hPS hn hpp
  go_enter Tryz.func6, Tryz.ntmps6
  go_wp2_with fail
  refine (HRO.out w).mono ?_
  rintro e w1 ⟨v1, Q, rfl, hQr, ho1, hb1⟩
  rw [HRL.out] at ho1
  have HB1 := Lib.hid hb1
  have HO1 := Lib.hid ho1
  have HQ := Lib.hid hQr
  obtain ⟨av1, cv1, rfl⟩ := G.own_shape ho1
  clear hb1 ho1 hQr
  have HPC := Lib.hid (show ∀ W, Below w1.heap.size w1 W → ∀ i, i < n → ∃ g, av1 = some ⟨g, 0, none⟩ ∧ W.cell? ⟨g, i, none⟩ = some (.string ⟨(PS.getD i []).toArray⟩) from fun W hW i hi => by
    refine G.own_use HO1.out (by omega) ?_
    intro g hg
    subst hg
    have hi2 : i < PS.dropLast.length := by rw [HRL.out]; exact hi
    have h := (Bl.own HO1.out hW).cells (g := g) rfl i (.string ⟨(PS.getD i []).toArray⟩) (by
      unfold strsL
      rw [List.getElem?_map, List.getElem?_eq_getElem hi2, ← HRG.out i hi, List.getD_eq_getElem?_getD, List.getElem?_eq_getElem hi2]
      rfl)
    have e : ((⟨g, 0, none⟩ : Addr).add i) = ⟨g, i, none⟩ := by
      unfold Addr.add
      by_cases j0 : i = 0
      · rw [if_pos j0, j0]
      · rw [if_neg j0]
        simp
    rw [e] at h
    exact ⟨g, rfl, h⟩)
  have HPB := Lib.hid (show ∀ i, i ≤ n → (PS.getD i []).length ≤ 16777216 from fun i hi => by
    have hi2 : i < PS.length := by rw [HN.out]; omega
    have h1 := HPM.out (PS.getD i []) (by rw [List.getD_eq_getElem?_getD, List.getElem?_eq_getElem hi2]; exact List.getElem_mem _)
    omega)
  go_wp2_with fail
  go_loopw [7, 8] (fun v c wr => ∃ (j : Nat) (acc : List Ins), c = .int .i64 j ∧ j ≤ n ∧ PsI w1 wr v PS.dropLast j acc) (fun _ c _ => n - (intOf c).toNat)
  case atStart => exact ⟨0, [], rfl, Nat.zero_le _, ⟨World.ownsRow_nil _ _ _ _, Below.refl _ _, rfl, (fun x hx => by cases hx), Nat.le_refl _⟩⟩
  case round =>
    obtain ⟨j, acc, rfl, hj, hps⟩ := hrel
    have HPS := Lib.hid hps
    obtain ⟨av, cv, rfl⟩ := G.own_shape hps.own
    have hal := hps.len
    clear hps
    by_cases hlt : j < n
    · have hjI : (j : Int) < n := by omega
      obtain ⟨Q2, hQ⟩ : ∃ Q : ByteArray, Q = ⟨(PS.getD j []).toArray⟩ := ⟨_, rfl⟩
      obtain ⟨g, rfl, hpj⟩ := HPC.out wr HPS.out.bl j hlt
      rw [← hQ] at hpj
      have HQ2 := Lib.hid (show Q2.data.toList = PS.dropLast.getD j [] by rw [hQ, HRG.out j hlt])
      have HRC := Lib.hid (HROW.out Q2 wr (by rw [hQ]; exact HPB.out j (by omega)))
      clear hQ
      go_wp2_with fail
      refine HRC.out.mono ?_
      rintro e w7 ⟨x, ok, rfl, hok, hb7⟩
      rw [HQ2.out] at hok
      have HPS7 := Lib.hid (HPS.out.below hb7)
      clear hb7 hpj
      rcases hok with ⟨rfl, hx⟩ | ⟨rfl, hx⟩
      · have HX := Lib.hid hx
        clear hx
        obtain ⟨xa, xo, x1, x2, x3⟩ := x
        unfold Ins.val
        go_wp2_with (at_builtin; refine wpList_append_own _ rfl (.tmp 36) (.tmp 38) 23 rfl w1.heap.size 55 i0 (.agg #[.int .i64 0, .int .u8 0, .int .i64 0, .int .i64 0, .int .i64 0]) 5 40 Tryz.underlying23 hi hz0 hz1 hz2 rfl (by decide) _ _ _ rfl (HPS7.out.below (Bl.al (Bl.al (Below.refl _ _) _) _)).own ⟨w7.heap.size + 1, 0, none⟩ 1 1 (Ins.cells ⟨xa, xo, x1, x2, x3⟩) rfl rfl (cells_new _ _ _ _ (by simp)) (Ins.cells_one _) (by unfold maxLen; omega) (by omega) (by have := HPS7.out.bl.size; simp; omega) ?_; intro v3 w8 hown3 hg3 _q; have HP8 := Lib.hid ((HPS7.out.below (Bl.al (Bl.al (Below.refl _ _) _) _)).step (by rw [HRL.out]; exact hlt) HX.out hown3 hg3); clear hown3 hg3)
        go_roundw
        case rel => exact ⟨j + 1, acc ++ [⟨xa, xo, x1, x2, x3⟩], by go_num, by omega, HP8.out⟩
        case measure => simp [intOf]; omega
      · have HBAD := Lib.hid (show parseOf s.data.toList = ([], 80, (j : Int)) by rw [HPO.out, HPS7.out.bad (by rw [HRL.out]; exact hlt) hx])
        clear hx
        obtain ⟨xa, xo, x1, x2, x3⟩ := x
        unfold Ins.val
        go_wp2_with fail
        go_ret3
        exact parseP_bad HBAD.out (Bl.tr HB1.out (Bl.tr HPS7.out.bl (Bl.al (Below.refl _ _) _)))
    · obtain rfl : j = n := by omega
      have hjI : ¬ (j : Int) < j := by omega
      have hps := HPS.out
      have hgo := HPS.out
      have HGO := Lib.hid (show rowsGo PS.dropLast 0 [] = .ok acc by
        have h := HPS.out
        have e := HRL.out
        rw [← e] at h
        exact h.done)
      rcases empty_or Q with rfl | ⟨e1, e2, e3, e4, e5⟩
      · have HSP := Lib.hid (show parseOf s.data.toList = if (putOf acc).2.1 ≠ 0 then ([], (putOf acc).2.1, ((putOf acc).2.2 : Int)) else (acc, 0, 0) by
          rw [HPO.out, HGO.out]
          simp only
          rw [← HQ.out, if_neg (by simp)])
        obtain ⟨pp, hpp⟩ : ∃ pp, pp = putOf acc := ⟨_, rfl⟩
        rw [← hpp] at HSP
        have HPUT : Hid (Calls Tryz.prog 18 #[.slice av acc.length cv] wr fun e w' => ∃ v, e = .returned (.tuple #[v, .int .i64 pp.2.1, .int .i64 (pp.2.2 : Int)]) ∧ Below wr.heap.size wr w') := Lib.hid (by
          have key : Calls Tryz.prog 18 #[.slice av acc.length cv] wr (PutAPost acc wr) := by
            rcases HPS.out.own.2 with ⟨hv, h0⟩ | ⟨g, cap, cur, hv, hbg, hgg, hnc, hcm, hcs, htk⟩
            · have h1 : acc = [] := List.eq_nil_of_length_eq_zero h0
              simp only [Value.slice.injEq] at hv
              obtain ⟨rfl, _, rfl⟩ := hv
              subst h1
              exact refPut_nil wr
            · simp only [Value.slice.injEq] at hv
              obtain ⟨rfl, _, rfl⟩ := hv
              refine refPut_any g 0 _ acc wr (by omega) ?_ HPS.out.op
              rcases Nat.eq_zero_or_pos acc.length with h0 | h0
              · have h1 : acc = [] := List.eq_nil_of_length_eq_zero h0
                subst h1
                exact ⟨(Array.getElem?_eq_some_iff.1 hgg).1, fun i hi => by simp [flat] at hi⟩
              · obtain ⟨g2, cap2, hv2, hrd, _, _⟩ := own_rdV HPS.out.own h0
                simp only [Value.slice.injEq, Option.some.injEq, Addr.mk.injEq, and_true] at hv2
                obtain ⟨rfl, _⟩ := hv2
                exact hrd
          refine key.mono fun e w' he => ?_
          unfold PutAPost at he
          rw [← hpp] at he
          obtain ⟨v, h1, _, h2⟩ := he
          exact ⟨v, h1, h2⟩)
        clear hpp
        obtain ⟨p1, p2, p3⟩ := pp
        simp only at HPUT HSP
        go_wp2_with fail
        refine HPUT.out.mono ?_
        rintro e w8 ⟨v8, rfl, hb8⟩
        have HPS8 := Lib.hid (HPS.out.below hb8)
        clear hb8
        by_cases h0 : p2 = 0
        · subst h0
          have HOK := Lib.hid (show parseOf s.data.toList = (acc, 0, 0) by rw [HSP.out, if_neg (by simp)])
          go_wp2_with fail
          go_ret3
          exact parseP_ok HOK.out (G.own_ge HPS8.out.own HB1.out.size) (Bl.tr HB1.out HPS8.out.bl)
        · have hne : (p2 == 0) = false := by simpa using h0
          have HBAD := Lib.hid (show parseOf s.data.toList = ([], p2, (p3 : Int)) by rw [HSP.out, if_pos h0])
          go_wp2_with fail
          go_ret3
          exact parseP_bad HBAD.out (Bl.tr HB1.out HPS8.out.bl)
      · have HBAD := Lib.hid (show parseOf s.data.toList = ([], 80, (j : Int)) by
          rw [HPO.out, HGO.out]
          simp only
          rw [← HQ.out, if_pos e4, HN.out]
          congr 2
          omega)
        go_wp2_with fail
        go_ret3
        exact parseP_bad HBAD.out (Bl.tr HB1.out HPS.out.bl)
end
section
open Go Go.RowKit
set_option linter.unusedVariables false
set_option linter.unusedSimpArgs false
def TrueP (w : World) (e : Ending) (w' : World) : Prop := e = .returned (.bool true) ∧ Below w.heap.size w w'
theorem own_capP {w : World} {base : Nat} {t : TypeId} {size : Nat} {v : Value} {n : Nat} {xs : List Value} (h : w.ownsRow base t size v n xs) : ∃ a k, v = .slice a n k ∧ n ≤ k ∧ k ≤ maxLen := by
  rcases h.2 with ⟨rfl, rfl⟩ | ⟨g, cap, cur, rfl, hb, hgg, hnc, hc, hcs, ht⟩
  · exact ⟨_, _, rfl, Nat.le_refl _, by simp [maxLen]⟩
  · exact ⟨_, _, rfl, hnc, hc⟩
theorem rowsGo_le : ∀ (rs : List (List UInt8)) (i : Nat) (acc l : List Ins), rowsGo rs i acc = .ok l → l.length = acc.length + rs.length
  | [], i, acc, l, h => by
    rw [rowsGo] at h
    injection h with h
    subst h
    simp
  | r :: rs, i, acc, l, h => by
    rw [rowsGo] at h
    cases hr : rowL r with
    | none => rw [hr] at h; cases h
    | some x =>
      rw [hr] at h
      simp only at h
      have := rowsGo_le rs (i + 1) (acc ++ [x]) l h
      simp at this
      simp
      omega
theorem parseOf_le (s : List UInt8) : (parseOf s).1.length ≤ s.length + 1 := by
  have hl := splitC_len 10 s
  unfold parseOf
  cases h : rowsGo (splitC 10 s).dropLast 0 [] with
  | error i => simp
  | ok l =>
    have := rowsGo_le _ _ _ _ h
    rw [List.length_dropLast] at this
    simp only [List.length_nil] at this
    simp only
    split
    · simp
    · split
      · simp
      · simp only
        omega
set_option maxRecDepth 100000 in
set_option maxHeartbeats 8000000 in
theorem parses_walk (s : ByteArray) (w : World) (hs : s.size ≤ maxLen) (hit : ItoaIn w) (hL : LibP w) : Calls Tryz.prog 3 #[.string s] w (TrueP w) := by
  have HL := Lib.hid hL
  have HIT := Lib.hid hit
  clear hit hL
  unfold maxLen at hs
  unfold TrueP
  go_enter Tryz.func3, Tryz.ntmps3
  go_wp2_with fail
  refine (works_any w HIT.out).mono ?_
  rintro e w1 ⟨rfl, hb1⟩
  have HB1 := Lib.hid hb1
  clear hb1
  by_cases hlong : 4194304 < s.size
  · have hl : (4194304 : Int) < s.size := by omega
    go_wp2_with fail
    go_ret
    exact ⟨rfl, HB1.out⟩
  · have hl : ¬ (4194304 : Int) < s.size := by omega
    have HP := Lib.hid (fun W hb => parse_any s w W (by omega) HL.out hb)
    have HRP := Lib.hid (fun W => refParse_of s W (by omega) (fun q W hq => refRow_any q W hq))
    have HPL := Lib.hid (parseOf_le s.data.toList)
    obtain ⟨R, hR⟩ : ∃ R, R = parseOf s.data.toList := ⟨_, rfl⟩
    unfold ParseP at HP HRP
    rw [← hR] at HP HRP HPL
    clear hR
    obtain ⟨rl, re, ra⟩ := R
    simp only at HP HRP HPL
    have hsz : s.data.toList.length = s.size := by simp
    have hrl : rl.length ≤ 4194305 := by have := HPL.out; omega
    clear hsz
    go_wp2_with fail
    refine (HP.out _ HB1.out).mono ?_
    rintro e w2 ⟨v2, rfl, ho2, hb2⟩
    obtain ⟨a2, k2, hv2, hk2, hm2⟩ := own_capP ho2
    subst hv2
    have HB2 := Lib.hid (Bl.tr HB1.out hb2)
    have HV2 := Lib.hid ho2
    clear ho2 hb2
    go_wp2_with fail
    refine (HP.out _ HB2.out).mono ?_
    rintro e w3 ⟨v3, rfl, ho3, hb3⟩
    obtain ⟨a3, k3, hv3, hk3, hm3⟩ := own_capP ho3
    subst hv3
    have HB3 := Lib.hid (Bl.tr HB2.out hb3)
    have HV23 := Lib.hid (Bl.own HV2.out hb3)
    have HV3 := Lib.hid ho3
    clear ho3 hb3
    go_wp2_with fail
    refine (HRP.out _).mono ?_
    rintro e w4 ⟨v4, rfl, ho4, hb4⟩
    obtain ⟨a4, k4, hv4, hk4, hm4⟩ := own_capP ho4
    subst hv4
    have HB4 := Lib.hid (Bl.tr HB3.out hb4)
    have HV24 := Lib.hid (Bl.own HV23.out hb4)
    have HV34 := Lib.hid (Bl.own HV3.out hb4)
    have HV4 := Lib.hid ho4
    clear ho4 hb4
    obtain ⟨y0, hy0⟩ : ∃ y0, y0 = w4.alloc (.cells G.nilBag 50) := ⟨_, rfl⟩
    have hbx : Below w4.heap.size w4 y0 := by rw [hy0]; exact Bl.al (Below.refl _ _) _
    have hblk : G.Blk y0 w4.heap.size 50 G.nilBag := by rw [hy0]; exact G.Blk.new w4 50 G.nilBag
    have HBY := Lib.hid (Bl.tr HB4.out hbx)
    have HY2 := Lib.hid (Bl.own HV24.out hbx)
    have HY3 := Lib.hid (Bl.own HV34.out hbx)
    have HY4 := Lib.hid (Bl.own HV4.out hbx)
    have HBLK := Lib.hid hblk
    unfold G.nilBag at hy0
    have HYY := Lib.hid hy0
    have hwx : w.heap.size ≤ w4.heap.size := HB4.out.size
    clear hbx hblk hy0
    go_upto_region 8 with (fail)
    rw [← HYY.out]
    have d1 := eqInstrs_any a2 a4 rl.length rl.length k2 k4 rl rl y0 (G.RdS.of_own HY2.out) (G.RdS.of_own HY4.out) (by unfold maxLen; omega) (by unfold maxLen; omega)
    rw [decide_eq_true rfl] at d1
    go_wp2_with fail
    refine d1.mono ?_
    rintro e y1 ⟨rfl, q1, rfl⟩
    clear d1
    have d2 := eqInstrs_any a3 a4 rl.length rl.length k3 k4 rl rl (y0.drewN q1) (G.RdS.of_own HY3.out) (G.RdS.of_own HY4.out) (by unfold maxLen; omega) (by unfold maxLen; omega)
    rw [decide_eq_true rfl] at d2
    go_wp2_with fail
    refine d2.mono ?_
    rintro e y2 ⟨rfl, q2, rfl⟩
    clear d2
    obtain ⟨z0, hz0⟩ : ∃ z0, z0 = y0.drewN (q1 + q2) := ⟨_, rfl⟩
    have hbz : Below y0.heap.size y0 z0 := by rw [hz0]; exact Bl.dn (Below.refl _ _) _
    have HBZ := Lib.hid (Bl.tr HBY.out hbz)
    have HZ2 := Lib.hid (Bl.own HY2.out hbz)
    have HZ3 := Lib.hid (Bl.own HY3.out hbz)
    have HBK0 := Lib.hid (HBLK.out.below hbz HBLK.out.lt)
    have HZZ := Lib.hid hz0
    clear hz0 hbz
    have e1 := G.addInstrs_any w.heap.size w4.heap.size 0 0 rl.length k2 none a2 G.nilBag [] z0 HBK0.out rfl (by omega) (World.ownsRow_nil _ _ _ _) hwx
    go_wp2_with fail
    rw [show (y0.drewN _) = z0 from HZZ.out.symm]
    refine e1.mono ?_
    rintro e x1 ⟨rfl, HA1, hc1, hk1, hr1, ht1⟩
    have HBK1 := Lib.hid hk1
    have HRW1 := Lib.hid hr1
    have HT1 := Lib.hid ht1
    clear e1 hk1 hr1 ht1
    go_wp2_with fail
    have e2 := G.addInstrs_any w.heap.size w4.heap.size 1 hc1 rl.length k3 HA1 a3 _ [.slice a2 rl.length k2] x1 HBK1.out (by simp [G.nilBag]) (by omega) HRW1.out hwx
    refine e2.mono ?_
    rintro e x2 ⟨rfl, HA2, hc2, hk2, hr2, ht2⟩
    have HBK2 := Lib.hid hk2
    have HRW2 := Lib.hid hr2
    have HT2 := Lib.hid (HT1.out.trans ht2)
    clear e2 hk2 hr2 ht2
    have f2 := HT2.out.own HZ2.out (by decide)
    have f3 := HT2.out.own HZ3.out (by decide)
    have hsz := HT2.out.below.size
    have hsy := HBZ.out.size
    have hfam := G.fam2 (G.own_ge f2 HB1.out.size) (G.own_ge f3 HB2.out.size) (G.later_ne HV2.out HV3.out (Nat.le_refl _))
    have e4 := G.apart_Instrs w.heap.size w4.heap.size 2 hc2 HA2 _ [⟨.slice a2 rl.length k2, rl.length, flat rl⟩, ⟨.slice a3 rl.length k3, rl.length, flat rl⟩] x2 HBK2.out (by simp [G.nilBag]) (fun i h1 h2 => by
      rw [Array.getElem?_setIfInBounds_ne (Ne.symm h2), Array.getElem?_setIfInBounds_ne (Ne.symm h2)]
      exact G.nilBag_at i h1) rfl (by omega) HRW2.out hfam (by intro l hl; simp only [List.mem_cons, List.mem_nil_iff, or_false] at hl; rcases hl with rfl | rfl <;> simp only <;> omega) (by omega)
    have HE4 := Lib.hid e4
    have HBF0 := Lib.hid (HBZ.out.trans HT2.out.below)
    clear hfam f2 f3 hsz hsy e4
    go_wp2_with fail
    refine HE4.out.mono ?_
    rintro e x4 ⟨rfl, hO⟩
    have HBF := Lib.hid (HBF0.out.trans hO.below)
    clear hO
    go_wp2_with fail
    go_ret
    exact ⟨rfl, HBF.out⟩
end
end Go.Proofs.YtfldicaaaadgaaaGreatDoor.Code

/- The laws TokensLines and TokensPlaces answer true; an empty or other source copied. -/
import Derived.Test.YtlaikgaepaiigaaDoorKBytes
namespace Go.Proofs.YtlaikgaepaiigaaDoor.K
open Go Go.RowKit
set_option linter.unusedVariables false
set_option linter.unusedSimpArgs false
set_option maxHeartbeats 1000000 in
theorem copyB_any (A : Option Addr) (c : Nat) (zs : List Int) (w : World) (hx : G.RdS w A 1 zs.length (zs.map (Value.int .u8))) (hn : zs.length ≤ 1099511627776) (hc : A = none → c = 0) :
    Calls Tryd.prog 13 #[.slice A zs.length c] w (G.CopyPost zs w) := by
  rcases Nat.eq_zero_or_pos zs.length with h0 | h0
  · have hz : zs = [] := List.eq_nil_of_length_eq_zero h0
    subst hz
    cases A with
    | none =>
      obtain rfl := hc rfl
      exact G.copyBytes_nil w
    | some ad =>
      obtain ⟨i0, hi, hz0, hz1, hz2⟩ := info_parts G.info5
      clear hx hn hc h0
      go_enter Tryd.func13, Tryd.ntmps13
      go_wp2_with (at_builtin; refine wpList_append_own _ rfl _ _ 22 rfl w.heap.size 5 i0 _ 1 1 Tryd.underlying22 hi hz0 hz1 hz2 rfl (by decide) (.slice none 0 0) 0 [] rfl (World.ownsRow_nil _ _ _ _) ad 0 c [] rfl (by simp) (fun j u hu => by simp at hu) (fun u hu => by cases hu) (by unfold maxLen; omega) (by omega) (Nat.le_refl _) ?_; intro v3 w3 hown3 hg3 _q)
      go_ret
      exact ⟨_, rfl, hown3, (Below.refl _ _).grown hg3 (Nat.le_refl _) (fun k hk => by cases hk)⟩
  · obtain ⟨b, off, rfl, hr⟩ := hx.2 h0
    exact G.copyBytes_any b off c zs w hr hn
set_option maxRecDepth 100000 in
set_option maxHeartbeats 1000000 in
theorem lines_long (A : Option Addr) (n c : Nat) (a : Int) (w : World) (hl : 16777216 < n) :
    Calls Tryd.prog 4 #[.slice A n c, .int .i64 a] w (WorksPost w) := by
  unfold WorksPost
  go_enter Tryd.func4, Tryd.ntmps4
  go_wp2_with fail
  refine (long_yes n (by omega) w).mono ?_
  rintro e wq ⟨rfl, rfl⟩
  go_wp2_with fail
  go_ret
  exact ⟨rfl, Below.refl _ _⟩
theorem lineOf_out (s : ByteArray) : lineOf s ((s.size : Int) + 1) = (0, 0) := if_pos (.inr (by omega))
set_option maxRecDepth 100000 in
set_option maxHeartbeats 4000000 in
theorem lines_short (A : Option Addr) (c : Nat) (zs : List Int) (a : Int) (w : World) (hl : zs.length ≤ 16777216) (hc : zs.length ≤ c) (hr : G.RdS w A 1 zs.length (zs.map (Value.int .u8))) (hz : IsBytes zs) (hL : LibIn w) :
    Calls Tryd.prog 4 #[.slice A zs.length c, .int .i64 a] w (WorksPost w) := by
  obtain ⟨n, hn⟩ : ∃ n, n = zs.length := ⟨_, rfl⟩
  have HN := Lib.hid hn
  have HL := Lib.hid (fun W (h : Below w.heap.size w W) => hL.below h)
  have HR := Lib.hid hr
  have HZ := Lib.hid hz
  have HC := Lib.hid hc
  rw [← hn] at hl ⊢
  have h1 : ¬ (16777216 : Int) < n := by omega
  have HBS := Lib.hid (show (bOf zs).size = n by rw [bOf_size, hn])
  have HSA := Lib.hid (fun W (h : Below w.heap.size w W) => show Src W A (bOf zs) from src_of_rd (by rw [zOf_bOf hz, bOf_size]; exact hr.below h))
  have hl0 : (0 : Int) ≤ n := by omega
  have hlI : (n : Int) ≤ 16777216 := by omega
  clear hr hz hc hL hn
  unfold WorksPost
  go_enter Tryd.func4, Tryd.ntmps4
  go_wp2_with fail
  refine (long_no n (by omega) w).mono ?_
  rintro e wq ⟨rfl, rfl⟩
  go_wp2_with fail
  have c2 := G.wideBytes_any A c zs w (by exact HR.out) (by rw [← HN.out]; omega)
  rw [← HN.out] at c2
  refine c2.mono ?_
  rintro e w2 hw2
  unfold G.WidePost at hw2
  rw [← HN.out] at hw2
  obtain ⟨rfl, ho2, hb2⟩ := hw2
  obtain ⟨g, hg⟩ : ∃ g, g = w.heap.size := ⟨_, rfl⟩
  rw [← hg] at ho2 ⊢
  have HO2 := Lib.hid ho2
  have HB2 := Lib.hid hb2
  have HSI := Lib.hid (show Src w2 (some ⟨g, 0, none⟩) (bOf zs) from src_own (ms := G.marksU8 zs.length) ho2 HZ.out)
  clear c2 hb2 ho2 hg
  go_wp2_with fail
  have c3 := line_any (some ⟨g, 0, none⟩) (n + 64) (bOf zs) a w2 HSI.out (by rw [HBS.out]; omega) (by rw [HBS.out]; omega)
  rw [HBS.out] at c3
  refine c3.mono ?_
  rintro e wq ⟨rfl, rfl⟩
  clear c3
  go_wp2_with fail
  have c4 := refLine_any A c (bOf zs) a w2 (HSA.out _ HB2.out) (by rw [HBS.out]; omega)
  rw [HBS.out] at c4
  refine c4.mono ?_
  rintro e wq ⟨rfl, rfl⟩
  clear c4
  go_wp2_with fail
  have c5 := line_any (some ⟨g, 0, none⟩) (n + 64) (bOf zs) (n : Int) w2 HSI.out (by rw [HBS.out]; omega) (by rw [HBS.out]; omega)
  rw [HBS.out] at c5
  refine c5.mono ?_
  rintro e wq ⟨rfl, rfl⟩
  clear c5
  go_wp2_with fail
  have c6 := refLine_any A c (bOf zs) (n : Int) w2 (HSA.out _ HB2.out) (by rw [HBS.out]; omega)
  rw [HBS.out] at c6
  refine c6.mono ?_
  rintro e wq ⟨rfl, rfl⟩
  clear c6
  go_wp2_with fail
  have c7 := line_any (some ⟨g, 0, none⟩) (n + 64) (bOf zs) ((n : Int) + 1) w2 HSI.out (by rw [HBS.out]; omega) (by rw [HBS.out]; omega)
  rw [HBS.out] at c7
  refine c7.mono ?_
  rintro e wq ⟨rfl, rfl⟩
  clear c7
  have ho := lineOf_out (bOf zs)
  rw [HBS.out] at ho
  rw [ho]
  clear ho
  obtain ⟨R, hR⟩ : ∃ R, R = lineOf (bOf zs) a := ⟨_, rfl⟩
  obtain ⟨Q, hQ⟩ : ∃ Q, Q = lineOf (bOf zs) (n : Int) := ⟨_, rfl⟩
  rw [← hR, ← hQ]
  clear hR hQ
  go_wp2_with fail
  have c8 := G.eqBytes_any (some ⟨g, 0, none⟩) A n n (n + 64) c zs zs w2 (G.RdS.of_rdV (in_rd (ys := G.marksU8 zs.length) HO2.out) (by simp [HN.out])) (by rw [HN.out]; exact HR.out.below HB2.out) (by unfold maxLen; omega) (by unfold maxLen; omega)
  rw [decide_eq_true rfl] at c8
  refine c8.mono ?_
  rintro e w8 ⟨rfl, q8, hw8⟩
  have hb8 : Below w2.heap.size w2 w8 := by rw [hw8]; exact G.bl_drewN (Below.refl _ _) _
  have HB8 := Lib.hid (G.bl_trans HB2.out hb8)
  have HO8 := Lib.hid (G.own_below HO2.out hb8)
  clear c8 hw8 hb8
  go_wp2_with fail
  have c9 := G.spareBytes_any g zs w8 (in_rd_all HO8.out) (by rw [← HN.out]; omega)
  rw [← HN.out] at c9
  refine c9.mono ?_
  rintro e w9 ⟨rfl, hw9⟩
  obtain rfl : w9 = w8 := by first | exact hw9 | exact hw9.symm
  clear c9 hw9
  go_wp2_with fail
  refine (works_any w9 (HL.out _ HB8.out)).mono ?_
  rintro e y5 he
  unfold WorksPost at he
  obtain ⟨rfl, hb9⟩ := he
  have HBH := Lib.hid (G.bl_trans HB8.out hb9)
  clear hb9
  go_wp2_with fail
  go_ret
  exact ⟨rfl, HBH.out⟩
set_option maxRecDepth 100000 in
set_option maxHeartbeats 1000000 in
theorem places_long (A : Option Addr) (n c : Nat) (w : World) (hl : 16777216 < n) :
    Calls Tryd.prog 5 #[.slice A n c] w (WorksPost w) := by
  unfold WorksPost
  go_enter Tryd.func5, Tryd.ntmps5
  go_wp2_with fail
  refine (long_yes n (by omega) w).mono ?_
  rintro e wq ⟨rfl, rfl⟩
  go_wp2_with fail
  go_ret
  exact ⟨rfl, Below.refl _ _⟩
theorem lineOf_in {s : ByteArray} {i : Nat} (h : i ≤ s.size) : lineOf s (i : Int) = (((lineAt s i).1 : Int), ((lineAt s i).2 : Int)) := by
  unfold lineOf
  rw [if_neg (by omega), Int.toNat_natCast]
set_option maxRecDepth 100000 in
set_option maxHeartbeats 4000000 in
theorem places_short (A : Option Addr) (c : Nat) (zs : List Int) (w : World) (hl : zs.length ≤ 16777216) (hc : zs.length ≤ c) (hA : A = none → c = 0) (hr : G.RdS w A 1 zs.length (zs.map (Value.int .u8))) (hz : IsBytes zs) (hL : LibIn w) :
    Calls Tryd.prog 5 #[.slice A zs.length c] w (WorksPost w) := by
  obtain ⟨n, hn⟩ : ∃ n, n = zs.length := ⟨_, rfl⟩
  have HN := Lib.hid hn
  have HL := Lib.hid (fun W (h : Below w.heap.size w W) => hL.below h)
  have HR := Lib.hid hr
  have HZ := Lib.hid hz
  have HC := Lib.hid hc
  have HA := Lib.hid hA
  rw [← hn] at hl ⊢
  have h1 : ¬ (16777216 : Int) < n := by omega
  have HBS := Lib.hid (show (bOf zs).size = n by rw [bOf_size, hn])
  have HSA := Lib.hid (fun W (h : Below w.heap.size w W) => show Src W A (bOf zs) from src_of_rd (by rw [zOf_bOf hz, bOf_size]; exact hr.below h))
  have hl0 : (0 : Int) ≤ n := by omega
  have hlI : (n : Int) ≤ 16777216 := by omega
  clear hr hz hc hL hn hA
  unfold WorksPost
  go_enter Tryd.func5, Tryd.ntmps5
  go_wp2_with fail
  refine (long_no n (by omega) w).mono ?_
  rintro e wq ⟨rfl, rfl⟩
  go_wp2_with fail
  go_loopw [3, 4, 5] (fun l k i wr => ∃ j : Nat, i = .int .i64 j ∧ j ≤ n + 1 ∧ j ≤ 2000 ∧ ((j ≤ n ∧ l = .int .i64 ((lineAt (bOf zs) j).1 : Nat) ∧ k = .int .i64 ((lineAt (bOf zs) j).2 : Nat)) ∨ j = n + 1) ∧ Below w.heap.size w wr) (fun _ _ i _ => n + 1 - (intOf i).toNat)
  case atStart => exact ⟨0, rfl, by omega, by omega, .inl ⟨by omega, rfl, rfl⟩, Below.refl _ _⟩
  case round =>
    obtain ⟨j, rfl, hj1, hj2, hcase, hb⟩ := hrel
    have HB := Lib.hid hb
    have hj0 : (0 : Int) ≤ j := by omega
    clear hb
    by_cases hin : j ≤ n ∧ j < 2000
    · obtain ⟨hjn, hjm⟩ := hin
      have hjI : (j : Int) ≤ n := by omega
      have hjM : (j : Int) < 2000 := by omega
      obtain ⟨_, rfl, rfl⟩ : j ≤ n ∧ _ ∧ _ := by
        rcases hcase with h | h
        · exact h
        · omega
      clear hcase
      obtain ⟨b1, b2, b3, b4⟩ := lineAt_bd (bOf zs) j
      have hst : lineAt (bOf zs) (j + 1) = if bt (bOf zs) j = 10 then ((lineAt (bOf zs) j).1 + 1, 1) else ((lineAt (bOf zs) j).1, (lineAt (bOf zs) j).2 + 1) := rfl
      have HST := Lib.hid hst
      have HLI := Lib.hid (lineOf_in (s := bOf zs) (i := j) (by rw [HBS.out]; exact hjn))
      clear hst
      obtain ⟨L, hL⟩ : ∃ L, L = lineAt (bOf zs) j := ⟨_, rfl⟩
      rw [← hL] at HST HLI b1 b2 b3 b4 ⊢
      clear hL
      have bI1 : (L.1 : Int) ≤ 16777217 := by omega
      have bI2 : (L.2 : Int) ≤ 16777217 := by omega
      have bI3 : (0 : Int) ≤ (L.1 : Int) := by omega
      have bI4 : (0 : Int) ≤ (L.2 : Int) := by omega
      go_wp2_with fail
      have d1 := copyB_any A c zs wr (HR.out.below HB.out) (by rw [← HN.out]; omega) HA.out
      rw [← HN.out] at d1
      refine d1.mono ?_
      rintro e w2 ⟨v2, rfl, ho2, hb2⟩
      rw [← HN.out] at ho2
      obtain ⟨a2, c2, rfl, hc2, hm2⟩ := own_cap ho2
      have HB2 := Lib.hid (G.bl_trans HB.out hb2)
      have HS2 := Lib.hid (show Src w2 a2 (bOf zs) from src_of_rd (by rw [zOf_bOf HZ.out, HBS.out]; exact G.RdS.of_own ho2))
      clear d1 ho2 hb2
      go_wp2_with fail
      have d2 := line_any a2 c2 (bOf zs) (j : Int) w2 HS2.out (by rw [HBS.out]; exact hc2) (by rw [HBS.out]; omega)
      rw [HBS.out, HLI.out] at d2
      refine d2.mono ?_
      rintro e wq ⟨rfl, rfl⟩
      clear d2
      by_cases hlt : j < n
      · have hltI : (j : Int) < n := by omega
        obtain ⟨b, o, hAe, _, _, hce⟩ := (HSA.out w2 HB2.out).at (i := j) (by rw [HBS.out]; exact hlt)
        subst hAe
        by_cases h10 : bt (bOf zs) j = 10
        · have HS3 := Lib.hid (HST.out.trans (if_pos h10))
          rw [h10] at hce
          clear h10
          go_wp2_with fail
          go_roundw
          case rel => exact ⟨j + 1, by go_num, by omega, by omega, .inl ⟨by omega, by rw [HS3.out]; go_num, by rw [HS3.out]; rfl⟩, HB2.out⟩
          case measure => simp [intOf]; omega
        · have HS3 := Lib.hid (HST.out.trans (if_neg h10))
          have n10 := ne_b h10
          generalize bt (bOf zs) j = y at hce n10
          clear h10
          go_wp2_with fail
          go_roundw
          case rel => exact ⟨j + 1, by go_num, by omega, by omega, .inl ⟨by omega, by rw [HS3.out], by rw [HS3.out]; go_num⟩, HB2.out⟩
          case measure => simp [intOf]; omega
      · have hltI : ¬ (j : Int) < n := by omega
        go_wp2_with fail
        go_roundw
        case rel => exact ⟨j + 1, by go_num, by omega, by omega, .inr (by omega), HB2.out⟩
        case measure => simp [intOf]; omega
    · have hor : n < j ∨ (j ≤ n ∧ ¬ j < 2000) := by omega
      clear hcase hin
      rcases hor with h | ⟨h, h2⟩
      · have hI : ¬ (j : Int) ≤ n := by omega
        go_wp2_with fail
        refine (works_any wr (HL.out _ HB.out)).mono ?_
        rintro e y5 he
        unfold WorksPost at he
        obtain ⟨rfl, hb9⟩ := he
        have HBH := Lib.hid (G.bl_trans HB.out hb9)
        clear hb9
        go_wp2_with fail
        go_ret
        exact ⟨rfl, HBH.out⟩
      · have hI : (j : Int) ≤ n := by omega
        have hI2 : ¬ (j : Int) < 2000 := by omega
        go_wp2_with fail
        refine (works_any wr (HL.out _ HB.out)).mono ?_
        rintro e y5 he
        unfold WorksPost at he
        obtain ⟨rfl, hb9⟩ := he
        have HBH := Lib.hid (G.bl_trans HB.out hb9)
        clear hb9
        go_wp2_with fail
        go_ret
        exact ⟨rfl, HBH.out⟩
end Go.Proofs.YtlaikgaepaiigaaDoor.K

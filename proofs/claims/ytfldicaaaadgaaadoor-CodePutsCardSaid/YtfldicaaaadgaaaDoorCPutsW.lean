/- The law CodePuts answers true. -/
import Derived.Test.YtfldicaaaadgaaaDoorCRefText
import Derived.Test.YtfldicaaaadgaaaDoorCReadsA
import Derived.Test.YtfldicaaaadgaaaDoorCWide
import Derived.Test.YtfldicaaaadgaaaDoorAddBytes
namespace Go.Proofs.YtfldicaaaadgaaaDoor.Code
open Go.RowKit
set_option linter.unusedVariables false
set_option linter.unusedSimpArgs false
theorem refPut_nil (ao : Option Addr) (cap : Nat) (w : World) :
    Calls Tryd.prog 23 #[.slice ao 0 cap] w fun e w' => e = .returned (.tuple #[.slice none 0 0, .int .i64 0, .int .i64 0]) ∧ w = w' := by
  go_enter Tryd.func23, Tryd.ntmps23
  go_wp2
  go_rounds 1
  go_ret3
  exact ⟨rfl, rfl⟩
theorem refText_nil (ao : Option Addr) (cap : Nat) (w : World) :
    Calls Tryd.prog 25 #[.slice ao 0 cap] w fun e w' => e = .returned (.string ⟨#[]⟩) ∧ w = w' := by
  have hcv := Lib.run_convert_nil_bytes (P := Tryd.prog) w 22 9 5 0 Tryd.underlying22 Tryd.underlying5 Tryd.underlying9
  go_enter Tryd.func25, Tryd.ntmps25
  go_wp2_with (go_at_call 23; refine (refPut_nil _ _ _).mono ?_; rintro e w1 ⟨rfl, rfl⟩)
  go_rounds 1
  go_ret
  exact ⟨rfl, rfl⟩
theorem rdv {w : World} {b off : Nat} {xs : List Value} (h : G.RdV w b off xs) : RdV w b off xs := h
theorem flat_nil {l : List Ins} (h : l.length = 0) : l = [] := List.eq_nil_of_length_eq_zero h
theorem refPut_S (A : Option Addr) (n cap : Nat) (l : List Ins) (w : World) (hn : l.length = n) (hm : n ≤ 1099511627776) (hr : G.RdS w A 5 n (flat l)) (hop : ∀ x ∈ l, 0 ≤ x.op ∧ x.op < 256) :
    Calls Tryd.prog 23 #[.slice A n cap] w (PutAPost l w) := by
  subst hn
  by_cases h0 : l.length = 0
  · obtain rfl := flat_nil h0
    exact (refPut_nil A cap w).mono fun e w' ⟨he, hw⟩ => by subst hw; exact ⟨_, he, World.ownsRow_nil _ _ _ _, Below.refl _ _⟩
  · obtain ⟨b, off, rfl, h⟩ := hr.2 (by omega)
    exact refPut_any b off cap l w (by omega) (rdv h) hop
theorem refText_S (A : Option Addr) (n cap : Nat) (l : List Ins) (w : World) (hn : l.length = n) (hm : n ≤ 1099511627776) (hr : G.RdS w A 5 n (flat l)) (hop : ∀ x ∈ l, 0 ≤ x.op ∧ x.op < 256) :
    Calls Tryd.prog 25 #[.slice A n cap] w fun e w' => e = .returned (.string ⟨(textSpec l).toArray⟩) ∧ Below w.heap.size w w' := by
  subst hn
  by_cases h0 : l.length = 0
  · obtain rfl := flat_nil h0
    exact (refText_nil A cap w).mono fun e w' ⟨he, hw⟩ => by subst hw; exact ⟨he, Below.refl _ _⟩
  · obtain ⟨b, off, rfl, h⟩ := hr.2 (by omega)
    exact refText_any b off cap l w (by omega) (rdv h) hop
theorem putGo_le : ∀ (l : List Ins) (b : List Int) (i : Nat), b.length ≤ 65535 → (putGo l b i).1.length ≤ 65535
  | [], _, _, h => h
  | x :: l, b, i, h => by
    rw [putGo]
    split
    · simp
    · split
      · simp
      · split
        · simp
        · rename_i h1 h2 h3
          have hri : RightI x := Classical.byContradiction fun hn => h2 (.inl hn)
          refine putGo_le l _ _ ?_
          rw [List.length_append]
          have hl := hri.len.1
          omega
theorem putOf_le (l : List Ins) : (putOf l).1.length ≤ 65535 := putGo_le l [] 0 (by simp)
theorem fam2 {w : World} {base : Nat} {e : TypeId} {sz : Nat} {v1 v2 : Value} {n1 n2 : Nat} {x1 x2 : List Value} (h1 : w.ownsRow base e sz v1 n1 x1) (h2 : w.ownsRow base e sz v2 n2 x2)
    (d12 : ∀ g, v1.ownBlock = some g → v2.ownBlock ≠ some g) : G.Fam w base e sz (G.Rows0 [⟨v1, n1, x1⟩, ⟨v2, n2, x2⟩]) := by
  have ne : v1.ownBlock = none ∨ v1.ownBlock ≠ v2.ownBlock := by
    cases ha : v1.ownBlock with
    | none => exact .inl rfl
    | some g => exact .inr fun e => d12 g ha e.symm
  have ne' : v2.ownBlock = none ∨ v2.ownBlock ≠ v1.ownBlock := by
    cases hb : v2.ownBlock with
    | none => exact .inl rfl
    | some g => exact .inr fun e => d12 g e.symm hb
  refine ⟨fun r ⟨l, hl, e1, e2, e3⟩ => ?_, fun r ⟨l, hl, e1, _, _⟩ r' ⟨l', hl', e1', _, _⟩ ht => ?_⟩
  · obtain ⟨t, v, n, xs⟩ := r
    simp only at hl e1 e2 e3
    subst e1 e2 e3
    match t, hl with
    | 0, hl => obtain rfl := Option.some.inj hl; exact h1
    | 1, hl => obtain rfl := Option.some.inj hl; exact h2
    | (t + 2), hl => simp at hl
  · obtain ⟨t, v, n, xs⟩ := r
    obtain ⟨t', v', n', xs'⟩ := r'
    simp only at hl hl' e1 e1' ht ⊢
    subst e1 e1'
    match t, hl, t', hl', ht with
    | 0, hl, 0, hl', ht => exact absurd rfl ht
    | 1, hl, 1, hl', ht => exact absurd rfl ht
    | 0, hl, 1, hl', ht => obtain rfl := Option.some.inj hl; obtain rfl := Option.some.inj hl'; exact ne
    | 1, hl, 0, hl', ht => obtain rfl := Option.some.inj hl; obtain rfl := Option.some.inj hl'; exact ne'
    | (t + 2), hl, _, _, _ => simp at hl
    | _, _, (t' + 2), hl', _ => simp at hl'
/-- A row of the call's own, of instructions with marks behind them, read as the instructions. -/
theorem inI_rd {w : World} {base g N : Nat} {xs ys : List Ins} (h : w.ownsRow base 26 5 (.slice (some ⟨g, 0, none⟩) N N) N (flat (xs ++ ys))) : G.RdV w g 0 (flat xs) := by
  rcases h.2 with ⟨hv, _⟩ | ⟨g', cap, cur, hv, hb, hgg, hnc, hc, hcs, ht⟩
  · cases hv
  · simp only [Value.slice.injEq, Option.some.injEq, Addr.mk.injEq, and_true, true_and] at hv
    obtain ⟨rfl, rfl⟩ := hv
    refine ⟨(Array.getElem?_eq_some_iff.1 hgg).1, fun j hj => ?_⟩
    have e : flat (xs ++ ys) = flat xs ++ flat ys := by simp [flat]
    have hl := h.1
    rw [e, List.length_append] at hl
    rw [Nat.zero_add, h.cellAt j (by omega), e, List.getElem?_append_left hj, List.getD_eq_getElem?_getD, List.getElem?_eq_getElem hj]
    rfl
theorem inI_rd_all {w : World} {base g N : Nat} {xs : List Value} (h : w.ownsRow base 26 5 (.slice (some ⟨g, 0, none⟩) N N) N xs) : G.RdV w g 0 xs := by
  rcases h.2 with ⟨hv, _⟩ | ⟨g', cap, cur, hv, hb, hgg, hnc, hc, hcs, ht⟩
  · cases hv
  · simp only [Value.slice.injEq, Option.some.injEq, Addr.mk.injEq, and_true, true_and] at hv
    obtain ⟨rfl, rfl⟩ := hv
    refine ⟨(Array.getElem?_eq_some_iff.1 hgg).1, fun j hj => ?_⟩
    rw [Nat.zero_add, h.cellAt j (by have := h.1; omega), List.getD_eq_getElem?_getD, List.getElem?_eq_getElem hj]
    rfl
set_option maxRecDepth 100000 in
set_option maxHeartbeats 1000000 in
theorem puts_long (A : Option Addr) (n cap : Nat) (w : World) (hn : n ≤ maxLen) (hl : 131072 < n) (hit : ItoaIn w) :
    Calls Tryd.prog 4 #[.slice A n cap] w fun e w' => e = .returned (.bool true) ∧ Below w.heap.size w w' := by
  have HIT := Lib.hid hit
  clear hit
  unfold maxLen at hn
  have h1 : (131072 : Int) < n := by omega
  go_enter Tryd.func4, Tryd.ntmps4
  go_wp2_with (go_at_call 8; refine (works_any _ HIT.out).mono ?_; rintro e w1 ⟨rfl, hb1⟩)
  go_ret
  exact ⟨rfl, hb1⟩
set_option maxRecDepth 100000 in
set_option maxHeartbeats 4000000 in
theorem puts_short (A : Option Addr) (n cap : Nat) (l : List Ins) (w : World) (hn : l.length = n) (hl : n ≤ 131072) (hr : G.RdS w A 5 n (flat l)) (hop : ∀ x ∈ l, 0 ≤ x.op ∧ x.op < 256) (hit : ItoaIn w) :
    Calls Tryd.prog 4 #[.slice A n cap] w fun e w' => e = .returned (.bool true) ∧ Below w.heap.size w w' := by
  have HIT := Lib.hid hit
  have HR := Lib.hid hr
  have HN := Lib.hid hn
  have HOP := Lib.hid hop
  have HPL := Lib.hid (putOf_le l)
  have h1 : ¬ (131072 : Int) < n := by omega
  clear hit hr hn hop
  go_enter Tryd.func4, Tryd.ntmps4
  go_wp2_with fail
  refine (works_any _ HIT.out).mono ?_
  rintro e w1 ⟨rfl, hb1⟩
  have HB1 := Lib.hid hb1
  clear hb1
  go_wp2_with fail
  -- WideInstrs
  have c2 := wideInstrs_any A cap l w1 (by rw [HN.out]; exact HR.out.below HB1.out) (by rw [HN.out]; omega)
  rw [HN.out] at c2
  refine c2.mono ?_
  rintro e w2 hw2
  unfold WideIPost at hw2
  rw [HN.out] at hw2
  obtain ⟨rfl, ho2, hb2⟩ := hw2
  obtain ⟨g, hg⟩ : ∃ g, g = w1.heap.size := ⟨_, rfl⟩
  rw [← hg] at ho2 ⊢
  have HG := Lib.hid hg
  have HO2 := Lib.hid ho2
  have HB2 := Lib.hid (Bl.tr HB1.out hb2)
  clear c2 hb2 ho2 hg
  go_wp2_with fail
  -- code.Put
  have c3 := Put_any g 0 (n + 64) l w2 (by rw [HN.out]; omega) (rdv (inI_rd HO2.out)) HOP.out
  rw [HN.out] at c3
  obtain ⟨R, hR⟩ : ∃ R, R = putOf l := ⟨_, rfl⟩
  unfold PutAPost at c3
  rw [← hR] at c3 HPL
  have HRR := Lib.hid hR
  clear hR
  obtain ⟨r1, er, at_⟩ := R
  simp only at c3 HPL
  have hpl := HPL.out
  refine c3.mono ?_
  rintro e w3 ⟨v3, rfl, ho3, hb3⟩
  obtain ⟨a3, k3, hv3, hk3, hm3⟩ := own_cap ho3
  subst hv3
  have HB3 := Lib.hid (Bl.tr HB2.out hb3)
  have HO3 := Lib.hid (Bl.own HO2.out hb3)
  have HV3 := Lib.hid ho3
  clear c3 hb3 ho3
  go_wp2_with fail
  -- code.Put once more
  have c4 := Put_any g 0 (n + 64) l w3 (by rw [HN.out]; omega) (rdv (inI_rd HO3.out)) HOP.out
  rw [HN.out] at c4
  unfold PutAPost at c4
  rw [← HRR.out] at c4
  simp only at c4
  refine c4.mono ?_
  rintro e w4 ⟨v4, rfl, ho4, hb4⟩
  obtain ⟨a4, k4, hv4, hk4, hm4⟩ := own_cap ho4
  subst hv4
  have HB4 := Lib.hid (Bl.tr HB3.out hb4)
  have HO4 := Lib.hid (Bl.own HO3.out hb4)
  have HV34 := Lib.hid (Bl.own HV3.out hb4)
  have HV4 := Lib.hid ho4
  clear c4 hb4 ho4
  go_wp2_with fail
  -- code.Text
  have c5 := Text_any g 0 (n + 64) l w4 (by rw [HN.out]; omega) (rdv (inI_rd HO4.out)) HOP.out (fun z W a b hb => HIT.out z W a b (HB4.out.trans (hb.mono HB4.out.size)))
  rw [HN.out] at c5
  obtain ⟨S, hS⟩ : ∃ S, S = textSpec l := ⟨_, rfl⟩
  rw [← hS] at c5
  have HSS := Lib.hid hS
  clear hS
  refine c5.mono ?_
  rintro e w5 ⟨rfl, hb5⟩
  have HB5 := Lib.hid (Bl.tr HB4.out hb5)
  have HO5 := Lib.hid (Bl.own HO4.out hb5)
  have HV35 := Lib.hid (Bl.own HV34.out hb5)
  have HV45 := Lib.hid (Bl.own HV4.out hb5)
  clear c5 hb5
  go_wp2_with fail
  -- the document's Put
  have c6 := refPut_S A n cap l w5 HN.out (by omega) (HR.out.below HB5.out) HOP.out
  unfold PutAPost at c6
  rw [← HRR.out] at c6
  simp only at c6
  refine c6.mono ?_
  rintro e w6 ⟨v6, rfl, ho6, hb6⟩
  obtain ⟨a6, k6, hv6, hk6, hm6⟩ := own_cap ho6
  subst hv6
  have HB6 := Lib.hid (Bl.tr HB5.out hb6)
  have HO6 := Lib.hid (Bl.own HO5.out hb6)
  have HV36 := Lib.hid (Bl.own HV35.out hb6)
  have HV46 := Lib.hid (Bl.own HV45.out hb6)
  have HV6 := Lib.hid ho6
  clear c6 hb6 ho6
  go_wp2_with fail
  -- EqInstrs, SpareInstrs
  have c7 := eqInstrs_any (some ⟨g, 0, none⟩) A n n (n + 64) cap l l w6 (G.RdS.of_rdV (inI_rd HO6.out) (by rw [flat_length, HN.out])) (by rw [← HN.out]; rw [← HN.out] at HR; exact HR.out.below HB6.out) (by unfold maxLen; omega) (by unfold maxLen; omega)
  rw [decide_eq_true rfl] at c7
  refine c7.mono ?_
  rintro e w7 ⟨rfl, q7, rfl⟩
  clear c7
  go_wp2_with fail
  have c8 := spareInstrs_any g l (w6.drewN q7) (inI_rd_all HO6.out) (by rw [HN.out]; omega)
  rw [HN.out] at c8
  refine c8.mono ?_
  rintro e w8 ⟨rfl, hb8⟩
  have hb68 : Below w6.heap.size w6 w8 := Bl.tr (Bl.dn (Below.refl _ _) q7) hb8
  have HB8 := Lib.hid (Bl.tr HB6.out hb68)
  have HV38 := Lib.hid (Bl.own HV36.out hb68)
  have HV48 := Lib.hid (Bl.own HV46.out hb68)
  have HV8 := Lib.hid (Bl.own HV6.out hb68)
  clear c8 hb8 hb68
  go_wp2_with fail
  -- EqBytes, twice
  have c9 := G.eqBytes_any a3 a6 r1.length r1.length k3 k6 r1 r1 w8 (G.RdS.of_own HV38.out) (G.RdS.of_own HV8.out) (by unfold maxLen; omega) (by unfold maxLen; omega)
  rw [decide_eq_true rfl] at c9
  refine c9.mono ?_
  rintro e w9 ⟨rfl, q9, rfl⟩
  clear c9
  go_wp2_with fail
  have c10 := G.eqBytes_any a4 a6 r1.length r1.length k4 k6 r1 r1 (w8.drewN q9) (G.RdS.of_own HV48.out) (G.RdS.of_own HV8.out) (by unfold maxLen; omega) (by unfold maxLen; omega)
  rw [decide_eq_true rfl] at c10
  refine c10.mono ?_
  rintro e w10 ⟨rfl, q10, rfl⟩
  clear c10
  go_wp2_with fail
  -- the document's Text
  have c11 := refText_S A n cap l (w8.drewN (q9 + q10)) HN.out (by omega) (HR.out.below (Bl.dn HB8.out _)) HOP.out
  rw [← HSS.out] at c11
  refine c11.mono ?_
  rintro e w11 ⟨rfl, hb11⟩
  have hb811 : Below w8.heap.size w8 w11 := Bl.tr (Bl.dn (Below.refl _ _) _) hb11
  have HB11 := Lib.hid (Bl.tr HB8.out hb811)
  have HV311 := Lib.hid (Bl.own HV38.out hb811)
  have HV411 := Lib.hid (Bl.own HV48.out hb811)
  clear c11 hb11 hb811
  go_wp2_with fail
  -- the bag
  obtain ⟨y0, hy0⟩ : ∃ y0, y0 = w11.alloc (.cells nilBag 59) := ⟨_, rfl⟩
  have HYY := Lib.hid hy0
  have hbx : Below w11.heap.size w11 y0 := by rw [hy0]; exact Bl.al (Below.refl _ _) _
  have hblk : G.Blk y0 w11.heap.size 59 nilBag := by rw [hy0]; exact G.Blk.new w11 59 nilBag
  have HBY := Lib.hid (Bl.tr HB11.out hbx)
  have HY3 := Lib.hid (Bl.own HV311.out hbx)
  have HY4 := Lib.hid (Bl.own HV411.out hbx)
  have hwx : w.heap.size ≤ w11.heap.size := HB11.out.size
  have e1 := G.addBytes_any w.heap.size w11.heap.size 0 0 r1.length k3 none a3 nilBag [] y0 hblk rfl (by omega) (World.ownsRow_nil _ _ _ _) hwx
  rw [hy0] at e1
  refine e1.mono ?_
  rintro e y1 ⟨rfl, HA1, hc1, hk1, hr1, ht1⟩
  rw [← HYY.out] at ht1
  have HBK1 := Lib.hid hk1
  have HRW1 := Lib.hid hr1
  have HT1 := Lib.hid ht1
  clear e1 hk1 hr1 ht1 hy0 hbx hblk
  go_wp2_with fail
  have e2 := G.addBytes_any w.heap.size w11.heap.size 1 hc1 r1.length k4 HA1 a4 _ [.slice a3 r1.length k3] y1 HBK1.out (by simp [nilBag]) (by omega) HRW1.out hwx
  refine e2.mono ?_
  rintro e y2 ⟨rfl, HA2, hc2, hk2, hr2, ht2⟩
  have HBK2 := Lib.hid hk2
  have HRW2 := Lib.hid hr2
  have HT2 := Lib.hid (HT1.out.trans ht2)
  clear e2 hk2 hr2 ht2
  go_wp2_with fail
  have f3 := HT2.out.own HY3.out (by decide)
  have f4 := HT2.out.own HY4.out (by decide)
  have hsz := HT2.out.below.size
  have hsy := HBY.out.size
  have hfam := fam2 (G.own_ge f3 (HB2.out.size)) (G.own_ge f4 HB3.out.size) (later_ne HV3.out HV4.out (Nat.le_refl _))
  have e4 := G.apart_Bytes w.heap.size w11.heap.size 2 hc2 HA2 _ [⟨.slice a3 r1.length k3, r1.length, u8s r1⟩, ⟨.slice a4 r1.length k4, r1.length, u8s r1⟩] y2 HBK2.out (by simp [nilBag]) (fun i h1 h2 => by
    rw [Array.getElem?_setIfInBounds_ne (Ne.symm h2), Array.getElem?_setIfInBounds_ne (Ne.symm h2)]
    exact nilBag_at i h1) rfl (by omega) HRW2.out hfam (by intro l hl; simp only [List.mem_cons, List.mem_nil_iff, or_false] at hl; rcases hl with rfl | rfl <;> simp only <;> omega) (by omega)
  refine e4.mono ?_
  rintro e y4 ⟨rfl, hO⟩
  have HBF := Lib.hid ((HBY.out.trans HT2.out.below).trans hO.below)
  clear e4 hO hfam f3 f4
  go_wp2_with fail
  go_ret
  exact ⟨rfl, HBF.out⟩
end Go.Proofs.YtfldicaaaadgaaaDoor.Code

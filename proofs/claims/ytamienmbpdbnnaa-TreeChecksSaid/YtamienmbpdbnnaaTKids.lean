/- The contracts of both Kids. -/
import Derived.Test.YtamienmbpdbnnaaTEnds
namespace Go.Proofs.Ytamienmbpdbnnaa.T
open Go Go.RowKit
set_option linter.unusedVariables false
set_option linter.unusedSimpArgs false
theorem bl_grown {a w w' : World} {v : Value} {e : TypeId} {size n : Nat} {xs : List Value} (h : Below a.heap.size a w) (ho : w.ownsRow a.heap.size e size v n xs) (hg : w.grownBy w' v.ownBlock) : Below a.heap.size a w' :=
  h.grown hg h.size (fun k hk => (ho.lt k hk).1)
theorem ints_one (l : List Int) : ∀ u ∈ ints l, u.oneCell' = true := by intro u hu; simp [ints] at hu; obtain ⟨z, _, rfl⟩ := hu; rfl
/-- The places of a node's kids. -/
def kidsL (t : List Nd) (a : Int) : List Int := if behindOf t a < 0 then [] else (List.range (t.getD a.toNat zeroNd).kids.toNat).map fun i => skipTo t (a.toNat + 1) i
theorem behind_ok {t : List Nd} {a : Int} (h : ¬ behindOf t a < 0) : ∃ i K : Nat, a = i ∧ i < t.length ∧ (t.getD i zeroNd).kids = K ∧ K ≤ t.length ∧ ∀ q, q ≤ K → 0 ≤ skipTo t (i + 1) q := by
  have h1 : 0 ≤ a ∧ a < t.length := by
    refine ⟨Classical.byContradiction fun hn => h (by rw [behind_out (.inl (by omega))]; omega), Classical.byContradiction fun hn => h (by rw [behind_out (.inr (by omega))]; omega)⟩
  obtain ⟨i, rfl⟩ : ∃ i : Nat, a = i := ⟨a.toNat, by omega⟩
  have hi : i < t.length := by omega
  have hk : ¬ ((t.getD i zeroNd).kids < 0 ∨ (t.length : Int) < (t.getD i zeroNd).kids) := fun hb => h (by rw [behind_bad hi hb]; omega)
  refine ⟨i, (t.getD i zeroNd).kids.toNat, rfl, hi, by omega, by omega, fun q hq => ?_⟩
  rw [behind_skip hi (by omega)] at h
  exact Classical.byContradiction fun hn => h (by rw [skip_neg (by omega) hq]; omega)
theorem skip_lt {t : List Nd} {p q : Nat} (h : 0 ≤ skipTo t p q) (h1 : 0 ≤ skipTo t p (q + 1)) : skipTo t p q < t.length := by
  rw [skip_step h] at h1
  exact Classical.byContradiction fun hn => by
    rw [behind_out (.inr (by omega))] at h1
    omega
def KidsPost (t : List Nd) (a : Int) (w : World) (e : Ending) (w' : World) : Prop :=
  ∃ v, e = .returned v ∧ w'.ownsRow w.heap.size 3 1 v (kidsL t a).length (ints (kidsL t a)) ∧ Below w.heap.size w w'
theorem range_snoc (f : Nat → Int) (q : Nat) : ints ((List.range (q + 1)).map f) = ints ((List.range q).map f) ++ [.int .i64 (f q)] := by simp [ints, List.range_succ]
set_option maxRecDepth 100000 in
set_option maxHeartbeats 4000000 in
theorem kids_any (A : Option Addr) (n cap : Nat) (t : List Nd) (a : Int) (w : World) (hn : t.length = n) (hm : n ≤ 16777216) (hr : G.RdS w A 7 n (flat t)) :
    Calls Try.prog 23 #[.slice A n cap, .int .i64 a] w (KidsPost t a w) := by
  obtain ⟨i0, hinf, hz0, hz1, hz2⟩ := info_parts infoInt
  have HN := Lib.hid hn
  have HR := Lib.hid hr
  have HBE := Lib.hid (fun W (h : G.RdS W A 7 n (flat t)) x => behind_any A n cap t x W hn hm h)
  have HEN := Lib.hid (fun W (h : G.RdS W A 7 n (flat t)) => ends_any A n cap t W hn hm h)
  by_cases hneg : behindOf t a < 0
  · have HE := Lib.hid (show kidsL t a = [] from if_pos hneg)
    obtain ⟨B, hB⟩ : ∃ B, B = behindOf t a := ⟨_, rfl⟩
    have HBE2 := Lib.hid (HBE.out w hr a)
    rw [← hB] at HBE2 hneg
    clear hr hn hB
    go_enter Try.func23, Try.ntmps23
    go_wp2_with (go_at_call 22; refine HBE2.out.mono ?_; rintro e w1 ⟨rfl, rfl⟩)
    go_ret
    unfold KidsPost
    rw [HE.out]
    exact ⟨_, rfl, World.ownsRow_nil _ _ _ _, Below.refl _ _⟩
  · obtain ⟨i, K, rfl, hi, hK, hKn, hs⟩ := behind_ok hneg
    have HE := Lib.hid (show kidsL t (i : Int) = (List.range K).map fun q => skipTo t (i + 1) q by
      unfold kidsL
      rw [if_neg hneg, Int.toNat_natCast, hK, Int.toNat_natCast])
    rw [hn] at hi hKn
    have HBE2 := Lib.hid (HBE.out w hr i)
    obtain ⟨B, hB⟩ : ∃ B, B = behindOf t (i : Int) := ⟨_, rfl⟩
    rw [← hB] at HBE2 hneg
    have HSP := Lib.hid hs
    have HS0 := Lib.hid (skip_zero (t := t) (p := i + 1) (by rw [hn]; omega))
    have HLT := Lib.hid (fun q (h : q < K) => hn ▸ skip_lt (hs q (by omega)) (hs (q + 1) (by omega)))
    have HST := Lib.hid (fun q (h : q < K) => skip_step (hs q (by omega)))
    have HSB := Lib.hid (fun q => hn ▸ (skip_bd t (i + 1) q).2)
    obtain ⟨sk, hsk⟩ : ∃ sk, sk = skipTo t (i + 1) := ⟨_, rfl⟩
    rw [← hsk] at HE HSP HS0 HLT HST HSB
    have HK := Lib.hid hK
    have HHI := Lib.hid (show i < t.length by rw [hn]; exact hi)
    obtain ⟨b, off, hA, hrr⟩ := hr.2 (by omega)
    subst hA
    obtain ⟨x, hx⟩ : ∃ x, x = t.getD i zeroNd := ⟨_, rfl⟩
    have hck := (nd_at hrr (by rw [hn]; exact hi) hx.symm).2.2.2.2.2.2
    rw [← hx] at HK
    obtain ⟨xo, xk, xn, xm, xt, xa, k⟩ := x
    simp only at hck HK
    have hkK := HK.out
    subst hkK
    have hbw := World.block_lt_of_cell? _ _ hck
    clear hr hn hB hrr hx hsk hs hK
    go_enter Try.func23, Try.ntmps23
    go_wp2_with (go_at_call 22; refine HBE2.out.mono ?_; rintro e wq ⟨rfl, rfl⟩)
    have d1 := HEN.out w HR.out
    refine d1.mono ?_
    rintro e w1 he
    unfold EndsPost at he
    obtain ⟨rfl, ho1, hb1⟩ := he
    have HO1 := Lib.hid ho1
    have HB1 := Lib.hid hb1
    have hck1 := (hb1.cell (p := ⟨b, off + i * 7 + 6, none⟩) hbw).trans hck
    have hz1w := hb1.size
    obtain ⟨g, hg⟩ : ∃ g, g = w.heap.size := ⟨_, rfl⟩
    rw [← hg] at HO1 ⊢
    have HG := Lib.hid hg
    clear d1 ho1 hb1 hg
    go_wp2_with fail
    go_loopw [6, 7, 21] (fun l k u wr => ∃ q : Nat, q ≤ K ∧ u = .int .i64 q ∧ k = .int .i64 (sk q) ∧ Below w1.heap.size w1 wr ∧ wr.ownsRow w1.heap.size 3 1 l q (ints ((List.range q).map sk))) (fun _ _ u _ => K - (intOf u).toNat)
    case atStart => exact ⟨0, Nat.zero_le _, rfl, by rw [HS0.out]; go_num, Below.refl _ _, World.ownsRow_nil _ _ _ _⟩
    case round =>
      obtain ⟨q, hq, rfl, rfl, hbel, hown⟩ := hrel
      have h0q : (0 : Int) ≤ q := by omega
      have HOWN := Lib.hid hown
      have HBEL := Lib.hid hbel
      have HSN := Lib.hid (range_snoc sk q)
      have hw1 := hbel.size
      have hcr := (hbel.cell (p := ⟨b, off + i * 7 + 6, none⟩) (show b < w1.heap.size by omega)).trans hck1
      by_cases hqK : q < K
      · have hqK1 : (q : Int) < K := by omega
        have hs0 := HSP.out q (by omega)
        have hs1 := HLT.out q hqK
        have hst := HST.out q hqK
        obtain ⟨j, hj⟩ : ∃ j : Nat, sk q = j := ⟨(sk q).toNat, by omega⟩
        rw [hj] at hs0 hs1 hst HSN ⊢
        have hjn : j < n := by omega
        have HST1 := Lib.hid hst
        clear hown hbel hst hj
        go_wp2_with (at_builtin; refine wpList_append_own _ rfl (.tmp 23) (.tmp 25) 35 rfl w1.heap.size 3 i0 (.int .i64 0) 1 8 Try.underlying35 hinf hz0 hz1 hz2 rfl (by decide) _ _ _ rfl (HOWN.out.alloc _) ⟨wr.heap.size, 0, none⟩ 1 1 [.int .i64 j] rfl rfl (G.cells_new _ _ _ _ rfl) (ints_one [_]) (by unfold maxLen; omega) (by omega) (by simp; omega) ?_; intro v3 w3 hown3 hg3 _q; have HB3 := Lib.hid (bl_grown (G.bl_alloc HBEL.out _) (HOWN.out.alloc _) hg3); have HO3 := Lib.hid hown3; clear hown3 hg3; have hec := (HB3.out.cell (p := ⟨g, j, none⟩) (show g < w1.heap.size by have h1 := ints_cell HO1.out (j := j) (by rw [endsOf_length]; have := HHI.out; have := HN.out; omega); exact World.block_lt_of_cell? _ _ h1)).trans (ints_cell HO1.out (j := j) (by rw [endsOf_length, HN.out]; exact hjn)); rw [endsOf_get t (by rw [HN.out]; exact hjn), ← HST1.out] at hec)
        go_roundw
        case rel => exact ⟨q + 1, by omega, by go_num, rfl, HB3.out, by rw [HSN.out]; exact HO3.out⟩
        case measure => simp [intOf]; omega
      · have hqK1 : ¬ (q : Int) < K := by omega
        obtain rfl : q = K := by omega
        clear hown hbel
        go_wp2
        go_ret
        unfold KidsPost
        rw [HE.out]
        have hl : ((List.range q).map sk).length = q := by simp
        exact ⟨_, rfl, by rw [hl]; exact (G.own_ge HOWN.out (by omega)), (G.bl_trans HB1.out HBEL.out)⟩
set_option maxRecDepth 100000 in
set_option maxHeartbeats 4000000 in
theorem refKids_any (A : Option Addr) (n cap : Nat) (t : List Nd) (a : Int) (w : World) (hn : t.length = n) (hm : n ≤ 16777216) (hr : G.RdS w A 7 n (flat t)) :
    Calls Try.prog 44 #[.slice A n cap, .int .i64 a] w (KidsPost t a w) := by
  obtain ⟨i0, hinf, hz0, hz1, hz2⟩ := info_parts infoInt
  have HN := Lib.hid hn
  have HR := Lib.hid hr
  have HBE := Lib.hid (fun W (h : G.RdS W A 7 n (flat t)) x => refBehind_any A n cap t x W hn hm h)
  by_cases hneg : behindOf t a < 0
  · have HE := Lib.hid (show kidsL t a = [] from if_pos hneg)
    obtain ⟨B, hB⟩ : ∃ B, B = behindOf t a := ⟨_, rfl⟩
    have HBE2 := Lib.hid (HBE.out w hr a)
    rw [← hB] at HBE2 hneg
    clear hr hn hB
    go_enter Try.func44, Try.ntmps44
    go_wp2_with (go_at_call 36; refine HBE2.out.mono ?_; rintro e w1 ⟨rfl, rfl⟩)
    go_ret
    unfold KidsPost
    rw [HE.out]
    exact ⟨_, rfl, World.ownsRow_nil _ _ _ _, Below.refl _ _⟩
  · obtain ⟨i, K, rfl, hi, hK, hKn, hs⟩ := behind_ok hneg
    have HE := Lib.hid (show kidsL t (i : Int) = (List.range K).map fun q => skipTo t (i + 1) q by
      unfold kidsL
      rw [if_neg hneg, Int.toNat_natCast, hK, Int.toNat_natCast])
    rw [hn] at hi hKn
    have HBE2 := Lib.hid (HBE.out w hr i)
    obtain ⟨B, hB⟩ : ∃ B, B = behindOf t (i : Int) := ⟨_, rfl⟩
    rw [← hB] at HBE2 hneg
    have HSP := Lib.hid hs
    have HS0 := Lib.hid (skip_zero (t := t) (p := i + 1) (by rw [hn]; omega))
    have HLT := Lib.hid (fun q (h : q < K) => hn ▸ skip_lt (hs q (by omega)) (hs (q + 1) (by omega)))
    have HST := Lib.hid (fun q (h : q < K) => skip_step (hs q (by omega)))
    have HSB := Lib.hid (fun q => hn ▸ (skip_bd t (i + 1) q).2)
    obtain ⟨sk, hsk⟩ : ∃ sk, sk = skipTo t (i + 1) := ⟨_, rfl⟩
    rw [← hsk] at HE HSP HS0 HLT HST HSB
    have HK := Lib.hid hK
    have HHI := Lib.hid (show i < t.length by rw [hn]; exact hi)
    obtain ⟨b, off, hA, hrr⟩ := hr.2 (by omega)
    subst hA
    obtain ⟨x, hx⟩ : ∃ x, x = t.getD i zeroNd := ⟨_, rfl⟩
    have hck := (nd_at hrr (by rw [hn]; exact hi) hx.symm).2.2.2.2.2.2
    rw [← hx] at HK
    obtain ⟨xo, xk, xn, xm, xt, xa, k⟩ := x
    simp only at hck HK
    have hkK := HK.out
    subst hkK
    have hbw := World.block_lt_of_cell? _ _ hck
    clear hr hn hB hrr hx hsk hs hK
    go_enter Try.func44, Try.ntmps44
    go_wp2_with (go_at_call 36; refine HBE2.out.mono ?_; rintro e wq ⟨rfl, rfl⟩)
    go_loopw [5, 6, 7] (fun l k u wr => ∃ q : Nat, q ≤ K ∧ u = .int .i64 q ∧ k = .int .i64 (sk q) ∧ Below w.heap.size w wr ∧ wr.ownsRow w.heap.size 3 1 l q (ints ((List.range q).map sk))) (fun _ _ u _ => K - (intOf u).toNat)
    case atStart => exact ⟨0, Nat.zero_le _, rfl, by rw [HS0.out]; go_num, Below.refl _ _, World.ownsRow_nil _ _ _ _⟩
    case round =>
      obtain ⟨q, hq, rfl, rfl, hbel, hown⟩ := hrel
      have h0q : (0 : Int) ≤ q := by omega
      have HOWN := Lib.hid hown
      have HBEL := Lib.hid hbel
      have HSN := Lib.hid (range_snoc sk q)
      have hw1 := hbel.size
      have hcr := (hbel.cell (p := ⟨b, off + i * 7 + 6, none⟩) hbw).trans hck
      by_cases hqK : q < K
      · have hqK1 : (q : Int) < K := by omega
        have hs0 := HSP.out q (by omega)
        have hs1 := HLT.out q hqK
        have hst := HST.out q hqK
        obtain ⟨j, hj⟩ : ∃ j : Nat, sk q = j := ⟨(sk q).toNat, by omega⟩
        rw [hj] at hs0 hs1 hst HSN ⊢
        have hjn : j < n := by omega
        have HST1 := Lib.hid hst
        clear hown hbel hst hj
        go_wp2_with (first
          | (at_builtin; refine wpList_append_own _ rfl (.tmp 23) (.tmp 25) 35 rfl w.heap.size 3 i0 (.int .i64 0) 1 8 Try.underlying35 hinf hz0 hz1 hz2 rfl (by decide) _ _ _ rfl (HOWN.out.alloc _) ⟨wr.heap.size, 0, none⟩ 1 1 [.int .i64 j] rfl rfl (G.cells_new _ _ _ _ rfl) (ints_one [_]) (by unfold maxLen; omega) (by omega) (by simp; omega) ?_; intro v3 w3 hown3 hg3 _q; have HB3 := Lib.hid (bl_grown (G.bl_alloc HBEL.out _) (HOWN.out.alloc _) hg3); have HO3 := Lib.hid hown3; clear hown3 hg3; have HR3 := Lib.hid (HR.out.below HB3.out))
          | (go_at_call 36; refine (HBE.out _ HR3.out (j : Int)).mono ?_; rintro e w4 ⟨rfl, rfl⟩))
        go_roundw
        case rel => exact ⟨q + 1, by omega, by go_num, by rw [HST1.out], HB3.out, by rw [HSN.out]; exact HO3.out⟩
        case measure => simp [intOf]; omega
      · have hqK1 : ¬ (q : Int) < K := by omega
        obtain rfl : q = K := by omega
        clear hown hbel
        go_wp2
        go_ret
        unfold KidsPost
        rw [HE.out]
        have hl : ((List.range q).map sk).length = q := by simp
        exact ⟨_, rfl, by rw [hl]; exact HOWN.out, HBEL.out⟩
end Go.Proofs.Ytamienmbpdbnnaa.T

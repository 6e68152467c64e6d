/- The contract of the law's gap: what stands ahead of a token. -/
import Derived.Test.YtlaikgaepaiigaaGreatDoorKBackL
import Derived.Test.YtlaikgaepaiigaaGreatDoorKSize
namespace Go.Proofs.YtlaikgaepaiigaaGreatDoor.K
open Go Go.RowKit
set_option linter.unusedVariables false
set_option linter.unusedSimpArgs false
def GapPost (L : List UInt8) (w : World) (e : Ending) (w' : World) : Prop := ∃ v, e = .returned v ∧ w'.ownsRow w.heap.size 5 1 v L.length (u8L L) ∧ Below w.heap.size w w'
theorem gapPost_mk {L : List UInt8} {w w' : World} {v : Value} (h : w'.ownsRow w.heap.size 5 1 v L.length (u8L L)) (hb : Below w.heap.size w w') : GapPost L w (.returned v) w' := ⟨v, rfl, h, hb⟩
theorem lit32 (w : World) : (w.alloc (.cells #[.int .u8 32] 5)).ownsRow w.heap.size 5 1 (.slice (some ⟨w.heap.size, 0, none⟩) 1 1) [(32 : UInt8)].length (u8L [32]) :=
  World.ownsRow_lit w #[.int .u8 32] 1 (Nat.le_refl _) (by unfold maxLen; omega) rfl
set_option maxRecDepth 100000 in
set_option maxHeartbeats 1000000 in
theorem gap_out (A : Option Addr) (n c i : Nat) (w : World) (h : n ≤ i) (hm : i ≤ 16777216) : Calls Tryz.prog 11 #[.slice A n c, .int .i64 i] w (GapPost [32] w) := by
  have hI : (n : Int) ≤ i := by omega
  have HO := Lib.hid (lit32 w)
  have HB := Lib.hid (G.bl_alloc (Below.refl w.heap.size w) (.cells #[.int .u8 32] 5))
  go_enter Tryz.func11, Tryz.ntmps11
  go_wp2_with fail
  go_ret
  exact gapPost_mk HO.out HB.out
set_option maxRecDepth 100000 in
set_option maxHeartbeats 1000000 in
theorem gap_big (b off n c i : Nat) (Ai : Option Addr) (ni ci : Nat) (w : World) (h : i < n) (hm : n ≤ 16777216) (hcell : w.cell? ⟨b, off + i, none⟩ = some (.slice Ai ni ci)) (hb : b < w.heap.size) (hbig : 1000 < ni) :
    Calls Tryz.prog 11 #[.slice (some ⟨b, off, none⟩) n c, .int .i64 i] w (GapPost [32] w) := by
  have hI : (i : Int) < n := by omega
  have hbI : (1000 : Int) < ni := by omega
  have HO := Lib.hid (lit32 w)
  have HB := Lib.hid (G.bl_alloc (Below.refl w.heap.size w) (.cells #[.int .u8 32] 5))
  have hc1 := (HB.out.cell (p := ⟨b, off + i, none⟩) hb).trans hcell
  clear hcell
  go_enter Tryz.func11, Tryz.ntmps11
  go_wp2_with fail
  go_ret
  exact gapPost_mk HO.out HB.out
theorem app_one (wr : World) (lit : Obj) (y : Int) : ∀ j u, [Value.int .u8 y][j]? = some u → ((wr.alloc lit).alloc (.cells #[.int .u8 y] 5)).cell? ((⟨wr.heap.size + 1, 0, none⟩ : Addr).add j) = some u := by
  have h := G.cells_new (wr.alloc lit) [Value.int .u8 y] 5 _ rfl
  have e : (wr.alloc lit).heap.size = wr.heap.size + 1 := by first | rfl | simp
  rw [e] at h
  exact h
/-- What has been written of a gap. -/
structure GS (w0 w : World) (v : Value) (out : List UInt8) : Prop where
  own : w.ownsRow w0.heap.size 5 1 v out.length (u8L out)
  bl : Below w0.heap.size w0 w
theorem gapB_is {x : UInt8} {r : Nat} (h : x.toNat % 4 = r) : gapB x = ([9, 10, 13, 32] : List UInt8).getD r 0 := by unfold gapB; rw [h]
theorem GS.step {w wr w3 : World} {v v3 : Value} {bs : List UInt8} {k : Nat} {hk : k < bs.length} {x : UInt8} {y : Int} {o1 o2 : Obj} (h : GS w wr v (32 :: (bs.take k).map gapB)) (hx : x = bs[k]) (hy : ((gapB x).toNat : Int) = y)
    (ho : w3.ownsRow w.heap.size 5 1 v3 ((32 :: (bs.take k).map gapB).length + 1) (u8L (32 :: (bs.take k).map gapB) ++ [.int .u8 y])) (hg : ((wr.alloc o1).alloc o2).grownBy w3 v.ownBlock) : GS w w3 v3 (32 :: (bs.take (k + 1)).map gapB) := by
  have e : 32 :: (bs.take (k + 1)).map gapB = (32 :: (bs.take k).map gapB) ++ [gapB x] := by
    rw [List.take_succ_eq_append_getElem hk, List.map_append, hx]
    rfl
  refine ⟨?_, bl_grown (G.bl_alloc (G.bl_alloc h.bl _) _) ((h.own.alloc o1).alloc o2) hg⟩
  rw [e, List.length_append, show u8L ((32 :: (bs.take k).map gapB) ++ [gapB x]) = u8L (32 :: (bs.take k).map gapB) ++ [.int .u8 y] by unfold u8L; rw [List.map_append, ← hy]; rfl]
  exact ho
theorem GS.app {w wr w3 : World} {v v3 : Value} {out : List UInt8} {o : Obj} (h : GS w wr v out) (ys : List UInt8) {zs : List Value} {m : Nat} (hm : m = ys.length) (hz : zs = u8L ys)
    (ho : w3.ownsRow w.heap.size 5 1 v3 (out.length + m) (u8L out ++ zs)) (hg : (wr.alloc o).grownBy w3 v.ownBlock) : GS w w3 v3 (out ++ ys) := by
  subst hm hz
  refine ⟨?_, bl_grown (G.bl_alloc h.bl _) (h.own.alloc o) hg⟩
  rw [List.length_append, show u8L (out ++ ys) = u8L out ++ u8L ys by unfold u8L; rw [List.map_append]]
  exact ho
theorem u8_two (x y : Int) : ∀ u ∈ [Value.int .u8 x, Value.int .u8 y], u.oneCell' = true := by intro u hu; simp at hu; rcases hu with rfl | rfl <;> rfl
set_option maxRecDepth 100000 in
set_option maxHeartbeats 4000000 in
theorem gap_in (b off n c i : Nat) (Ai : Option Addr) (ci : Nat) (bs : List UInt8) (w : World) (h : i < n) (hm : n ≤ 16777216) (hcell : w.cell? ⟨b, off + i, none⟩ = some (.slice Ai bs.length ci)) (hb : b < w.heap.size) (hsm : bs.length ≤ 1000)
    (hr : G.RdS w Ai 1 bs.length (u8L bs)) : Calls Tryz.prog 11 #[.slice (some ⟨b, off, none⟩) n c, .int .i64 i] w (GapPost (gapL bs) w) := by
  obtain ⟨i0, hinf, hz0, hz1, hz2⟩ := info_parts infoU8
  have hI : (i : Int) < n := by omega
  have hbI : (bs.length : Int) ≤ 1000 := by omega
  obtain ⟨N, hN⟩ : ∃ N, N = bs.length := ⟨_, rfl⟩
  rw [← hN] at hcell hsm hbI hr
  have HN := Lib.hid hN
  have HR := Lib.hid (fun W (h : Below w.heap.size w W) => hr.below h)
  have HO := Lib.hid (lit32 w)
  have HB := Lib.hid (G.bl_alloc (Below.refl w.heap.size w) (.cells #[.int .u8 32] 5))
  have HC := Lib.hid (fun W (h : Below w.heap.size w W) => (h.cell (p := ⟨b, off + i, none⟩) hb).trans hcell)
  have hc1 := HC.out _ HB.out
  have hni : ¬ n ≤ i := by omega
  have hN1 : ¬ (1000 : Int) < N := by omega
  clear hcell hr hN
  go_enter Tryz.func11, Tryz.ntmps11
  go_wp2_with fail
  clear hc1
  go_loopw [5, 7] (fun v i wr => ∃ k : Nat, i = .int .i64 k ∧ k ≤ N ∧ GS w wr v (32 :: (bs.take k).map gapB)) (fun _ i _ => N - (intOf i).toNat)
  case atStart => exact ⟨0, rfl, Nat.zero_le _, ⟨by simpa using HO.out, HB.out⟩⟩
  case round =>
    obtain ⟨k, rfl, hk, hgs⟩ := hrel
    have HG := Lib.hid hgs
    clear hgs
    by_cases hlt : k < N
    · have hkI : (k : Int) < N := by omega
      obtain ⟨bi, oi, rfl, hri⟩ := (HR.out _ HG.out.bl).2 (by omega)
      have hkb : k < bs.length := by have := HN.out; omega
      obtain ⟨x, hx⟩ : ∃ x, x = bs[k] := ⟨_, rfl⟩
      have HX := Lib.hid hx
      have hce : wr.cell? ⟨bi, oi + k, none⟩ = some (.int .u8 (x.toNat : Int)) := by
        rw [hri.2 k (by unfold u8L; rw [List.length_map]; exact hkb)]
        unfold u8L
        rw [List.getD_eq_getElem?_getD, List.getElem?_map, List.getElem?_eq_getElem hkb, hx]
        rfl
      have HCE := Lib.hid hce
      have HLT := Lib.hid hri.1
      have hce2 : ∀ o, (wr.alloc o).cell? ⟨bi, oi + k, none⟩ = some (.int .u8 (x.toNat : Int)) := fun o => ((G.bl_alloc (Below.refl wr.heap.size wr) o).cell (p := ⟨bi, oi + k, none⟩) HLT.out).trans HCE.out
      clear hri hce hx
      have hln : (32 :: (bs.take k).map gapB).length ≤ 1001 := by have := HN.out; simp; omega
      have hr4 : x.toNat % 4 = 0 ∨ x.toNat % 4 = 1 ∨ x.toNat % 4 = 2 ∨ x.toNat % 4 = 3 := by omega
      rcases hr4 with hr | hr | hr | hr
      · have hrI : ((x.toNat : Nat) : Int) % 4 = 0 := by omega
        have hxr := UInt8.toNat_lt x
        go_wp2_with (at_builtin; refine wpList_append_own _ rfl (.tmp 33) (.tmp 42) 32 rfl w.heap.size 5 i0 (.int .u8 0) 1 1 Tryz.underlying32 hinf hz0 hz1 hz2 rfl (by decide) _ _ _ rfl ((HG.out.own.alloc _).alloc _) ⟨wr.heap.size + 1, 0, none⟩ 1 1 [_] rfl rfl (app_one wr _ _) (u8_one _) (by unfold maxLen; omega) (by omega) (by have := HG.out.bl.size; simp; omega) ?_; intro v3 w3 hown3 hg3 _q; have HS3 := Lib.hid (HG.out.step HX.out (y := 9) (by rw [show gapB x = 9 from gapB_is hr]; rfl) hown3 hg3); clear hown3 hg3)
        go_round
        case rel => exact ⟨k + 1, by go_num, by omega, HS3.out⟩
        case measure => simp [intOf]; omega
      · have hrI : ((x.toNat : Nat) : Int) % 4 = 1 := by omega
        have hxr := UInt8.toNat_lt x
        go_wp2_with (at_builtin; refine wpList_append_own _ rfl (.tmp 33) (.tmp 42) 32 rfl w.heap.size 5 i0 (.int .u8 0) 1 1 Tryz.underlying32 hinf hz0 hz1 hz2 rfl (by decide) _ _ _ rfl ((HG.out.own.alloc _).alloc _) ⟨wr.heap.size + 1, 0, none⟩ 1 1 [_] rfl rfl (app_one wr _ _) (u8_one _) (by unfold maxLen; omega) (by omega) (by have := HG.out.bl.size; simp; omega) ?_; intro v3 w3 hown3 hg3 _q; have HS3 := Lib.hid (HG.out.step HX.out (y := 10) (by rw [show gapB x = 10 from gapB_is hr]; rfl) hown3 hg3); clear hown3 hg3)
        go_round
        case rel => exact ⟨k + 1, by go_num, by omega, HS3.out⟩
        case measure => simp [intOf]; omega
      · have hrI : ((x.toNat : Nat) : Int) % 4 = 2 := by omega
        have hxr := UInt8.toNat_lt x
        go_wp2_with (at_builtin; refine wpList_append_own _ rfl (.tmp 33) (.tmp 42) 32 rfl w.heap.size 5 i0 (.int .u8 0) 1 1 Tryz.underlying32 hinf hz0 hz1 hz2 rfl (by decide) _ _ _ rfl ((HG.out.own.alloc _).alloc _) ⟨wr.heap.size + 1, 0, none⟩ 1 1 [_] rfl rfl (app_one wr _ _) (u8_one _) (by unfold maxLen; omega) (by omega) (by have := HG.out.bl.size; simp; omega) ?_; intro v3 w3 hown3 hg3 _q; have HS3 := Lib.hid (HG.out.step HX.out (y := 13) (by rw [show gapB x = 13 from gapB_is hr]; rfl) hown3 hg3); clear hown3 hg3)
        go_round
        case rel => exact ⟨k + 1, by go_num, by omega, HS3.out⟩
        case measure => simp [intOf]; omega
      · have hrI : ((x.toNat : Nat) : Int) % 4 = 3 := by omega
        have hxr := UInt8.toNat_lt x
        go_wp2_with (at_builtin; refine wpList_append_own _ rfl (.tmp 33) (.tmp 42) 32 rfl w.heap.size 5 i0 (.int .u8 0) 1 1 Tryz.underlying32 hinf hz0 hz1 hz2 rfl (by decide) _ _ _ rfl ((HG.out.own.alloc _).alloc _) ⟨wr.heap.size + 1, 0, none⟩ 1 1 [_] rfl rfl (app_one wr _ _) (u8_one _) (by unfold maxLen; omega) (by omega) (by have := HG.out.bl.size; simp; omega) ?_; intro v3 w3 hown3 hg3 _q; have HS3 := Lib.hid (HG.out.step HX.out (y := 32) (by rw [show gapB x = 32 from gapB_is hr]; rfl) hown3 hg3); clear hown3 hg3)
        go_round
        case rel => exact ⟨k + 1, by go_num, by omega, HS3.out⟩
        case measure => simp [intOf]; omega
    · obtain rfl : k = N := by omega
      have HGA := Lib.hid (show GS w wr u5 (32 :: bs.map gapB) by
        have h := HG.out
        rw [List.take_of_length_le (by have := HN.out; omega)] at h
        exact h)
      have hkI : ¬ (k : Int) < k := by omega
      by_cases hm : bs.length % 3 = 1
      · have HL := Lib.hid (show gapL bs = ((32 :: bs.map gapB) ++ [47, 47]) ++ bs.filter (fun c => c != 10) ++ [10] by unfold gapL remL; rw [if_pos hm]; simp)
        have hmI : (k : Int) % 3 = 1 := by have := HN.out; omega
        have hln2 : (32 :: bs.map gapB).length ≤ 1001 := by have := HN.out; simp; omega
        clear hm
        go_upto_region 11 with (at_builtin; refine wpList_append_own _ rfl (.tmp 48) (.tmp 49) 32 rfl w.heap.size 5 i0 (.int .u8 0) 1 1 Tryz.underlying32 hinf hz0 hz1 hz2 rfl (by decide) _ _ _ rfl (HGA.out.own.alloc _) ⟨wr.heap.size, 0, none⟩ 2 2 [_, _] rfl rfl (G.cells_new _ _ _ _ rfl) (u8_two _ _) (by unfold maxLen; omega) (by omega) (by have := HGA.out.bl.size; simp; omega) ?_; intro v3 w3 hown3 hg3 _q; have HS3 := Lib.hid (HGA.out.app [47, 47] (by rfl) (by rfl) hown3 hg3); clear hown3 hg3)
        obtain ⟨B0, hB0⟩ : ∃ B0, B0 = (32 :: bs.map gapB) ++ [47, 47] := ⟨_, rfl⟩
        rw [← hB0] at HS3 HL
        have hln3 : B0.length ≤ 1003 := by rw [hB0, List.length_append]; simp at hln2 ⊢; omega
        have HLB := Lib.hid hln3
        clear hB0 hln2 hln3 HG HGA
        go_wp2_with fail
        go_loopw [5, 8] (fun v i wr => ∃ k2 : Nat, i = .int .i64 k2 ∧ k2 ≤ k ∧ GS w wr v (B0 ++ (bs.take k2).filter (fun c => c != 10))) (fun _ i _ => k - (intOf i).toNat)
        case atStart => exact ⟨0, rfl, Nat.zero_le _, by simpa using HS3.out⟩
        case round =>
          obtain ⟨k2, rfl, hk2, hgs2⟩ := hrel
          have HG := Lib.hid hgs2
          have hfl : (B0 ++ (bs.take k2).filter (fun c => c != 10)).length ≤ 2003 := by
            have h1 := List.length_filter_le (fun c : UInt8 => c != 10) (bs.take k2)
            have h2 := HLB.out
            have h3 := HN.out
            rw [List.length_append]
            rw [List.length_take] at h1
            omega
          clear hgs2
          by_cases hlt : k2 < k
          · have hkI2 : (k2 : Int) < k := by omega
            obtain ⟨bi, oi, rfl, hri⟩ := (HR.out _ HG.out.bl).2 (by omega)
            have hkb : k2 < bs.length := by have := HN.out; omega
            obtain ⟨x, hx⟩ : ∃ x, x = bs[k2] := ⟨_, rfl⟩
            have HX := Lib.hid hx
            have hce : wr.cell? ⟨bi, oi + k2, none⟩ = some (.int .u8 (x.toNat : Int)) := by
              rw [hri.2 k2 (by unfold u8L; rw [List.length_map]; exact hkb)]
              unfold u8L
              rw [List.getD_eq_getElem?_getD, List.getElem?_map, List.getElem?_eq_getElem hkb, hx]
              rfl
            have hft : (bs.take (k2 + 1)).filter (fun c => c != 10) = (bs.take k2).filter (fun c => c != 10) ++ (if x = 10 then [] else [x]) := by
              rw [List.take_succ_eq_append_getElem hkb, List.filter_append, ← hx]
              by_cases e : x = 10
              · rw [if_pos e, e]; rfl
              · rw [if_neg e]
                have : (x != 10) = true := by simpa using e
                simp [List.filter, this]
            have HFT := Lib.hid hft
            clear hri hx hft
            by_cases e : x = 10
            · have hxI : ((x.toNat : Nat) : Int) = 10 := by rw [e]; rfl
              rw [hxI] at hce
              have HE := Lib.hid e
              clear e
              go_wp2_with fail
              go_round
              case rel => exact ⟨k2 + 1, by go_num, by omega, by rw [HFT.out, if_pos HE.out, List.append_nil]; exact HG.out⟩
              case measure => simp [intOf]; omega
            · have hxI : ((x.toNat : Nat) : Int) ≠ 10 := fun h => e (by rw [← UInt8.toNat_inj]; show x.toNat = 10; omega)
              have hxB := ne_b2 hxI
              have HE := Lib.hid e
              clear e hxI
              go_wp2_with (at_builtin; refine wpList_append_own _ rfl (.tmp 62) (.tmp 67) 32 rfl w.heap.size 5 i0 (.int .u8 0) 1 1 Tryz.underlying32 hinf hz0 hz1 hz2 rfl (by decide) _ _ _ rfl (HG.out.own.alloc _) ⟨wr.heap.size, 0, none⟩ 1 1 [_] rfl rfl (G.cells_new _ _ _ _ rfl) (u8_one _) (by unfold maxLen; omega) (by omega) (by have := HG.out.bl.size; simp; omega) ?_; intro v3 w3 hown3 hg3 _q; have HS9 := Lib.hid (HG.out.app [x] (by rfl) (by rfl) hown3 hg3); clear hown3 hg3)
              go_round
              case rel => exact ⟨k2 + 1, by go_num, by omega, by rw [HFT.out, if_neg HE.out, ← List.append_assoc]; exact HS9.out⟩
              case measure => simp [intOf]; omega
          · have hek : k2 = k := by omega
            have hkI2 : ¬ (k2 : Int) < k := by omega
            have HT := Lib.hid (show bs.take k2 = bs from List.take_of_length_le (by have := HN.out; omega))
            go_wp2_with (at_builtin; refine wpList_append_own _ rfl (.tmp 69) (.tmp 70) 32 rfl w.heap.size 5 i0 (.int .u8 0) 1 1 Tryz.underlying32 hinf hz0 hz1 hz2 rfl (by decide) _ _ _ rfl (HG.out.own.alloc _) ⟨wr.heap.size, 0, none⟩ 1 1 [_] rfl rfl (G.cells_new _ _ _ _ rfl) (u8_one _) (by unfold maxLen; omega) (by omega) (by have := HG.out.bl.size; simp; omega) ?_; intro v3 w3 hown3 hg3 _q; have HS9 := Lib.hid (HG.out.app [10] (by rfl) (by rfl) hown3 hg3); clear hown3 hg3)
            go_ret
            rw [HL.out]
            have h9 := HS9.out
            rw [HT.out] at h9
            exact gapPost_mk h9.own h9.bl
      · have HL := Lib.hid (show gapL bs = 32 :: bs.map gapB by unfold gapL remL; rw [if_neg hm, List.append_nil])
        have hmI : ¬ (k : Int) % 3 = 1 := by have := HN.out; omega
        clear hm
        go_wp2_with fail
        go_ret
        rw [HL.out]
        exact gapPost_mk HGA.out.own HGA.out.bl
end Go.Proofs.YtlaikgaepaiigaaGreatDoor.K

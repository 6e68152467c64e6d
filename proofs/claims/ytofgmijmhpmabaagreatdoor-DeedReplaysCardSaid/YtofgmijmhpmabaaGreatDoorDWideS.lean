/- The contracts of tableauref00.WideState and SpareState, tableaulaw06.stays. Printed by gen_wides.py. -/
import Derived.Test.YtofgmijmhpmabaaGreatDoorDCopyS
import Derived.Test.YtofgmijmhpmabaaGreatDoorDCards
import Derived.Test.YtofgmijmhpmabaaGreatDoorDCopySt
import Derived.Test.YtofgmijmhpmabaaGreatDoorDLawM
import Derived.Test.YtofgmijmhpmabaaGreatDoorDSame
import Derived.Test.YtofgmijmhpmabaaGreatDoorDRef6F
namespace Go.Proofs.YtofgmijmhpmabaaGreatDoor.D
open Go Go.RowKit
set_option linter.unusedVariables false
set_option linter.unusedSimpArgs false
/-- What stands in row i of a list of rows with marks behind it, and how it is seen. -/
def rowX (zs : List (List Int)) (i : Nat) : List Int := if i < zs.length then wideI (zs.getD i []) else [markI i]
def rowN (zs : List (List Int)) (i : Nat) : Nat := if i < zs.length then (zs.getD i []).length else 1
def rowV (zs : List (List Int)) (i r : Nat) : Value := .slice (some ⟨r, 0, none⟩) (rowN zs i) (rowX zs i).length
def rowsV (zs : List (List Int)) (rs : List Nat) : List Value := (List.range rs.length).map fun i => rowV zs i (rs.getD i 0)
theorem rowsV_length (zs : List (List Int)) (rs : List Nat) : (rowsV zs rs).length = rs.length := by simp [rowsV]
theorem rowsV_app (zs : List (List Int)) (rs : List Nat) (r : Nat) : rowsV zs (rs ++ [r]) = rowsV zs rs ++ [rowV zs rs.length r] := by
 unfold rowsV
 rw [List.length_append, List.length_singleton, List.range_succ, List.map_append]
 congr 1
 ·refine List.map_congr_left fun i hi => ?_
  rw [List.mem_range] at hi
  rw [List.getD_eq_getElem?_getD, List.getD_eq_getElem?_getD, List.getElem?_append_left hi]
 ·simp [List.getD_eq_getElem?_getD]
theorem rowsV_at {zs : List (List Int)} {rs : List Nat} {i : Nat} (h : i < rs.length) : (rowsV zs rs).getD i undef = rowV zs i (rs.getD i 0) := by
 unfold rowsV
 rw [List.getD_eq_getElem?_getD, List.getElem?_map, List.getElem?_range h]
 rfl
theorem rowX_lo {zs : List (List Int)} {i : Nat} (h : i < zs.length) : rowX zs i = wideI (zs.getD i []) := if_pos h
theorem rowX_hi {zs : List (List Int)} {i : Nat} (h : ¬ i < zs.length) : rowX zs i = [markI i] := if_neg h
theorem rowV_lo {zs : List (List Int)} {i r : Nat} (h : i < zs.length) : rowV zs i r = .slice (some ⟨r, 0, none⟩) (zs.getD i []).length ((zs.getD i []).length + 64) := by
 unfold rowV rowN
 rw [rowX_lo h, if_pos h, wideI_length]
theorem rowV_hi {zs : List (List Int)} {i r : Nat} (h : ¬ i < zs.length) : rowV zs i r = .slice (some ⟨r, 0, none⟩) 1 1 := by
 unfold rowV rowN
 rw [rowX_hi h, if_neg h]
 rfl
/-- Rows of their own, each with its marks. -/
structure WRows (w : World) (base : Nat) (zs : List (List Int)) (rs : List Nat) : Prop where
 each : ∀ i, i < rs.length → w.ownsRow base 3 1 (.slice (some ⟨rs.getD i 0, 0, none⟩) (rowX zs i).length (rowX zs i).length) (rowX zs i).length ((rowX zs i).map (Value.int .i64))
 apart : ∀ i j, i < rs.length → j < rs.length → i ≠ j → rs.getD i 0 ≠ rs.getD j 0
theorem WRows.below {w w' : World} {base : Nat} {zs : List (List Int)} {rs : List Nat} (h : WRows w base zs rs) (hb : Below w.heap.size w w') : WRows w' base zs rs := ⟨fun i hi => G.own_below (h.each i hi) hb, h.apart⟩
theorem WRows.lt {w : World} {base : Nat} {zs : List (List Int)} {rs : List Nat} (h : WRows w base zs rs) {i : Nat} (hi : i < rs.length) : rs.getD i 0 < w.heap.size := ((h.each i hi).lt _ rfl).2
theorem WRows.next {w w' : World} {base : Nat} {zs : List (List Int)} {rs : List Nat} {r : Nat} (h : WRows w base zs rs) (hr : w.heap.size ≤ r) (hk : ∀ i, i < rs.length → w'.ownsRow base 3 1 (.slice (some ⟨rs.getD i 0, 0, none⟩) (rowX zs i).length (rowX zs i).length) (rowX zs i).length ((rowX zs i).map (Value.int .i64)))
 (ho : w'.ownsRow base 3 1 (.slice (some ⟨r, 0, none⟩) (rowX zs rs.length).length (rowX zs rs.length).length) (rowX zs rs.length).length ((rowX zs rs.length).map (Value.int .i64))) : WRows w' base zs (rs ++ [r]) := by
 have key : ∀ i, i < (rs ++ [r]).length → (rs ++ [r]).getD i 0 = if i < rs.length then rs.getD i 0 else r := fun i hi => by
  rw [List.length_append, List.length_singleton] at hi
  by_cases h1 : i < rs.length
  ·rw [if_pos h1, List.getD_eq_getElem?_getD, List.getD_eq_getElem?_getD, List.getElem?_append_left h1]
  ·obtain rfl : i = rs.length := by omega
   rw [if_neg h1]
   simp [List.getD_eq_getElem?_getD]
 refine ⟨fun i hi => ?_, fun i j hi hj hn => ?_⟩
 ·rw [key i hi]
  rw [List.length_append, List.length_singleton] at hi
  by_cases h1 : i < rs.length
  ·rw [if_pos h1]
   exact hk i h1
  ·obtain rfl : i = rs.length := by omega
   rw [if_neg h1]
   exact ho
 ·rw [key i hi, key j hj]
  rw [List.length_append, List.length_singleton] at hi hj
  by_cases h1 : i < rs.length
  ·rw [if_pos h1]
   by_cases h2 : j < rs.length
   ·rw [if_pos h2]
    exact h.apart i j h1 h2 hn
   ·rw [if_neg h2]
    have := h.lt h1
    omega
  ·rw [if_neg h1]
   by_cases h2 : j < rs.length
   ·rw [if_pos h2]
    have := h.lt h2
    omega
   ·omega
def nilS : Value := .slice none 0 0
def fillR (zs : List (List Int)) (rs : List Nat) (n : Nat) : List Value := rowsV zs rs ++ List.replicate (n + 64 - rs.length) nilS
theorem fillR_zero (zs : List (List Int)) (n : Nat) : fillR zs [] n = List.replicate (n + 64) nilS := by simp [fillR, rowsV]
theorem fillR_set {zs : List (List Int)} {rs : List Nat} {n r : Nat} (h : rs.length < n + 64) : (fillR zs rs n).set rs.length (rowV zs rs.length r) = fillR zs (rs ++ [r]) n := by
 unfold fillR
 rw [List.set_append_right _ _ (by rw [rowsV_length]; exact Nat.le_refl _), rowsV_length, Nat.sub_self, rowsV_app, List.append_assoc]
 congr 1
 obtain ⟨q, hq⟩ : ∃ q, n + 64 - rs.length = q + 1 := ⟨n + 64 - rs.length - 1, by omega⟩
 rw [hq, List.replicate_succ, List.set_cons_zero, List.length_append, List.length_singleton, show n + 64 - (rs.length + 1) = q by omega]
 rfl
structure WrI (w wr : World) (n : Nat) (zs : List (List Int)) (rs : List Nat) : Prop where
 bl : Below w.heap.size w wr
 z : wr.ownsRow w.heap.size 28 1 (.slice (some ⟨w.heap.size, 0, none⟩) (n + 64) (n + 64)) (n + 64) (fillR zs rs n)
 rows : WRows wr w.heap.size zs rs
def WideRPost (zs : List (List Int)) (w : World) (e : Ending) (w' : World) : Prop :=
 ∃ rs : List Nat, rs.length = zs.length + 64 ∧ e = .returned (.slice (some ⟨w.heap.size, 0, none⟩) zs.length (zs.length + 64)) ∧ WrI w w' zs.length zs rs
/-- A row has been made and is laid into the list. -/
theorem WrI.next {w wr w1 : World} {n r : Nat} {zs : List (List Int)} {rs : List Nat} (h : WrI w wr n zs rs) (hb : Below wr.heap.size wr w1) (hr : wr.heap.size ≤ r) (hn : rs.length < n + 64)
 (ho : w1.ownsRow wr.heap.size 3 1 (.slice (some ⟨r, 0, none⟩) (rowX zs rs.length).length (rowX zs rs.length).length) (rowX zs rs.length).length ((rowX zs rs.length).map (Value.int .i64))) :
 WrI w (w1.setCell ⟨w.heap.size, rs.length, none⟩ (rowV zs rs.length r)) n zs (rs ++ [r]) := by
 have hz := G.own_below h.z hb
 have hst := hz.stored rs.length (rowV zs rs.length r)
 rw [fillR_set hn] at hst
 have hs := h.bl.size
 refine ⟨(G.bl_trans h.bl hb).setCell (Nat.le_refl _) _, hst.1, (h.rows).next hr (fun i hi => own_far (G.own_below (h.rows.each i hi) hb) hz hst.2 (by decide)) (own_far (G.own_ge ho hs) hz hst.2 (by decide))⟩
theorem WrI.next1 {w wr : World} {n : Nat} {u : Int} {zs : List (List Int)} {rs : List Nat} (h : WrI w wr n zs rs) (hn : rs.length < n + 64) (hz : ¬ rs.length < zs.length) (hu : u = markI rs.length) :
 WrI w ((wr.setCell ⟨w.heap.size, rs.length, none⟩ (.slice (some ⟨wr.heap.size, 0, none⟩) 1 1)).alloc (.cells #[.int .i64 u] 3)) n zs (rs ++ [wr.heap.size]) := by
 have hlt := (h.z.lt w.heap.size rfl).2
 have h1 := h.next (r := wr.heap.size) (G.bl_alloc (Below.refl wr.heap.size wr) (.cells #[.int .i64 u] 3)) (Nat.le_refl _) hn (by
  rw [rowX_hi hz, ← hu]
  exact (G.Blk.new wr 3 #[.int .i64 u]).own (cap := 1) (n := 1) (sz := 1) (Nat.le_refl _) (Nat.le_refl _) (by unfold maxLen; omega) rfl)
 rw [rowV_hi hz, World.setCell_alloc_past _ _ _ _ hlt] at h1
 exact h1
set_option maxRecDepth 100000 in
set_option maxHeartbeats 4000000 in
theorem wideRows_any (za : Option Addr) (zc : Nat) (zs : List (List Int)) (rows : List Value) (w : World) (hz : G.RdS w za 1 zs.length rows) (hr : ∀ i, i < zs.length → RdRow w (rows.getD i undef) (zs.getD i [])) (hn : zs.length ≤ 33554432) (hl : ∀ i, (zs.getD i []).length ≤ 33554432) :
 Calls Tryz.prog 55 #[.slice za zs.length zc] w (WideRPost zs w) := by
 obtain ⟨i0, hi, hz0, hz1, hz2⟩ := info_parts infoRow
 obtain ⟨iI, hiI, hzI0, hzI1, hzI2⟩ := info_parts infoInt
 have HZ := Lib.hid hz
 have HR := Lib.hid hr
 have HL := Lib.hid hl
 obtain ⟨n, hn'⟩ : ∃ n, n = zs.length := ⟨_, rfl⟩
 rw [← hn'] at hn ⊢
 have HN := Lib.hid hn'
 clear hz hr hl hn'
 go_enter Tryz.func55, Tryz.ntmps55
 go_wp2_with (refine wpList_make_full _ rfl _ _ 24 rfl w.heap.size 28 i0 _ 1 Tryz.underlying24 hi hz0 hz1 .i64 .i64 _ _ (n + 64) rfl rfl (by simp) (by simp) (by rw [hz2]; omega) (by unfold maxLen; omega) (Nat.le_refl _) ?_; intro w1 ho1 hg1)
 have hb1 : Below w.heap.size w w1 := (Below.refl _ _).grown hg1 (Nat.le_refl _) (by simp)
 have hz : (madeCells (Value.slice none 0 0).cells ((n + 64) * 1)).toList = List.replicate (n + 64) nilS := by
  rw [show (Value.slice none 0 0).cells = #[.slice none 0 0] from rfl, toList_madeCells_one, Nat.mul_one]
  rfl
 rw [hz, ← fillR_zero zs n] at ho1
 have HI1 := Lib.hid (show WrI w w1 n zs [] from ⟨hb1, ho1, ⟨fun i hi => by simp at hi, fun i j hi => by simp at hi⟩⟩)
 clear hz ho1 hg1 hb1
 go_wp2
 go_loopw [4] (fun i wr => ∃ rs : List Nat, rs.length ≤ n + 64 ∧ i = .int .i64 rs.length ∧ WrI w wr n zs rs) (fun i _ => n + 64 - (intOf i).toNat)
 case atStart => exact ⟨[], Nat.zero_le _, rfl, HI1.out⟩
 case round =>
  obtain ⟨rs, hk, rfl, hwi⟩ := hrel
  have HWI := Lib.hid hwi
  obtain ⟨k, hkk⟩ : ∃ k, k = rs.length := ⟨_, rfl⟩
  have HK := Lib.hid hkk
  rw [← hkk] at hk ⊢
  have hws := hwi.bl.size
  clear hwi hkk
  by_cases hlt : k < n + 64
  ·have h0 : (k : Int) < n + 64 := by omega
   have h1 : (0 : Int) ≤ k := by omega
   obtain ⟨y, hc0⟩ := G.own_some HWI.out.z k (by omega)
   have hf0 := HWI.out.z.frozenAt k
   have hgl := World.block_lt_of_cell? _ _ hc0
   by_cases hkn : k < n
   ·have hknI : (k : Int) < n := by omega
    have hkz : k < zs.length := by rw [← HN.out]; exact hkn
    obtain ⟨b, off, hza, hcz⟩ := rows_at (HZ.out.below HWI.out.bl) hkz
    obtain ⟨ra, rk, hrv, hrz⟩ := HR.out k hkz
    rw [hrv] at hcz
    subst hza
    obtain ⟨Z, hZ⟩ : ∃ Z, Z = zs.getD k [] := ⟨_, rfl⟩
    rw [← hZ] at hcz hrz
    have HZZ := Lib.hid hZ
    have HWN := Lib.hid (wideInts_any ra rk Z wr (by have := hrz.below HWI.out.bl; exact this) (by rw [hZ]; exact HL.out k))
    clear hZ hrv hrz
    go_wp2_with (go_at_call 43; (with_reducible refine (HWN.out).mono ?_); rintro e2 w2 ⟨rfl, ho2, hb2⟩; have HO2 := Lib.hid ho2; have HB2 := Lib.hid hb2; obtain ⟨y2, hy2⟩ : ∃ y2, w2.cell? ⟨w.heap.size, k, none⟩ = some y2 := ⟨_, (hb2.cell hgl).trans hc0⟩; have hf2 := (G.own_below HWI.out.z hb2).frozenAt k; have hgl2 := World.block_lt_of_cell? _ _ hy2; clear ho2 hb2)
    have HNX := Lib.hid (HWI.out.next (r := wr.heap.size) HB2.out (Nat.le_refl _) (by rw [← HK.out]; exact hlt) (by rw [← HK.out, rowX_lo hkz, ← HZZ.out, wideI_length]; exact HO2.out))
    rw [← HK.out, rowV_lo hkz, ← HZZ.out] at HNX
    go_roundw
    case rel => exact ⟨rs ++ [wr.heap.size], by rw [List.length_append, List.length_singleton, ← HK.out]; omega, by rw [List.length_append, List.length_singleton, ← HK.out]; go_num, HNX.out⟩
    case measure => simp [intOf]; omega
   ·have hknI : ¬ (k : Int) < n := by omega
    have hkz : ¬ k < zs.length := by rw [← HN.out]; exact hkn
    obtain ⟨u, hu⟩ : ∃ u, u = markI k := ⟨_, rfl⟩
    have HNUM := Lib.hid (fun W => (show Calls Tryz.prog 98 #[.int .i64 9, .int .i64 (k : Int)] W _ from num_any 9 k W (by omega) (by omega)))
    rw [show (1048576 * ((9 : Nat) : Int) + (k : Int) + 1) = u from hu.symm] at HNUM
    have HU := Lib.hid hu
    clear hu
    go_wp2_with (go_at_call 98; (with_reducible refine (HNUM.out _).mono ?_); rintro e2 w2 ⟨rfl, rfl⟩)
    have HNX := Lib.hid (HWI.out.next1 (u := u) (by rw [← HK.out]; exact hlt) (by rw [← HK.out]; exact hkz) (by rw [HU.out, HK.out]))
    rw [← HK.out] at HNX
    go_roundw
    case rel => exact ⟨rs ++ [wr.heap.size], by rw [List.length_append, List.length_singleton, ← HK.out]; omega, by rw [List.length_append, List.length_singleton, ← HK.out]; go_num, HNX.out⟩
    case measure => simp [intOf]; omega
  ·have hkn : k = n + 64 := by omega
   have h1 : ¬ (k : Int) < n + 64 := by omega
   have HF := Lib.hid (show WideRPost zs w (.returned (.slice (some ⟨w.heap.size, 0, none⟩) n (n + 64))) wr from ⟨rs, by rw [← HK.out, hkn, HN.out], by rw [HN.out], by rw [← HN.out]; exact HWI.out⟩)
   go_wp2
   go_ret
   exact HF.out
/-- The rows of a wide list read, and their marks stand. -/
theorem WRows.rd {w : World} {base : Nat} {zs : List (List Int)} {rs : List Nat} (h : WRows w base zs rs) {i : Nat} (hi : i < rs.length) : G.RdV w (rs.getD i 0) 0 ((rowX zs i).map (Value.int .i64)) := own_rd_all (h.each i hi)
set_option maxRecDepth 100000 in
set_option maxHeartbeats 4000000 in
theorem spareRows_any (gz base : Nat) (zs : List (List Int)) (rs : List Nat) (w : World) (hz : G.RdV w gz 0 (rowsV zs rs)) (hr : WRows w base zs rs) (hk : rs.length = zs.length + 64) (hn : zs.length ≤ 33554432) (hl : ∀ i, (zs.getD i []).length ≤ 33554432) :
 Calls Tryz.prog 125 #[.slice (some ⟨gz, 0, none⟩) zs.length (zs.length + 64)] w (BoolPost true w) := by
 have HZ := Lib.hid hz
 have HR := Lib.hid hr
 have HL := Lib.hid hl
 have HK := Lib.hid hk
 obtain ⟨n, hn'⟩ : ∃ n, n = zs.length := ⟨_, rfl⟩
 rw [← hn'] at hn HK ⊢
 have HN := Lib.hid hn'
 have HC := Lib.hid (fun i (hi : i < n + 64) => (show w.cell? ⟨gz, i, none⟩ = some (rowV zs i (rs.getD i 0)) by
  have h1 := hz.2 i (by rw [rowsV_length, hk, ← hn']; exact hi)
  rw [Nat.zero_add, rowsV_at (by rw [hk, ← hn']; exact hi)] at h1
  exact h1))
 have hgz : gz < w.heap.size := hz.1
 clear hz hr hl hk hn'
 go_enter Tryz.func125, Tryz.ntmps125
 go_wp2
 go_loopw [4, 5] (fun i v wr => ∃ k : Nat, n ≤ k ∧ k ≤ n + 64 ∧ i = .int .i64 k ∧ Below w.heap.size w wr) (fun i _ _ => n + 64 - (intOf i).toNat)
 case atStart => exact ⟨n, Nat.le_refl _, by omega, rfl, Below.refl _ _⟩
 case round =>
  obtain ⟨k, hk0, hk, rfl, hb⟩ := hrel
  have HB := Lib.hid hb
  have hs := hb.size
  clear hb
  by_cases hlt : k < n + 64
  ·have h0 : (k : Int) < n + 64 := by omega
   have h1 : (0 : Int) ≤ k := by omega
   have hkr : k < rs.length := by rw [HK.out]; exact hlt
   have hkz : ¬ k < zs.length := by rw [← HN.out]; omega
   have hcz := (HB.out.cell (p := ⟨gz, k, none⟩) hgz).trans (HC.out k hlt)
   rw [rowV_hi hkz] at hcz
   obtain ⟨r, hr⟩ : ∃ r, r = rs.getD k 0 := ⟨_, rfl⟩
   have hrl := HR.out.lt hkr
   have hrd := (HR.out.rd hkr).2 0 (by rw [rowX_hi hkz]; simp)
   rw [rowX_hi hkz] at hrd
   rw [← hr] at hcz hrl hrd
   obtain ⟨u, hu⟩ : ∃ u, u = markI k := ⟨_, rfl⟩
   have hcr : wr.cell? ⟨r, 0, none⟩ = some (.int .i64 u) := by rw [hu]; exact (HB.out.cell (p := ⟨r, 0, none⟩) hrl).trans hrd
   have HNUM := Lib.hid (fun W => (show Calls Tryz.prog 98 #[.int .i64 9, .int .i64 (k : Int)] W _ from num_still 9 k W (by omega) (by omega)))
   rw [show (1048576 * ((9 : Nat) : Int) + (k : Int) + 1) = u from hu.symm] at HNUM
   clear hu hr hrd
   go_upto_region 6 with (fail)
   go_quiet ((go_at_call 98; exact Calls.quiet_of_same (HNUM.out _)))
   go_wp2_with fail
   go_roundw
   case rel => exact ⟨k + 1, by omega, by omega, by go_num, G.bl_drewN HB.out _⟩
   case measure => simp [intOf]; omega
  ·have h1 : ¬ (k : Int) < n + 64 := by omega
   go_wp2
   go_loopw [6] (fun i wr => ∃ k : Nat, k ≤ n ∧ i = .int .i64 k ∧ Below w.heap.size w wr) (fun i _ => n - (intOf i).toNat)
   case atStart => exact ⟨0, Nat.zero_le _, rfl, HB.out⟩
   case round =>
    obtain ⟨j, hj, rfl, hb⟩ := hrel
    have HB2 := Lib.hid hb
    have hs2 := hb.size
    clear hb
    have hj0 : (0 : Int) ≤ j := by omega
    by_cases hjn : j < n
    ·have hjI : (j : Int) < n := by omega
     have hjz : j < zs.length := by rw [← HN.out]; exact hjn
     have hjr : j < rs.length := by rw [HK.out]; omega
     have hcz := (HB2.out.cell (p := ⟨gz, j, none⟩) hgz).trans (HC.out j (by omega))
     rw [rowV_lo hjz] at hcz
     have hrd := (HR.out.rd hjr).below HB2.out
     rw [rowX_lo hjz] at hrd
     have hll := HL.out j
     obtain ⟨r, hr⟩ : ∃ r, r = rs.getD j 0 := ⟨_, rfl⟩
     obtain ⟨Z, hZ⟩ : ∃ Z, Z = zs.getD j [] := ⟨_, rfl⟩
     rw [← hr, ← hZ] at hcz hrd
     rw [← hZ] at hll
     have HSP := Lib.hid (spareInts_any r Z _ hrd hll)
     clear hrd hr hZ
     go_wp2_with (go_at_call 47; (with_reducible refine (HSP.out).mono ?_); rintro e2 w2 ⟨rfl, rfl⟩)
     go_roundw
     case rel => exact ⟨j + 1, by omega, by go_num, HB2.out⟩
     case measure => simp [intOf]; omega
    ·have hjI : ¬ (j : Int) < n := by omega
     go_wp2
     go_ret
     exact ⟨rfl, HB2.out⟩
end Go.Proofs.YtofgmijmhpmabaaGreatDoor.D
namespace Go.Proofs.YtofgmijmhpmabaaGreatDoor.D
open Go Go.RowKit
set_option linter.unusedVariables false
set_option linter.unusedSimpArgs false
/-- Where the lists of a state with marks behind them lie. -/
def wSV (s : St) (gp gc gz : Nat) (rs : List Nat) : SV := ⟨some ⟨gp, 0, none⟩, s.players.length + 64, some ⟨gc, 0, none⟩, s.cards.length + 64, some ⟨gz, 0, none⟩, s.zones.length + 64, (rowsV s.zones rs).take s.zones.length⟩
structure WideSt (w : World) (base : Nat) (s : St) (gp gc gz : Nat) (rs : List Nat) : Prop where
 p : w.ownsRow base 103 3 (.slice (some ⟨gp, 0, none⟩) (s.players.length + 64) (s.players.length + 64)) (s.players.length + 64) (flatP (widePl s.players))
 c : w.ownsRow base 101 6 (.slice (some ⟨gc, 0, none⟩) (s.cards.length + 64) (s.cards.length + 64)) (s.cards.length + 64) (flatC (wideCd s.cards))
 z : w.ownsRow base 28 1 (.slice (some ⟨gz, 0, none⟩) (s.zones.length + 64) (s.zones.length + 64)) (s.zones.length + 64) (rowsV s.zones rs)
 len : rs.length = s.zones.length + 64
 rows : WRows w base s.zones rs
theorem WideSt.below {w w' : World} {base : Nat} {s : St} {gp gc gz : Nat} {rs : List Nat} (h : WideSt w base s gp gc gz rs) (hb : Below w.heap.size w w') : WideSt w' base s gp gc gz rs :=
 ⟨G.own_below h.p hb, G.own_below h.c hb, G.own_below h.z hb, h.len, h.rows.below hb⟩
/-- A part of a row that is owned. -/
theorem own_take {w : World} {base e sz g N n : Nat} {xs : List Value} (h : w.ownsRow base e sz (.slice (some ⟨g, 0, none⟩) N N) N xs) (hn : n ≤ N) : w.ownsRow base e sz (.slice (some ⟨g, 0, none⟩) n N) n (xs.take (n * sz)) := by
 have hl := h.1
 have hm : n * sz ≤ N * sz := Nat.mul_le_mul_right _ hn
 refine ⟨by rw [List.length_take]; omega, ?_⟩
 rcases h.2 with ⟨h1, _⟩ | ⟨g2, cap, cur, hv, hb, hg, h1, h2, h3, h4⟩
 ·cases h1
 ·simp only [Value.slice.injEq, Option.some.injEq, Addr.mk.injEq, and_true, true_and] at hv
  obtain ⟨rfl, rfl⟩ := hv
  refine .inr ⟨g, N, cur, rfl, hb, hg, hn, h2, h3, ?_⟩
  rw [← h4, List.take_take, Nat.min_eq_left hm]
theorem take_flat {α : Type} (f : α → List Value) (sz : Nat) (hf : ∀ x, (f x).length = sz) : ∀ (l m : List α), ((l ++ m).flatMap f).take (l.length * sz) = l.flatMap f
 | l, m => by
  have hl : (l.flatMap f).length = l.length * sz := by
   induction l with
   | nil => simp
   | cons a l ih => simp [hf, ih, Nat.succ_mul]; omega
  rw [List.flatMap_append, ← hl, List.take_left]
theorem WideSt.own {w : World} {base : Nat} {s : St} {gp gc gz : Nat} {rs : List Nat} (h : WideSt w base s gp gc gz rs) : OwnSt w base (wSV s gp gc gz rs) s := by
 have hrl : ∀ i, i < s.zones.length → (wSV s gp gc gz rs).rows.getD i undef = .slice (some ⟨rs.getD i 0, 0, none⟩) (s.zones.getD i []).length ((s.zones.getD i []).length + 64) := fun i hi => by
  have h1 := rowsV_at (zs := s.zones) (rs := rs) (i := i) (by rw [h.len]; omega)
  rw [rowV_lo hi] at h1
  rw [← h1]
  show ((rowsV s.zones rs).take s.zones.length).getD i undef = _
  rw [List.getD_eq_getElem?_getD, List.getD_eq_getElem?_getD, List.getElem?_take_of_lt hi]
 refine ⟨?_, ?_, ?_, fun i hi => ?_, fun i j hi hj hn => ?_⟩
 ·have h1 := own_take h.p (n := s.players.length) (by omega)
  rw [show flatP (widePl s.players) = (s.players ++ marksPl s.players.length).flatMap Pl.cells from rfl, take_flat Pl.cells 3 (fun _ => rfl)] at h1
  exact h1
 ·have h1 := own_take h.c (n := s.cards.length) (by omega)
  rw [show flatC (wideCd s.cards) = (s.cards ++ marksCd s.cards.length).flatMap Cd.cells from rfl, take_flat Cd.cells 6 (fun _ => rfl)] at h1
  exact h1
 ·have h1 := own_take h.z (n := s.zones.length) (by omega)
  rw [Nat.mul_one] at h1
  exact h1
 ·rw [hrl i hi]
  have h1 := h.rows.each i (by rw [h.len]; omega)
  rw [rowX_lo hi, wideI_length] at h1
  have h2 := own_take h1 (n := (s.zones.getD i []).length) (by omega)
  rw [Nat.mul_one, ← List.map_take, show (wideI (s.zones.getD i [])).take (s.zones.getD i []).length = s.zones.getD i [] by unfold wideI; exact List.take_left] at h2
  exact h2
 ·rw [hrl i hi, hrl j hj]
  refine .inr fun e => h.rows.apart i j (by rw [h.len]; omega) (by rw [h.len]; omega) hn ?_
  simpa [Value.ownBlock] using e
def WideStPost (s : St) (w : World) (e : Ending) (w' : World) : Prop := ∃ gp gc gz rs, e = .returned ((wSV s gp gc gz rs).val s) ∧ WideSt w' w.heap.size s gp gc gz rs ∧ Below w.heap.size w w'
set_option maxRecDepth 100000 in
set_option maxHeartbeats 4000000 in
theorem wideState_any (x : SV) (s : St) (w : World) (h : RdSt w x s) (hz : Sz s) : Calls Tryz.prog 13 #[x.val s] w (WideStPost s w) := by
 obtain ⟨fsS, hfsS⟩ := undSt
 have HFS := Lib.hid hfsS
 have HP := Lib.hid (fun W (hW : Below w.heap.size w W) => widePlayers_any x.pa x.pc s.players W (h.below hW).p hz.p)
 have HC := Lib.hid (fun W (hW : Below w.heap.size w W) => wideCards_any x.ca x.cc s.cards W (h.below hW).c (Nat.le_trans hz.c (by decide)))
 have HZ := Lib.hid (fun W (hW : Below w.heap.size w W) => wideRows_any x.za x.zc s.zones x.rows W (h.below hW).z (h.below hW).rows hz.z hz.r)
 unfold WidePlPost at HP
 unfold WideCdPost at HC
 unfold WideRPost at HZ
 obtain ⟨n, hn⟩ : ∃ n, n = s.players.length := ⟨_, rfl⟩
 obtain ⟨m, hm⟩ : ∃ m, m = s.cards.length := ⟨_, rfl⟩
 obtain ⟨k, hk⟩ : ∃ k, k = s.zones.length := ⟨_, rfl⟩
 rw [← hn] at HP
 rw [← hm] at HC
 rw [← hk] at HZ
 have HN := Lib.hid hn
 have HM := Lib.hid hm
 have HK := Lib.hid hk
 obtain ⟨pa, hpa⟩ : ∃ a, a = x.pa := ⟨_, rfl⟩
 obtain ⟨ca, hca⟩ : ∃ a, a = x.ca := ⟨_, rfl⟩
 obtain ⟨za, hza⟩ : ∃ a, a = x.za := ⟨_, rfl⟩
 rw [← hpa] at HP
 rw [← hca] at HC
 rw [← hza] at HZ
 obtain ⟨turn, hturn⟩ : ∃ a, a = s.turn := ⟨_, rfl⟩
 obtain ⟨whose, hwhose⟩ : ∃ a, a = s.whose := ⟨_, rfl⟩
 obtain ⟨fin, hfin⟩ : ∃ a, a = s.fin := ⟨_, rfl⟩
 obtain ⟨win, hwin⟩ : ∃ a, a = s.winner := ⟨_, rfl⟩
 have HT := Lib.hid (And.intro hturn (And.intro hwhose (And.intro hfin hwin)))
 have hv : x.val s = .agg #[.slice pa n x.pc, .slice ca m x.cc, .slice za k x.zc, .int .i32 turn, .int .i64 whose, .int .i8 fin, .int .i64 win] := by rw [hpa, hca, hza, hn, hm, hk, hturn, hwhose, hfin, hwin]; rfl
 rw [hv]
 clear h hz hn hm hk hpa hca hza hturn hwhose hfin hwin hv hfsS
 have H0 := two_new w 27 #[.slice pa n x.pc, .slice ca m x.cc, .slice za k x.zc, .int .i32 turn, .int .i64 whose, .int .i8 fin, .int .i64 win] zeroA
 go_enter Tryz.func13, Tryz.ntmps13
 go_upto_region 1 with (fail)
 obtain ⟨w0, hw0⟩ : ∃ w0, w0 = (w.alloc (.cells #[.slice pa n x.pc, .slice ca m x.cc, .slice za k x.zc, .int .i32 turn, .int .i64 whose, .int .i8 fin, .int .i64 win] 27)).alloc (.cells zeroA 27) := ⟨_, rfl⟩
 rw [← hw0] at H0
 unfold zeroA at hw0
 rw [← hw0]
 clear hw0
 obtain ⟨hb0, hb0', hbl0⟩ := H0
 have HBL0 := Lib.hid hbl0
 obtain ⟨g, hg⟩ : ∃ g, g = w.heap.size := ⟨_, rfl⟩
 have HG := Lib.hid hg
 rw [← hg] at hb0 hb0' ⊢
 have HB0 := Lib.hid hb0
 have HB0' := Lib.hid hb0'
 clear hb0' hbl0
 have c0 := hb0.cell 0
 have l0 := hb0.lt
 clear hb0 hg
 have HCL0 := Lib.hid (HP.out w0 HBL0.out)
 go_upto_region 2 with (((with_reducible refine (HCL0.out).mono ?_); rintro e1 w1 ⟨rfl, ho1, hb1⟩; have HO1 := Lib.hid ho1; have HBW1 := Lib.hid hb1; have hB1 := HB0.out.below hb1 HB0.out.lt; have c10 := hB1.cell 0; have f10 := hB1.frozen 0; have l1 := hB1.lt; clear ho1 hb1 hB1 c0 l0))
 have HBK2 := Lib.hid (HB0.out.below HBW1.out HB0.out.lt)
 have HF2 := Lib.hid (only_put (i := 0) HBK2.out (.slice (some ⟨w0.heap.size, 0, none⟩) n (n + 64)))
 have HBL2 := Lib.hid (show Below w.heap.size w (w1.setCell ⟨g, 0, none⟩ (.slice (some ⟨w0.heap.size, 0, none⟩) n (n + 64))) by rw [HG.out]; exact G.bl_set (G.bl_trans HBL0.out HBW1.out) (Nat.le_refl _) _)
 have HB2 := Lib.hid (HBK2.out.put 0 (.slice (some ⟨w0.heap.size, 0, none⟩) n (n + 64)))
 have HB2' := Lib.hid (blk_put_ne (i := 0) (u := .slice (some ⟨w0.heap.size, 0, none⟩) n (n + 64)) (HB0'.out.below HBW1.out HB0'.out.lt) (show g + 1 ≠ g by omega))
 have HOP2 := Lib.hid (HF2.out.own HO1.out (by decide))
 have HSZ2 := Lib.hid (show w0.heap.size ≤ w1.heap.size from HBW1.out.size)
 obtain ⟨w2, hw2⟩ : ∃ w2, w2 = w1.setCell ⟨g, 0, none⟩ (.slice (some ⟨w0.heap.size, 0, none⟩) n (n + 64)) := ⟨_, rfl⟩
 rw [← hw2] at HB2 HB2' HBL2 HOP2 ⊢
 have HSZb2 := Lib.hid (show w0.heap.size ≤ w2.heap.size by rw [hw2]; have := HSZ2.out; simpa [World.setCell] using this)
 clear hw2 HF2 HBK2 c10 f10 l1
 simp only [List.setIfInBounds_toArray, List.set_cons_zero, List.set_cons_succ] at HB2
 have c2 := HB2.out.cell 1
 have l2 := HB2.out.lt
 have HCL1 := Lib.hid (HC.out w2 HBL2.out)
 go_upto_region 3 with (((with_reducible refine (HCL1.out).mono ?_); rintro e3 w3 ⟨rfl, ho3, hb3⟩; have HO3 := Lib.hid ho3; have HBW3 := Lib.hid hb3; have hB3 := HB2.out.below hb3 HB2.out.lt; have c30 := hB3.cell 1; have f30 := hB3.frozen 1; have l3 := hB3.lt; clear ho3 hb3 hB3 c2 l2))
 have HBK4 := Lib.hid (HB2.out.below HBW3.out HB2.out.lt)
 have HF4 := Lib.hid (only_put (i := 1) HBK4.out (.slice (some ⟨w2.heap.size, 0, none⟩) m (m + 64)))
 have HBL4 := Lib.hid (show Below w.heap.size w (w3.setCell ⟨g, 1, none⟩ (.slice (some ⟨w2.heap.size, 0, none⟩) m (m + 64))) by rw [HG.out]; exact G.bl_set (G.bl_trans HBL2.out HBW3.out) (Nat.le_refl _) _)
 have HB4 := Lib.hid (HBK4.out.put 1 (.slice (some ⟨w2.heap.size, 0, none⟩) m (m + 64)))
 have HB4' := Lib.hid (blk_put_ne (i := 1) (u := .slice (some ⟨w2.heap.size, 0, none⟩) m (m + 64)) (HB2'.out.below HBW3.out HB2'.out.lt) (show g + 1 ≠ g by omega))
 have HOP4 := Lib.hid (HF4.out.own (G.own_below HOP2.out HBW3.out) (by decide))
 have HOC4 := Lib.hid (HF4.out.own HO3.out (by decide))
 have HSZ4 := Lib.hid (show w2.heap.size ≤ w3.heap.size from HBW3.out.size)
 obtain ⟨w4, hw4⟩ : ∃ w4, w4 = w3.setCell ⟨g, 1, none⟩ (.slice (some ⟨w2.heap.size, 0, none⟩) m (m + 64)) := ⟨_, rfl⟩
 rw [← hw4] at HB4 HB4' HBL4 HOP4 HOC4 ⊢
 have HSZb4 := Lib.hid (show w2.heap.size ≤ w4.heap.size by rw [hw4]; have := HSZ4.out; simpa [World.setCell] using this)
 clear hw4 HF4 HBK4 c30 f30 l3
 simp only [List.setIfInBounds_toArray, List.set_cons_zero, List.set_cons_succ] at HB4
 have c4 := HB4.out.cell 2
 have l4 := HB4.out.lt
 have HCL2 := Lib.hid (HZ.out w4 HBL4.out)
 go_upto_region 4 with (((with_reducible refine (HCL2.out).mono ?_); rintro e5 w5 ⟨rs, hrs, rfl, hwi⟩; have HRS := Lib.hid hrs; have HWI := Lib.hid hwi; have HBW5 := Lib.hid hwi.bl; have hB5 := HB4.out.below hwi.bl HB4.out.lt; have c50 := hB5.cell 2; have f50 := hB5.frozen 2; have l5 := hB5.lt; clear hrs hwi hB5 c4 l4))
 have HBK6 := Lib.hid (HB4.out.below HBW5.out HB4.out.lt)
 have HF6 := Lib.hid (only_put (i := 2) HBK6.out (.slice (some ⟨w4.heap.size, 0, none⟩) k (k + 64)))
 have HBL6 := Lib.hid (show Below w.heap.size w (w5.setCell ⟨g, 2, none⟩ (.slice (some ⟨w4.heap.size, 0, none⟩) k (k + 64))) by rw [HG.out]; exact G.bl_set (G.bl_trans HBL4.out HBW5.out) (Nat.le_refl _) _)
 have HB6 := Lib.hid (HBK6.out.put 2 (.slice (some ⟨w4.heap.size, 0, none⟩) k (k + 64)))
 have HB6' := Lib.hid (blk_put_ne (i := 2) (u := .slice (some ⟨w4.heap.size, 0, none⟩) k (k + 64)) (HB4'.out.below HBW5.out HB4'.out.lt) (show g + 1 ≠ g by omega))
 have HOP6 := Lib.hid (HF6.out.own (G.own_below HOP4.out HBW5.out) (by decide))
 have HOC6 := Lib.hid (HF6.out.own (G.own_below HOC4.out HBW5.out) (by decide))
 have HOZ6 := Lib.hid (HF6.out.own HWI.out.z (by decide))
 have HOR6 := Lib.hid (show ∀ i, i < rs.length → _ from fun i hi => HF6.out.own (HWI.out.rows.each i hi) (by decide))
 have HAP6 := Lib.hid HWI.out.rows.apart
 obtain ⟨w6, hw6⟩ : ∃ w6, w6 = w5.setCell ⟨g, 2, none⟩ (.slice (some ⟨w4.heap.size, 0, none⟩) k (k + 64)) := ⟨_, rfl⟩
 rw [← hw6] at HB6 HB6' HBL6 HOP6 HOC6 HOZ6 HOR6 ⊢
 clear hw6 HF6 HBK6 c50 f50 l5
 simp only [List.setIfInBounds_toArray, List.set_cons_zero, List.set_cons_succ] at HB6
 obtain ⟨cf, hcf⟩ : ∃ cf : Array Value, cf = #[.slice (some ⟨w0.heap.size, 0, none⟩) n (n + 64), .slice (some ⟨w2.heap.size, 0, none⟩) m (m + 64), .slice (some ⟨w4.heap.size, 0, none⟩) k (k + 64), .int .i32 turn, .int .i64 whose, .int .i8 fin, .int .i64 win] := ⟨_, rfl⟩
 rw [← hcf] at HB6
 have HSF := Lib.hid (show cf.size = 7 by rw [hcf]; rfl)
 have HAF := Lib.hid (show cf.all (·.oneCell') = true by rw [hcf]; simp [Value.oneCell'])
 have HCF := Lib.hid hcf
 clear hcf
 go_wp2_with (first | (refine wpList_load_row rfl 27 _ rfl g rfl _ cf (0, 0) _ HB6.out HFS.out rfl (by rw [HSF.out]; exact sizeSt) ?_) | (refine wpList_store_row rfl 27 _ _ rfl (g + 1) cf rfl rfl 27 _ HB6'.out (by rw [HSF.out]; kernel_rfl) (by rw [HSF.out]; rfl) HAF.out ?_))
 have HF8 := only_row (cs2 := cf) HB6'.out
 have hg0 : w.heap.size ≤ w0.heap.size := HBL0.out.size
 have hg2 := HSZb2.out
 have hg4 := HSZb4.out
 refine bodyPost_ret (v := .agg cf) (st_result rfl _ _ (g + 1) _ rfl (setRow_heap _ _ _ _ _ _ HB6'.out) HSF.out) rfl ⟨w0.heap.size, w2.heap.size, w4.heap.size, rs, ?_, ⟨?_, ?_, ?_, ?_, ⟨fun i hi => ?_, HAP6.out⟩⟩, ?_⟩
 ·rw [HCF.out, HN.out, HM.out, HK.out, HT.out.1, HT.out.2.1, HT.out.2.2.1, HT.out.2.2.2]
  rfl
 ·rw [← HN.out]
  exact HF8.own (G.own_ge HOP6.out hg0) (by decide)
 ·rw [← HM.out]
  exact HF8.own (G.own_ge HOC6.out (by omega)) (by decide)
 ·have h9 := HOZ6.out
  unfold fillR at h9
  rw [HRS.out, Nat.sub_self, List.replicate_zero, List.append_nil] at h9
  rw [← HK.out]
  exact HF8.own (G.own_ge h9 (by omega)) (by decide)
 ·rw [HRS.out, HK.out]
 ·exact HF8.own (G.own_ge (HOR6.out i hi) (by omega)) (by decide)
 ·exact below_setRow HBL6.out (by have := HG.out; omega) _
set_option maxRecDepth 100000 in
set_option maxHeartbeats 4000000 in
theorem spareState_any (gp gc gz base : Nat) (rs : List Nat) (s : St) (w : World) (h : WideSt w base s gp gc gz rs) (hz : Sz s) : Calls Tryz.prog 62 #[(wSV s gp gc gz rs).val s] w (BoolPost true w) := by
 have HW := Lib.hid h
 have HZ := Lib.hid hz
 have HP := Lib.hid (fun W (hW : Below w.heap.size w W) => sparePlayers_any gp s.players W (own_rd_all (h.below hW).p) hz.p)
 have HC := Lib.hid (fun W (hW : Below w.heap.size w W) => spareCards_any gc s.cards W (own_rd_all (h.below hW).c) (Nat.le_trans hz.c (by decide)))
 have HR := Lib.hid (fun W (hW : Below w.heap.size w W) => spareRows_any gz base s.zones rs W (own_rd_all (h.below hW).z) (h.below hW).rows h.len hz.z hz.r)
 obtain ⟨n, hn⟩ : ∃ n, n = s.players.length := ⟨_, rfl⟩
 obtain ⟨m, hm⟩ : ∃ m, m = s.cards.length := ⟨_, rfl⟩
 obtain ⟨k, hk⟩ : ∃ k, k = s.zones.length := ⟨_, rfl⟩
 rw [← hn] at HP
 rw [← hm] at HC
 rw [← hk] at HR
 obtain ⟨cs, hcs⟩ : ∃ c, c = (wSV s gp gc gz rs).arr s := ⟨_, rfl⟩
 have HBX := Lib.hid (G.Blk.new w 27 cs)
 obtain ⟨w1, hw1⟩ : ∃ w1, w1 = w.alloc (.cells cs 27) := ⟨_, rfl⟩
 have HB1 := Lib.hid (show Below w.heap.size w w1 by rw [hw1]; exact G.bl_alloc (Below.refl _ _) _)
 rw [← hw1] at HBX
 have HC0 := Lib.hid (show cs[0]? = some (.slice (some ⟨gp, 0, none⟩) n (n + 64)) by rw [hcs, hn]; rfl)
 have HC1 := Lib.hid (show cs[1]? = some (.slice (some ⟨gc, 0, none⟩) m (m + 64)) by rw [hcs, hm]; rfl)
 have HC2 := Lib.hid (show cs[2]? = some (.slice (some ⟨gz, 0, none⟩) k (k + 64)) by rw [hcs, hk]; rfl)
 have he : (wSV s gp gc gz rs).val s = .agg cs := by rw [hcs]; rfl
 rw [he]
 clear h hz hn hm hk hcs he
 have c0 := (HBX.out.cell 0).trans HC0.out
 have l0 := HBX.out.lt
 go_enter Tryz.func62, Tryz.ntmps62
 go_upto_region 1 with (fail)
 rw [← hw1]
 clear hw1
 go_wp2_with (first
  | (go_at_call 123; (with_reducible refine (HP.out _ HB1.out).mono ?_); rintro e2 w2 ⟨rfl, hb2⟩; have HB2 := Lib.hid (G.bl_trans HB1.out hb2); have HBX2 := Lib.hid (HBX.out.below hb2 HBX.out.lt); have c1 := (HBX2.out.cell 1).trans HC1.out; have l2 := HBX2.out.lt; clear hb2)
  | (go_at_call 124; (with_reducible refine (HC.out _ HB2.out).mono ?_); rintro e3 w3 ⟨rfl, hb3⟩; have HB3 := Lib.hid (G.bl_trans HB2.out hb3); have HBX3 := Lib.hid (HBX2.out.below hb3 HBX2.out.lt); have c2 := (HBX3.out.cell 2).trans HC2.out; have l3 := HBX3.out.lt; clear hb3)
  | (go_at_call 125; (with_reducible refine (HR.out _ HB3.out).mono ?_); rintro e4 w4 ⟨rfl, hb4⟩; have HB4 := Lib.hid (G.bl_trans HB3.out hb4); clear hb4))
 go_ret
 exact ⟨rfl, HB4.out⟩
set_option maxRecDepth 100000 in
set_option maxHeartbeats 4000000 in
theorem stays_any (gp gc gz base : Nat) (rs : List Nat) (x : SV) (s : St) (w : World) (h : WideSt w base s gp gc gz rs) (hr : RdSt w x s) (hz : Sz s) : Calls Tryz.prog 18 #[(wSV s gp gc gz rs).val s, x.val s] w (BoolPost true w) := by
 obtain ⟨fsS, hfsS⟩ := undSt
 have HFS := Lib.hid hfsS
 have HEQ := Lib.hid (fun W (hW : Below w.heap.size w W) => eqState_any (wSV s gp gc gz rs) x s s W (h.below hW).own.rd (hr.below hW) hz hz)
 have HSP := Lib.hid (fun W (hW : Below w.heap.size w W) => spareState_any gp gc gz base rs s W (h.below hW) hz)
 rw [show decide (s = s) = true from decide_eq_true rfl] at HEQ
 obtain ⟨cs, hcs⟩ : ∃ c, c = (wSV s gp gc gz rs).arr s := ⟨_, rfl⟩
 obtain ⟨cx, hcx⟩ : ∃ c, c = x.arr s := ⟨_, rfl⟩
 have HS := Lib.hid (show cs.size = 7 by rw [hcs]; rfl)
 have HX := Lib.hid (show cx.size = 7 by rw [hcx]; rfl)
 have he : (wSV s gp gc gz rs).val s = .agg cs := by rw [hcs]; rfl
 have he2 : x.val s = .agg cx := by rw [hcx]; rfl
 rw [he, he2] at HEQ
 rw [he] at HSP
 rw [he, he2]
 clear h hr hz hcs hcx he he2 hfsS
 have H0 := two_new w 27 cs cx
 go_enter Tryz.func18, Tryz.ntmps18
 go_upto_region 1 with (fail)
 obtain ⟨w0, hw0⟩ : ∃ w0, w0 = (w.alloc (.cells cs 27)).alloc (.cells cx 27) := ⟨_, rfl⟩
 rw [← hw0] at H0 ⊢
 clear hw0
 obtain ⟨hb0, hb1, hbl⟩ := H0
 obtain ⟨g, hg⟩ : ∃ g, g = w.heap.size := ⟨_, rfl⟩
 rw [← hg] at hb0 hb1 ⊢
 have HB0 := Lib.hid hb0
 have HB1 := Lib.hid hb1
 have HBL := Lib.hid hbl
 clear hb0 hb1 hbl hg
 go_wp2_with (first
  | (refine wpList_load_row rfl 27 _ rfl g rfl _ cs (0, 0) _ HB0.out HFS.out rfl (by rw [HS.out]; exact sizeSt) ?_)
  | (refine wpList_load_row rfl 27 _ rfl (g + 1) rfl _ cx (0, 0) _ HB1.out HFS.out rfl (by rw [HX.out]; exact sizeSt) ?_)
  | ((with_reducible refine (HEQ.out _ HBL.out).mono ?_); rintro e2 w2 ⟨rfl, hb2⟩; have HB2 := Lib.hid (HB0.out.below hb2 HB0.out.lt); have HBL2 := Lib.hid (G.bl_trans HBL.out hb2); clear hb2)
  | (refine wpList_load_row_g (by rfl) 27 _ rfl g rfl _ cs (0, 0) _ HB2.out HFS.out rfl (by rw [HS.out]; exact sizeSt) ?_)
  | ((with_reducible refine (HSP.out _ HBL2.out).mono ?_); rintro e3 w3 ⟨rfl, hb3⟩; have HBL3 := Lib.hid (G.bl_trans HBL2.out hb3); clear hb3))
 go_ret
 exact ⟨rfl, HBL3.out⟩
end Go.Proofs.YtofgmijmhpmabaaGreatDoor.D

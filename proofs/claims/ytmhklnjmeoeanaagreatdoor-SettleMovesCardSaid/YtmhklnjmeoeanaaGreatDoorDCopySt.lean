/- The contracts of tableauref00.CopyState, CopyEvent. -/
import Derived.Test.YtmhklnjmeoeanaaGreatDoorDCopyS
import Derived.Test.YtmhklnjmeoeanaaGreatDoorDKc
namespace Go.Proofs.YtmhklnjmeoeanaaGreatDoor.D
open Go Go.RowKit
set_option linter.unusedVariables false
set_option linter.unusedSimpArgs false
/-- A list that the call owns. -/
def LstPost (t : TypeId) (sz n : Nat) (xs : List Value) (w : World) (e : Ending) (w' : World) : Prop := ∃ ad k, e = .returned (.slice ad n k) ∧ w'.ownsRow w.heap.size t sz (.slice ad n k) n xs ∧ Below w.heap.size w w'
set_option maxHeartbeats 1000000 in
theorem copyInts_any (A : Option Addr) (n c : Nat) (xs : List Int) (w : World) (hx : G.RdS w A 1 n (i64s xs)) (hn : n ≤ 33554432) :
    Calls Tryz.prog 79 #[.slice A n c] w (LstPost 3 1 n (i64s xs) w) := by
  obtain ⟨i0, hi, hz0, hz1, hz2⟩ := info_parts infoInt
  have HX := Lib.hid hx
  clear hx
  go_enter Tryz.func79, Tryz.ntmps79
  go_wp2_with ((refine G.wpList_copy_rd rfl _ _ 35 rfl 3 i0 _ 1 8 Tryz.underlying35 hi hz0 hz1 hz2 rfl (by decide) rfl A n c (i64s xs) rfl HX.out (i64s_one _) (by unfold maxLen; omega) (by omega) ?_; intro ad k w1 ho1 hb1))
  go_ret
  exact ⟨ad, k, rfl, ho1, hb1⟩
set_option maxHeartbeats 1000000 in
theorem copyPlayers_any (A : Option Addr) (n c : Nat) (xs : List Pl) (w : World) (hx : G.RdS w A 3 n (flatP xs)) (hn : n ≤ 33554432) :
    Calls Tryz.prog 29 #[.slice A n c] w (LstPost 44 3 n (flatP xs) w) := by
  obtain ⟨i0, hi, hz0, hz1, hz2⟩ := info_parts infoPl
  have HX := Lib.hid hx
  clear hx
  go_enter Tryz.func29, Tryz.ntmps29
  go_wp2_with ((refine G.wpList_copy_rd rfl _ _ 22 rfl 44 i0 _ 3 12 Tryz.underlying22 hi hz0 hz1 hz2 rfl (by decide) rfl A n c (flatP xs) rfl HX.out (flatP_one _) (by unfold maxLen; omega) (by omega) ?_; intro ad k w1 ho1 hb1))
  go_ret
  exact ⟨ad, k, rfl, ho1, hb1⟩
set_option maxHeartbeats 1000000 in
theorem copyCards_any (A : Option Addr) (n c : Nat) (xs : List Cd) (w : World) (hx : G.RdS w A 6 n (flatC xs)) (hn : n ≤ 33554432) :
    Calls Tryz.prog 30 #[.slice A n c] w (LstPost 39 6 n (flatC xs) w) := by
  obtain ⟨i0, hi, hz0, hz1, hz2⟩ := info_parts infoCd
  have HX := Lib.hid hx
  clear hx
  go_enter Tryz.func30, Tryz.ntmps30
  go_wp2_with ((refine G.wpList_copy_rd rfl _ _ 23 rfl 39 i0 _ 6 32 Tryz.underlying23 hi hz0 hz1 hz2 rfl (by decide) rfl A n c (flatC xs) rfl HX.out (flatC_one _) (by unfold maxLen; omega) (by omega) ?_; intro ad k w1 ho1 hb1))
  go_ret
  exact ⟨ad, k, rfl, ho1, hb1⟩
/-- Rows that are made one by one, appended to a list of them. -/
structure CrI (w0 wr : World) (q : Nat) (zs : List (List Int)) (v : Value) (rows : List Value) : Prop where
  bl : Below w0.heap.size w0 wr
  z : wr.ownsRow w0.heap.size 35 1 v q rows
  each : ∀ j, j < q → wr.ownsRow w0.heap.size 3 1 (rows.getD j undef) (zs.getD j []).length (i64s (zs.getD j []))
  apart : ∀ i j, i < q → j < q → i ≠ j → (rows.getD i undef).ownBlock = none ∨ (rows.getD i undef).ownBlock ≠ (rows.getD j undef).ownBlock
theorem getD_app {α : Type} {l m : List α} {d : α} {i : Nat} (h : i < l.length) : (l ++ m).getD i d = l.getD i d := by
  rw [List.getD_eq_getElem?_getD, List.getD_eq_getElem?_getD, List.getElem?_append_left h]
theorem getD_last {α : Type} {l : List α} {a d : α} {i : Nat} (h : l.length = i) : (l ++ [a]).getD i d = a := by
  subst h
  simp [List.getD_eq_getElem?_getD]
theorem CrI.next {w0 wr w1 w2 : World} {q : Nat} {zs : List (List Int)} {v v' u : Value} {rows : List Value} {o : Obj} (h : CrI w0 wr q zs v rows) (hb : Below wr.heap.size wr w1)
    (hu : w1.ownsRow wr.heap.size 3 1 u (zs.getD q []).length (i64s (zs.getD q []))) (hg : (w1.alloc o).grownBy w2 v.ownBlock) (hown : w2.ownsRow w0.heap.size 35 1 v' (q + 1) (rows ++ [u])) : CrI w0 w2 (q + 1) zs v' (rows ++ [u]) := by
  have hz := (G.own_below h.z hb).alloc o
  have hlen : rows.length = q := by have := h.z.1; omega
  have hsz := h.bl.size
  have hnew : ∀ b, u.ownBlock = some b → wr.heap.size ≤ b := fun b hb => (hu.lt b hb).1
  have hold : ∀ j, j < q → ∀ b, (rows.getD j undef).ownBlock = some b → b < wr.heap.size := fun j hj b hb => ((h.each j hj).lt b hb).2
  have hb1 := G.bl_trans h.bl hb
  refine ⟨(G.bl_alloc hb1 o).grown hg (G.bl_alloc hb1 o).size fun k hk => ((G.own_below h.z hb).lt k hk).1, hown, fun j hj => ?_, fun i j hi hj hij => ?_⟩
  · by_cases e : j = q
    · subst e
      rw [getD_last hlen]
      exact own_far ((G.own_ge hu hsz).alloc o) hz hg (by decide)
    · rw [getD_app (by omega)]
      exact own_far ((G.own_below (h.each j (by omega)) hb).alloc o) hz hg (by decide)
  · have key : ∀ j, j < q → (u.ownBlock = none ∨ u.ownBlock ≠ (rows.getD j undef).ownBlock) ∧ ((rows.getD j undef).ownBlock = none ∨ (rows.getD j undef).ownBlock ≠ u.ownBlock) := by
      intro j hj
      cases hvb : u.ownBlock with
      | none => exact ⟨.inl rfl, by cases (rows.getD j undef).ownBlock <;> simp⟩
      | some b =>
        have h1 := hnew b hvb
        cases hrb : (rows.getD j undef).ownBlock with
        | none => exact ⟨.inr (by simp), .inl rfl⟩
        | some c =>
          have h2 := hold j hj c hrb
          exact ⟨.inr (by simp; omega), .inr (by simp; omega)⟩
    by_cases e : i = q
    · subst e
      rw [getD_last hlen, getD_app (by omega)]
      exact (key j (by omega)).1
    · by_cases e2 : j = q
      · subst e2
        rw [getD_last hlen, getD_app (by omega)]
        exact (key i (by omega)).2
      · rw [getD_app (by omega), getD_app (by omega)]
        exact h.apart i j (by omega) (by omega) hij
def RowsPost (zs : List (List Int)) (w : World) (e : Ending) (w' : World) : Prop := ∃ ad k rows, e = .returned (.slice ad zs.length k) ∧ CrI w w' zs.length zs (.slice ad zs.length k) rows
set_option maxRecDepth 100000 in
set_option maxHeartbeats 4000000 in
theorem copyRows_any (za : Option Addr) (k zc : Nat) (zs : List (List Int)) (rows : List Value) (w : World) (hk : k = zs.length) (hz : G.RdS w za 1 k rows) (hr : ∀ i, i < k → RdRow w (rows.getD i undef) (zs.getD i [])) (hn : k ≤ 33554432) (hl : ∀ i, (zs.getD i []).length ≤ 33554432) :
    Calls Tryz.prog 31 #[.slice za k zc] w (RowsPost zs w) := by
  obtain ⟨i3, hi3, hz30, hz31, hz32⟩ := info_parts infoRow
  have HK := Lib.hid hk
  have HZ := Lib.hid hz
  have HR := Lib.hid hr
  have HL := Lib.hid hl
  clear hk hz hr hl
  go_enter Tryz.func31, Tryz.ntmps31
  go_wp2_with fail
  go_loopw [3, 4] (fun v i wr => ∃ (q : Nat) (rs : List Value), q ≤ k ∧ i = .int .i64 q ∧ CrI w wr q zs v rs) (fun _ i _ => k - (intOf i).toNat)
  case atStart => exact ⟨0, [], Nat.zero_le _, rfl, ⟨Below.refl _ _, World.ownsRow_nil _ _ _ _, fun j hj => by omega, fun i j hi => by omega⟩⟩
  case round =>
    obtain ⟨q, rs, hq, rfl, hI⟩ := hrel
    have HI := Lib.hid hI
    have hq0 : (0 : Int) ≤ q := by omega
    clear hI
    by_cases hlt : q < k
    · have hqI : (q : Int) < k := by omega
      obtain ⟨bz, oz, hza, hcr⟩ := rows_at (i := q) (HZ.out.below HI.out.bl) hlt
      subst hza
      obtain ⟨ra, rk, hrv, hrr⟩ := HR.out q hlt
      rw [hrv] at hcr
      have HRR := Lib.hid (hrr.below HI.out.bl)
      have hl := HL.out q
      have hbs := World.block_lt_of_cell? _ _ hcr
      obtain ⟨nz, hnz⟩ : ∃ nz, nz = (zs.getD q []).length := ⟨_, rfl⟩
      have HNZ := Lib.hid hnz
      rw [← hnz] at hcr hl
      have HCI := Lib.hid (copyInts_any ra nz rk (zs.getD q []) wr (by rw [hnz]; exact HRR.out) hl)
      clear hrv hrr hnz
      go_wp2_with (first | ((with_reducible refine (HCI.out).mono ?_); rintro e1 w1 hp1; obtain ⟨a1, k1, rfl, ho1, hb1⟩ := hp1; have HO1 := Lib.hid ho1; have HB1 := Lib.hid hb1; have HZ1 := Lib.hid ((G.own_below HI.out.z hb1).alloc (.cells #[.slice a1 nz k1] 35)); have hsz1 := hb1.size; clear ho1 hb1) | (at_builtin; refine wpList_append_own _ rfl _ _ 24 rfl w.heap.size 35 i3 _ 1 24 Tryz.underlying24 hi3 hz30 hz31 hz32 rfl (by decide) _ q rs rfl HZ1.out ⟨w1.heap.size, 0, none⟩ 1 1 [.slice a1 nz k1] rfl rfl (G.cells_new _ _ _ _ rfl) (by simp [Value.oneCell']) (by unfold maxLen; omega) (by omega) (by have := HI.out.bl.size; simp; omega) ?_; intro v2 w2 hown2 hg2 _q; have HN2 := Lib.hid (HI.out.next HB1.out (own_n HO1.out HNZ.out) hg2 hown2); clear hown2 hg2))
      go_roundw
      case rel => exact ⟨q + 1, _, by omega, by go_num, HN2.out⟩
      case measure => simp [intOf]; omega
    · obtain rfl : k = q := by omega
      have hqI : ¬ (k : Int) < k := by omega
      obtain ⟨a9, k9, hv9⟩ := G.own_shape HI.out.z
      subst hv9
      go_wp2_with fail
      go_ret
      exact ⟨a9, k9, rs, by rw [← HK.out]; rfl, by rw [← HK.out]; exact HI.out⟩
end Go.Proofs.YtmhklnjmeoeanaaGreatDoor.D
namespace Go.Proofs.YtmhklnjmeoeanaaGreatDoor.D
open Go Go.RowKit
set_option linter.unusedVariables false
set_option linter.unusedSimpArgs false
theorem undEv2 : ∃ fs, Tryz.prog.underlying 37 = some (.struct fs) := by
  have hu : (Tryz.prog.underlying 37).map (fun d => match d with | .struct _ => true | _ => false) = some true := by kernel_rfl
  cases hx : Tryz.prog.underlying 37 with
  | none => rw [hx] at hu; simp at hu
  | some d =>
    rw [hx] at hu
    cases d <;> simp at hu
    exact ⟨_, rfl⟩
set_option maxRecDepth 100000 in
set_option maxHeartbeats 4000000 in
theorem copyState_any (x : SV) (s : St) (w : World) (h : RdSt w x s) (hz : Sz s) : Calls Tryz.prog 9 #[x.val s] w (StPost s w) := by
  obtain ⟨i0, hi0, hz00, hz01, hz02⟩ := info_parts infoPl
  obtain ⟨i1, hi1, hz10, hz11, hz12⟩ := info_parts infoCd
  obtain ⟨i2, hi2, hz20, hz21, hz22⟩ := info_parts infoInt
  obtain ⟨i3, hi3, hz30, hz31, hz32⟩ := info_parts infoRow
  have HR := Lib.hid h
  have hz1 := hz.p
  have hz2 := hz.c
  have hz3 := hz.z
  have HZ := Lib.hid hz.r
  obtain ⟨pa, pc, ca, cc, za, zc, rows⟩ := x
  obtain ⟨players, cards, zones, turn, whose, fin, win⟩ := s
  unfold SV.val SV.arr
  simp only at hz1 hz2 hz3 HZ ⊢
  obtain ⟨n, hn⟩ : ∃ n, n = players.length := ⟨_, rfl⟩
  obtain ⟨m, hm⟩ : ∃ m, m = cards.length := ⟨_, rfl⟩
  obtain ⟨k, hk⟩ : ∃ k, k = zones.length := ⟨_, rfl⟩
  rw [← hn, ← hm, ← hk]
  rw [← hn] at hz1
  rw [← hm] at hz2
  rw [← hk] at hz3
  have HN := Lib.hid hn
  have HM := Lib.hid hm
  have HK := Lib.hid hk
  clear h hz hn hm hk
  go_enter Tryz.func9, Tryz.ntmps9
  go_upto_region 1 with (fail)
  have H0 := two_new w 27 #[.slice pa n pc, .slice ca m cc, .slice za k zc, .int .i32 turn, .int .i64 whose, .int .i8 fin, .int .i64 win] #[.slice none 0 0, .slice none 0 0, .slice none 0 0, .int .i32 0, .int .i64 0, .int .i8 0, .int .i64 0]
  obtain ⟨w0, hw0⟩ : ∃ w0, w0 = (w.alloc (.cells #[.slice pa n pc, .slice ca m cc, .slice za k zc, .int .i32 turn, .int .i64 whose, .int .i8 fin, .int .i64 win] 27)).alloc (.cells #[.slice none 0 0, .slice none 0 0, .slice none 0 0, .int .i32 0, .int .i64 0, .int .i8 0, .int .i64 0] 27) := ⟨_, rfl⟩
  rw [← hw0] at H0 ⊢
  clear hw0
  obtain ⟨hb0, hb0', hbl0⟩ := H0
  have HBL0 := Lib.hid hbl0
  obtain ⟨g, hg⟩ : ∃ g, g = w.heap.size := ⟨_, rfl⟩
  have HG := Lib.hid hg
  rw [← hg] at hb0 hb0' ⊢
  have HB0 := Lib.hid hb0
  have HB0' := Lib.hid hb0'
  have c00 := hb0.cell 0
  have l0 := hb0.lt
  have HP0 := Lib.hid (show G.RdS w0 pa 3 n (flatP players) by have := (HR.out.below hbl0).p; rw [← HN.out] at this; exact this)
  have HCP := Lib.hid (copyPlayers_any pa n pc players w0 HP0.out hz1)
  clear hb0 hb0' hbl0 hg
  go_upto_region 2 with (((with_reducible refine (HCP.out).mono ?_); rintro e1 w1 hp1; obtain ⟨ad1, k1, rfl, ho1, hb1⟩ := hp1; have HO1 := Lib.hid ho1; have HBW1 := Lib.hid hb1; have hB1 := HB0.out.below hb1 HB0.out.lt; have c10 := hB1.cell 0; have f10 := hB1.frozen 0; have l1 := hB1.lt; clear ho1 hb1 hB1 c00 l0))
  have HBK2 := Lib.hid (HB0.out.below HBW1.out HB0.out.lt)
  have HO2 := Lib.hid (only_put (i := 0) HBK2.out (.slice ad1 n k1))
  have HBL2 := Lib.hid (show Below g w (w1.setCell ⟨g, 0, none⟩ (.slice ad1 n k1)) by rw [HG.out]; exact G.bl_set (G.bl_trans HBL0.out HBW1.out) (Nat.le_refl _) _)
  have HB2 := Lib.hid (HBK2.out.put 0 (.slice ad1 n k1))
  have HB2' := Lib.hid (blk_put_ne (i := 0) (u := .slice ad1 n k1) (HB0'.out.below HBW1.out HB0'.out.lt) (show g + 1 ≠ g by omega))
  have HP2 := Lib.hid (HO2.out.own (G.own_ge HO1.out (show g ≤ _ by have := HBL0.out.size; rw [HG.out]; exact this)) (by decide))
  obtain ⟨w2, hw2⟩ : ∃ w2, w2 = w1.setCell ⟨g, 0, none⟩ (.slice ad1 n k1) := ⟨_, rfl⟩
  rw [← hw2] at HB2 HB2' HBL2 HP2 ⊢
  clear hw2 HO2 HBK2 c10 f10 l1 HBW1 HO1 HP0 HB0 HB0'
  simp only [List.setIfInBounds_toArray, List.set_cons_zero, List.set_cons_succ] at HB2
  have HC2 := Lib.hid (show G.RdS w2 ca 6 m (flatC cards) by have := (HR.out.below (by rw [← HG.out]; exact HBL2.out)).c; rw [← HM.out] at this; exact this)
  have HCC := Lib.hid (copyCards_any ca m cc cards w2 HC2.out hz2)
  have c21 := HB2.out.cell 1
  have l2 := HB2.out.lt
  go_upto_region 3 with (((with_reducible refine (HCC.out).mono ?_); rintro e3 w3 hp3; obtain ⟨ad3, k3, rfl, ho3, hb3⟩ := hp3; have HO3 := Lib.hid ho3; have HBW3 := Lib.hid hb3; have hB3 := HB2.out.below hb3 HB2.out.lt; have c31 := hB3.cell 1; have f31 := hB3.frozen 1; have l3 := hB3.lt; clear ho3 hb3 hB3 c21 l2))
  have HBK4 := Lib.hid (HB2.out.below HBW3.out HB2.out.lt)
  have HO4 := Lib.hid (only_put (i := 1) HBK4.out (.slice ad3 m k3))
  have HBL4 := Lib.hid (show Below g w (w3.setCell ⟨g, 1, none⟩ (.slice ad3 m k3)) from (HBL2.out.trans (HBW3.out.mono (by have := HBL2.out.size; have := HG.out; have := HB2.out.lt; omega))).setCell (Nat.le_refl _) _)
  have HB4 := Lib.hid (HBK4.out.put 1 (.slice ad3 m k3))
  have HB4' := Lib.hid (blk_put_ne (i := 1) (u := .slice ad3 m k3) (HB2'.out.below HBW3.out HB2'.out.lt) (show g + 1 ≠ g by omega))
  have HP4 := Lib.hid (HO4.out.own (G.own_below HP2.out HBW3.out) (by decide))
  have HC4 := Lib.hid (HO4.out.own (G.own_ge HO3.out (show g ≤ _ by have := HB2.out.lt; omega)) (by decide))
  obtain ⟨w4, hw4⟩ : ∃ w4, w4 = w3.setCell ⟨g, 1, none⟩ (.slice ad3 m k3) := ⟨_, rfl⟩
  rw [← hw4] at HB4 HB4' HBL4 HP4 HC4 ⊢
  clear hw4 HO4 HBK4 c31 f31 l3 HBW3 HO3 HP2 HB2 HB2' HC2 HBL2
  simp only [List.setIfInBounds_toArray, List.set_cons_zero, List.set_cons_succ] at HB4
  have c42 := HB4.out.cell 2
  have l4 := HB4.out.lt
  have HBLW := Lib.hid (show Below w.heap.size w w4 by rw [← HG.out]; exact HBL4.out)
  have HCR := Lib.hid (copyRows_any za k zc zones rows w4 HK.out (by have := (HR.out.below HBLW.out).z; rw [← HK.out] at this; exact this) (fun i hi => (HR.out.below HBLW.out).rows i (by rw [← HK.out]; exact hi)) hz3 HZ.out)
  unfold RowsPost at HCR
  rw [← HK.out] at HCR
  go_upto_region 4 with ((with_reducible refine (HCR.out).mono ?_); rintro e5 wr hp5; obtain ⟨gz, zk, rs, rfl, hI⟩ := hp5; have HI := Lib.hid hI; have HB := Lib.hid (HB4.out.below hI.bl HB4.out.lt); have HB' := Lib.hid (HB4'.out.below hI.bl HB4'.out.lt); have c2 := HB.out.cell 2; have f2 := HB.out.frozen 2; have l2 := HB.out.lt; clear hI c42 l4)
  have HF := Lib.hid (only_put (i := 2) HB.out (.slice gz k zk))
  have HB6 := Lib.hid (HB.out.put 2 (.slice gz k zk))
  have HB6' := Lib.hid (blk_put_ne (i := 2) (u := .slice gz k zk) HB'.out (show g + 1 ≠ g by omega))
  have HBL6 := Lib.hid (show Below g w (wr.setCell ⟨g, 2, none⟩ (.slice gz k zk)) from (HBL4.out.trans (HI.out.bl.mono (by have := HB4.out.lt; omega))).setCell (Nat.le_refl _) _)
  have hsz := HB4.out.lt
  have hOP := Lib.hid (HF.out.own (G.own_below HP4.out HI.out.bl) (by decide))
  have hOC := Lib.hid (HF.out.own (G.own_below HC4.out HI.out.bl) (by decide))
  have hOZ := Lib.hid (HF.out.own (G.own_ge HI.out.z (show g ≤ _ by omega)) (by decide))
  have hOR := Lib.hid (show ∀ j, j < k → _ from fun j hj => HF.out.own (G.own_ge (HI.out.each j hj) (show g ≤ _ by omega)) (by decide))
  have hAP := Lib.hid HI.out.apart
  obtain ⟨w6, hw6⟩ : ∃ w6, w6 = wr.setCell ⟨g, 2, none⟩ (.slice gz k zk) := ⟨_, rfl⟩
  rw [← hw6] at HB6 HB6' HBL6 hOP hOC hOZ hOR ⊢
  clear hw6 c2 f2 l2 HF
  simp only [List.setIfInBounds_toArray, List.set_cons_zero, List.set_cons_succ] at HB6
  have d0 := HB6.out.cell 0
  have d1 := HB6.out.cell 1
  have d2 := HB6.out.cell 2
  have d3 := HB6.out.cell 3
  have d4 := HB6.out.cell 4
  have d5 := HB6.out.cell 5
  have d6 := HB6.out.cell 6
  go_wp2_with (refine wpList_store_row rfl 27 _ _ rfl (g + 1) #[.slice ad1 n k1, .slice ad3 m k3, .slice gz k zk, .int .i32 turn, .int .i64 whose, .int .i8 fin, .int .i64 win] rfl rfl 27 _ HB6'.out (by kernel_rfl) (by kernel_rfl) (by kernel_rfl) ?_)
  have HF2 := only_row (cs2 := #[.slice ad1 n k1, .slice ad3 m k3, .slice gz k zk, .int .i32 turn, .int .i64 whose, .int .i8 fin, .int .i64 win]) HB6'.out
  refine bodyPost_ret (v := .agg #[.slice ad1 n k1, .slice ad3 m k3, .slice gz k zk, .int .i32 turn, .int .i64 whose, .int .i8 fin, .int .i64 win]) (st_result rfl _ _ (g + 1) _ rfl (setRow_heap _ _ _ _ _ _ HB6'.out) rfl) rfl ⟨⟨ad1, k1, ad3, k3, gz, zk, rs⟩, ?_, ?_, ?_⟩
  · rw [HN.out, HM.out, HK.out]
    rfl
  · rw [← HG.out]
    refine ⟨HF2.own ?_ (by decide), HF2.own ?_ (by decide), HF2.own ?_ (by decide), fun i hi => HF2.own (hOR.out i (by rw [HK.out]; exact hi)) (by decide), fun i j hi hj hij => hAP.out i j (by rw [HK.out]; exact hi) (by rw [HK.out]; exact hj) hij⟩
    · have h9 := hOP.out
      rw [HN.out] at h9
      exact h9
    · have h9 := hOC.out
      rw [HM.out] at h9
      exact h9
    · have h9 := hOZ.out
      rw [HK.out] at h9
      exact h9
  · rw [← HG.out]
    exact below_setRow HBL6.out (by omega) _
def EvPost (e : Ev) (w : World) (en : Ending) (w' : World) : Prop := ∃ y' : EV, en = .returned (y'.val e) ∧ OwnEv w' w.heap.size y' e ∧ Below w.heap.size w w'
set_option maxRecDepth 100000 in
set_option maxHeartbeats 4000000 in
theorem copyEvent_any (y : EV) (e : Ev) (w : World) (hr : RdEv w y e) (hl : e.order.length ≤ 33554432) : Calls Tryz.prog 72 #[y.val e] w (EvPost e w) := by
  have HR := Lib.hid hr
  obtain ⟨kind, field, card, player, other, src, srcAt, dst, dstAt, was, now, order⟩ := e
  obtain ⟨oa, oc⟩ := y
  unfold EV.val EV.arr
  simp only at hl ⊢
  obtain ⟨n, hn⟩ : ∃ n, n = order.length := ⟨_, rfl⟩
  rw [← hn] at hl ⊢
  have HN := Lib.hid hn
  have H0 := two_new w 37 #[.int .i8 kind, .int .i8 field, .int .i64 card, .int .i64 player, .int .i64 other, .int .i64 src, .int .i64 srcAt, .int .i64 dst, .int .i64 dstAt, .int .i32 was, .int .i32 now, .slice oa n oc] zeroE
  clear hr hn
  go_enter Tryz.func72, Tryz.ntmps72
  go_upto_region 1 with (fail)
  obtain ⟨w0, hw0⟩ : ∃ w0, w0 = (w.alloc (.cells #[.int .i8 kind, .int .i8 field, .int .i64 card, .int .i64 player, .int .i64 other, .int .i64 src, .int .i64 srcAt, .int .i64 dst, .int .i64 dstAt, .int .i32 was, .int .i32 now, .slice oa n oc] 37)).alloc (.cells zeroE 37) := ⟨_, rfl⟩
  rw [← hw0] at H0
  unfold zeroE at hw0
  rw [← hw0]
  clear hw0
  obtain ⟨hb0, hb0', hbl0⟩ := H0
  have HBL0 := Lib.hid hbl0
  obtain ⟨g, hg⟩ : ∃ g, g = w.heap.size := ⟨_, rfl⟩
  have HG := Lib.hid hg
  rw [← hg] at hb0 hb0' ⊢
  have HB0 := Lib.hid hb0
  have HB0' := Lib.hid hb0'
  have c0 := hb0.cell 11
  have l0 := hb0.lt
  have HCI := Lib.hid (copyInts_any oa n oc order w0 (by have := RdEv.below HR.out hbl0; unfold RdEv at this; simp only at this; rw [← HN.out] at this; exact this) hl)
  clear hb0 hb0' hbl0 hg
  go_upto_region 2 with (((with_reducible refine (HCI.out).mono ?_); rintro e1 w1 hp1; obtain ⟨ad1, k1, rfl, ho1, hb1⟩ := hp1; have HO1 := Lib.hid ho1; have HBW1 := Lib.hid hb1; have hB1 := HB0.out.below hb1 HB0.out.lt; have c10 := hB1.cell 11; have f10 := hB1.frozen 11; have l1 := hB1.lt; clear ho1 hb1 hB1 c0 l0))
  have HBK2 := Lib.hid (HB0.out.below HBW1.out HB0.out.lt)
  have HO2 := Lib.hid (only_put (i := 11) HBK2.out (.slice ad1 n k1))
  have HBL2 := Lib.hid (show Below g w (w1.setCell ⟨g, 11, none⟩ (.slice ad1 n k1)) by rw [HG.out]; exact G.bl_set (G.bl_trans HBL0.out HBW1.out) (Nat.le_refl _) _)
  have HB2 := Lib.hid (HBK2.out.put 11 (.slice ad1 n k1))
  have HB2' := Lib.hid (blk_put_ne (i := 11) (u := .slice ad1 n k1) (HB0'.out.below HBW1.out HB0'.out.lt) (show g + 1 ≠ g by omega))
  have HP2 := Lib.hid (HO2.out.own (G.own_ge HO1.out (show g ≤ _ by have := HBL0.out.size; rw [HG.out]; exact this)) (by decide))
  obtain ⟨w2, hw2⟩ : ∃ w2, w2 = w1.setCell ⟨g, 11, none⟩ (.slice ad1 n k1) := ⟨_, rfl⟩
  rw [← hw2] at HB2 HB2' HBL2 HP2 ⊢
  clear hw2 HO2 HBK2 c10 f10 l1 HBW1 HO1 HB0 HB0'
  simp only [List.setIfInBounds_toArray, List.set_cons_zero, List.set_cons_succ] at HB2
  obtain ⟨fsE, hfsE⟩ := undEv2
  have HFE := Lib.hid hfsE
  clear hfsE
  go_wp2_with (first | (refine wpList_load_row rfl 37 _ rfl g rfl _ _ (0, 0) _ HB2.out HFE.out rfl (by kernel_rfl) ?_) | (refine wpList_store_row rfl 37 _ _ rfl (g + 1) #[.int .i8 kind, .int .i8 field, .int .i64 card, .int .i64 player, .int .i64 other, .int .i64 src, .int .i64 srcAt, .int .i64 dst, .int .i64 dstAt, .int .i32 was, .int .i32 now, .slice ad1 n k1] rfl rfl 37 _ HB2'.out (by kernel_rfl) (by kernel_rfl) (by kernel_rfl) ?_))
  have HF2 := only_row (cs2 := #[.int .i8 kind, .int .i8 field, .int .i64 card, .int .i64 player, .int .i64 other, .int .i64 src, .int .i64 srcAt, .int .i64 dst, .int .i64 dstAt, .int .i32 was, .int .i32 now, .slice ad1 n k1]) HB2'.out
  refine bodyPost_ret (v := .agg #[.int .i8 kind, .int .i8 field, .int .i64 card, .int .i64 player, .int .i64 other, .int .i64 src, .int .i64 srcAt, .int .i64 dst, .int .i64 dstAt, .int .i32 was, .int .i32 now, .slice ad1 n k1]) (ev_result rfl _ _ (g + 1) _ rfl (setRow_heap _ _ _ _ _ _ HB2'.out) rfl) rfl ⟨⟨ad1, k1⟩, ?_, ?_, ?_⟩
  · rw [HN.out]
    rfl
  · rw [← HG.out]
    show World.ownsRow _ g 3 1 (.slice ad1 order.length k1) order.length (i64s order)
    rw [← HN.out]
    exact HF2.own HP2.out (by decide)
  · rw [← HG.out]
    exact below_setRow HBL2.out (by omega) _
end Go.Proofs.YtmhklnjmeoeanaaGreatDoor.D

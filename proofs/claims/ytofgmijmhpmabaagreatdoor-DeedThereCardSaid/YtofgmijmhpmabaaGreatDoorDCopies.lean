/- The contracts of tableauref00's copies of lists of numbers, players, cards, of lists of lists. Printed by gen_copies.py. -/
import Derived.Test.YtofgmijmhpmabaaGreatDoorDCopyS
namespace Go.Proofs.YtofgmijmhpmabaaGreatDoor.D
open Go Go.RowKit
set_option linter.unusedVariables false
set_option linter.unusedSimpArgs false
/-- A list that the call owns. -/
def LstPost (t : TypeId) (sz n : Nat) (xs : List Value) (w : World) (e : Ending) (w' : World) : Prop := ∃ ad k, e = .returned (.slice ad n k) ∧ w'.ownsRow w.heap.size t sz (.slice ad n k) n xs ∧ Below w.heap.size w w'
set_option maxHeartbeats 1000000 in
theorem copyInts_any (A : Option Addr) (n c : Nat) (xs : List Int) (w : World) (hx : G.RdS w A 1 n (i64s xs)) (hn : n ≤ 33554432) :
    Calls Tryz.prog 49 #[.slice A n c] w (LstPost 3 1 n (i64s xs) w) := by
  obtain ⟨i0, hi, hz0, hz1, hz2⟩ := info_parts infoInt
  have HX := Lib.hid hx
  clear hx
  go_enter Tryz.func49, Tryz.ntmps49
  go_wp2_with ((refine G.wpList_copy_rd rfl _ _ 28 rfl 3 i0 _ 1 8 Tryz.underlying28 hi hz0 hz1 hz2 rfl (by decide) rfl A n c (i64s xs) rfl HX.out (i64s_one _) (by unfold maxLen; omega) (by omega) ?_; intro ad k w1 ho1 hb1))
  go_ret
  exact ⟨ad, k, rfl, ho1, hb1⟩
set_option maxHeartbeats 1000000 in
theorem copyPlayers_any (A : Option Addr) (n c : Nat) (xs : List Pl) (w : World) (hx : G.RdS w A 3 n (flatP xs)) (hn : n ≤ 33554432) :
    Calls Tryz.prog 90 #[.slice A n c] w (LstPost 103 3 n (flatP xs) w) := by
  obtain ⟨i0, hi, hz0, hz1, hz2⟩ := info_parts infoPl
  have HX := Lib.hid hx
  clear hx
  go_enter Tryz.func90, Tryz.ntmps90
  go_wp2_with ((refine G.wpList_copy_rd rfl _ _ 22 rfl 103 i0 _ 3 12 Tryz.underlying22 hi hz0 hz1 hz2 rfl (by decide) rfl A n c (flatP xs) rfl HX.out (flatP_one _) (by unfold maxLen; omega) (by omega) ?_; intro ad k w1 ho1 hb1))
  go_ret
  exact ⟨ad, k, rfl, ho1, hb1⟩
set_option maxHeartbeats 1000000 in
theorem copyCards_any (A : Option Addr) (n c : Nat) (xs : List Cd) (w : World) (hx : G.RdS w A 6 n (flatC xs)) (hn : n ≤ 33554432) :
    Calls Tryz.prog 91 #[.slice A n c] w (LstPost 101 6 n (flatC xs) w) := by
  obtain ⟨i0, hi, hz0, hz1, hz2⟩ := info_parts infoCd
  have HX := Lib.hid hx
  clear hx
  go_enter Tryz.func91, Tryz.ntmps91
  go_wp2_with ((refine G.wpList_copy_rd rfl _ _ 23 rfl 101 i0 _ 6 32 Tryz.underlying23 hi hz0 hz1 hz2 rfl (by decide) rfl A n c (flatC xs) rfl HX.out (flatC_one _) (by unfold maxLen; omega) (by omega) ?_; intro ad k w1 ho1 hb1))
  go_ret
  exact ⟨ad, k, rfl, ho1, hb1⟩
/-- Rows that are made one by one, appended to a list of them. -/
structure CrI (w0 wr : World) (q : Nat) (zs : List (List Int)) (v : Value) (rows : List Value) : Prop where
  bl : Below w0.heap.size w0 wr
  z : wr.ownsRow w0.heap.size 28 1 v q rows
  each : ∀ j, j < q → wr.ownsRow w0.heap.size 3 1 (rows.getD j undef) (zs.getD j []).length (i64s (zs.getD j []))
  apart : ∀ i j, i < q → j < q → i ≠ j → (rows.getD i undef).ownBlock = none ∨ (rows.getD i undef).ownBlock ≠ (rows.getD j undef).ownBlock
theorem getD_app {α : Type} {l m : List α} {d : α} {i : Nat} (h : i < l.length) : (l ++ m).getD i d = l.getD i d := by
  rw [List.getD_eq_getElem?_getD, List.getD_eq_getElem?_getD, List.getElem?_append_left h]
theorem getD_last {α : Type} {l : List α} {a d : α} {i : Nat} (h : l.length = i) : (l ++ [a]).getD i d = a := by
  subst h
  simp [List.getD_eq_getElem?_getD]
theorem CrI.next {w0 wr w1 w2 : World} {q : Nat} {zs : List (List Int)} {v v' u : Value} {rows : List Value} {o : Obj} (h : CrI w0 wr q zs v rows) (hb : Below wr.heap.size wr w1)
    (hu : w1.ownsRow wr.heap.size 3 1 u (zs.getD q []).length (i64s (zs.getD q []))) (hg : (w1.alloc o).grownBy w2 v.ownBlock) (hown : w2.ownsRow w0.heap.size 28 1 v' (q + 1) (rows ++ [u])) : CrI w0 w2 (q + 1) zs v' (rows ++ [u]) := by
  have hz := (G.own_below h.z hb).alloc o
  have hlen : rows.length = q := by have := h.z.1; omega
  have hsz := h.bl.size
  have hnew : ∀ b, u.ownBlock = some b → wr.heap.size ≤ b := fun b hb => (hu.lt b hb).1
  have hold : ∀ j, j < q → ∀ b, (rows.getD j undef).ownBlock = some b → b < wr.heap.size := fun j hj b hb => ((h.each j hj).lt b hb).2
  have hb1 := G.bl_trans h.bl hb
  refine ⟨(G.bl_alloc hb1 o).grown hg (G.bl_alloc hb1 o).size fun k hk => ((G.own_below h.z hb).lt k hk).1, hown, fun j hj => ?_, fun i j hi hj hij => ?_⟩
  · by_cases e : j = q
    · subst e
      rw [getD_last hlen]
      exact own_far ((G.own_ge hu hsz).alloc o) hz hg (by decide)
    · rw [getD_app (by omega)]
      exact own_far ((G.own_below (h.each j (by omega)) hb).alloc o) hz hg (by decide)
  · have key : ∀ j, j < q → (u.ownBlock = none ∨ u.ownBlock ≠ (rows.getD j undef).ownBlock) ∧ ((rows.getD j undef).ownBlock = none ∨ (rows.getD j undef).ownBlock ≠ u.ownBlock) := by
      intro j hj
      cases hvb : u.ownBlock with
      | none => exact ⟨.inl rfl, by cases (rows.getD j undef).ownBlock <;> simp⟩
      | some b =>
        have h1 := hnew b hvb
        cases hrb : (rows.getD j undef).ownBlock with
        | none => exact ⟨.inr (by simp), .inl rfl⟩
        | some c =>
          have h2 := hold j hj c hrb
          exact ⟨.inr (by simp; omega), .inr (by simp; omega)⟩
    by_cases e : i = q
    · subst e
      rw [getD_last hlen, getD_app (by omega)]
      exact (key j (by omega)).1
    · by_cases e2 : j = q
      · subst e2
        rw [getD_last hlen, getD_app (by omega)]
        exact (key i (by omega)).2
      · rw [getD_app (by omega), getD_app (by omega)]
        exact h.apart i j (by omega) (by omega) hij
def RowsPost (zs : List (List Int)) (w : World) (e : Ending) (w' : World) : Prop := ∃ ad k rows, e = .returned (.slice ad zs.length k) ∧ CrI w w' zs.length zs (.slice ad zs.length k) rows
set_option maxRecDepth 100000 in
set_option maxHeartbeats 4000000 in
theorem copyRows_any (za : Option Addr) (k zc : Nat) (zs : List (List Int)) (rows : List Value) (w : World) (hk : k = zs.length) (hz : G.RdS w za 1 k rows) (hr : ∀ i, i < k → RdRow w (rows.getD i undef) (zs.getD i [])) (hn : k ≤ 33554432) (hl : ∀ i, (zs.getD i []).length ≤ 33554432) :
    Calls Tryz.prog 92 #[.slice za k zc] w (RowsPost zs w) := by
  obtain ⟨i3, hi3, hz30, hz31, hz32⟩ := info_parts infoRow
  have HK := Lib.hid hk
  have HZ := Lib.hid hz
  have HR := Lib.hid hr
  have HL := Lib.hid hl
  clear hk hz hr hl
  go_enter Tryz.func92, Tryz.ntmps92
  go_wp2_with fail
  go_loopw [3, 4] (fun v i wr => ∃ (q : Nat) (rs : List Value), q ≤ k ∧ i = .int .i64 q ∧ CrI w wr q zs v rs) (fun _ i _ => k - (intOf i).toNat)
  case atStart => exact ⟨0, [], Nat.zero_le _, rfl, ⟨Below.refl _ _, World.ownsRow_nil _ _ _ _, fun j hj => by omega, fun i j hi => by omega⟩⟩
  case round =>
    obtain ⟨q, rs, hq, rfl, hI⟩ := hrel
    have HI := Lib.hid hI
    have hq0 : (0 : Int) ≤ q := by omega
    clear hI
    by_cases hlt : q < k
    · have hqI : (q : Int) < k := by omega
      obtain ⟨bz, oz, hza, hcr⟩ := rows_at (i := q) (HZ.out.below HI.out.bl) hlt
      subst hza
      obtain ⟨ra, rk, hrv, hrr⟩ := HR.out q hlt
      rw [hrv] at hcr
      have HRR := Lib.hid (hrr.below HI.out.bl)
      have hl := HL.out q
      have hbs := World.block_lt_of_cell? _ _ hcr
      obtain ⟨nz, hnz⟩ : ∃ nz, nz = (zs.getD q []).length := ⟨_, rfl⟩
      have HNZ := Lib.hid hnz
      rw [← hnz] at hcr hl
      have HCI := Lib.hid (copyInts_any ra nz rk (zs.getD q []) wr (by rw [hnz]; exact HRR.out) hl)
      clear hrv hrr hnz
      go_wp2_with (first | ((with_reducible refine (HCI.out).mono ?_); rintro e1 w1 hp1; obtain ⟨a1, k1, rfl, ho1, hb1⟩ := hp1; have HO1 := Lib.hid ho1; have HB1 := Lib.hid hb1; have HZ1 := Lib.hid ((G.own_below HI.out.z hb1).alloc (.cells #[.slice a1 nz k1] 28)); have hsz1 := hb1.size; clear ho1 hb1) | (at_builtin; refine wpList_append_own _ rfl _ _ 24 rfl w.heap.size 28 i3 _ 1 24 Tryz.underlying24 hi3 hz30 hz31 hz32 rfl (by decide) _ q rs rfl HZ1.out ⟨w1.heap.size, 0, none⟩ 1 1 [.slice a1 nz k1] rfl rfl (G.cells_new _ _ _ _ rfl) (by simp [Value.oneCell']) (by unfold maxLen; omega) (by omega) (by have := HI.out.bl.size; simp; omega) ?_; intro v2 w2 hown2 hg2 _q; have HN2 := Lib.hid (HI.out.next HB1.out (own_n HO1.out HNZ.out) hg2 hown2); clear hown2 hg2))
      go_roundw
      case rel => exact ⟨q + 1, _, by omega, by go_num, HN2.out⟩
      case measure => simp [intOf]; omega
    · obtain rfl : k = q := by omega
      have hqI : ¬ (k : Int) < k := by omega
      obtain ⟨a9, k9, hv9⟩ := G.own_shape HI.out.z
      subst hv9
      go_wp2_with fail
      go_ret
      exact ⟨a9, k9, rs, by rw [← HK.out]; rfl, by rw [← HK.out]; exact HI.out⟩
end Go.Proofs.YtofgmijmhpmabaaGreatDoor.D

/- The reference of layer 06: field. -/
import Derived.Test.YtofgmijmhpmabaaGreatDoorDRefTW
import Derived.Test.YtofgmijmhpmabaaGreatDoorDField
import Derived.Test.YtofgmijmhpmabaaGreatDoorDMoveD
import Derived.Test.YtofgmijmhpmabaaGreatDoorDShuf
import Derived.Lib.QuietBelow
import Derived.BigQuiet
namespace Go.Proofs.YtofgmijmhpmabaaGreatDoor.D
open Go Go.RowKit
set_option linter.unusedVariables false
set_option linter.unusedSimpArgs false
set_option maxRecDepth 100000 in
set_option maxHeartbeats 2000000 in
theorem check5_any (x : SV) (s : St) (w : World) (h : RdSt w x s) (hz : Sz s) : Calls Tryz.prog 117 #[x.val s] w (CheckPost s w) := by
 obtain ⟨fsS, hfsS⟩ := undSt
 have HFS := Lib.hid hfsS
 have HTH := Lib.hid (fun W (hW : Below w.heap.size w W) => things5_any x s W (h.below hW) hz)
 obtain ⟨cs, hcs⟩ : ∃ cs, cs = x.arr s := ⟨_, rfl⟩
 have HBX := Lib.hid (G.Blk.new w 27 cs)
 obtain ⟨w1, hw1⟩ : ∃ w1, w1 = w.alloc (.cells cs 27) := ⟨_, rfl⟩
 have HB1 := Lib.hid (show Below w.heap.size w w1 by rw [hw1]; exact G.bl_alloc (Below.refl _ _) _)
 rw [← hw1] at HBX
 have HS := Lib.hid (show cs.size = 7 by rw [hcs]; rfl)
 have he : x.val s = .agg cs := by rw [hcs]; rfl
 rw [he] at HTH ⊢
 clear h hz hcs he hfsS
 go_enter Tryz.func117, Tryz.ntmps117
 go_upto_region 1 with (fail)
 rw [← hw1]
 clear hw1
 go_upto_region 2 with (first | (refine wpList_load_row rfl 27 _ rfl w.heap.size rfl _ cs (0, 0) _ HBX.out HFS.out rfl (by rw [HS.out]; exact sizeSt) ?_) | ((with_reducible refine (HTH.out _ HB1.out).mono ?_); rintro e1 w2 hp; unfold ThPost at hp; obtain ⟨A, c, B, rfl, hrd, hall, hl, hb2⟩ := hp; have HRD := Lib.hid hrd; have HALL := Lib.hid hall; have HBW := Lib.hid (Bl.tr HB1.out hb2); clear hrd hall hb2))
 obtain ⟨l, hll⟩ : ∃ l, l = B.length := ⟨_, rfl⟩
 rw [← hll] at hl HRD ⊢
 have HL := Lib.hid hll
 clear hll
 go_wp2_with fail
 go_loopw [5] (fun i wr => ∃ q : Nat, q ≤ l ∧ i = .int .i64 q ∧ w2 = wr ∧ ∀ j, j < q → B.getD j false = true) (fun i _ => l - (intOf i).toNat)
 case atStart => exact ⟨0, Nat.zero_le _, rfl, rfl, fun j hj => by omega⟩
 case round =>
  obtain ⟨q, hq, rfl, rfl, hgood⟩ := hrel
  have HGD := Lib.hid hgood
  have hq0 : (0 : Int) ≤ q := by omega
  clear hgood
  by_cases hlt : q < l
  ·have hqI : (q : Int) < l := by omega
   obtain ⟨b, off, hA, hc⟩ := rows_at HRD.out hlt
   rw [show (bools B).getD q undef = .bool (B.getD q false) by
    have hqB : q < B.length := by rw [← HL.out]; exact hlt
    simp [bools, List.getD_eq_getElem?_getD, List.getElem?_eq_getElem hqB]] at hc
   subst hA
   cases t1 : B.getD q false with
   | false =>
    rw [t1] at hc
    have HBAD := Lib.hid (show ¬ May s from fun h => by
     have h1 := HALL.out.2 h
     rw [List.all_eq_true] at h1
     have h2 := h1 _ (mem_getD (d := false) (show q < B.length by rw [← HL.out]; exact hlt))
     rw [t1] at h2
     simp at h2)
    go_wp2_with fail
    go_ret2
    exact checkP_bad _ HBAD.out HBW.out
   | true =>
    rw [t1] at hc
    go_wp2_with fail
    go_roundw
    case rel => exact ⟨q + 1, by omega, by go_num, by first | rfl | trivial, fun j hj => by
     by_cases e : j = q
     ·subst e
      exact t1
     ·exact HGD.out j (by omega)⟩
    case measure => simp [intOf]; omega
  ·obtain rfl : l = q := by omega
   have hqI : ¬ (l : Int) < l := by omega
   have HOK := Lib.hid (show May s from HALL.out.1 (by
    rw [List.all_eq_true]
    intro b hb
    obtain ⟨j, hj, rfl⟩ := List.mem_iff_getElem.1 hb
    have := HGD.out j (by rw [HL.out]; exact hj)
    rwa [getD_lt hj] at this))
   go_wp2_with fail
   go_ret2
   exact checkP_ok _ HOK.out HBW.out
end Go.Proofs.YtofgmijmhpmabaaGreatDoor.D
namespace Go.Proofs.YtofgmijmhpmabaaGreatDoor.D
open Go Go.RowKit
set_option linter.unusedVariables false
set_option linter.unusedSimpArgs false
theorem refIs_any (k : Int) (n : Nat) (w : World) : Calls Tryz.prog 122 #[.int .i64 k, .int .i64 n] w fun e w' => e = .returned (.bool (withinB k n)) ∧ w = w' := by
 by_cases h1 : 0 ≤ k
 ·by_cases h2 : k < n
  ·have H := Lib.hid (show withinB k n = true from within_yes ⟨h1, h2⟩)
   go_enter Tryz.func122, Tryz.ntmps122
   go_wp2
   go_ret
   exact ⟨(ret_bool H.out).symm, rfl⟩
  ·have H := Lib.hid (show withinB k n = false from within_no (fun h => h2 h.2))
   go_enter Tryz.func122, Tryz.ntmps122
   go_wp2
   go_ret
   exact ⟨(ret_bool H.out).symm, rfl⟩
 ·have H := Lib.hid (show withinB k n = false from within_no (fun h => h1 h.1))
  go_enter Tryz.func122, Tryz.ntmps122
  go_wp2
  go_ret
  exact ⟨(ret_bool H.out).symm, rfl⟩
def RMayPost (s : St) (w : World) (e : Ending) (w' : World) : Prop := ∃ b : Bool, e = .returned (.bool b) ∧ (b = true ↔ May s) ∧ Below w.heap.size w w'
theorem rmay_yes {s : St} {w w' : World} (h : May s) (hb : Below w.heap.size w w') : RMayPost s w (.returned (.bool true)) w' := ⟨true, rfl, ⟨fun _ => h, fun _ => rfl⟩, hb⟩
theorem rmay_no {s : St} {w w' : World} (h : ¬ May s) (hb : Below w.heap.size w w') : RMayPost s w (.returned (.bool false)) w' := ⟨false, rfl, ⟨fun h => by simp at h, fun g => absurd g h⟩, hb⟩
set_option maxRecDepth 100000 in
set_option maxHeartbeats 1000000 in
theorem refMay_any (x : SV) (s : St) (w : World) (h : RdSt w x s) (hz : Sz s) : Calls Tryz.prog 57 #[x.val s] w (RMayPost s w) := by
 obtain ⟨fsS, hfsS⟩ := undSt
 have HFS := Lib.hid hfsS
 have HCK := Lib.hid (fun W (hW : Below w.heap.size w W) => check5_any x s W (h.below hW) hz)
 obtain ⟨cs, hcs⟩ : ∃ cs, cs = x.arr s := ⟨_, rfl⟩
 have HBX := Lib.hid (G.Blk.new w 27 cs)
 obtain ⟨w1, hw1⟩ : ∃ w1, w1 = w.alloc (.cells cs 27) := ⟨_, rfl⟩
 have HB1 := Lib.hid (show Below w.heap.size w w1 by rw [hw1]; exact G.bl_alloc (Below.refl _ _) _)
 rw [← hw1] at HBX
 have HS := Lib.hid (show cs.size = 7 by rw [hcs]; rfl)
 have he : x.val s = .agg cs := by rw [hcs]; rfl
 rw [he] at HCK ⊢
 clear h hz hcs he hfsS
 go_enter Tryz.func57, Tryz.ntmps57
 go_upto_region 1 with (fail)
 rw [← hw1]
 clear hw1
 go_upto_region 2 with (first | (refine wpList_load_row rfl 27 _ rfl w.heap.size rfl _ cs (0, 0) _ HBX.out HFS.out rfl (by rw [HS.out]; exact sizeSt) ?_) | ((with_reducible refine (HCK.out _ HB1.out).mono ?_); rintro e1 w2 hp; obtain ⟨v, at1, rfl, hv, hb2⟩ := hp; have HV := Lib.hid hv; have HBW := Lib.hid (Bl.tr HB1.out hb2); clear hb2 hv))
 rcases HV.out with ⟨rfl, hm⟩ | ⟨rfl, hm⟩
 ·have HM := Lib.hid hm
  clear hm
  go_wp2_with fail
  go_ret
  exact rmay_yes HM.out HBW.out
 ·have HM := Lib.hid hm
  clear hm
  go_wp2_with fail
  go_ret
  exact rmay_no HM.out HBW.out
end Go.Proofs.YtofgmijmhpmabaaGreatDoor.D
namespace Go.Proofs.YtofgmijmhpmabaaGreatDoor.D
open Go Go.RowKit
set_option linter.unusedVariables false
set_option linter.unusedSimpArgs false
theorem row_cell {w wr : World} {b off n q : Nat} {L : List Int} {y : Int} (h : G.RdS w (some ⟨b, off, none⟩) 1 n (i64s L)) (hb : Below w.heap.size w wr) (hq : q < L.length) (hy : y = L.getD q 0) : wr.cell? ⟨b, off + q, none⟩ = some (.int .i64 y) := by
 have hl := h.1
 rw [i64s_length] at hl
 obtain ⟨b', off', hA, hc⟩ := rows_at (h.below hb) (i := q) (by omega)
 simp only [Option.some.injEq, Addr.mk.injEq, and_true] at hA
 obtain ⟨rfl, rfl⟩ := hA
 rw [hc, hy]
 simp [i64s, List.getD_eq_getElem?_getD, List.getElem?_eq_getElem hq]
/-- A new list is answered. -/
def NewL (M : List Int) (w : World) (e : Ending) (w' : World) : Prop := ∃ v, e = .returned v ∧ w'.ownsRow w.heap.size 3 1 v M.length (i64s M) ∧ Below w.heap.size w w'
structure LiI (w wr : World) (v : Value) (M : List Int) : Prop where
 own : wr.ownsRow w.heap.size 3 1 v M.length (i64s M)
 bl : Below w.heap.size w wr
theorem LiI.more {w wr w' : World} {v v' : Value} {M : List Int} {z : Int} (h : LiI w wr v M) (ho : w'.ownsRow w.heap.size 3 1 v' (M.length + 1) (i64s M ++ [.int .i64 z])) (hb : Below w.heap.size w w') : LiI w w' v' (M ++ [z]) :=
 ⟨by rw [List.length_append, i64s_app]; exact ho, hb⟩
theorem LiI.mk' {w wr : World} {v : Value} {M N : List Int} (h : LiI w wr v M) (e : M = N) : LiI w wr v N := e ▸ h
theorem erase_take_skip {L : List Int} {i : Nat} (hi : i < L.length) : (L.take (i + 1)).eraseIdx i = (L.take i).eraseIdx i := by
 rw [List.take_succ_eq_append_getElem hi, List.eraseIdx_append_of_length_le (by rw [List.length_take]; omega), List.length_take, Nat.min_eq_left (by omega), Nat.sub_self, List.eraseIdx_of_length_le (show (L.take i).length ≤ i by rw [List.length_take]; omega)]
 simp
theorem erase_take_more {L : List Int} {i at_ : Nat} (hi : i < L.length) (hne : i ≠ at_) : (L.take (i + 1)).eraseIdx at_ = (L.take i).eraseIdx at_ ++ [L.getD i 0] := by
 rw [take_next hi]
 by_cases h : at_ < i
 ·rw [List.eraseIdx_append_of_lt_length (by rw [List.length_take]; omega)]
 ·rw [List.eraseIdx_of_length_le (by rw [List.length_append, List.length_take]; simp; omega), List.eraseIdx_of_length_le (by rw [List.length_take]; omega)]
set_option maxRecDepth 100000 in
set_option maxHeartbeats 2000000 in
theorem without_any (A : Option Addr) (n c at_ : Nat) (L : List Int) (w : World) (hn : n = L.length) (h : G.RdS w A 1 n (i64s L)) (hl : n ≤ 33554432) : Calls Tryz.prog 155 #[.slice A n c, .int .i64 at_] w (NewL (L.eraseIdx at_) w) := by
 obtain ⟨i0, hi, hz0, hz1, hz2⟩ := info_parts infoInt
 have HR := Lib.hid h
 have HN := Lib.hid hn
 clear h hn
 have ha0 : (0 : Int) ≤ at_ := by omega
 go_enter Tryz.func155, Tryz.ntmps155
 go_wp2_with fail
 go_loopw [5, 6] (fun v i wr => ∃ q : Nat, q ≤ n ∧ i = .int .i64 q ∧ LiI w wr v ((L.take q).eraseIdx at_)) (fun _ i _ => n - (intOf i).toNat)
 case atStart => exact ⟨0, Nat.zero_le _, rfl, ⟨World.ownsRow_nil _ _ _ _, Below.refl _ _⟩⟩
 case round =>
  obtain ⟨q, hq, rfl, hli⟩ := hrel
  have HLI := Lib.hid hli
  have hq0 : (0 : Int) ≤ q := by omega
  have hws := hli.bl.size
  have hlen : ((L.take q).eraseIdx at_).length ≤ 33554432 := Nat.le_trans (List.length_eraseIdx_le _ _) (by rw [List.length_take]; omega)
  clear hli
  by_cases hlt : q < n
  ·have hqI : (q : Int) < n := by omega
   have hqL : q < L.length := by rw [← HN.out]; exact hlt
   obtain ⟨b, off, hA, hc⟩ := rows_at (HR.out.below HLI.out.bl) hlt
   rw [show (i64s L).getD q undef = .int .i64 (L.getD q 0) by simp [i64s, List.getD_eq_getElem?_getD, List.getElem?_eq_getElem hqL]] at hc
   obtain ⟨z, hz⟩ : ∃ z, z = L.getD q 0 := ⟨_, rfl⟩
   rw [← hz] at hc
   have HZ := Lib.hid hz
   subst hA
   clear hz
   obtain ⟨M, hM⟩ : ∃ M, M = (L.take q).eraseIdx at_ := ⟨_, rfl⟩
   rw [← hM] at HLI hlen
   have HM := Lib.hid hM
   clear hM
   by_cases hqa : q = at_
   ·have hne : ((q : Int) != at_) = false := by simp; omega
    go_wp2_with fail
    go_roundw
    case rel => exact ⟨q + 1, by omega, by go_num, HLI.out.mk' (by rw [HM.out, ← hqa]; exact (erase_take_skip hqL).symm)⟩
    case measure => simp [intOf]; omega
   ·have hne : ((q : Int) != at_) = true := by simp; omega
    go_wp2_with (at_builtin; refine wpList_append_own _ rfl (.tmp 16) (.tmp 21) 28 rfl w.heap.size 3 i0 (.int .i64 0) 1 8 Tryz.underlying28 hi hz0 hz1 hz2 rfl (by decide) _ _ _ rfl (HLI.out.own.alloc _) ⟨wr.heap.size, 0, none⟩ 1 1 [.int .i64 z] rfl rfl (G.cells_new _ _ _ _ rfl) (by simp [Value.oneCell']) (by unfold maxLen; omega) (by omega) (by simp; omega) ?_; intro v3 w3 hown3 hg3 _q; have HO3 := Lib.hid (HLI.out.more hown3 ((HLI.out.bl.alloc hws _).grown hg3 (by simp; omega) (fun g hg => (HLI.out.own.lt g hg).1))); clear hown3 hg3)
    go_roundw
    case rel => exact ⟨q + 1, by omega, by go_num, HO3.out.mk' (by rw [HM.out, HZ.out]; exact (erase_take_more hqL hqa).symm)⟩
    case measure => simp [intOf]; omega
  ·obtain rfl : n = q := by omega
   have hqI : ¬ (n : Int) < n := by omega
   go_wp2_with fail
   go_ret
   refine ⟨_, rfl, ?_, HLI.out.bl⟩
   have h9 := HLI.out.own
   rw [HN.out, List.take_length] at h9
   exact h9
theorem ins_app (z : Int) : ∀ (l m : List Int) (a : Nat), a ≤ l.length → (l ++ m).insertIdx a z = l.insertIdx a z ++ m
 | l, m, 0, _ => by simp
 | b :: l, m, a + 1, h => by rw [List.cons_append, List.insertIdx_succ_cons, ins_app z l m a (by simp at h; omega), List.insertIdx_succ_cons, List.cons_append]
theorem ins_end (z : Int) : ∀ (l : List Int), l.insertIdx l.length z = l ++ [z]
 | [] => rfl
 | b :: l => by rw [List.length_cons, List.insertIdx_succ_cons, ins_end z l, List.cons_append]
theorem ins_take_more {L : List Int} {i at_ : Nat} {z : Int} (hi : i < L.length) (h : at_ ≤ i) : (L.take (i + 1)).insertIdx at_ z = (L.take i).insertIdx at_ z ++ [L.getD i 0] := by
 rw [take_next hi, ins_app z _ _ _ (by rw [List.length_take]; omega)]
def withL (L : List Int) (at_ : Nat) (z : Int) (i : Nat) : List Int := if i ≤ at_ then L.take i else (L.take i).insertIdx at_ z
theorem with_lt {L : List Int} {i at_ : Nat} {z : Int} (hi : i < L.length) (h : i ≠ at_) : withL L at_ z (i + 1) = withL L at_ z i ++ [L.getD i 0] := by
 unfold withL
 by_cases h1 : i < at_
 ·rw [if_pos (by omega), if_pos (by omega), take_next hi]
 ·rw [if_neg (by omega), if_neg (by omega), ins_take_more hi (by omega)]
theorem with_at {L : List Int} {at_ : Nat} {z : Int} (hi : at_ < L.length) : withL L at_ z (at_ + 1) = (withL L at_ z at_ ++ [z]) ++ [L.getD at_ 0] := by
 unfold withL
 rw [if_neg (by omega), if_pos (Nat.le_refl _), ins_take_more hi (Nat.le_refl _)]
 congr 1
 have h1 := ins_end z (L.take at_)
 rwa [List.length_take, Nat.min_eq_left (by omega)] at h1
set_option maxRecDepth 100000 in
set_option maxHeartbeats 2000000 in
theorem with_any (A : Option Addr) (n c at_ : Nat) (z : Int) (L : List Int) (w : World) (hn : n = L.length) (h : G.RdS w A 1 n (i64s L)) (hl : n ≤ 33554432) (ha : at_ ≤ n) : Calls Tryz.prog 156 #[.slice A n c, .int .i64 at_, .int .i64 z] w (NewL (L.insertIdx at_ z) w) := by
 obtain ⟨i0, hi, hz0, hz1, hz2⟩ := info_parts infoInt
 have HR := Lib.hid h
 have HN := Lib.hid hn
 clear h hn
 have ha0 : (0 : Int) ≤ at_ := by omega
 go_enter Tryz.func156, Tryz.ntmps156
 go_wp2_with fail
 go_loopw [7, 8] (fun v i wr => ∃ q : Nat, q ≤ n ∧ i = .int .i64 q ∧ LiI w wr v (withL L at_ z q)) (fun _ i _ => n - (intOf i).toNat)
 case atStart => exact ⟨0, Nat.zero_le _, rfl, by simp [withL, i64s]; exact World.ownsRow_nil _ _ _ _, Below.refl _ _⟩
 case round =>
  obtain ⟨q, hq, rfl, hli⟩ := hrel
  have HLI := Lib.hid hli
  have hq0 : (0 : Int) ≤ q := by omega
  have hws := hli.bl.size
  have hlen : (withL L at_ z q).length ≤ 33554433 := by
   unfold withL
   split
   ·rw [List.length_take]
    omega
   ·rw [List.length_insertIdx, List.length_take]
    split <;> omega
  clear hli
  obtain ⟨M, hM⟩ : ∃ M, M = withL L at_ z q := ⟨_, rfl⟩
  rw [← hM] at HLI hlen
  have HM := Lib.hid hM
  clear hM
  by_cases hlt : q < n
  ·have hqI : (q : Int) < n := by omega
   have hqL : q < L.length := by rw [← HN.out]; exact hlt
   obtain ⟨b, off, hA, hc⟩ := rows_at (HR.out.below HLI.out.bl) hlt
   rw [show (i64s L).getD q undef = .int .i64 (L.getD q 0) by simp [i64s, List.getD_eq_getElem?_getD, List.getElem?_eq_getElem hqL]] at hc
   obtain ⟨y, hz⟩ : ∃ y, y = L.getD q 0 := ⟨_, rfl⟩
   rw [← hz] at hc
   have HZ := Lib.hid hz
   have hbl := World.block_lt_of_cell? _ _ hc
   have HBC := Lib.hid (fun W (hW : Below wr.heap.size wr W) => (hW.cell hbl).trans hc)
   subst hA
   clear hz
   by_cases hqa : q = at_
   ·subst hqa
    have hne : ((q : Int) == q) = true := by simp
    go_wp2_with (first
     | (at_builtin; refine wpList_append_own _ rfl (.tmp 18) (.tmp 20) 28 rfl w.heap.size 3 i0 (.int .i64 0) 1 8 Tryz.underlying28 hi hz0 hz1 hz2 rfl (by decide) _ _ _ rfl (HLI.out.own.alloc _) ⟨wr.heap.size, 0, none⟩ 1 1 [.int .i64 z] rfl rfl (G.cells_new _ _ _ _ rfl) (by simp [Value.oneCell']) (by unfold maxLen; omega) (by omega) (by simp; omega) ?_; intro v3 w3 hown3 hg3 _q; have HO3 := Lib.hid (HLI.out.more hown3 ((HLI.out.bl.alloc hws _).grown hg3 (by simp; omega) (fun g hg => (HLI.out.own.lt g hg).1))); have hc3 := row_cell HR.out (HO3.out.bl) hqL HZ.out; have hws3 := HO3.out.bl.size; clear hown3 hg3)
     | (at_builtin; refine wpList_append_own _ rfl (.tmp 22) (.tmp 27) 28 rfl w.heap.size 3 i0 (.int .i64 0) 1 8 Tryz.underlying28 hi hz0 hz1 hz2 rfl (by decide) _ (M.length + 1) (i64s M ++ [.int .i64 z]) rfl (by have h9 := HO3.out.own; rw [List.length_append, i64s_app] at h9; exact h9.alloc _) ⟨w3.heap.size, 0, none⟩ 1 1 [.int .i64 y] rfl rfl (G.cells_new _ _ _ _ rfl) (by simp [Value.oneCell']) (by unfold maxLen; omega) (by omega) (by simp; omega) ?_; intro v4 w4 hown4 hg4 _q4; have HO4 := Lib.hid (HO3.out.more (z := y) (by rw [List.length_append, i64s_app]; exact hown4) ((HO3.out.bl.alloc hws3 _).grown hg4 (by simp; omega) (fun g hg => (HO3.out.own.lt g hg).1))); clear hown4 hg4))
    go_roundw
    case rel => exact ⟨q + 1, by omega, by go_num, HO4.out.mk' (by rw [HM.out, HZ.out]; exact (with_at hqL).symm)⟩
    case measure => simp [intOf]; omega
   ·have hne : ((q : Int) == at_) = false := by simp; omega
    go_wp2_with (at_builtin; refine wpList_append_own _ rfl (.tmp 22) (.tmp 27) 28 rfl w.heap.size 3 i0 (.int .i64 0) 1 8 Tryz.underlying28 hi hz0 hz1 hz2 rfl (by decide) _ _ _ rfl (HLI.out.own.alloc _) ⟨wr.heap.size, 0, none⟩ 1 1 [.int .i64 y] rfl rfl (G.cells_new _ _ _ _ rfl) (by simp [Value.oneCell']) (by unfold maxLen; omega) (by omega) (by simp; omega) ?_; intro v3 w3 hown3 hg3 _q; have HO3 := Lib.hid (HLI.out.more hown3 ((HLI.out.bl.alloc hws _).grown hg3 (by simp; omega) (fun g hg => (HLI.out.own.lt g hg).1))); clear hown3 hg3)
    go_roundw
    case rel => exact ⟨q + 1, by omega, by go_num, HO3.out.mk' (by rw [HM.out, HZ.out]; exact (with_lt hqL hqa).symm)⟩
    case measure => simp [intOf]; omega
  ·obtain rfl : n = q := by omega
   have hqI : ¬ (n : Int) < n := by omega
   by_cases hae : at_ = n
   ·subst hae
    have hne : ((at_ : Int) == at_) = true := by simp
    go_wp2_with (at_builtin; refine wpList_append_own _ rfl (.tmp 33) (.tmp 35) 28 rfl w.heap.size 3 i0 (.int .i64 0) 1 8 Tryz.underlying28 hi hz0 hz1 hz2 rfl (by decide) _ _ _ rfl (HLI.out.own.alloc _) ⟨wr.heap.size, 0, none⟩ 1 1 [.int .i64 z] rfl rfl (G.cells_new _ _ _ _ rfl) (by simp [Value.oneCell']) (by unfold maxLen; omega) (by omega) (by simp; omega) ?_; intro v3 w3 hown3 hg3 _q; have HO3 := Lib.hid (HLI.out.more hown3 ((HLI.out.bl.alloc hws _).grown hg3 (by simp; omega) (fun g hg => (HLI.out.own.lt g hg).1))); clear hown3 hg3)
    go_ret
    have h9 := HO3.out.mk' (N := L.insertIdx at_ z) (by rw [HM.out, withL, if_pos (Nat.le_refl _), HN.out, List.take_length, ins_end])
    refine ⟨_, rfl, ?_, h9.bl⟩
    exact h9.own
   ·have hne : ((at_ : Int) == n) = false := by simp; omega
    go_wp2_with fail
    go_ret
    have h9 := HLI.out.mk' (N := L.insertIdx at_ z) (by rw [HM.out, withL, if_neg (by omega), HN.out, List.take_length])
    refine ⟨_, rfl, ?_, h9.bl⟩
    exact h9.own
end Go.Proofs.YtofgmijmhpmabaaGreatDoor.D
namespace Go.Proofs.YtofgmijmhpmabaaGreatDoor.D
open Go Go.RowKit
set_option linter.unusedVariables false
set_option linter.unusedSimpArgs false
def standsB (s : St) (card zn at_ : Int) : Bool := withinB zn s.zones.length && withinB at_ (zone s zn).length && ((zone s zn).getD at_.toNat 0 == card)
set_option maxRecDepth 100000 in
set_option maxHeartbeats 2000000 in
theorem stands_any (x : SV) (s : St) (card zn at_ : Int) (w : World) (h : RdSt w x s) : Calls Tryz.prog 154 #[x.val s, .int .i64 card, .int .i64 zn, .int .i64 at_] w fun e w' => e = .returned (.bool (standsB s card zn at_)) ∧ Below w.heap.size w w' := by
 have HR := Lib.hid h
 obtain ⟨cs, hcs⟩ : ∃ cs, cs = x.arr s := ⟨_, rfl⟩
 obtain ⟨k, hk⟩ : ∃ k, k = s.zones.length := ⟨_, rfl⟩
 have HBX := Lib.hid (G.Blk.new w 27 cs)
 obtain ⟨w1, hw1⟩ : ∃ w1, w1 = w.alloc (.cells cs 27) := ⟨_, rfl⟩
 have HB1 := Lib.hid (show Below w.heap.size w w1 by rw [hw1]; exact G.bl_alloc (Below.refl _ _) _)
 rw [← hw1] at HBX
 have HC2 := Lib.hid (show cs[2]? = some (.slice x.za k x.zc) by rw [hcs, hk]; rfl)
 have he : x.val s = .agg cs := by rw [hcs]; rfl
 rw [he]
 have HK := Lib.hid hk
 have H := Lib.hid (show standsB s card zn at_ = (withinB zn k && withinB at_ (zone s zn).length && ((zone s zn).getD at_.toNat 0 == card)) by rw [hk]; rfl)
 have HRW := Lib.hid (h.below HB1.out)
 clear h hcs he hk
 have c2 := (HBX.out.cell 2).trans HC2.out
 have hwl : w.heap.size < w1.heap.size := HBX.out.lt
 go_enter Tryz.func154, Tryz.ntmps154
 go_upto_region 1 with (fail)
 rw [← hw1]
 clear hw1
 cases t1 : withinB zn k with
 | false =>
  rw [t1] at H
  have HI := Lib.hid (fun W => refIs_any zn k W)
  rw [t1] at HI
  clear t1
  go_wp2_with (go_at_call 122; refine (HI.out _).mono ?_; rintro e wq ⟨rfl, rfl⟩)
  go_ret
  exact ⟨ret_bool (by rw [H.out]; rfl), HB1.out⟩
 | true =>
  obtain ⟨h1, h2⟩ := of_decide_eq_true (show decide (Within zn k) = true from t1)
  obtain ⟨z, rfl⟩ := Int.eq_ofNat_of_zero_le h1
  have hzk : z < k := by omega
  have hzkI : (z : Int) < k := by omega
  have HI := Lib.hid (fun W => refIs_any (z : Int) k W)
  rw [t1] at HI H
  obtain ⟨b, off, hzb, hcr⟩ := rows_at HRW.out.z (i := z) (by rw [← HK.out]; exact hzk)
  obtain ⟨ra, rk, hrv, hrr⟩ := HRW.out.rows z (by rw [← HK.out]; exact hzk)
  rw [hrv] at hcr
  obtain ⟨za, hza⟩ : ∃ za, za = x.za := ⟨_, rfl⟩
  rw [← hza] at hzb c2
  subst hzb
  obtain ⟨row, hrow⟩ : ∃ row, row = s.zones.getD z [] := ⟨_, rfl⟩
  have hzr : zone s ((z : Nat) : Int) = row := by rw [hrow]; rfl
  rw [hzr] at H
  rw [← hrow] at hcr hrr
  obtain ⟨rn, hrn⟩ : ∃ rn, rn = row.length := ⟨_, rfl⟩
  rw [← hrn] at hcr hrr H
  have HRR := Lib.hid hrr
  have HRN := Lib.hid hrn
  clear hrv hrr hza hrow hzr hrn t1
  cases t2 : withinB at_ rn with
  | false =>
   rw [t2] at H
   have HI2 := Lib.hid (fun W => refIs_any at_ rn W)
   rw [t2] at HI2
   clear t2
   go_wp2_with (go_at_call 122; first | ((with_reducible refine (HI.out _).mono ?_); rintro e wq ⟨rfl, rfl⟩) | ((with_reducible refine (HI2.out _).mono ?_); rintro e wq ⟨rfl, rfl⟩))
   go_ret
   exact ⟨ret_bool (by rw [H.out]; rfl), HB1.out⟩
  | true =>
   obtain ⟨g1, g2⟩ := of_decide_eq_true (show decide (Within at_ rn) = true from t2)
   obtain ⟨q, rfl⟩ := Int.eq_ofNat_of_zero_le g1
   have hqr : q < rn := by omega
   have hqrI : (q : Int) < rn := by omega
   have HI2 := Lib.hid (fun W => refIs_any (q : Int) rn W)
   rw [t2] at HI2 H
   obtain ⟨b2, off2, hA, hcq⟩ := rows_at HRR.out hqr
   rw [show (i64s row).getD q undef = .int .i64 (row.getD q 0) by
    have hqL : q < row.length := by rw [← HRN.out]; exact hqr
    simp [i64s, List.getD_eq_getElem?_getD, List.getElem?_eq_getElem hqL]] at hcq
   subst hA
   rw [show ((q : Nat) : Int).toNat = q by omega] at H
   obtain ⟨y, hy⟩ : ∃ y, y = row.getD q 0 := ⟨_, rfl⟩
   rw [← hy] at hcq H
   clear hy t2
   go_wp2_with (go_at_call 122; first | ((with_reducible refine (HI.out _).mono ?_); rintro e wq ⟨rfl, rfl⟩) | ((with_reducible refine (HI2.out _).mono ?_); rintro e wq ⟨rfl, rfl⟩))
   go_ret
   exact ⟨ret_bool (by rw [H.out]; simp), HB1.out⟩
end Go.Proofs.YtofgmijmhpmabaaGreatDoor.D
namespace Go.Proofs.YtofgmijmhpmabaaGreatDoor.D
open Go Go.RowKit
set_option linter.unusedVariables false
set_option linter.unusedSimpArgs false
set_option maxRecDepth 100000 in
set_option maxHeartbeats 2000000 in
theorem refRises_any (A : Option Addr) (n c : Nat) (l : List Int) (w : World) (hn : l.length = n) (hm : n ≤ 33554432) (hr : G.RdS w A 1 n (i64s l)) :
 Calls Tryz.prog 152 #[.slice A n c] w fun e w' => e = .returned (.bool (risesB l)) ∧ w = w' := by
 have HN := Lib.hid hn
 have HR := Lib.hid hr
 clear hn hr
 go_enter Tryz.func152, Tryz.ntmps152
 go_wp2_with fail
 go_loop [3] (fun i => ∃ k : Nat, k ≤ n ∧ i = .int .i64 k ∧ ∀ j, j < k → l.getD j 0 = (j : Int)) (fun i => n - (intOf i).toNat)
 case atStart => exact ⟨0, Nat.zero_le _, rfl, fun j hj => by omega⟩
 case round =>
  obtain ⟨k, hk, rfl, hall⟩ := hrel
  have HALL := Lib.hid hall
  have hk0 : (0 : Int) ≤ k := by omega
  clear hall
  by_cases hlt : k < n
  ·have hkI : (k : Int) < n := by omega
   obtain ⟨b, off, rfl, hrd⟩ := HR.out.2 (by omega)
   have hc := i64_at hrd (k := k) (by rw [HN.out]; exact hlt)
   obtain ⟨z, hz⟩ : ∃ z, z = l.getD k 0 := ⟨_, rfl⟩
   rw [← hz] at hc
   have HZ := Lib.hid hz
   clear hrd hz
   by_cases he : (k : Int) = z
   ·have HA := Lib.hid (show ∀ j, j < k + 1 → l.getD j 0 = (j : Int) from fun j hj => by
     by_cases e : j = k
     ·subst e
      rw [← HZ.out, he]
     ·exact HALL.out j (by omega))
    have heb : ((z : Int) != k) = false := by rw [← he]; simp
    clear he
    go_wp2_with fail
    go_round
    case rel => exact ⟨k + 1, by omega, by go_num, HA.out⟩
    case measure => simp [intOf]; omega
   ·have HB := Lib.hid (rises_no (l := l) (fun h => he (by rw [HZ.out]; exact (rises_iff.1 h k (by rw [HN.out]; exact hlt)).symm)))
    have heb : ((z : Int) != k) = true := by rw [bne_iff_ne]; exact fun e => he e.symm
    clear he
    go_wp2_with fail
    go_ret
    exact ⟨(ret_bool HB.out).symm, rfl⟩
  ·have hkI : ¬ (k : Int) < n := by omega
   have HB := Lib.hid (rises_yes (l := l) (rises_iff.2 fun i hi => HALL.out i (by rw [HN.out] at hi; omega)))
   go_wp2_with fail
   go_ret
   exact ⟨(ret_bool HB.out).symm, rfl⟩
set_option maxRecDepth 100000 in
set_option maxHeartbeats 4000000 in
theorem refOrder_any (A : Option Addr) (n c m : Nat) (l : List Int) (w : World) (hn : l.length = n) (hm : n ≤ 33554432) (hr : G.RdS w A 1 n (i64s l)) (h256 : m ≤ 33554432) :
 Calls Tryz.prog 151 #[.slice A n c, .int .i64 (m : Int)] w (BoolPost (orderB l m) w) := by
 obtain ⟨i0, hi, hz0, hz1, hz2⟩ := info_parts infoBool
 have HN := Lib.hid hn
 have HR := Lib.hid hr
 clear hn hr
 by_cases h1 : n = m
 ·subst h1
  have hb : ((n : Int) != n) = false := by simp
  go_enter Tryz.func151, Tryz.ntmps151
  go_wp2_with (refine wpList_make_full _ rfl _ _ 111 rfl w.heap.size 4 i0 _ 1 Tryz.underlying111 hi hz0 hz1 .i64 .i64 _ _ n rfl rfl rfl rfl (by rw [hz2]; omega) (by unfold maxLen; omega) (Nat.le_refl _) ?_; intro w1 ho1 hg1)
  have hz : (madeCells (Value.bool false).cells (n * 1)).toList = List.replicate n (.bool false) := by
   rw [show (Value.bool false).cells = #[.bool false] from rfl, toList_madeCells_one, Nat.mul_one]
  rw [hz, seenL_nil] at ho1
  have HI1 := Lib.hid (show SeI w w1 n [] from ⟨(Below.refl _ _).grown hg1 (Nat.le_refl _) (by simp), ho1⟩)
  clear hz ho1 hg1
  go_wp2_with fail
  go_loopw [6] (fun i wr => ∃ k : Nat, k ≤ n ∧ i = .int .i64 k ∧ SeI w wr n (l.take k) ∧ (l.take k).Nodup ∧ ∀ c ∈ l.take k, 0 ≤ c ∧ c < (n : Int)) (fun i _ => n - (intOf i).toNat)
  case atStart => exact ⟨0, Nat.zero_le _, rfl, HI1.out, by simp, by simp⟩
  case round =>
   clear HI1
   obtain ⟨k, hk, rfl, hst, hnd, hrg⟩ := hrel
   have HST := Lib.hid hst
   have HND := Lib.hid hnd
   have HRG := Lib.hid hrg
   have hk0 : (0 : Int) ≤ k := by omega
   clear hst hnd hrg
   by_cases hlt : k < n
   ·have hkI : (k : Int) < n := by omega
    obtain ⟨b, off, hA, hrd⟩ := (HR.out.below HST.out.bl).2 (by omega)
    have hc := i64_at hrd (k := k) (by rw [HN.out]; exact hlt)
    have HCK := Lib.hid (fun W (hW : Below w.heap.size w W) => row_cell (y := l.getD k 0) (by rw [← hA]; exact HR.out) hW (show k < l.length by rw [HN.out]; exact hlt) rfl)
    obtain ⟨z, hz⟩ : ∃ z, z = l.getD k 0 := ⟨_, rfl⟩
    rw [← hz] at hc
    have HZ := Lib.hid hz
    have HTN := Lib.hid (show l.take (k + 1) = l.take k ++ [z] by rw [take_next (by rw [HN.out]; exact hlt), ← hz])
    have HMEM := Lib.hid (show z ∈ l by rw [hz]; exact mem_getD (by rw [HN.out]; exact hlt))
    have HI := Lib.hid (fun W => refIs_any z n W)
    subst hA
    clear hrd hz HCK
    cases t1 : withinB z n with
    | false =>
     have HB := Lib.hid (order_no (l := l) (n := n) (fun h => of_decide_eq_false t1 (h.2.1 _ HMEM.out)))
     rw [t1] at HI
     clear t1
     go_wp2_with (go_at_call 122; refine (HI.out _).mono ?_; rintro e wq ⟨rfl, rfl⟩)
     go_ret
     exact ⟨(ret_bool HB.out).symm, HST.out.bl⟩
    | true =>
     obtain ⟨g1, g2⟩ := of_decide_eq_true (show decide (Within z n) = true from t1)
     rw [t1] at HI
     obtain ⟨zn, rfl⟩ := Int.eq_ofNat_of_zero_le g1
     have c2 : zn < n := by omega
     have c2I : ((zn : Nat) : Int) < n := by omega
     have hsc := (HST.out.own.cellAt zn (by omega)).trans (seenL_at c2)
     have hsf := HST.out.own.frozenAt zn
     clear t1
     cases t2 : decide (((zn : Nat) : Int) ∈ l.take k) with
     | true =>
      rw [t2] at hsc
      have HB := Lib.hid (order_no (l := l) (n := n) (fun h => by
       have h1 := h.2.2.sublist (List.take_sublist (k + 1) l)
       rw [HTN.out, List.nodup_append] at h1
       exact h1.2.2 _ (of_decide_eq_true t2) _ (by simp) rfl))
      clear t2
      go_wp2_with (go_at_call 122; refine (HI.out _).mono ?_; rintro e wq ⟨rfl, rfl⟩)
      go_ret
      exact ⟨(ret_bool HB.out).symm, HST.out.bl⟩
     | false =>
      rw [t2] at hsc
      have c3 := of_decide_eq_false t2
      have HC3 := Lib.hid c3
      have HNX := Lib.hid (HST.out.put c2)
      clear c3 t2
      go_wp2_with (go_at_call 122; refine (HI.out _).mono ?_; rintro e wq ⟨rfl, rfl⟩)
      go_roundw
      case rel => exact ⟨k + 1, by omega, by go_num, by rw [HTN.out]; exact HNX.out, by
       rw [HTN.out, List.nodup_append]
       exact ⟨HND.out, by simp, fun a ha b hb e => by rw [List.mem_singleton] at hb; subst hb; subst e; exact HC3.out ha⟩, fun c hc => by
       rw [HTN.out] at hc
       rcases List.mem_append.1 hc with hc | hc
       ·exact HRG.out c hc
       ·rw [List.mem_singleton] at hc
        omega⟩
      case measure => simp [intOf]; omega
   ·obtain rfl : n = k := by omega
    have hkI : ¬ (n : Int) < n := by omega
    have HB := Lib.hid (order_yes (l := l) (n := n) ⟨HN.out, by
     have h2 := HRG.out
     rw [← HN.out, List.take_length] at h2
     rw [← HN.out]
     exact h2, by
     have h2 := HND.out
     rw [← HN.out, List.take_length] at h2
     exact h2⟩)
    go_wp2_with fail
    go_ret
    exact ⟨(ret_bool HB.out).symm, HST.out.bl⟩
 ·have hb : ((n : Int) != m) = true := by rw [bne_iff_ne]; omega
  have HB := Lib.hid (order_no (l := l) (n := m) (fun h => h1 (by rw [← HN.out]; exact h.1)))
  go_enter Tryz.func151, Tryz.ntmps151
  go_wp2_with fail
  go_ret
  exact ⟨(ret_bool HB.out).symm, Below.refl _ _⟩
end Go.Proofs.YtofgmijmhpmabaaGreatDoor.D
namespace Go.Proofs.YtofgmijmhpmabaaGreatDoor.D
open Go Go.RowKit
set_option linter.unusedVariables false
set_option linter.unusedSimpArgs false
def RFieldPost (s : St) (f num : Int) (w : World) (e : Ending) (w' : World) : Prop := ∃ (v : Int) (b : Bool), e = .returned (.tuple #[.int .i32 v, .bool b]) ∧ ((b = true ∧ getF s f num = some v) ∨ (b = false ∧ getF s f num = none)) ∧ Below w.heap.size w w'
theorem rfield_yes {s : St} {f num v : Int} {w w' : World} (h : getF s f num = some v) (hb : Below w.heap.size w w') : RFieldPost s f num w (.returned (.tuple #[.int .i32 v, .bool true])) w' := ⟨v, true, rfl, .inl ⟨rfl, h⟩, hb⟩
theorem rfield_no {s : St} {f num : Int} {w w' : World} (h : getF s f num = none) (hb : Below w.heap.size w w') : RFieldPost s f num w (.returned (.tuple #[.int .i32 0, .bool false])) w' := ⟨0, false, rfl, .inr ⟨rfl, h⟩, hb⟩
set_option maxRecDepth 100000 in
set_option maxHeartbeats 4000000 in
theorem refField_any (x : SV) (s : St) (f num : Int) (w : World) (h : RdSt w x s) : Calls Tryz.prog 149 #[x.val s, .int .i8 f, .int .i64 num] w (RFieldPost s f num w) := by
 have HR0 := Lib.hid h
 obtain ⟨cs, hcs⟩ : ∃ cs, cs = x.arr s := ⟨_, rfl⟩
 obtain ⟨n, hn⟩ : ∃ n, n = s.players.length := ⟨_, rfl⟩
 obtain ⟨m, hm⟩ : ∃ m, m = s.cards.length := ⟨_, rfl⟩
 have HBX := Lib.hid (G.Blk.new w 27 cs)
 obtain ⟨w1, hw1⟩ : ∃ w1, w1 = w.alloc (.cells cs 27) := ⟨_, rfl⟩
 have HB1 := Lib.hid (show Below w.heap.size w w1 by rw [hw1]; exact G.bl_alloc (Below.refl _ _) _)
 rw [← hw1] at HBX
 have HC0 := Lib.hid (show cs[0]? = some (.slice x.pa n x.pc) by rw [hcs, hn]; rfl)
 have HC1 := Lib.hid (show cs[1]? = some (.slice x.ca m x.cc) by rw [hcs, hm]; rfl)
 have he : x.val s = .agg cs := by rw [hcs]; rfl
 rw [he]
 have HN := Lib.hid hn
 have HM := Lib.hid hm
 have HRW := Lib.hid (h.below HB1.out)
 clear h hcs he hn hm
 have c0 := (HBX.out.cell 0).trans HC0.out
 have c1 := (HBX.out.cell 1).trans HC1.out
 have hwl : w.heap.size < w1.heap.size := HBX.out.lt
 go_enter Tryz.func149, Tryz.ntmps149
 go_upto_region 1 with (fail)
 rw [← hw1]
 clear hw1
 by_cases k1 : 1 ≤ f ∧ f ≤ 4
 ·cases t1 : withinB num m with
  | false =>
   have HI := Lib.hid (fun W => refIs_any num m W)
   rw [t1] at HI
   have HG := Lib.hid (show getF s f num = none by unfold getF; rw [if_pos k1.2, if_neg (fun h => of_decide_eq_false t1 (by rw [HM.out]; exact h.2))])
   clear t1
   have hf : f = 1 ∨ f = 2 ∨ f = 3 ∨ f = 4 := by omega
   rcases hf with rfl | rfl | rfl | rfl
   all_goals
    go_wp2_with (go_at_call 122; refine (HI.out _).mono ?_; rintro e wq ⟨rfl, rfl⟩)
    go_ret2
    exact rfield_no HG.out HB1.out
  | true =>
   obtain ⟨h1, h2⟩ := of_decide_eq_true (show decide (Within num m) = true from t1)
   obtain ⟨q, rfl⟩ := Int.eq_ofNat_of_zero_le h1
   have hq : q < m := by omega
   have hqI : (q : Int) < m := by omega
   have hq0 : (0 : Int) ≤ q := by omega
   have HI := Lib.hid (fun W => refIs_any (q : Int) m W)
   rw [t1] at HI
   have hp := HRW.out.c
   rw [← HM.out] at hp
   obtain ⟨b, off, hpa, hrd⟩ := hp.2 (by omega)
   obtain ⟨ca, hca⟩ : ∃ ca, ca = x.ca := ⟨_, rfl⟩
   rw [← hca] at hpa c1
   subst hpa
   obtain ⟨y, hy⟩ : ∃ y, y = s.cards.getD q zeroCd := ⟨_, rfl⟩
   obtain ⟨p0, p1, p2, p3, p4, p5⟩ := cd_at hrd (k := q) (by rw [← HM.out]; exact hq) hy.symm
   have hbs := hrd.1
   have HG := Lib.hid (show getF s f ((q : Nat) : Int) = some (cardF y f) by unfold getF; rw [if_pos k1.2, if_pos ⟨k1.1, by rw [← HM.out]; exact ⟨h1, h2⟩⟩, hy]; rfl)
   clear hy hp hrd hca t1
   obtain ⟨kind, owner, power, health, damage, marks⟩ := y
   simp only at p0 p1 p2 p3 p4 p5
   have hf : f = 1 ∨ f = 2 ∨ f = 3 ∨ f = 4 := by omega
   rcases hf with rfl | rfl | rfl | rfl
   all_goals
    go_wp2_with (go_at_call 122; refine (HI.out _).mono ?_; rintro e wq ⟨rfl, rfl⟩)
    go_ret2
    exact rfield_yes HG.out (G.bl_alloc HB1.out _)
 by_cases k5 : f = 5
 ·subst k5
  cases t1 : withinB num n with
  | false =>
   have HI := Lib.hid (fun W => refIs_any num n W)
   rw [t1] at HI
   have HG := Lib.hid (show getF s 5 num = none by unfold getF; rw [if_neg (by decide), if_neg (fun h => of_decide_eq_false t1 (by rw [HN.out]; exact h.2))])
   clear t1
   go_wp2_with (go_at_call 122; refine (HI.out _).mono ?_; rintro e wq ⟨rfl, rfl⟩)
   go_ret2
   exact rfield_no HG.out HB1.out
  | true =>
   obtain ⟨h1, h2⟩ := of_decide_eq_true (show decide (Within num n) = true from t1)
   obtain ⟨q, rfl⟩ := Int.eq_ofNat_of_zero_le h1
   have hq : q < n := by omega
   have hqI : (q : Int) < n := by omega
   have hq0 : (0 : Int) ≤ q := by omega
   have HI := Lib.hid (fun W => refIs_any (q : Int) n W)
   rw [t1] at HI
   have hp := HRW.out.p
   rw [← HN.out] at hp
   obtain ⟨b, off, hpa, hrd⟩ := hp.2 (by omega)
   obtain ⟨pa, hca⟩ : ∃ pa, pa = x.pa := ⟨_, rfl⟩
   rw [← hca] at hpa c0
   subst hpa
   obtain ⟨y, hy⟩ : ∃ y, y = s.players.getD q zeroPl := ⟨_, rfl⟩
   obtain ⟨p0, p1, p2⟩ := pl_at hrd (k := q) (by rw [← HN.out]; exact hq) hy.symm
   have hbs := hrd.1
   have HG := Lib.hid (show getF s 5 ((q : Nat) : Int) = some (plF y 5) by unfold getF; rw [if_neg (by decide), if_pos ⟨by decide, by rw [← HN.out]; exact ⟨h1, h2⟩⟩, hy]; rfl)
   clear hy hp hrd hca t1
   obtain ⟨life, energy, out⟩ := y
   simp only at p0 p1 p2
   go_wp2_with (go_at_call 122; refine (HI.out _).mono ?_; rintro e wq ⟨rfl, rfl⟩)
   go_ret2
   exact rfield_yes HG.out HB1.out
 by_cases k6 : f = 6
 ·subst k6
  cases t1 : withinB num n with
  | false =>
   have HI := Lib.hid (fun W => refIs_any num n W)
   rw [t1] at HI
   have HG := Lib.hid (show getF s 6 num = none by unfold getF; rw [if_neg (by decide), if_neg (fun h => of_decide_eq_false t1 (by rw [HN.out]; exact h.2))])
   clear t1
   go_wp2_with (go_at_call 122; refine (HI.out _).mono ?_; rintro e wq ⟨rfl, rfl⟩)
   go_ret2
   exact rfield_no HG.out HB1.out
  | true =>
   obtain ⟨h1, h2⟩ := of_decide_eq_true (show decide (Within num n) = true from t1)
   obtain ⟨q, rfl⟩ := Int.eq_ofNat_of_zero_le h1
   have hq : q < n := by omega
   have hqI : (q : Int) < n := by omega
   have hq0 : (0 : Int) ≤ q := by omega
   have HI := Lib.hid (fun W => refIs_any (q : Int) n W)
   rw [t1] at HI
   have hp := HRW.out.p
   rw [← HN.out] at hp
   obtain ⟨b, off, hpa, hrd⟩ := hp.2 (by omega)
   obtain ⟨pa, hca⟩ : ∃ pa, pa = x.pa := ⟨_, rfl⟩
   rw [← hca] at hpa c0
   subst hpa
   obtain ⟨y, hy⟩ : ∃ y, y = s.players.getD q zeroPl := ⟨_, rfl⟩
   obtain ⟨p0, p1, p2⟩ := pl_at hrd (k := q) (by rw [← HN.out]; exact hq) hy.symm
   have hbs := hrd.1
   have HG := Lib.hid (show getF s 6 ((q : Nat) : Int) = some (plF y 6) by unfold getF; rw [if_neg (by decide), if_pos ⟨by decide, by rw [← HN.out]; exact ⟨h1, h2⟩⟩, hy]; rfl)
   clear hy hp hrd hca t1
   obtain ⟨life, energy, out⟩ := y
   simp only at p0 p1 p2
   go_wp2_with (go_at_call 122; refine (HI.out _).mono ?_; rintro e wq ⟨rfl, rfl⟩)
   go_ret2
   exact rfield_yes HG.out HB1.out
 have HG := Lib.hid (show getF s f num = none by
  unfold getF
  by_cases h4 : f ≤ 4
  ·rw [if_pos h4, if_neg (fun h => k1 ⟨h.1, h4⟩)]
  ·rw [if_neg h4, if_neg (fun h => by omega)])
 have b5 : (f == 5) = false := by simpa using k5
 have b6 : (f == 6) = false := by simpa using k6
 by_cases k7 : 1 ≤ f
 ·have k8 : ¬ f ≤ 4 := fun h => k1 ⟨k7, h⟩
  go_wp2_with fail
  go_ret2
  exact rfield_no HG.out HB1.out
 ·go_wp2_with fail
  go_ret2
  exact rfield_no HG.out HB1.out
end Go.Proofs.YtofgmijmhpmabaaGreatDoor.D

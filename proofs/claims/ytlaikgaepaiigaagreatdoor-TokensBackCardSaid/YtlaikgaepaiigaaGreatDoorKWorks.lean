/- The contract of tableaulaw08.works. -/
import Derived.Test.YtlaikgaepaiigaaGreatDoorKEq
import Derived.Lib.SlBytesConst
namespace Go.Proofs.YtlaikgaepaiigaaGreatDoor.K
open Go Go.RowKit
set_option linter.unusedVariables false
set_option linter.unusedSimpArgs false
def srcA : ByteArray := ⟨#[99, 97, 114, 100, 32, 34, 70, 111, 120, 34]⟩
def srcB : ByteArray := ⟨#[97, 32, 35, 32, 98]⟩
def wantA : List Tk := [⟨1, ⟨#[99, 97, 114, 100]⟩, 0, 0⟩, ⟨3, ⟨#[70, 111, 120]⟩, 0, 5⟩, ⟨0, ⟨#[]⟩, 0, 10⟩]
theorem resA : resOf srcA = (wantA, 0, 0) := by kernel_rfl
theorem resB : resOf srcB = ([], 21, 2) := by kernel_rfl
theorem src_lit (w : World) (s : ByteArray) (cs : Array Value) (fr : Nat × Nat) (h : cs = s.data.map fun c => Value.int .u8 (c.toNat : Int)) : Src (w.alloc (.cells cs 5 fr)) (some ⟨w.heap.size, 0, none⟩) s := fun h0 => by
  refine ⟨w.heap.size, 0, rfl, by simp, fun i hi => ?_⟩
  rw [Nat.zero_add, cell_of_row _ _ i cs _ fr (heap_alloc_new w _), h, Array.getElem?_map, Array.getElem?_eq_getElem (show i < s.data.size from hi)]
  rfl
def WorksPost (w : World) (e : Ending) (w' : World) : Prop := e = .returned (.bool true) ∧ Below w.heap.size w w'
set_option maxRecDepth 100000 in
set_option maxHeartbeats 2000000 in
theorem works_any (w : World) (hL : LibIn w) : Calls Tryz.prog 9 #[] w (WorksPost w) := by
  have HL := Lib.hid (fun W (h : Below w.heap.size w W) => hL.below h)
  obtain ⟨w1, hw1⟩ : ∃ w1, w1 = w.alloc (.cells #[.int .u8 99, .int .u8 97, .int .u8 114, .int .u8 100, .int .u8 32, .int .u8 34, .int .u8 70, .int .u8 111, .int .u8 120, .int .u8 34] 5 (10, 11)) := ⟨_, rfl⟩
  have HS1 := Lib.hid (show Src w1 (some ⟨w.heap.size, 0, none⟩) srcA by rw [hw1]; exact src_lit w srcA _ _ (by kernel_rfl))
  have HB1 := Lib.hid (show Below w.heap.size w w1 by rw [hw1]; exact G.bl_alloc (Below.refl _ _) _)
  have HW1 := Lib.hid hw1
  clear hL hw1
  have kc := fun (w : World) (C : Array Value) (n c : Nat) => Lib.run_convert_bytes_const (P := Tryz.prog) w 32 5 C n c Tryz.underlying32 Tryz.underlying5
  unfold WorksPost
  go_enter Tryz.func9, Tryz.ntmps9
  go_wp2_with fail
  rw [← HW1.out]
  have c1 := cut_any (some ⟨w.heap.size, 0, none⟩) 10 srcA w1 HS1.out (by decide) (HL.out _ HB1.out)
  rw [show srcA.size = 10 from rfl] at c1
  refine c1.mono ?_
  clear c1
  rintro e w2 he
  unfold CutPost at he
  rw [resA] at he
  obtain ⟨v, rfl, hown, hb2⟩ := he
  obtain ⟨a, c, rfl⟩ := G.own_shape hown
  have HO2 := Lib.hid hown
  have HB2 := Lib.hid (G.bl_trans HB1.out hb2)
  clear hown hb2
  obtain ⟨w3, hw3⟩ : ∃ w3, w3 = w2.alloc (.cells #[.int .u8 97, .int .u8 32, .int .u8 35, .int .u8 32, .int .u8 98] 5 (5, 6)) := ⟨_, rfl⟩
  have HS3 := Lib.hid (show Src w3 (some ⟨w2.heap.size, 0, none⟩) srcB by rw [hw3]; exact src_lit w2 srcB _ _ (by kernel_rfl))
  have hb3 : Below w2.heap.size w2 w3 := by rw [hw3]; exact G.bl_alloc (Below.refl _ _) _
  have HB3 := Lib.hid (G.bl_trans HB2.out hb3)
  have HO3 := Lib.hid (G.own_below HO2.out hb3)
  have HW3 := Lib.hid hw3
  clear hw3 hb3
  go_wp2_with fail
  rw [← HW3.out]
  have c1 := cut_any (some ⟨w2.heap.size, 0, none⟩) 5 srcB w3 HS3.out (by decide) (HL.out _ HB3.out)
  rw [show srcB.size = 5 from rfl] at c1
  refine c1.mono ?_
  clear c1
  rintro e w4 he
  unfold CutPost at he
  rw [resB] at he
  obtain ⟨v, rfl, hown, hb4⟩ := he
  obtain ⟨a2, c2, rfl⟩ := G.own_shape hown
  have HO4 := Lib.hid (G.own_below HO3.out hb4)
  have HB4 := Lib.hid (G.bl_trans HB3.out hb4)
  clear hown hb4
  obtain ⟨w5, hw5⟩ : ∃ w5, w5 = w4.alloc (.cells #[.int .i8 1, .string ⟨#[99, 97, 114, 100]⟩, .int .i64 0, .int .i64 0, .int .i8 3, .string ⟨#[70, 111, 120]⟩, .int .i64 0, .int .i64 5, .int .i8 0, .string ⟨#[]⟩, .int .i64 0, .int .i64 10] 24) := ⟨_, rfl⟩
  have hb5 : Below w4.heap.size w4 w5 := by rw [hw5]; exact G.bl_alloc (Below.refl _ _) _
  have HB5 := Lib.hid (G.bl_trans HB4.out hb5)
  have HO5 := Lib.hid (G.own_below HO4.out hb5)
  have HR5 := Lib.hid (show G.RdS w5 (some ⟨w4.heap.size, 0, none⟩) 4 3 (flatT wantA) by
    refine G.RdS.of_rdV ?_ rfl
    rw [hw5]
    exact (G.Blk.new w4 24 _).rdV)
  have HW5 := Lib.hid hw5
  clear hw5 hb5
  go_wp2_with fail
  rw [← HW5.out]
  have c1 := eqTokens_any a (some ⟨w4.heap.size, 0, none⟩) 3 3 c 3 wantA wantA w5 (G.RdS.of_own HO5.out) HR5.out (by decide) (by decide)
  rw [decide_eq_true (rfl : wantA = wantA)] at c1
  refine c1.mono ?_
  rintro e w6 ⟨rfl, q, rfl⟩
  clear c1
  have HB6 := Lib.hid (G.bl_drewN HB5.out q)
  go_wp2_with fail
  go_ret
  exact ⟨rfl, HB6.out⟩
end Go.Proofs.YtlaikgaepaiigaaGreatDoor.K

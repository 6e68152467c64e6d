/- The reference of layer 06: Plain. Printed by gen_ref6p.py. -/
import Derived.Test.YtofgmijmhpmabaaGreatDoorDRef6E
import Derived.Test.YtofgmijmhpmabaaGreatDoorDCopySt
import Derived.Test.YtofgmijmhpmabaaGreatDoorDEqEv
import Derived.Test.YtofgmijmhpmabaaGreatDoorDMay
namespace Go.Proofs.YtofgmijmhpmabaaGreatDoor.D
open Go Go.RowKit
set_option linter.unusedVariables false
set_option linter.unusedSimpArgs false
def stripE (e : Ev) : Ev :=
 if e.kind = 1 then { e with kind := 0, card := 0, src := 0, srcAt := 0, dst := 0, dstAt := 0 }
 else if e.kind = 2 then { e with kind := 0, field := 0, card := 0, was := 0, now := 0 }
 else if e.kind = 3 then { e with kind := 0, field := 0, player := 0, was := 0, now := 0 }
 else if e.kind = 4 then { e with kind := 0, src := 0, order := [] }
 else if e.kind = 5 then { e with kind := 0, player := 0 }
 else if e.kind = 6 then { e with kind := 0, was := 0, player := 0, now := 0, other := 0 }
 else if e.kind = 7 then { e with kind := 0, now := 0, player := 0 }
 else { e with kind := 0 }
def rplainB (e : Ev) : Bool := decide (stripE e = zeroEv)
theorem rplainB_iff {e : Ev} (h : 1 ≤ e.kind ∧ e.kind ≤ 7) : rplainB e = true ↔ PlainE e := by
 obtain ⟨kind, field, card, player, other, src, srcAt, dst, dstAt, was, now, order⟩ := e
 simp only at h
 have hk : kind = 1 ∨ kind = 2 ∨ kind = 3 ∨ kind = 4 ∨ kind = 5 ∨ kind = 6 ∨ kind = 7 := by omega
 unfold rplainB PlainE
 rw [decide_eq_true_eq]
 rcases hk with rfl | rfl | rfl | rfl | rfl | rfl | rfl
 all_goals
  unfold stripE keepE zeroEv
  simp only [reduceIte, Ev.mk.injEq]
  constructor
  ·intro hh
   simp_all
  ·intro hh
   have h2 := hh.2
   repeat' apply And.intro
   all_goals first
    | rfl
    | omega
    | simp_all
theorem rplainB_no {e : Ev} (h : rplainB e = false) : ¬ PlainE e := fun hp => by
 rw [(rplainB_iff hp.1).2 hp] at h
 cases h
theorem stepE_plain {s : St} {e : Ev} {b : Bool} (h : rplainB e = false) : stepE s e b = none := if_neg (rplainB_no h)
theorem stepE_out {s : St} {e : Ev} {b : Bool} (h : ¬ (1 ≤ e.kind ∧ e.kind ≤ 7)) : stepE s e b = none := if_neg fun hp => h hp.1
theorem stepE_in {s : St} {e : Ev} {b : Bool} (h : rplainB e = true) (hk : 1 ≤ e.kind ∧ e.kind ≤ 7) : stepE s e b = if b then backE s e else doE s e := if_pos ((rplainB_iff hk).1 h)
theorem own_put {w : World} {g i base : Nat} {cs : Array Value} {u : Value} {v : Value} {n : Nat} {xs : List Value} (h : w.ownsRow base 3 1 v n xs) (hb : G.Blk w g 30 cs) : (w.setCell ⟨g, i, none⟩ u).ownsRow base 3 1 v n xs := (only_put hb u).own h (by decide)
theorem zeroE_b2 : Tryz.prog.built 30 [] = some zeroE := by kernel_rfl
set_option maxRecDepth 100000 in
set_option maxHeartbeats 4000000 in
theorem refPlain_any (y : EV) (e : Ev) (w : World) (hr : RdEv w y e) (hl : e.order.length ≤ 33554432) : Calls Tryz.prog 118 #[y.val e] w (BoolPost (rplainB e) w) := by
 obtain ⟨fsE, hfsE⟩ := undEv
 have HFE := Lib.hid hfsE
 have HCE := Lib.hid (fun W (hW : Below w.heap.size w W) => copyEvent_any y e W (RdEv.below hr hW) hl)
 have HL := Lib.hid hl
 obtain ⟨c, hc⟩ : ∃ c, c = y.arr e := ⟨_, rfl⟩
 have HS := Lib.hid (show c.size = 12 by rw [hc]; rfl)
 have HC0 := Lib.hid (show c[0]? = some (.int .i8 e.kind) by rw [hc]; rfl)
 have he : y.val e = .agg c := by rw [hc]; rfl
 rw [he] at HCE ⊢
 clear hr hl hc he hfsE
 have HBX := Lib.hid (G.Blk.new w 30 c)
 obtain ⟨w1, hw1⟩ : ∃ w1, w1 = w.alloc (.cells c 30) := ⟨_, rfl⟩
 have HB1 := Lib.hid (show Below w.heap.size w w1 by rw [hw1]; exact G.bl_alloc (Below.refl _ _) _)
 rw [← hw1] at HBX
 obtain ⟨g, hg⟩ : ∃ g, g = w.heap.size := ⟨_, rfl⟩
 have HG := Lib.hid hg
 rw [← hg] at HBX
 go_enter Tryz.func118, Tryz.ntmps118
 go_upto_region 1 with (fail)
 rw [← hw1, ← hg]
 clear hw1 hg
 go_upto_region 2 with (first | (refine wpList_load_row rfl 30 _ rfl g rfl _ c (0, 0) _ HBX.out HFE.out rfl (by rw [HS.out]; exact sizeEv) ?_) | ((with_reducible refine (HCE.out _ HB1.out).mono ?_); rintro e1 w2 hp; obtain ⟨y2, rfl, ho2, hb2⟩ := hp; have HO2 := Lib.hid ho2; have HBW2 := Lib.hid hb2; clear ho2 hb2) | (refine wpList_store_row rfl 30 _ _ rfl _ (y2.arr e) rfl rfl 30 _ (heap_alloc_new _ _) (by kernel_rfl) (by kernel_rfl) (by kernel_rfl) ?_))
 have HB3 := Lib.hid (show G.Blk ((w2.alloc (.cells zeroE 30)).setRow w2.heap.size (y2.arr e)) w2.heap.size 30 (y2.arr e) from setRow_heap _ _ _ _ _ _ (heap_alloc_new _ _))
 have HBL3 := Lib.hid (show Below w.heap.size w ((w2.alloc (.cells zeroE 30)).setRow w2.heap.size (y2.arr e)) from below_setRow (G.bl_alloc (G.bl_trans HB1.out HBW2.out) _) (G.bl_trans HB1.out HBW2.out).size _)
 have HX3 := Lib.hid (show G.Blk ((w2.alloc (.cells zeroE 30)).setRow w2.heap.size (y2.arr e)) g 30 c from (HBX.out.below HBW2.out HBX.out.lt).below (below_setRow (G.bl_alloc (Below.refl w2.heap.size w2) _) (Nat.le_refl _) _) (HBX.out.below HBW2.out HBX.out.lt).lt)
 have HO3 := Lib.hid (show OwnEv ((w2.alloc (.cells zeroE 30)).setRow w2.heap.size (y2.arr e)) w1.heap.size y2 e from HO2.out.below (below_setRow (G.bl_alloc (Below.refl w2.heap.size w2) _) (Nat.le_refl _) _))
 have HL3 := Lib.hid (show w.heap.size ≤ w2.heap.size from (G.bl_trans HB1.out HBW2.out).size)
 obtain ⟨g3, hg3⟩ : ∃ g3, g3 = w2.heap.size := ⟨_, rfl⟩
 have HLW := Lib.hid (show w1.heap.size ≤ g3 by rw [hg3]; exact HBW2.out.size)
 obtain ⟨w3, hw3⟩ : ∃ w3, w3 = (w2.alloc (.cells zeroE 30)).setRow w2.heap.size (y2.arr e) := ⟨_, rfl⟩
 rw [← hw3, ← hg3] at HB3
 rw [← hw3] at HBL3 HX3 HO3
 rw [← hg3] at HL3
 unfold zeroE at hw3
 rw [← hw3, ← hg3]
 clear hw3 hg3 HO2 HBW2
 have HNE := Lib.hid (show g ≠ g3 by have := HBX.out.lt; have := HLW.out; omega)
 have c0 := (HB3.out.cell 0).trans (show (y2.arr e)[0]? = some (.int .i8 e.kind) from rfl)
 have f0 := HB3.out.frozen 0
 have l0 := HX3.out.lt
 have l3 := HB3.out.lt
 go_upto_region 3 with (fail)
 have HB4 := Lib.hid (HB3.out.put 0 (.int .i8 0))
 have HX4 := Lib.hid (blk_put_ne (i := 0) (u := .int .i8 0) HX3.out HNE.out)
 have HO4 := Lib.hid (own_put (i := 0) (u := .int .i8 0) HO3.out HB3.out)
 have HBL4 := Lib.hid (G.bl_set HBL3.out (p := ⟨g3, 0, none⟩) HL3.out (.int .i8 0))
 obtain ⟨w4, hw4⟩ : ∃ w4, w4 = w3.setCell ⟨g3, 0, none⟩ (.int .i8 0) := ⟨_, rfl⟩
 rw [← hw4] at HB4 HX4 HO4 HBL4 ⊢
 obtain ⟨cx, hcx⟩ : ∃ cx, cx = (y2.arr e).setIfInBounds 0 (.int .i8 0) := ⟨_, rfl⟩
 have HCX := Lib.hid hcx
 rw [← hcx] at HB4
 clear hw4 hcx c0 f0 l0 l3 HB3 HX3 HO3 HBL3
 have d0 := (HX4.out.cell 0).trans HC0.out
 have l0 := HX4.out.lt
 have l3 := HB4.out.lt
 by_cases k1 : e.kind = 1
 ·have hk := k1
  have HP := Lib.hid (show rplainB e = decide ({ e with kind := 0, card := 0, src := 0, srcAt := 0, dst := 0, dstAt := 0 } = zeroEv) by unfold rplainB stripE; rw [if_pos hk])
  rw [hk] at d0
  have c2 := (HB4.out.cell 2).trans (show cx[2]? = some (.int .i64 e.card) by rw [HCX.out]; rfl)
  have f2 := HB4.out.frozen 2
  have c5 := (HB4.out.cell 5).trans (show cx[5]? = some (.int .i64 e.src) by rw [HCX.out]; rfl)
  have f5 := HB4.out.frozen 5
  have c6 := (HB4.out.cell 6).trans (show cx[6]? = some (.int .i64 e.srcAt) by rw [HCX.out]; rfl)
  have f6 := HB4.out.frozen 6
  have c7 := (HB4.out.cell 7).trans (show cx[7]? = some (.int .i64 e.dst) by rw [HCX.out]; rfl)
  have f7 := HB4.out.frozen 7
  have c8 := (HB4.out.cell 8).trans (show cx[8]? = some (.int .i64 e.dstAt) by rw [HCX.out]; rfl)
  have f8 := HB4.out.frozen 8
  have HB5 := Lib.hid (show G.Blk (((((w4.setCell ⟨g3, 2, none⟩ (.int .i64 0)).setCell ⟨g3, 5, none⟩ (.int .i64 0)).setCell ⟨g3, 6, none⟩ (.int .i64 0)).setCell ⟨g3, 7, none⟩ (.int .i64 0)).setCell ⟨g3, 8, none⟩ (.int .i64 0)) g3 30 (y2.arr ({ e with kind := 0, card := 0, src := 0, srcAt := 0, dst := 0, dstAt := 0 })) by have h9 := (G.Blk.put (G.Blk.put (G.Blk.put (G.Blk.put (G.Blk.put HB4.out 2 (.int .i64 0)) 5 (.int .i64 0)) 6 (.int .i64 0)) 7 (.int .i64 0)) 8 (.int .i64 0)); rw [HCX.out] at h9; exact h9)
  have HBL5 := Lib.hid (G.bl_set (G.bl_set (G.bl_set (G.bl_set (G.bl_set HBL4.out (p := ⟨g3, 2, none⟩) HL3.out (.int .i64 0)) (p := ⟨g3, 5, none⟩) HL3.out (.int .i64 0)) (p := ⟨g3, 6, none⟩) HL3.out (.int .i64 0)) (p := ⟨g3, 7, none⟩) HL3.out (.int .i64 0)) (p := ⟨g3, 8, none⟩) HL3.out (.int .i64 0))
  have HR5 := Lib.hid (show RdEv (((((w4.setCell ⟨g3, 2, none⟩ (.int .i64 0)).setCell ⟨g3, 5, none⟩ (.int .i64 0)).setCell ⟨g3, 6, none⟩ (.int .i64 0)).setCell ⟨g3, 7, none⟩ (.int .i64 0)).setCell ⟨g3, 8, none⟩ (.int .i64 0)) y2 ({ e with kind := 0, card := 0, src := 0, srcAt := 0, dst := 0, dstAt := 0 }) from G.RdS.of_own (own_put (i := 8) (u := .int .i64 0) (own_put (i := 7) (u := .int .i64 0) (own_put (i := 6) (u := .int .i64 0) (own_put (i := 5) (u := .int .i64 0) (own_put (i := 2) (u := .int .i64 0) HO4.out HB4.out) (G.Blk.put HB4.out 2 (.int .i64 0))) (G.Blk.put (G.Blk.put HB4.out 2 (.int .i64 0)) 5 (.int .i64 0))) (G.Blk.put (G.Blk.put (G.Blk.put HB4.out 2 (.int .i64 0)) 5 (.int .i64 0)) 6 (.int .i64 0))) (G.Blk.put (G.Blk.put (G.Blk.put (G.Blk.put HB4.out 2 (.int .i64 0)) 5 (.int .i64 0)) 6 (.int .i64 0)) 7 (.int .i64 0))))
  go_upto_region 33 with (fail)
  obtain ⟨w5, hw5⟩ : ∃ w5, w5 = (((((w4.setCell ⟨g3, 2, none⟩ (.int .i64 0)).setCell ⟨g3, 5, none⟩ (.int .i64 0)).setCell ⟨g3, 6, none⟩ (.int .i64 0)).setCell ⟨g3, 7, none⟩ (.int .i64 0)).setCell ⟨g3, 8, none⟩ (.int .i64 0)) := ⟨_, rfl⟩
  rw [← hw5] at HB5 HBL5 HR5 ⊢
  have HEQ := Lib.hid (fun W (hW : Below w5.heap.size w5 W) => eqEvent_any y2 ⟨none, 0⟩ ({ e with kind := 0, card := 0, src := 0, srcAt := 0, dst := 0, dstAt := 0 }) zeroEv W (RdEv.below HR5.out hW) (G.RdS.nil _) HL.out (by simp [zeroEv]))
  rw [← HP.out] at HEQ
  obtain ⟨cz, hcz⟩ : ∃ cz, cz = y2.arr ({ e with kind := 0, card := 0, src := 0, srcAt := 0, dst := 0, dstAt := 0 }) := ⟨_, rfl⟩
  rw [← hcz] at HB5
  have HS4 := Lib.hid (show cz.size = 12 by rw [hcz]; rfl)
  have hv4 : y2.val ({ e with kind := 0, card := 0, src := 0, srcAt := 0, dst := 0, dstAt := 0 }) = .agg cz := by rw [hcz]; rfl
  rw [hv4, show (⟨none, 0⟩ : EV).val zeroEv = .agg zeroE from rfl] at HEQ
  clear hw5 hcz hv4 d0 l0 l3 c2 f2 c5 f5 c6 f6 c7 f7 c8 f8
  go_wp2_with (first | (refine wpList_load_row rfl 30 _ rfl g3 rfl _ cz (0, 0) _ HB5.out HFE.out rfl (by rw [HS4.out]; exact sizeEv) ?_) | (refine build_to zeroE rfl 30 _ rfl _ (by kernel_rfl) zeroE_b2 ?_) | ((with_reducible refine (HEQ.out _ (Below.refl _ _)).mono ?_); rintro e5 w6 ⟨rfl, hb6⟩; have HB6 := Lib.hid hb6; clear hb6))
  go_ret
  exact ⟨rfl, G.bl_trans HBL5.out HB6.out⟩
 by_cases k2 : e.kind = 2
 ·have hk := k2
  have HP := Lib.hid (show rplainB e = decide ({ e with kind := 0, field := 0, card := 0, was := 0, now := 0 } = zeroEv) by unfold rplainB stripE; rw [if_neg (by rw [hk]; decide), if_pos hk])
  rw [hk] at d0
  have c1 := (HB4.out.cell 1).trans (show cx[1]? = some (.int .i8 e.field) by rw [HCX.out]; rfl)
  have f1 := HB4.out.frozen 1
  have c2 := (HB4.out.cell 2).trans (show cx[2]? = some (.int .i64 e.card) by rw [HCX.out]; rfl)
  have f2 := HB4.out.frozen 2
  have c9 := (HB4.out.cell 9).trans (show cx[9]? = some (.int .i32 e.was) by rw [HCX.out]; rfl)
  have f9 := HB4.out.frozen 9
  have c10 := (HB4.out.cell 10).trans (show cx[10]? = some (.int .i32 e.now) by rw [HCX.out]; rfl)
  have f10 := HB4.out.frozen 10
  have HB5 := Lib.hid (show G.Blk ((((w4.setCell ⟨g3, 1, none⟩ (.int .i8 0)).setCell ⟨g3, 2, none⟩ (.int .i64 0)).setCell ⟨g3, 9, none⟩ (.int .i32 0)).setCell ⟨g3, 10, none⟩ (.int .i32 0)) g3 30 (y2.arr ({ e with kind := 0, field := 0, card := 0, was := 0, now := 0 })) by have h9 := (G.Blk.put (G.Blk.put (G.Blk.put (G.Blk.put HB4.out 1 (.int .i8 0)) 2 (.int .i64 0)) 9 (.int .i32 0)) 10 (.int .i32 0)); rw [HCX.out] at h9; exact h9)
  have HBL5 := Lib.hid (G.bl_set (G.bl_set (G.bl_set (G.bl_set HBL4.out (p := ⟨g3, 1, none⟩) HL3.out (.int .i8 0)) (p := ⟨g3, 2, none⟩) HL3.out (.int .i64 0)) (p := ⟨g3, 9, none⟩) HL3.out (.int .i32 0)) (p := ⟨g3, 10, none⟩) HL3.out (.int .i32 0))
  have HR5 := Lib.hid (show RdEv ((((w4.setCell ⟨g3, 1, none⟩ (.int .i8 0)).setCell ⟨g3, 2, none⟩ (.int .i64 0)).setCell ⟨g3, 9, none⟩ (.int .i32 0)).setCell ⟨g3, 10, none⟩ (.int .i32 0)) y2 ({ e with kind := 0, field := 0, card := 0, was := 0, now := 0 }) from G.RdS.of_own (own_put (i := 10) (u := .int .i32 0) (own_put (i := 9) (u := .int .i32 0) (own_put (i := 2) (u := .int .i64 0) (own_put (i := 1) (u := .int .i8 0) HO4.out HB4.out) (G.Blk.put HB4.out 1 (.int .i8 0))) (G.Blk.put (G.Blk.put HB4.out 1 (.int .i8 0)) 2 (.int .i64 0))) (G.Blk.put (G.Blk.put (G.Blk.put HB4.out 1 (.int .i8 0)) 2 (.int .i64 0)) 9 (.int .i32 0))))
  go_upto_region 33 with (fail)
  obtain ⟨w5, hw5⟩ : ∃ w5, w5 = ((((w4.setCell ⟨g3, 1, none⟩ (.int .i8 0)).setCell ⟨g3, 2, none⟩ (.int .i64 0)).setCell ⟨g3, 9, none⟩ (.int .i32 0)).setCell ⟨g3, 10, none⟩ (.int .i32 0)) := ⟨_, rfl⟩
  rw [← hw5] at HB5 HBL5 HR5 ⊢
  have HEQ := Lib.hid (fun W (hW : Below w5.heap.size w5 W) => eqEvent_any y2 ⟨none, 0⟩ ({ e with kind := 0, field := 0, card := 0, was := 0, now := 0 }) zeroEv W (RdEv.below HR5.out hW) (G.RdS.nil _) HL.out (by simp [zeroEv]))
  rw [← HP.out] at HEQ
  obtain ⟨cz, hcz⟩ : ∃ cz, cz = y2.arr ({ e with kind := 0, field := 0, card := 0, was := 0, now := 0 }) := ⟨_, rfl⟩
  rw [← hcz] at HB5
  have HS4 := Lib.hid (show cz.size = 12 by rw [hcz]; rfl)
  have hv4 : y2.val ({ e with kind := 0, field := 0, card := 0, was := 0, now := 0 }) = .agg cz := by rw [hcz]; rfl
  rw [hv4, show (⟨none, 0⟩ : EV).val zeroEv = .agg zeroE from rfl] at HEQ
  clear hw5 hcz hv4 d0 l0 l3 c1 f1 c2 f2 c9 f9 c10 f10
  go_wp2_with (first | (refine wpList_load_row rfl 30 _ rfl g3 rfl _ cz (0, 0) _ HB5.out HFE.out rfl (by rw [HS4.out]; exact sizeEv) ?_) | (refine build_to zeroE rfl 30 _ rfl _ (by kernel_rfl) zeroE_b2 ?_) | ((with_reducible refine (HEQ.out _ (Below.refl _ _)).mono ?_); rintro e5 w6 ⟨rfl, hb6⟩; have HB6 := Lib.hid hb6; clear hb6))
  go_ret
  exact ⟨rfl, G.bl_trans HBL5.out HB6.out⟩
 by_cases k3 : e.kind = 3
 ·have hk := k3
  have HP := Lib.hid (show rplainB e = decide ({ e with kind := 0, field := 0, player := 0, was := 0, now := 0 } = zeroEv) by unfold rplainB stripE; rw [if_neg (by rw [hk]; decide), if_neg (by rw [hk]; decide), if_pos hk])
  rw [hk] at d0
  have c1 := (HB4.out.cell 1).trans (show cx[1]? = some (.int .i8 e.field) by rw [HCX.out]; rfl)
  have f1 := HB4.out.frozen 1
  have c3 := (HB4.out.cell 3).trans (show cx[3]? = some (.int .i64 e.player) by rw [HCX.out]; rfl)
  have f3 := HB4.out.frozen 3
  have c9 := (HB4.out.cell 9).trans (show cx[9]? = some (.int .i32 e.was) by rw [HCX.out]; rfl)
  have f9 := HB4.out.frozen 9
  have c10 := (HB4.out.cell 10).trans (show cx[10]? = some (.int .i32 e.now) by rw [HCX.out]; rfl)
  have f10 := HB4.out.frozen 10
  have HB5 := Lib.hid (show G.Blk ((((w4.setCell ⟨g3, 1, none⟩ (.int .i8 0)).setCell ⟨g3, 3, none⟩ (.int .i64 0)).setCell ⟨g3, 9, none⟩ (.int .i32 0)).setCell ⟨g3, 10, none⟩ (.int .i32 0)) g3 30 (y2.arr ({ e with kind := 0, field := 0, player := 0, was := 0, now := 0 })) by have h9 := (G.Blk.put (G.Blk.put (G.Blk.put (G.Blk.put HB4.out 1 (.int .i8 0)) 3 (.int .i64 0)) 9 (.int .i32 0)) 10 (.int .i32 0)); rw [HCX.out] at h9; exact h9)
  have HBL5 := Lib.hid (G.bl_set (G.bl_set (G.bl_set (G.bl_set HBL4.out (p := ⟨g3, 1, none⟩) HL3.out (.int .i8 0)) (p := ⟨g3, 3, none⟩) HL3.out (.int .i64 0)) (p := ⟨g3, 9, none⟩) HL3.out (.int .i32 0)) (p := ⟨g3, 10, none⟩) HL3.out (.int .i32 0))
  have HR5 := Lib.hid (show RdEv ((((w4.setCell ⟨g3, 1, none⟩ (.int .i8 0)).setCell ⟨g3, 3, none⟩ (.int .i64 0)).setCell ⟨g3, 9, none⟩ (.int .i32 0)).setCell ⟨g3, 10, none⟩ (.int .i32 0)) y2 ({ e with kind := 0, field := 0, player := 0, was := 0, now := 0 }) from G.RdS.of_own (own_put (i := 10) (u := .int .i32 0) (own_put (i := 9) (u := .int .i32 0) (own_put (i := 3) (u := .int .i64 0) (own_put (i := 1) (u := .int .i8 0) HO4.out HB4.out) (G.Blk.put HB4.out 1 (.int .i8 0))) (G.Blk.put (G.Blk.put HB4.out 1 (.int .i8 0)) 3 (.int .i64 0))) (G.Blk.put (G.Blk.put (G.Blk.put HB4.out 1 (.int .i8 0)) 3 (.int .i64 0)) 9 (.int .i32 0))))
  go_upto_region 33 with (fail)
  obtain ⟨w5, hw5⟩ : ∃ w5, w5 = ((((w4.setCell ⟨g3, 1, none⟩ (.int .i8 0)).setCell ⟨g3, 3, none⟩ (.int .i64 0)).setCell ⟨g3, 9, none⟩ (.int .i32 0)).setCell ⟨g3, 10, none⟩ (.int .i32 0)) := ⟨_, rfl⟩
  rw [← hw5] at HB5 HBL5 HR5 ⊢
  have HEQ := Lib.hid (fun W (hW : Below w5.heap.size w5 W) => eqEvent_any y2 ⟨none, 0⟩ ({ e with kind := 0, field := 0, player := 0, was := 0, now := 0 }) zeroEv W (RdEv.below HR5.out hW) (G.RdS.nil _) HL.out (by simp [zeroEv]))
  rw [← HP.out] at HEQ
  obtain ⟨cz, hcz⟩ : ∃ cz, cz = y2.arr ({ e with kind := 0, field := 0, player := 0, was := 0, now := 0 }) := ⟨_, rfl⟩
  rw [← hcz] at HB5
  have HS4 := Lib.hid (show cz.size = 12 by rw [hcz]; rfl)
  have hv4 : y2.val ({ e with kind := 0, field := 0, player := 0, was := 0, now := 0 }) = .agg cz := by rw [hcz]; rfl
  rw [hv4, show (⟨none, 0⟩ : EV).val zeroEv = .agg zeroE from rfl] at HEQ
  clear hw5 hcz hv4 d0 l0 l3 c1 f1 c3 f3 c9 f9 c10 f10
  go_wp2_with (first | (refine wpList_load_row rfl 30 _ rfl g3 rfl _ cz (0, 0) _ HB5.out HFE.out rfl (by rw [HS4.out]; exact sizeEv) ?_) | (refine build_to zeroE rfl 30 _ rfl _ (by kernel_rfl) zeroE_b2 ?_) | ((with_reducible refine (HEQ.out _ (Below.refl _ _)).mono ?_); rintro e5 w6 ⟨rfl, hb6⟩; have HB6 := Lib.hid hb6; clear hb6))
  go_ret
  exact ⟨rfl, G.bl_trans HBL5.out HB6.out⟩
 by_cases k4 : e.kind = 4
 ·have hk := k4
  have HP := Lib.hid (show rplainB e = decide ({ e with kind := 0, src := 0, order := [] } = zeroEv) by unfold rplainB stripE; rw [if_neg (by rw [hk]; decide), if_neg (by rw [hk]; decide), if_neg (by rw [hk]; decide), if_pos hk])
  rw [hk] at d0
  have c5 := (HB4.out.cell 5).trans (show cx[5]? = some (.int .i64 e.src) by rw [HCX.out]; rfl)
  have f5 := HB4.out.frozen 5
  have c11 := (HB4.out.cell 11).trans (show cx[11]? = some (.slice y2.oa e.order.length y2.oc) by rw [HCX.out]; rfl)
  have f11 := HB4.out.frozen 11
  have HB5 := Lib.hid (show G.Blk ((w4.setCell ⟨g3, 5, none⟩ (.int .i64 0)).setCell ⟨g3, 11, none⟩ (.slice none 0 0)) g3 30 ((⟨none, 0⟩ : EV).arr ({ e with kind := 0, src := 0, order := [] })) by have h9 := (G.Blk.put (G.Blk.put HB4.out 5 (.int .i64 0)) 11 (.slice none 0 0)); rw [HCX.out] at h9; exact h9)
  have HBL5 := Lib.hid (G.bl_set (G.bl_set HBL4.out (p := ⟨g3, 5, none⟩) HL3.out (.int .i64 0)) (p := ⟨g3, 11, none⟩) HL3.out (.slice none 0 0))
  have HR5 := Lib.hid (show RdEv ((w4.setCell ⟨g3, 5, none⟩ (.int .i64 0)).setCell ⟨g3, 11, none⟩ (.slice none 0 0)) (⟨none, 0⟩ : EV) ({ e with kind := 0, src := 0, order := [] }) from G.RdS.nil _)
  go_upto_region 33 with (fail)
  obtain ⟨w5, hw5⟩ : ∃ w5, w5 = ((w4.setCell ⟨g3, 5, none⟩ (.int .i64 0)).setCell ⟨g3, 11, none⟩ (.slice none 0 0)) := ⟨_, rfl⟩
  rw [← hw5] at HB5 HBL5 HR5 ⊢
  have HEQ := Lib.hid (fun W (hW : Below w5.heap.size w5 W) => eqEvent_any (⟨none, 0⟩ : EV) ⟨none, 0⟩ ({ e with kind := 0, src := 0, order := [] }) zeroEv W (RdEv.below HR5.out hW) (G.RdS.nil _) (by simp) (by simp [zeroEv]))
  rw [← HP.out] at HEQ
  obtain ⟨cz, hcz⟩ : ∃ cz, cz = (⟨none, 0⟩ : EV).arr ({ e with kind := 0, src := 0, order := [] }) := ⟨_, rfl⟩
  rw [← hcz] at HB5
  have HS4 := Lib.hid (show cz.size = 12 by rw [hcz]; rfl)
  have hv4 : (⟨none, 0⟩ : EV).val ({ e with kind := 0, src := 0, order := [] }) = .agg cz := by rw [hcz]; rfl
  rw [hv4, show (⟨none, 0⟩ : EV).val zeroEv = .agg zeroE from rfl] at HEQ
  clear hw5 hcz hv4 d0 l0 l3 c5 f5 c11 f11
  go_wp2_with (first | (refine wpList_load_row rfl 30 _ rfl g3 rfl _ cz (0, 0) _ HB5.out HFE.out rfl (by rw [HS4.out]; exact sizeEv) ?_) | (refine build_to zeroE rfl 30 _ rfl _ (by kernel_rfl) zeroE_b2 ?_) | ((with_reducible refine (HEQ.out _ (Below.refl _ _)).mono ?_); rintro e5 w6 ⟨rfl, hb6⟩; have HB6 := Lib.hid hb6; clear hb6))
  go_ret
  exact ⟨rfl, G.bl_trans HBL5.out HB6.out⟩
 by_cases k5 : e.kind = 5
 ·have hk := k5
  have HP := Lib.hid (show rplainB e = decide ({ e with kind := 0, player := 0 } = zeroEv) by unfold rplainB stripE; rw [if_neg (by rw [hk]; decide), if_neg (by rw [hk]; decide), if_neg (by rw [hk]; decide), if_neg (by rw [hk]; decide), if_pos hk])
  rw [hk] at d0
  have c3 := (HB4.out.cell 3).trans (show cx[3]? = some (.int .i64 e.player) by rw [HCX.out]; rfl)
  have f3 := HB4.out.frozen 3
  have HB5 := Lib.hid (show G.Blk (w4.setCell ⟨g3, 3, none⟩ (.int .i64 0)) g3 30 (y2.arr ({ e with kind := 0, player := 0 })) by have h9 := (G.Blk.put HB4.out 3 (.int .i64 0)); rw [HCX.out] at h9; exact h9)
  have HBL5 := Lib.hid (G.bl_set HBL4.out (p := ⟨g3, 3, none⟩) HL3.out (.int .i64 0))
  have HR5 := Lib.hid (show RdEv (w4.setCell ⟨g3, 3, none⟩ (.int .i64 0)) y2 ({ e with kind := 0, player := 0 }) from G.RdS.of_own (own_put (i := 3) (u := .int .i64 0) HO4.out HB4.out))
  go_upto_region 33 with (fail)
  obtain ⟨w5, hw5⟩ : ∃ w5, w5 = (w4.setCell ⟨g3, 3, none⟩ (.int .i64 0)) := ⟨_, rfl⟩
  rw [← hw5] at HB5 HBL5 HR5 ⊢
  have HEQ := Lib.hid (fun W (hW : Below w5.heap.size w5 W) => eqEvent_any y2 ⟨none, 0⟩ ({ e with kind := 0, player := 0 }) zeroEv W (RdEv.below HR5.out hW) (G.RdS.nil _) HL.out (by simp [zeroEv]))
  rw [← HP.out] at HEQ
  obtain ⟨cz, hcz⟩ : ∃ cz, cz = y2.arr ({ e with kind := 0, player := 0 }) := ⟨_, rfl⟩
  rw [← hcz] at HB5
  have HS4 := Lib.hid (show cz.size = 12 by rw [hcz]; rfl)
  have hv4 : y2.val ({ e with kind := 0, player := 0 }) = .agg cz := by rw [hcz]; rfl
  rw [hv4, show (⟨none, 0⟩ : EV).val zeroEv = .agg zeroE from rfl] at HEQ
  clear hw5 hcz hv4 d0 l0 l3 c3 f3
  go_wp2_with (first | (refine wpList_load_row rfl 30 _ rfl g3 rfl _ cz (0, 0) _ HB5.out HFE.out rfl (by rw [HS4.out]; exact sizeEv) ?_) | (refine build_to zeroE rfl 30 _ rfl _ (by kernel_rfl) zeroE_b2 ?_) | ((with_reducible refine (HEQ.out _ (Below.refl _ _)).mono ?_); rintro e5 w6 ⟨rfl, hb6⟩; have HB6 := Lib.hid hb6; clear hb6))
  go_ret
  exact ⟨rfl, G.bl_trans HBL5.out HB6.out⟩
 by_cases k6 : e.kind = 6
 ·have hk := k6
  have HP := Lib.hid (show rplainB e = decide ({ e with kind := 0, was := 0, player := 0, now := 0, other := 0 } = zeroEv) by unfold rplainB stripE; rw [if_neg (by rw [hk]; decide), if_neg (by rw [hk]; decide), if_neg (by rw [hk]; decide), if_neg (by rw [hk]; decide), if_neg (by rw [hk]; decide), if_pos hk])
  rw [hk] at d0
  have c9 := (HB4.out.cell 9).trans (show cx[9]? = some (.int .i32 e.was) by rw [HCX.out]; rfl)
  have f9 := HB4.out.frozen 9
  have c3 := (HB4.out.cell 3).trans (show cx[3]? = some (.int .i64 e.player) by rw [HCX.out]; rfl)
  have f3 := HB4.out.frozen 3
  have c10 := (HB4.out.cell 10).trans (show cx[10]? = some (.int .i32 e.now) by rw [HCX.out]; rfl)
  have f10 := HB4.out.frozen 10
  have c4 := (HB4.out.cell 4).trans (show cx[4]? = some (.int .i64 e.other) by rw [HCX.out]; rfl)
  have f4 := HB4.out.frozen 4
  have HB5 := Lib.hid (show G.Blk ((((w4.setCell ⟨g3, 9, none⟩ (.int .i32 0)).setCell ⟨g3, 3, none⟩ (.int .i64 0)).setCell ⟨g3, 10, none⟩ (.int .i32 0)).setCell ⟨g3, 4, none⟩ (.int .i64 0)) g3 30 (y2.arr ({ e with kind := 0, was := 0, player := 0, now := 0, other := 0 })) by have h9 := (G.Blk.put (G.Blk.put (G.Blk.put (G.Blk.put HB4.out 9 (.int .i32 0)) 3 (.int .i64 0)) 10 (.int .i32 0)) 4 (.int .i64 0)); rw [HCX.out] at h9; exact h9)
  have HBL5 := Lib.hid (G.bl_set (G.bl_set (G.bl_set (G.bl_set HBL4.out (p := ⟨g3, 9, none⟩) HL3.out (.int .i32 0)) (p := ⟨g3, 3, none⟩) HL3.out (.int .i64 0)) (p := ⟨g3, 10, none⟩) HL3.out (.int .i32 0)) (p := ⟨g3, 4, none⟩) HL3.out (.int .i64 0))
  have HR5 := Lib.hid (show RdEv ((((w4.setCell ⟨g3, 9, none⟩ (.int .i32 0)).setCell ⟨g3, 3, none⟩ (.int .i64 0)).setCell ⟨g3, 10, none⟩ (.int .i32 0)).setCell ⟨g3, 4, none⟩ (.int .i64 0)) y2 ({ e with kind := 0, was := 0, player := 0, now := 0, other := 0 }) from G.RdS.of_own (own_put (i := 4) (u := .int .i64 0) (own_put (i := 10) (u := .int .i32 0) (own_put (i := 3) (u := .int .i64 0) (own_put (i := 9) (u := .int .i32 0) HO4.out HB4.out) (G.Blk.put HB4.out 9 (.int .i32 0))) (G.Blk.put (G.Blk.put HB4.out 9 (.int .i32 0)) 3 (.int .i64 0))) (G.Blk.put (G.Blk.put (G.Blk.put HB4.out 9 (.int .i32 0)) 3 (.int .i64 0)) 10 (.int .i32 0))))
  go_upto_region 33 with (fail)
  obtain ⟨w5, hw5⟩ : ∃ w5, w5 = ((((w4.setCell ⟨g3, 9, none⟩ (.int .i32 0)).setCell ⟨g3, 3, none⟩ (.int .i64 0)).setCell ⟨g3, 10, none⟩ (.int .i32 0)).setCell ⟨g3, 4, none⟩ (.int .i64 0)) := ⟨_, rfl⟩
  rw [← hw5] at HB5 HBL5 HR5 ⊢
  have HEQ := Lib.hid (fun W (hW : Below w5.heap.size w5 W) => eqEvent_any y2 ⟨none, 0⟩ ({ e with kind := 0, was := 0, player := 0, now := 0, other := 0 }) zeroEv W (RdEv.below HR5.out hW) (G.RdS.nil _) HL.out (by simp [zeroEv]))
  rw [← HP.out] at HEQ
  obtain ⟨cz, hcz⟩ : ∃ cz, cz = y2.arr ({ e with kind := 0, was := 0, player := 0, now := 0, other := 0 }) := ⟨_, rfl⟩
  rw [← hcz] at HB5
  have HS4 := Lib.hid (show cz.size = 12 by rw [hcz]; rfl)
  have hv4 : y2.val ({ e with kind := 0, was := 0, player := 0, now := 0, other := 0 }) = .agg cz := by rw [hcz]; rfl
  rw [hv4, show (⟨none, 0⟩ : EV).val zeroEv = .agg zeroE from rfl] at HEQ
  clear hw5 hcz hv4 d0 l0 l3 c9 f9 c3 f3 c10 f10 c4 f4
  go_wp2_with (first | (refine wpList_load_row rfl 30 _ rfl g3 rfl _ cz (0, 0) _ HB5.out HFE.out rfl (by rw [HS4.out]; exact sizeEv) ?_) | (refine build_to zeroE rfl 30 _ rfl _ (by kernel_rfl) zeroE_b2 ?_) | ((with_reducible refine (HEQ.out _ (Below.refl _ _)).mono ?_); rintro e5 w6 ⟨rfl, hb6⟩; have HB6 := Lib.hid hb6; clear hb6))
  go_ret
  exact ⟨rfl, G.bl_trans HBL5.out HB6.out⟩
 by_cases k7 : e.kind = 7
 ·have hk := k7
  have HP := Lib.hid (show rplainB e = decide ({ e with kind := 0, now := 0, player := 0 } = zeroEv) by unfold rplainB stripE; rw [if_neg (by rw [hk]; decide), if_neg (by rw [hk]; decide), if_neg (by rw [hk]; decide), if_neg (by rw [hk]; decide), if_neg (by rw [hk]; decide), if_neg (by rw [hk]; decide), if_pos hk])
  rw [hk] at d0
  have c10 := (HB4.out.cell 10).trans (show cx[10]? = some (.int .i32 e.now) by rw [HCX.out]; rfl)
  have f10 := HB4.out.frozen 10
  have c3 := (HB4.out.cell 3).trans (show cx[3]? = some (.int .i64 e.player) by rw [HCX.out]; rfl)
  have f3 := HB4.out.frozen 3
  have HB5 := Lib.hid (show G.Blk ((w4.setCell ⟨g3, 10, none⟩ (.int .i32 0)).setCell ⟨g3, 3, none⟩ (.int .i64 0)) g3 30 (y2.arr ({ e with kind := 0, now := 0, player := 0 })) by have h9 := (G.Blk.put (G.Blk.put HB4.out 10 (.int .i32 0)) 3 (.int .i64 0)); rw [HCX.out] at h9; exact h9)
  have HBL5 := Lib.hid (G.bl_set (G.bl_set HBL4.out (p := ⟨g3, 10, none⟩) HL3.out (.int .i32 0)) (p := ⟨g3, 3, none⟩) HL3.out (.int .i64 0))
  have HR5 := Lib.hid (show RdEv ((w4.setCell ⟨g3, 10, none⟩ (.int .i32 0)).setCell ⟨g3, 3, none⟩ (.int .i64 0)) y2 ({ e with kind := 0, now := 0, player := 0 }) from G.RdS.of_own (own_put (i := 3) (u := .int .i64 0) (own_put (i := 10) (u := .int .i32 0) HO4.out HB4.out) (G.Blk.put HB4.out 10 (.int .i32 0))))
  go_upto_region 33 with (fail)
  obtain ⟨w5, hw5⟩ : ∃ w5, w5 = ((w4.setCell ⟨g3, 10, none⟩ (.int .i32 0)).setCell ⟨g3, 3, none⟩ (.int .i64 0)) := ⟨_, rfl⟩
  rw [← hw5] at HB5 HBL5 HR5 ⊢
  have HEQ := Lib.hid (fun W (hW : Below w5.heap.size w5 W) => eqEvent_any y2 ⟨none, 0⟩ ({ e with kind := 0, now := 0, player := 0 }) zeroEv W (RdEv.below HR5.out hW) (G.RdS.nil _) HL.out (by simp [zeroEv]))
  rw [← HP.out] at HEQ
  obtain ⟨cz, hcz⟩ : ∃ cz, cz = y2.arr ({ e with kind := 0, now := 0, player := 0 }) := ⟨_, rfl⟩
  rw [← hcz] at HB5
  have HS4 := Lib.hid (show cz.size = 12 by rw [hcz]; rfl)
  have hv4 : y2.val ({ e with kind := 0, now := 0, player := 0 }) = .agg cz := by rw [hcz]; rfl
  rw [hv4, show (⟨none, 0⟩ : EV).val zeroEv = .agg zeroE from rfl] at HEQ
  clear hw5 hcz hv4 d0 l0 l3 c10 f10 c3 f3
  go_wp2_with (first | (refine wpList_load_row rfl 30 _ rfl g3 rfl _ cz (0, 0) _ HB5.out HFE.out rfl (by rw [HS4.out]; exact sizeEv) ?_) | (refine build_to zeroE rfl 30 _ rfl _ (by kernel_rfl) zeroE_b2 ?_) | ((with_reducible refine (HEQ.out _ (Below.refl _ _)).mono ?_); rintro e5 w6 ⟨rfl, hb6⟩; have HB6 := Lib.hid hb6; clear hb6))
  go_ret
  exact ⟨rfl, G.bl_trans HBL5.out HB6.out⟩
 have HP := Lib.hid (show rplainB e = decide ({ e with kind := 0 } = zeroEv) by unfold rplainB stripE; rw [if_neg k1, if_neg k2, if_neg k3, if_neg k4, if_neg k5, if_neg k6, if_neg k7])
 have HB5 := Lib.hid (show G.Blk w4 g3 30 (y2.arr ({ e with kind := 0 })) by have h9 := HB4.out; rw [HCX.out] at h9; exact h9)
 have HBL5 := Lib.hid HBL4.out
 have HR5 := Lib.hid (show RdEv w4 y2 ({ e with kind := 0 }) from G.RdS.of_own HO4.out)
 go_upto_region 33 with (fail)
 obtain ⟨w5, hw5⟩ : ∃ w5, w5 = w4 := ⟨_, rfl⟩
 rw [← hw5] at HB5 HBL5 HR5 ⊢
 have HEQ := Lib.hid (fun W (hW : Below w5.heap.size w5 W) => eqEvent_any y2 ⟨none, 0⟩ ({ e with kind := 0 }) zeroEv W (RdEv.below HR5.out hW) (G.RdS.nil _) HL.out (by simp [zeroEv]))
 rw [← HP.out] at HEQ
 obtain ⟨cz, hcz⟩ : ∃ cz, cz = y2.arr ({ e with kind := 0 }) := ⟨_, rfl⟩
 rw [← hcz] at HB5
 have HS4 := Lib.hid (show cz.size = 12 by rw [hcz]; rfl)
 have hv4 : y2.val ({ e with kind := 0 }) = .agg cz := by rw [hcz]; rfl
 rw [hv4, show (⟨none, 0⟩ : EV).val zeroEv = .agg zeroE from rfl] at HEQ
 clear hw5 hcz hv4 d0 l0 l3 
 go_wp2_with (first | (refine wpList_load_row rfl 30 _ rfl g3 rfl _ cz (0, 0) _ HB5.out HFE.out rfl (by rw [HS4.out]; exact sizeEv) ?_) | (refine build_to zeroE rfl 30 _ rfl _ (by kernel_rfl) zeroE_b2 ?_) | ((with_reducible refine (HEQ.out _ (Below.refl _ _)).mono ?_); rintro e5 w6 ⟨rfl, hb6⟩; have HB6 := Lib.hid hb6; clear hb6))
 go_ret
 exact ⟨rfl, G.bl_trans HBL5.out HB6.out⟩
end Go.Proofs.YtofgmijmhpmabaaGreatDoor.D

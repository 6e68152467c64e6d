/- The texts of events: what they are, and the contracts of deed.name and of the closures that tell them. Printed by gen_textc.py. -/
import Derived.Test.YtofgmijmhpmabaaGreatDoorDWordsT
import Derived.Test.YtofgmijmhpmabaaGreatDoorDLives
import Derived.Deep.CutRange
namespace Go.Proofs.YtofgmijmhpmabaaGreatDoor.D
open Go Go.RowKit
set_option linter.unusedVariables false
set_option linter.unusedSimpArgs false
def nameL (f : Int) : List UInt8 := if f = 1 then [112, 111, 119, 101, 114] else if f = 2 then [104, 101, 97, 108, 116, 104] else if f = 3 then [100, 97, 109, 97, 103, 101] else if f = 4 then [109, 97, 114, 107, 115] else if f = 5 then [108, 105, 102, 101] else if f = 6 then [101, 110, 101, 114, 103, 121] else Lib.itoa f
def words1 (e : Ev) : List Wd := [.s [109, 111, 118, 101], .n e.card, .s [102, 114, 111, 109], .n e.src, .n e.srcAt, .s [116, 111], .n e.dst, .n e.dstAt]
def words2 (e : Ev) : List Wd := [.s [99, 97, 114, 100], .n e.card, .s (nameL e.field), .n e.was, .s [116, 111], .n e.now]
def words3 (e : Ev) : List Wd := [.s [112, 108, 97, 121, 101, 114], .n e.player, .s (nameL e.field), .n e.was, .s [116, 111], .n e.now]
def words5 (e : Ev) : List Wd := [.s [111, 117, 116], .n e.player]
def words6 (e : Ev) : List Wd := [.s [116, 117, 114, 110], .n e.was, .s [111, 102], .n e.player, .s [116, 111], .n e.now, .s [111, 102], .n e.other]
def words7 (e : Ev) : List Wd := [.s [101, 110, 100], .n e.now, .n e.player]
def shufT (e : Ev) : List UInt8 := [115, 104, 117, 102, 102, 108, 101, 32] ++ Lib.itoa e.src ++ [58] ++ e.order.flatMap fun i => 32 :: Lib.itoa i
def textE (e : Ev) : List UInt8 :=
  if e.kind = 1 then wordsL (words1 e) else if e.kind = 2 then wordsL (words2 e) else if e.kind = 3 then wordsL (words3 e) else if e.kind = 4 then shufT e
  else if e.kind = 5 then wordsL (words5 e) else if e.kind = 6 then wordsL (words6 e) else if e.kind = 7 then wordsL (words7 e) else wordsL [.s [101, 118, 101, 110, 116], .n e.kind]
theorem nameL_len {f : Int} (h : -128 ≤ f ∧ f ≤ 127) : (nameL f).length ≤ 21 := by
  unfold nameL
  repeat' split
  all_goals first | (simp; done) | exact Lib.itoa_length_le f (by omega) (by omega)
theorem idxN (x0 x1 x2 x3 x4 x5 : Value) : (∀ w, (Instr.index 229 (.agg #[x0, x1, x2, x3, x4, x5]) (.int .i8 0)).run Tryz.prog w = .ok x0 w) ∧ (∀ w, (Instr.index 229 (.agg #[x0, x1, x2, x3, x4, x5]) (.int .i8 1)).run Tryz.prog w = .ok x1 w) ∧ (∀ w, (Instr.index 229 (.agg #[x0, x1, x2, x3, x4, x5]) (.int .i8 2)).run Tryz.prog w = .ok x2 w) ∧
    (∀ w, (Instr.index 229 (.agg #[x0, x1, x2, x3, x4, x5]) (.int .i8 3)).run Tryz.prog w = .ok x3 w) ∧ (∀ w, (Instr.index 229 (.agg #[x0, x1, x2, x3, x4, x5]) (.int .i8 4)).run Tryz.prog w = .ok x4 w) ∧ (∀ w, (Instr.index 229 (.agg #[x0, x1, x2, x3, x4, x5]) (.int .i8 5)).run Tryz.prog w = .ok x5 w) := by
  refine ⟨?_, ?_, ?_, ?_, ?_, ?_⟩ <;> (intro w; kernel_rfl)
theorem str_ret {l m : List UInt8} (h : l = m) : Ending.returned (.string ⟨l.toArray⟩) = .returned (.string ⟨m.toArray⟩) := by rw [h]
set_option maxRecDepth 100000 in
set_option maxHeartbeats 4000000 in
theorem name_any (f : Int) (w : World) (hf : -128 ≤ f ∧ f ≤ 127) (hit : ItoaIn w) : Calls Tryz.prog 168 #[.int .i8 f] w (StrPost (nameL f) w) := by
  obtain ⟨f0, f1⟩ := hf
  have HIT := Lib.hid hit
  clear hit
  have hwf : IntKind.i64.wrap f = f := IntWalk.i64_in _ (by omega)
  by_cases k1 : f < 1
  · have HNM := Lib.hid (show Lib.itoa f = nameL f by unfold nameL; repeat' (first | rw [if_neg (by omega)])
      )
    have HII := Lib.hid (HIT.out f w (by omega) (by omega) (Below.refl _ _))
    go_enter Tryz.func168, Tryz.ntmps168
    go_wp2_with fail
    refine (HII.out).mono ?_
    rintro e1 w1 ⟨rfl, hb1⟩
    go_wp2_with fail
    go_ret
    exact ⟨str_ret HNM.out, hb1⟩
  · by_cases k2 : 6 < f
    · have HNM := Lib.hid (show Lib.itoa f = nameL f by unfold nameL; repeat' (first | rw [if_neg (by omega)])
        )
      have HII := Lib.hid (HIT.out f w (by omega) (by omega) (Below.refl _ _))
      go_enter Tryz.func168, Tryz.ntmps168
      go_wp2_with fail
      refine (HII.out).mono ?_
      rintro e1 w1 ⟨rfl, hb1⟩
      go_wp2_with fail
      go_ret
      exact ⟨str_ret HNM.out, hb1⟩
    · have h6 : f = 1 ∨ f = 2 ∨ f = 3 ∨ f = 4 ∨ f = 5 ∨ f = 6 := by omega
      clear k1 k2 f0 f1 hwf
      rcases h6 with rfl | rfl | rfl | rfl | rfl | rfl
      · have i0 := fun x0 x1 x2 x3 x4 x5 => (idxN x0 x1 x2 x3 x4 x5).1
        go_enter Tryz.func168, Tryz.ntmps168
        go_wp2_with fail
        go_ret
        exact ⟨str_ret rfl, Below.refl _ _⟩
      · have i0 := fun x0 x1 x2 x3 x4 x5 => (idxN x0 x1 x2 x3 x4 x5).2.1
        go_enter Tryz.func168, Tryz.ntmps168
        go_wp2_with fail
        go_ret
        exact ⟨str_ret rfl, Below.refl _ _⟩
      · have i0 := fun x0 x1 x2 x3 x4 x5 => (idxN x0 x1 x2 x3 x4 x5).2.2.1
        go_enter Tryz.func168, Tryz.ntmps168
        go_wp2_with fail
        go_ret
        exact ⟨str_ret rfl, Below.refl _ _⟩
      · have i0 := fun x0 x1 x2 x3 x4 x5 => (idxN x0 x1 x2 x3 x4 x5).2.2.2.1
        go_enter Tryz.func168, Tryz.ntmps168
        go_wp2_with fail
        go_ret
        exact ⟨str_ret rfl, Below.refl _ _⟩
      · have i0 := fun x0 x1 x2 x3 x4 x5 => (idxN x0 x1 x2 x3 x4 x5).2.2.2.2.1
        go_enter Tryz.func168, Tryz.ntmps168
        go_wp2_with fail
        go_ret
        exact ⟨str_ret rfl, Below.refl _ _⟩
      · have i0 := fun x0 x1 x2 x3 x4 x5 => (idxN x0 x1 x2 x3 x4 x5).2.2.2.2.2
        go_enter Tryz.func168, Tryz.ntmps168
        go_wp2_with fail
        go_ret
        exact ⟨str_ret rfl, Below.refl _ _⟩
/-- What a region of a text holds: an event in a box. -/
structure TxS (B : World) (g : Nat) (ce : Array Value) (w : World) : Prop where
  bl : Below B.heap.size B w
  be : G.Blk w g 30 ce
  lg : g < B.heap.size
theorem TxS.below {B w w' : World} {g : Nat} {ce : Array Value} (h : TxS B g ce w) (hb : Below w.heap.size w w') : TxS B g ce w' := ⟨G.bl_trans h.bl hb, h.be.below hb h.be.lt, h.lg⟩
theorem TxS.cell {B w : World} {g : Nat} {ce : Array Value} (h : TxS B g ce w) {j : Nat} {v : Value} (hv : ce[j]? = some v) : w.cell? ⟨g, j, none⟩ = some v := (h.be.cell j).trans hv
set_option maxRecDepth 100000 in
set_option maxHeartbeats 4000000 in
theorem text1_any (w : World) (y : EV) (e : Ev) (hf : e.Fits) (hit : ItoaIn w) : Calls Tryz.prog 162 #[y.val e] w (StrPost (wordsL (words1 e)) w) := by
  have HIT := Lib.hid hit
  have HOK := Lib.hid (show ∀ a ∈ words1 e, a.Ok by
    intro a ha
    obtain ⟨f1, f2, f3, f4, f5, f6, f7, f8, f9, f10, f11⟩ := hf
    simp only [words1, List.mem_cons, List.mem_nil_iff, or_false] at ha
    rcases ha with rfl | rfl | rfl | rfl | rfl | rfl | rfl | rfl <;> first | (simp [Wd.Ok]; done) | (simp only [Wd.Ok]; omega))
  obtain ⟨f1, f2, f3, f4, f5, f6, f7, f8, f9, f10, f11⟩ := hf
  obtain ⟨kind, field, card, player, other, src, srcAt, dst, dstAt, was, now, order⟩ := e
  simp only at f1 f2 f3 f4 f5 f6 f7 f8 f9 f10 f11
  obtain ⟨oa, oc⟩ := y
  unfold EV.val EV.arr
  simp only
  generalize hce : (#[.int .i8 kind, .int .i8 field, .int .i64 card, .int .i64 player, .int .i64 other, .int .i64 src, .int .i64 srcAt, .int .i64 dst, .int .i64 dstAt, .int .i32 was, .int .i32 now, .slice oa order.length oc] : Array Value) = ce
  have c2 := (G.Blk.new w 30 ce).cell 2
  have c5 := (G.Blk.new w 30 ce).cell 5
  have c6 := (G.Blk.new w 30 ce).cell 6
  have c7 := (G.Blk.new w 30 ce).cell 7
  have c8 := (G.Blk.new w 30 ce).cell 8
  have hlt := (G.Blk.new w 30 ce).lt
  have HB0 := Lib.hid (G.bl_alloc (Below.refl w.heap.size w) (.cells ce 30))
  rw [show ce[2]? = some (.int .i64 card) by rw [← hce]; rfl] at c2
  rw [show ce[5]? = some (.int .i64 src) by rw [← hce]; rfl] at c5
  rw [show ce[6]? = some (.int .i64 srcAt) by rw [← hce]; rfl] at c6
  rw [show ce[7]? = some (.int .i64 dst) by rw [← hce]; rfl] at c7
  rw [show ce[8]? = some (.int .i64 dstAt) by rw [← hce]; rfl] at c8
  clear hce f1 f2 f3 f4 f5 f6 f7 f8 f9 f10 f11 hit
  obtain ⟨w0, hw0⟩ : ∃ w0, w0 = w.alloc (.cells ce 30) := ⟨_, rfl⟩
  have HW0 := Lib.hid hw0
  rw [← hw0] at c2 c5 c6 c7 c8 hlt HB0
  obtain ⟨g, hg⟩ : ∃ g, g = w.heap.size := ⟨_, rfl⟩
  have HGG := Lib.hid hg
  rw [← hg] at c2 c5 c6 c7 c8 hlt
  clear hw0 hg
  have HWD := Lib.hid (words_any (some ⟨w0.heap.size, 0, none⟩) 8 8 (words1 ⟨kind, field, card, player, other, src, srcAt, dst, dstAt, was, now, order⟩) (w0.alloc (.cells #[.iface 9 (.string ⟨#[109, 111, 118, 101]⟩), .iface 3 (.int .i64 card), .iface 9 (.string ⟨#[102, 114, 111, 109]⟩), .iface 3 (.int .i64 src), .iface 3 (.int .i64 srcAt), .iface 9 (.string ⟨#[116, 111]⟩), .iface 3 (.int .i64 dst), .iface 3 (.int .i64 dstAt)] 20)) rfl (rd_blk (sz := 1) (n := 8) (G.Blk.new w0 20 #[.iface 9 (.string ⟨#[109, 111, 118, 101]⟩), .iface 3 (.int .i64 card), .iface 9 (.string ⟨#[102, 114, 111, 109]⟩), .iface 3 (.int .i64 src), .iface 3 (.int .i64 srcAt), .iface 9 (.string ⟨#[116, 111]⟩), .iface 3 (.int .i64 dst), .iface 3 (.int .i64 dstAt)]) rfl) HOK.out (by omega) (HIT.out.below (G.bl_alloc HB0.out _)))
  go_enter Tryz.func162, Tryz.ntmps162
  go_upto_region 1 with (fail)
  rw [← HGG.out, ← HW0.out]
  go_wp2_with fail
  refine (HWD.out).mono ?_
  rintro e1 w1 ⟨rfl, hb1⟩
  go_wp2_with fail
  go_ret
  exact ⟨rfl, G.bl_trans (G.bl_alloc HB0.out _) hb1⟩
set_option maxRecDepth 100000 in
set_option maxHeartbeats 4000000 in
theorem text2_any (w : World) (y : EV) (e : Ev) (hf : e.Fits) (hit : ItoaIn w) : Calls Tryz.prog 167 #[y.val e] w (StrPost (wordsL (words2 e)) w) := by
  have HIT := Lib.hid hit
  have HOK := Lib.hid (show ∀ a ∈ words2 e, a.Ok by
    have hnl := nameL_len hf.field
    obtain ⟨f1, f2, f3, f4, f5, f6, f7, f8, f9, f10, f11⟩ := hf
    simp only [words2, List.mem_cons, List.mem_nil_iff, or_false] at *
    intro a ha
    rcases ha with rfl | rfl | rfl | rfl | rfl | rfl <;> first | (simp [Wd.Ok]; done) | (simp only [Wd.Ok]; omega))
  have HNM := Lib.hid (fun W (hW : Below w.heap.size w W) => name_any e.field W hf.field (hit.below hW))
  obtain ⟨f1, f2, f3, f4, f5, f6, f7, f8, f9, f10, f11⟩ := hf
  obtain ⟨kind, field, card, player, other, src, srcAt, dst, dstAt, was, now, order⟩ := e
  simp only at f1 f2 f3 f4 f5 f6 f7 f8 f9 f10 f11 HNM
  have h_was : IntKind.i64.wrap was = was := IntWalk.i64_in _ (by omega)
  have h_now : IntKind.i64.wrap now = now := IntWalk.i64_in _ (by omega)
  obtain ⟨oa, oc⟩ := y
  unfold EV.val EV.arr
  simp only
  generalize hce : (#[.int .i8 kind, .int .i8 field, .int .i64 card, .int .i64 player, .int .i64 other, .int .i64 src, .int .i64 srcAt, .int .i64 dst, .int .i64 dstAt, .int .i32 was, .int .i32 now, .slice oa order.length oc] : Array Value) = ce
  have HC1 := Lib.hid (show ce[1]? = some (.int .i8 field) by rw [← hce]; rfl)
  have HC2 := Lib.hid (show ce[2]? = some (.int .i64 card) by rw [← hce]; rfl)
  have HC9 := Lib.hid (show ce[9]? = some (.int .i32 was) by rw [← hce]; rfl)
  have HC10 := Lib.hid (show ce[10]? = some (.int .i32 now) by rw [← hce]; rfl)
  have HB0 := Lib.hid (G.bl_alloc (Below.refl w.heap.size w) (.cells ce 30))
  have HE0 := Lib.hid (G.Blk.new w 30 ce)
  clear hce f1 f2 f3 f4 f5 f6 f7 f8 f9 f10 f11 hit
  go_enter Tryz.func167, Tryz.ntmps167
  go_upto_region 1 with (fail)
  obtain ⟨w0, hw0⟩ : ∃ w0, w0 = w.alloc (.cells ce 30) := ⟨_, rfl⟩
  rw [← hw0] at HB0 HE0 ⊢
  obtain ⟨g, hg⟩ : ∃ g, g = w.heap.size := ⟨_, rfl⟩
  rw [← hg] at HE0 ⊢
  clear hw0 hg
  have HTX := Lib.hid (show TxS w0 g ce w0 from ⟨Below.refl _ _, HE0.out, HE0.out.lt⟩)
  obtain ⟨NL, hNL⟩ : ∃ NL, NL = nameL field := ⟨_, rfl⟩
  have HNL := Lib.hid hNL
  rw [← hNL] at HNM
  clear hNL
  refine wp_region_held_drew (S := TxS w0 g ce) (by kernel_rfl) ?_ (fun hHeld => ?_)
  · exact TxS.below HTX.out (Below.refl _ _).drew
  refine wpAnyH_take (i := 0) (oi := ⟨some 3, _, _, _, _, _⟩) (v := ?_) rfl (by kernel_rfl) (by kernel_rfl) (by kernel_rfl) (fun _ _ _ h => h) (Or.inl ⟨by rfl, ?_⟩) (by assumption) ?_
  rotate_left
  · (intro w hSw; (try dsimp only at hSw); go_split_ands; go_simp; try with_reducible rfl)
  try simp only [Act.put, List.setIfInBounds_toArray, List.set_cons_zero, List.set_cons_succ]
  refine wpAnyH_take (i := 1) (oi := ⟨some 4, _, _, _, _, _⟩) (v := ?_) rfl (by kernel_rfl) (by kernel_rfl) (by kernel_rfl) (fun _ _ _ h => h) (Or.inl ⟨by rfl, ?_⟩) (by assumption) ?_
  rotate_left
  · (intro w hSw; (try dsimp only at hSw); go_split_ands; go_simp; try with_reducible rfl)
  try simp only [Act.put, List.setIfInBounds_toArray, List.set_cons_zero, List.set_cons_succ]
  refine wpAnyH_take (i := 2) (oi := ⟨some 5, _, _, _, _, _⟩) (v := ?_) rfl (by kernel_rfl) (by kernel_rfl) (by kernel_rfl) (fun _ _ _ h => h) (Or.inl ⟨by rfl, ?_⟩) (by assumption) ?_
  rotate_left
  · (intro w hSw; have c0 := hSw.cell HC2.out; go_simp; try with_reducible rfl)
  try simp only [Act.put, List.setIfInBounds_toArray, List.set_cons_zero, List.set_cons_succ]
  refine wpAnyH_take (i := 3) (oi := ⟨some 6, _, _, _, _, _⟩) (v := ?_) rfl (by kernel_rfl) (by kernel_rfl) (by kernel_rfl) (fun _ _ _ h => h) (Or.inl ⟨by rfl, ?_⟩) (by assumption) ?_
  rotate_left
  · (intro w hSw; (try dsimp only at hSw); go_split_ands; go_simp; try with_reducible rfl)
  try simp only [Act.put, List.setIfInBounds_toArray, List.set_cons_zero, List.set_cons_succ]
  refine wpAnyH_take (i := 4) (oi := ⟨some 7, _, _, _, _, _⟩) (v := ?_) rfl (by kernel_rfl) (by kernel_rfl) (by kernel_rfl) (fun _ _ _ h => h) (Or.inl ⟨by rfl, ?_⟩) (by assumption) ?_
  rotate_left
  · (intro w hSw; (try dsimp only at hSw); go_split_ands; go_simp; try with_reducible rfl)
  try simp only [Act.put, List.setIfInBounds_toArray, List.set_cons_zero, List.set_cons_succ]
  refine wpAnyH_take (i := 5) (oi := ⟨some 8, _, _, _, _, _⟩) (v := ?_) rfl (by kernel_rfl) (by kernel_rfl) (by kernel_rfl) (fun _ _ _ h => h) (Or.inl ⟨by rfl, ?_⟩) (by assumption) ?_
  rotate_left
  · (intro w hSw; have c0 := hSw.cell HC1.out; go_simp; try with_reducible rfl)
  try simp only [Act.put, List.setIfInBounds_toArray, List.set_cons_zero, List.set_cons_succ]
  refine wpAnyH_take (i := 8) (oi := ⟨some 11, _, _, _, _, _⟩) (v := ?_) rfl (by kernel_rfl) (by kernel_rfl) (by kernel_rfl) (fun _ _ _ h => h) (Or.inl ⟨by rfl, ?_⟩) (by assumption) ?_
  rotate_left
  · (intro w hSw; (try dsimp only at hSw); go_split_ands; go_simp; try with_reducible rfl)
  try simp only [Act.put, List.setIfInBounds_toArray, List.set_cons_zero, List.set_cons_succ]
  refine wpAnyH_take (i := 9) (oi := ⟨some 12, _, _, _, _, _⟩) (v := ?_) rfl (by kernel_rfl) (by kernel_rfl) (by kernel_rfl) (fun _ _ _ h => h) (Or.inl ⟨by rfl, ?_⟩) (by assumption) ?_
  rotate_left
  · (intro w hSw; have c0 := hSw.cell HC9.out; go_simp; try with_reducible rfl)
  try simp only [Act.put, List.setIfInBounds_toArray, List.set_cons_zero, List.set_cons_succ]
  refine wpAnyH_take (i := 10) (oi := ⟨some 13, _, _, _, _, _⟩) (v := ?_) rfl (by kernel_rfl) (by kernel_rfl) (by kernel_rfl) (fun _ _ _ h => h) (Or.inl ⟨by rfl, ?_⟩) (by assumption) ?_
  rotate_left
  · (intro w hSw; (try dsimp only at hSw); go_split_ands; go_simp; try with_reducible rfl)
  try simp only [Act.put, List.setIfInBounds_toArray, List.set_cons_zero, List.set_cons_succ]
  refine wpAnyH_take (i := 11) (oi := ⟨some 14, _, _, _, _, _⟩) (v := ?_) rfl (by kernel_rfl) (by kernel_rfl) (by kernel_rfl) (fun _ _ _ h => h) (Or.inl ⟨by rfl, ?_⟩) (by assumption) ?_
  rotate_left
  · (intro w hSw; (try dsimp only at hSw); go_split_ands; go_simp; try with_reducible rfl)
  try simp only [Act.put, List.setIfInBounds_toArray, List.set_cons_zero, List.set_cons_succ]
  refine wpAnyH_take (i := 12) (oi := ⟨some 15, _, _, _, _, _⟩) (v := ?_) rfl (by kernel_rfl) (by kernel_rfl) (by kernel_rfl) (fun _ _ _ h => h) (Or.inl ⟨by rfl, ?_⟩) (by assumption) ?_
  rotate_left
  · (intro w hSw; (try dsimp only at hSw); go_split_ands; go_simp; try with_reducible rfl)
  try simp only [Act.put, List.setIfInBounds_toArray, List.set_cons_zero, List.set_cons_succ]
  refine wpAnyH_take (i := 13) (oi := ⟨some 16, _, _, _, _, _⟩) (v := ?_) rfl (by kernel_rfl) (by kernel_rfl) (by kernel_rfl) (fun _ _ _ h => h) (Or.inl ⟨by rfl, ?_⟩) (by assumption) ?_
  rotate_left
  · (intro w hSw; (try dsimp only at hSw); go_split_ands; go_simp; try with_reducible rfl)
  try simp only [Act.put, List.setIfInBounds_toArray, List.set_cons_zero, List.set_cons_succ]
  refine wpAnyH_take (i := 14) (oi := ⟨some 17, _, _, _, _, _⟩) (v := ?_) rfl (by kernel_rfl) (by kernel_rfl) (by kernel_rfl) (fun _ _ _ h => h) (Or.inl ⟨by rfl, ?_⟩) (by assumption) ?_
  rotate_left
  · (intro w hSw; have c0 := hSw.cell HC10.out; go_simp; try with_reducible rfl)
  try simp only [Act.put, List.setIfInBounds_toArray, List.set_cons_zero, List.set_cons_succ]
  refine wpAnyH_take (i := 15) (oi := ⟨some 18, _, _, _, _, _⟩) (v := ?_) rfl (by kernel_rfl) (by kernel_rfl) (by kernel_rfl) (fun _ _ _ h => h) (Or.inl ⟨by rfl, ?_⟩) (by assumption) ?_
  rotate_left
  · (intro w hSw; (try dsimp only at hSw); go_split_ands; go_simp; try with_reducible rfl)
  try simp only [Act.put, List.setIfInBounds_toArray, List.set_cons_zero, List.set_cons_succ]
  refine wpAnyH_take (i := 16) (oi := ⟨some 19, _, _, _, _, _⟩) (v := ?_) rfl (by kernel_rfl) (by kernel_rfl) (by kernel_rfl) (fun _ _ _ h => h) (Or.inl ⟨by rfl, ?_⟩) (by assumption) ?_
  rotate_left
  · (intro w hSw; (try dsimp only at hSw); go_split_ands; go_simp; try with_reducible rfl)
  try simp only [Act.put, List.setIfInBounds_toArray, List.set_cons_zero, List.set_cons_succ]
  refine wpAnyH_ready (rs := [6]) (by kernel_rfl) (by simp) ?_
  refine AllReadyH.cons rfl (fun K hK => ?_) AllReadyH.nil
  go_simp
  ((with_reducible refine (HNM.out _ (G.bl_trans HB0.out hHeld.bl)).mono ?_); rintro e3 w3 ⟨rfl, hb3⟩; have HB3 := Lib.hid hb3; clear hb3)
  go_wp2_with fail
  refine hK.out _ _ ?_ (fun hHeld => ?_)
  · exact hHeld.below HB3.out
  clear hK K
  try simp only [Act.put, List.setIfInBounds_toArray, List.set_cons_zero, List.set_cons_succ]
  refine wpAnyH_take (i := 7) (oi := ⟨some 10, _, _, _, _, _⟩) (v := ?_) rfl (by kernel_rfl) (by kernel_rfl) (by kernel_rfl) (fun _ _ _ h => h) (Or.inl ⟨by rfl, ?_⟩) (by assumption) ?_
  rotate_left
  · (intro w hSw; (try dsimp only at hSw); go_split_ands; go_simp; try with_reducible rfl)
  try simp only [Act.put, List.setIfInBounds_toArray, List.set_cons_zero, List.set_cons_succ]
  refine wpAnyH_ready (rs := [17]) (by kernel_rfl) (by simp) ?_
  refine AllReadyH.cons rfl (fun K hK => ?_) AllReadyH.nil
  go_simp
  skip
  go_wp2_with fail
  refine hK.out _ _ ?_ (fun hHeld => ?_)
  · exact hHeld.below (G.bl_alloc (Below.refl _ _) _)
  clear hK K
  try simp only [Act.put, List.setIfInBounds_toArray, List.set_cons_zero, List.set_cons_succ]
  have HWD := Lib.hid (words_any (some ⟨w3.heap.size, 0, none⟩) 6 6 (words2 ⟨kind, field, card, player, other, src, srcAt, dst, dstAt, was, now, order⟩) (w3.alloc (.cells #[.iface 9 (.string ⟨#[99, 97, 114, 100]⟩), .iface 3 (.int .i64 card), .iface 9 (.string ⟨NL.toArray⟩), .iface 3 (.int .i64 was), .iface 9 (.string ⟨#[116, 111]⟩), .iface 3 (.int .i64 now)] 20)) rfl (by rw [HNL.out]; exact rd_blk (sz := 1) (n := 6) (G.Blk.new w3 20 #[.iface 9 (.string ⟨#[99, 97, 114, 100]⟩), .iface 3 (.int .i64 card), .iface 9 (.string ⟨(nameL field).toArray⟩), .iface 3 (.int .i64 was), .iface 9 (.string ⟨#[116, 111]⟩), .iface 3 (.int .i64 now)]) rfl) HOK.out (by omega) (HIT.out.below (G.bl_trans HB0.out hHeld.bl)))
  refine wpAnyH_ready (rs := [18]) (by kernel_rfl) (by simp) ?_
  refine AllReadyH.cons rfl (fun K hK => ?_) AllReadyH.nil
  go_simp
  ((with_reducible refine (HWD.out).mono ?_); rintro e5 w5 ⟨rfl, hb5⟩; have HB5 := Lib.hid hb5; clear hb5)
  go_wp2_with fail
  refine hK.out _ _ ?_ (fun hHeld => ?_)
  · exact hHeld.below HB5.out
  clear hK K
  try simp only [Act.put, List.setIfInBounds_toArray, List.set_cons_zero, List.set_cons_succ]
  refine wpAnyH_take (i := 19) (oi := ⟨some 2, _, _, _, _, _⟩) (v := ?_) rfl (by kernel_rfl) (by kernel_rfl) (by kernel_rfl) (fun _ _ _ h => h) (Or.inl ⟨by rfl, ?_⟩) (by assumption) ?_
  rotate_left
  · (intro w hSw; (try dsimp only at hSw); go_split_ands; go_simp; try with_reducible rfl)
  try simp only [Act.put, List.setIfInBounds_toArray, List.set_cons_zero, List.set_cons_succ]
  refine wpAnyH_done (by kernel_rfl) ?_ _
  go_wp2_with fail
  go_ret
  exact ⟨rfl, G.bl_trans HB0.out hHeld.bl⟩
set_option maxRecDepth 100000 in
set_option maxHeartbeats 4000000 in
theorem text3_any (w : World) (y : EV) (e : Ev) (hf : e.Fits) (hit : ItoaIn w) : Calls Tryz.prog 172 #[y.val e] w (StrPost (wordsL (words3 e)) w) := by
  have HIT := Lib.hid hit
  have HOK := Lib.hid (show ∀ a ∈ words3 e, a.Ok by
    have hnl := nameL_len hf.field
    obtain ⟨f1, f2, f3, f4, f5, f6, f7, f8, f9, f10, f11⟩ := hf
    simp only [words3, List.mem_cons, List.mem_nil_iff, or_false] at *
    intro a ha
    rcases ha with rfl | rfl | rfl | rfl | rfl | rfl <;> first | (simp [Wd.Ok]; done) | (simp only [Wd.Ok]; omega))
  have HNM := Lib.hid (fun W (hW : Below w.heap.size w W) => name_any e.field W hf.field (hit.below hW))
  obtain ⟨f1, f2, f3, f4, f5, f6, f7, f8, f9, f10, f11⟩ := hf
  obtain ⟨kind, field, card, player, other, src, srcAt, dst, dstAt, was, now, order⟩ := e
  simp only at f1 f2 f3 f4 f5 f6 f7 f8 f9 f10 f11 HNM
  have h_was : IntKind.i64.wrap was = was := IntWalk.i64_in _ (by omega)
  have h_now : IntKind.i64.wrap now = now := IntWalk.i64_in _ (by omega)
  obtain ⟨oa, oc⟩ := y
  unfold EV.val EV.arr
  simp only
  generalize hce : (#[.int .i8 kind, .int .i8 field, .int .i64 card, .int .i64 player, .int .i64 other, .int .i64 src, .int .i64 srcAt, .int .i64 dst, .int .i64 dstAt, .int .i32 was, .int .i32 now, .slice oa order.length oc] : Array Value) = ce
  have HC1 := Lib.hid (show ce[1]? = some (.int .i8 field) by rw [← hce]; rfl)
  have HC3 := Lib.hid (show ce[3]? = some (.int .i64 player) by rw [← hce]; rfl)
  have HC9 := Lib.hid (show ce[9]? = some (.int .i32 was) by rw [← hce]; rfl)
  have HC10 := Lib.hid (show ce[10]? = some (.int .i32 now) by rw [← hce]; rfl)
  have HB0 := Lib.hid (G.bl_alloc (Below.refl w.heap.size w) (.cells ce 30))
  have HE0 := Lib.hid (G.Blk.new w 30 ce)
  clear hce f1 f2 f3 f4 f5 f6 f7 f8 f9 f10 f11 hit
  go_enter Tryz.func172, Tryz.ntmps172
  go_upto_region 1 with (fail)
  obtain ⟨w0, hw0⟩ : ∃ w0, w0 = w.alloc (.cells ce 30) := ⟨_, rfl⟩
  rw [← hw0] at HB0 HE0 ⊢
  obtain ⟨g, hg⟩ : ∃ g, g = w.heap.size := ⟨_, rfl⟩
  rw [← hg] at HE0 ⊢
  clear hw0 hg
  have HTX := Lib.hid (show TxS w0 g ce w0 from ⟨Below.refl _ _, HE0.out, HE0.out.lt⟩)
  obtain ⟨NL, hNL⟩ : ∃ NL, NL = nameL field := ⟨_, rfl⟩
  have HNL := Lib.hid hNL
  rw [← hNL] at HNM
  clear hNL
  refine wp_region_held_drew (S := TxS w0 g ce) (by kernel_rfl) ?_ (fun hHeld => ?_)
  · exact TxS.below HTX.out (Below.refl _ _).drew
  refine wpAnyH_take (i := 0) (oi := ⟨some 3, _, _, _, _, _⟩) (v := ?_) rfl (by kernel_rfl) (by kernel_rfl) (by kernel_rfl) (fun _ _ _ h => h) (Or.inl ⟨by rfl, ?_⟩) (by assumption) ?_
  rotate_left
  · (intro w hSw; (try dsimp only at hSw); go_split_ands; go_simp; try with_reducible rfl)
  try simp only [Act.put, List.setIfInBounds_toArray, List.set_cons_zero, List.set_cons_succ]
  refine wpAnyH_take (i := 1) (oi := ⟨some 4, _, _, _, _, _⟩) (v := ?_) rfl (by kernel_rfl) (by kernel_rfl) (by kernel_rfl) (fun _ _ _ h => h) (Or.inl ⟨by rfl, ?_⟩) (by assumption) ?_
  rotate_left
  · (intro w hSw; (try dsimp only at hSw); go_split_ands; go_simp; try with_reducible rfl)
  try simp only [Act.put, List.setIfInBounds_toArray, List.set_cons_zero, List.set_cons_succ]
  refine wpAnyH_take (i := 2) (oi := ⟨some 5, _, _, _, _, _⟩) (v := ?_) rfl (by kernel_rfl) (by kernel_rfl) (by kernel_rfl) (fun _ _ _ h => h) (Or.inl ⟨by rfl, ?_⟩) (by assumption) ?_
  rotate_left
  · (intro w hSw; have c0 := hSw.cell HC3.out; go_simp; try with_reducible rfl)
  try simp only [Act.put, List.setIfInBounds_toArray, List.set_cons_zero, List.set_cons_succ]
  refine wpAnyH_take (i := 3) (oi := ⟨some 6, _, _, _, _, _⟩) (v := ?_) rfl (by kernel_rfl) (by kernel_rfl) (by kernel_rfl) (fun _ _ _ h => h) (Or.inl ⟨by rfl, ?_⟩) (by assumption) ?_
  rotate_left
  · (intro w hSw; (try dsimp only at hSw); go_split_ands; go_simp; try with_reducible rfl)
  try simp only [Act.put, List.setIfInBounds_toArray, List.set_cons_zero, List.set_cons_succ]
  refine wpAnyH_take (i := 4) (oi := ⟨some 7, _, _, _, _, _⟩) (v := ?_) rfl (by kernel_rfl) (by kernel_rfl) (by kernel_rfl) (fun _ _ _ h => h) (Or.inl ⟨by rfl, ?_⟩) (by assumption) ?_
  rotate_left
  · (intro w hSw; (try dsimp only at hSw); go_split_ands; go_simp; try with_reducible rfl)
  try simp only [Act.put, List.setIfInBounds_toArray, List.set_cons_zero, List.set_cons_succ]
  refine wpAnyH_take (i := 5) (oi := ⟨some 8, _, _, _, _, _⟩) (v := ?_) rfl (by kernel_rfl) (by kernel_rfl) (by kernel_rfl) (fun _ _ _ h => h) (Or.inl ⟨by rfl, ?_⟩) (by assumption) ?_
  rotate_left
  · (intro w hSw; have c0 := hSw.cell HC1.out; go_simp; try with_reducible rfl)
  try simp only [Act.put, List.setIfInBounds_toArray, List.set_cons_zero, List.set_cons_succ]
  refine wpAnyH_take (i := 8) (oi := ⟨some 11, _, _, _, _, _⟩) (v := ?_) rfl (by kernel_rfl) (by kernel_rfl) (by kernel_rfl) (fun _ _ _ h => h) (Or.inl ⟨by rfl, ?_⟩) (by assumption) ?_
  rotate_left
  · (intro w hSw; (try dsimp only at hSw); go_split_ands; go_simp; try with_reducible rfl)
  try simp only [Act.put, List.setIfInBounds_toArray, List.set_cons_zero, List.set_cons_succ]
  refine wpAnyH_take (i := 9) (oi := ⟨some 12, _, _, _, _, _⟩) (v := ?_) rfl (by kernel_rfl) (by kernel_rfl) (by kernel_rfl) (fun _ _ _ h => h) (Or.inl ⟨by rfl, ?_⟩) (by assumption) ?_
  rotate_left
  · (intro w hSw; have c0 := hSw.cell HC9.out; go_simp; try with_reducible rfl)
  try simp only [Act.put, List.setIfInBounds_toArray, List.set_cons_zero, List.set_cons_succ]
  refine wpAnyH_take (i := 10) (oi := ⟨some 13, _, _, _, _, _⟩) (v := ?_) rfl (by kernel_rfl) (by kernel_rfl) (by kernel_rfl) (fun _ _ _ h => h) (Or.inl ⟨by rfl, ?_⟩) (by assumption) ?_
  rotate_left
  · (intro w hSw; (try dsimp only at hSw); go_split_ands; go_simp; try with_reducible rfl)
  try simp only [Act.put, List.setIfInBounds_toArray, List.set_cons_zero, List.set_cons_succ]
  refine wpAnyH_take (i := 11) (oi := ⟨some 14, _, _, _, _, _⟩) (v := ?_) rfl (by kernel_rfl) (by kernel_rfl) (by kernel_rfl) (fun _ _ _ h => h) (Or.inl ⟨by rfl, ?_⟩) (by assumption) ?_
  rotate_left
  · (intro w hSw; (try dsimp only at hSw); go_split_ands; go_simp; try with_reducible rfl)
  try simp only [Act.put, List.setIfInBounds_toArray, List.set_cons_zero, List.set_cons_succ]
  refine wpAnyH_take (i := 12) (oi := ⟨some 15, _, _, _, _, _⟩) (v := ?_) rfl (by kernel_rfl) (by kernel_rfl) (by kernel_rfl) (fun _ _ _ h => h) (Or.inl ⟨by rfl, ?_⟩) (by assumption) ?_
  rotate_left
  · (intro w hSw; (try dsimp only at hSw); go_split_ands; go_simp; try with_reducible rfl)
  try simp only [Act.put, List.setIfInBounds_toArray, List.set_cons_zero, List.set_cons_succ]
  refine wpAnyH_take (i := 13) (oi := ⟨some 16, _, _, _, _, _⟩) (v := ?_) rfl (by kernel_rfl) (by kernel_rfl) (by kernel_rfl) (fun _ _ _ h => h) (Or.inl ⟨by rfl, ?_⟩) (by assumption) ?_
  rotate_left
  · (intro w hSw; (try dsimp only at hSw); go_split_ands; go_simp; try with_reducible rfl)
  try simp only [Act.put, List.setIfInBounds_toArray, List.set_cons_zero, List.set_cons_succ]
  refine wpAnyH_take (i := 14) (oi := ⟨some 17, _, _, _, _, _⟩) (v := ?_) rfl (by kernel_rfl) (by kernel_rfl) (by kernel_rfl) (fun _ _ _ h => h) (Or.inl ⟨by rfl, ?_⟩) (by assumption) ?_
  rotate_left
  · (intro w hSw; have c0 := hSw.cell HC10.out; go_simp; try with_reducible rfl)
  try simp only [Act.put, List.setIfInBounds_toArray, List.set_cons_zero, List.set_cons_succ]
  refine wpAnyH_take (i := 15) (oi := ⟨some 18, _, _, _, _, _⟩) (v := ?_) rfl (by kernel_rfl) (by kernel_rfl) (by kernel_rfl) (fun _ _ _ h => h) (Or.inl ⟨by rfl, ?_⟩) (by assumption) ?_
  rotate_left
  · (intro w hSw; (try dsimp only at hSw); go_split_ands; go_simp; try with_reducible rfl)
  try simp only [Act.put, List.setIfInBounds_toArray, List.set_cons_zero, List.set_cons_succ]
  refine wpAnyH_take (i := 16) (oi := ⟨some 19, _, _, _, _, _⟩) (v := ?_) rfl (by kernel_rfl) (by kernel_rfl) (by kernel_rfl) (fun _ _ _ h => h) (Or.inl ⟨by rfl, ?_⟩) (by assumption) ?_
  rotate_left
  · (intro w hSw; (try dsimp only at hSw); go_split_ands; go_simp; try with_reducible rfl)
  try simp only [Act.put, List.setIfInBounds_toArray, List.set_cons_zero, List.set_cons_succ]
  refine wpAnyH_ready (rs := [6]) (by kernel_rfl) (by simp) ?_
  refine AllReadyH.cons rfl (fun K hK => ?_) AllReadyH.nil
  go_simp
  ((with_reducible refine (HNM.out _ (G.bl_trans HB0.out hHeld.bl)).mono ?_); rintro e3 w3 ⟨rfl, hb3⟩; have HB3 := Lib.hid hb3; clear hb3)
  go_wp2_with fail
  refine hK.out _ _ ?_ (fun hHeld => ?_)
  · exact hHeld.below HB3.out
  clear hK K
  try simp only [Act.put, List.setIfInBounds_toArray, List.set_cons_zero, List.set_cons_succ]
  refine wpAnyH_take (i := 7) (oi := ⟨some 10, _, _, _, _, _⟩) (v := ?_) rfl (by kernel_rfl) (by kernel_rfl) (by kernel_rfl) (fun _ _ _ h => h) (Or.inl ⟨by rfl, ?_⟩) (by assumption) ?_
  rotate_left
  · (intro w hSw; (try dsimp only at hSw); go_split_ands; go_simp; try with_reducible rfl)
  try simp only [Act.put, List.setIfInBounds_toArray, List.set_cons_zero, List.set_cons_succ]
  refine wpAnyH_ready (rs := [17]) (by kernel_rfl) (by simp) ?_
  refine AllReadyH.cons rfl (fun K hK => ?_) AllReadyH.nil
  go_simp
  skip
  go_wp2_with fail
  refine hK.out _ _ ?_ (fun hHeld => ?_)
  · exact hHeld.below (G.bl_alloc (Below.refl _ _) _)
  clear hK K
  try simp only [Act.put, List.setIfInBounds_toArray, List.set_cons_zero, List.set_cons_succ]
  have HWD := Lib.hid (words_any (some ⟨w3.heap.size, 0, none⟩) 6 6 (words3 ⟨kind, field, card, player, other, src, srcAt, dst, dstAt, was, now, order⟩) (w3.alloc (.cells #[.iface 9 (.string ⟨#[112, 108, 97, 121, 101, 114]⟩), .iface 3 (.int .i64 player), .iface 9 (.string ⟨NL.toArray⟩), .iface 3 (.int .i64 was), .iface 9 (.string ⟨#[116, 111]⟩), .iface 3 (.int .i64 now)] 20)) rfl (by rw [HNL.out]; exact rd_blk (sz := 1) (n := 6) (G.Blk.new w3 20 #[.iface 9 (.string ⟨#[112, 108, 97, 121, 101, 114]⟩), .iface 3 (.int .i64 player), .iface 9 (.string ⟨(nameL field).toArray⟩), .iface 3 (.int .i64 was), .iface 9 (.string ⟨#[116, 111]⟩), .iface 3 (.int .i64 now)]) rfl) HOK.out (by omega) (HIT.out.below (G.bl_trans HB0.out hHeld.bl)))
  refine wpAnyH_ready (rs := [18]) (by kernel_rfl) (by simp) ?_
  refine AllReadyH.cons rfl (fun K hK => ?_) AllReadyH.nil
  go_simp
  ((with_reducible refine (HWD.out).mono ?_); rintro e5 w5 ⟨rfl, hb5⟩; have HB5 := Lib.hid hb5; clear hb5)
  go_wp2_with fail
  refine hK.out _ _ ?_ (fun hHeld => ?_)
  · exact hHeld.below HB5.out
  clear hK K
  try simp only [Act.put, List.setIfInBounds_toArray, List.set_cons_zero, List.set_cons_succ]
  refine wpAnyH_take (i := 19) (oi := ⟨some 2, _, _, _, _, _⟩) (v := ?_) rfl (by kernel_rfl) (by kernel_rfl) (by kernel_rfl) (fun _ _ _ h => h) (Or.inl ⟨by rfl, ?_⟩) (by assumption) ?_
  rotate_left
  · (intro w hSw; (try dsimp only at hSw); go_split_ands; go_simp; try with_reducible rfl)
  try simp only [Act.put, List.setIfInBounds_toArray, List.set_cons_zero, List.set_cons_succ]
  refine wpAnyH_done (by kernel_rfl) ?_ _
  go_wp2_with fail
  go_ret
  exact ⟨rfl, G.bl_trans HB0.out hHeld.bl⟩
set_option maxRecDepth 100000 in
set_option maxHeartbeats 4000000 in
theorem text5_any (w : World) (y : EV) (e : Ev) (hf : e.Fits) (hit : ItoaIn w) : Calls Tryz.prog 182 #[y.val e] w (StrPost (wordsL (words5 e)) w) := by
  have HIT := Lib.hid hit
  have HOK := Lib.hid (show ∀ a ∈ words5 e, a.Ok by
    intro a ha
    obtain ⟨f1, f2, f3, f4, f5, f6, f7, f8, f9, f10, f11⟩ := hf
    simp only [words5, List.mem_cons, List.mem_nil_iff, or_false] at ha
    rcases ha with rfl | rfl <;> first | (simp [Wd.Ok]; done) | (simp only [Wd.Ok]; omega))
  obtain ⟨f1, f2, f3, f4, f5, f6, f7, f8, f9, f10, f11⟩ := hf
  obtain ⟨kind, field, card, player, other, src, srcAt, dst, dstAt, was, now, order⟩ := e
  simp only at f1 f2 f3 f4 f5 f6 f7 f8 f9 f10 f11
  obtain ⟨oa, oc⟩ := y
  unfold EV.val EV.arr
  simp only
  generalize hce : (#[.int .i8 kind, .int .i8 field, .int .i64 card, .int .i64 player, .int .i64 other, .int .i64 src, .int .i64 srcAt, .int .i64 dst, .int .i64 dstAt, .int .i32 was, .int .i32 now, .slice oa order.length oc] : Array Value) = ce
  have c3 := (G.Blk.new w 30 ce).cell 3
  have hlt := (G.Blk.new w 30 ce).lt
  have HB0 := Lib.hid (G.bl_alloc (Below.refl w.heap.size w) (.cells ce 30))
  rw [show ce[3]? = some (.int .i64 player) by rw [← hce]; rfl] at c3
  clear hce f1 f2 f3 f4 f5 f6 f7 f8 f9 f10 f11 hit
  obtain ⟨w0, hw0⟩ : ∃ w0, w0 = w.alloc (.cells ce 30) := ⟨_, rfl⟩
  have HW0 := Lib.hid hw0
  rw [← hw0] at c3 hlt HB0
  obtain ⟨g, hg⟩ : ∃ g, g = w.heap.size := ⟨_, rfl⟩
  have HGG := Lib.hid hg
  rw [← hg] at c3 hlt
  clear hw0 hg
  have HWD := Lib.hid (words_any (some ⟨w0.heap.size, 0, none⟩) 2 2 (words5 ⟨kind, field, card, player, other, src, srcAt, dst, dstAt, was, now, order⟩) (w0.alloc (.cells #[.iface 9 (.string ⟨#[111, 117, 116]⟩), .iface 3 (.int .i64 player)] 20)) rfl (rd_blk (sz := 1) (n := 2) (G.Blk.new w0 20 #[.iface 9 (.string ⟨#[111, 117, 116]⟩), .iface 3 (.int .i64 player)]) rfl) HOK.out (by omega) (HIT.out.below (G.bl_alloc HB0.out _)))
  go_enter Tryz.func182, Tryz.ntmps182
  go_upto_region 1 with (fail)
  rw [← HGG.out, ← HW0.out]
  go_wp2_with fail
  refine (HWD.out).mono ?_
  rintro e1 w1 ⟨rfl, hb1⟩
  go_wp2_with fail
  go_ret
  exact ⟨rfl, G.bl_trans (G.bl_alloc HB0.out _) hb1⟩
set_option maxRecDepth 100000 in
set_option maxHeartbeats 4000000 in
theorem text6_any (w : World) (y : EV) (e : Ev) (hf : e.Fits) (hit : ItoaIn w) : Calls Tryz.prog 187 #[y.val e] w (StrPost (wordsL (words6 e)) w) := by
  have HIT := Lib.hid hit
  have HOK := Lib.hid (show ∀ a ∈ words6 e, a.Ok by
    intro a ha
    obtain ⟨f1, f2, f3, f4, f5, f6, f7, f8, f9, f10, f11⟩ := hf
    simp only [words6, List.mem_cons, List.mem_nil_iff, or_false] at ha
    rcases ha with rfl | rfl | rfl | rfl | rfl | rfl | rfl | rfl <;> first | (simp [Wd.Ok]; done) | (simp only [Wd.Ok]; omega))
  obtain ⟨f1, f2, f3, f4, f5, f6, f7, f8, f9, f10, f11⟩ := hf
  obtain ⟨kind, field, card, player, other, src, srcAt, dst, dstAt, was, now, order⟩ := e
  simp only at f1 f2 f3 f4 f5 f6 f7 f8 f9 f10 f11
  have h_was : IntKind.i64.wrap was = was := IntWalk.i64_in _ (by omega)
  have h_now : IntKind.i64.wrap now = now := IntWalk.i64_in _ (by omega)
  obtain ⟨oa, oc⟩ := y
  unfold EV.val EV.arr
  simp only
  generalize hce : (#[.int .i8 kind, .int .i8 field, .int .i64 card, .int .i64 player, .int .i64 other, .int .i64 src, .int .i64 srcAt, .int .i64 dst, .int .i64 dstAt, .int .i32 was, .int .i32 now, .slice oa order.length oc] : Array Value) = ce
  have c3 := (G.Blk.new w 30 ce).cell 3
  have c4 := (G.Blk.new w 30 ce).cell 4
  have c9 := (G.Blk.new w 30 ce).cell 9
  have c10 := (G.Blk.new w 30 ce).cell 10
  have hlt := (G.Blk.new w 30 ce).lt
  have HB0 := Lib.hid (G.bl_alloc (Below.refl w.heap.size w) (.cells ce 30))
  rw [show ce[3]? = some (.int .i64 player) by rw [← hce]; rfl] at c3
  rw [show ce[4]? = some (.int .i64 other) by rw [← hce]; rfl] at c4
  rw [show ce[9]? = some (.int .i32 was) by rw [← hce]; rfl] at c9
  rw [show ce[10]? = some (.int .i32 now) by rw [← hce]; rfl] at c10
  clear hce f1 f2 f3 f4 f5 f6 f7 f8 f9 f10 f11 hit
  obtain ⟨w0, hw0⟩ : ∃ w0, w0 = w.alloc (.cells ce 30) := ⟨_, rfl⟩
  have HW0 := Lib.hid hw0
  rw [← hw0] at c3 c4 c9 c10 hlt HB0
  obtain ⟨g, hg⟩ : ∃ g, g = w.heap.size := ⟨_, rfl⟩
  have HGG := Lib.hid hg
  rw [← hg] at c3 c4 c9 c10 hlt
  clear hw0 hg
  have HWD := Lib.hid (words_any (some ⟨w0.heap.size, 0, none⟩) 8 8 (words6 ⟨kind, field, card, player, other, src, srcAt, dst, dstAt, was, now, order⟩) (w0.alloc (.cells #[.iface 9 (.string ⟨#[116, 117, 114, 110]⟩), .iface 3 (.int .i64 was), .iface 9 (.string ⟨#[111, 102]⟩), .iface 3 (.int .i64 player), .iface 9 (.string ⟨#[116, 111]⟩), .iface 3 (.int .i64 now), .iface 9 (.string ⟨#[111, 102]⟩), .iface 3 (.int .i64 other)] 20)) rfl (rd_blk (sz := 1) (n := 8) (G.Blk.new w0 20 #[.iface 9 (.string ⟨#[116, 117, 114, 110]⟩), .iface 3 (.int .i64 was), .iface 9 (.string ⟨#[111, 102]⟩), .iface 3 (.int .i64 player), .iface 9 (.string ⟨#[116, 111]⟩), .iface 3 (.int .i64 now), .iface 9 (.string ⟨#[111, 102]⟩), .iface 3 (.int .i64 other)]) rfl) HOK.out (by omega) (HIT.out.below (G.bl_alloc HB0.out _)))
  go_enter Tryz.func187, Tryz.ntmps187
  go_upto_region 1 with (fail)
  rw [← HGG.out, ← HW0.out]
  go_wp2_with fail
  refine (HWD.out).mono ?_
  rintro e1 w1 ⟨rfl, hb1⟩
  go_wp2_with fail
  go_ret
  exact ⟨rfl, G.bl_trans (G.bl_alloc HB0.out _) hb1⟩
set_option maxRecDepth 100000 in
set_option maxHeartbeats 4000000 in
theorem text7_any (w : World) (y : EV) (e : Ev) (hf : e.Fits) (hit : ItoaIn w) : Calls Tryz.prog 191 #[y.val e] w (StrPost (wordsL (words7 e)) w) := by
  have HIT := Lib.hid hit
  have HOK := Lib.hid (show ∀ a ∈ words7 e, a.Ok by
    intro a ha
    obtain ⟨f1, f2, f3, f4, f5, f6, f7, f8, f9, f10, f11⟩ := hf
    simp only [words7, List.mem_cons, List.mem_nil_iff, or_false] at ha
    rcases ha with rfl | rfl | rfl <;> first | (simp [Wd.Ok]; done) | (simp only [Wd.Ok]; omega))
  obtain ⟨f1, f2, f3, f4, f5, f6, f7, f8, f9, f10, f11⟩ := hf
  obtain ⟨kind, field, card, player, other, src, srcAt, dst, dstAt, was, now, order⟩ := e
  simp only at f1 f2 f3 f4 f5 f6 f7 f8 f9 f10 f11
  have h_now : IntKind.i64.wrap now = now := IntWalk.i64_in _ (by omega)
  obtain ⟨oa, oc⟩ := y
  unfold EV.val EV.arr
  simp only
  generalize hce : (#[.int .i8 kind, .int .i8 field, .int .i64 card, .int .i64 player, .int .i64 other, .int .i64 src, .int .i64 srcAt, .int .i64 dst, .int .i64 dstAt, .int .i32 was, .int .i32 now, .slice oa order.length oc] : Array Value) = ce
  have c3 := (G.Blk.new w 30 ce).cell 3
  have c10 := (G.Blk.new w 30 ce).cell 10
  have hlt := (G.Blk.new w 30 ce).lt
  have HB0 := Lib.hid (G.bl_alloc (Below.refl w.heap.size w) (.cells ce 30))
  rw [show ce[3]? = some (.int .i64 player) by rw [← hce]; rfl] at c3
  rw [show ce[10]? = some (.int .i32 now) by rw [← hce]; rfl] at c10
  clear hce f1 f2 f3 f4 f5 f6 f7 f8 f9 f10 f11 hit
  obtain ⟨w0, hw0⟩ : ∃ w0, w0 = w.alloc (.cells ce 30) := ⟨_, rfl⟩
  have HW0 := Lib.hid hw0
  rw [← hw0] at c3 c10 hlt HB0
  obtain ⟨g, hg⟩ : ∃ g, g = w.heap.size := ⟨_, rfl⟩
  have HGG := Lib.hid hg
  rw [← hg] at c3 c10 hlt
  clear hw0 hg
  have HWD := Lib.hid (words_any (some ⟨w0.heap.size, 0, none⟩) 3 3 (words7 ⟨kind, field, card, player, other, src, srcAt, dst, dstAt, was, now, order⟩) (w0.alloc (.cells #[.iface 9 (.string ⟨#[101, 110, 100]⟩), .iface 3 (.int .i64 now), .iface 3 (.int .i64 player)] 20)) rfl (rd_blk (sz := 1) (n := 3) (G.Blk.new w0 20 #[.iface 9 (.string ⟨#[101, 110, 100]⟩), .iface 3 (.int .i64 now), .iface 3 (.int .i64 player)]) rfl) HOK.out (by omega) (HIT.out.below (G.bl_alloc HB0.out _)))
  go_enter Tryz.func191, Tryz.ntmps191
  go_upto_region 1 with (fail)
  rw [← HGG.out, ← HW0.out]
  go_wp2_with fail
  refine (HWD.out).mono ?_
  rintro e1 w1 ⟨rfl, hb1⟩
  go_wp2_with fail
  go_ret
  exact ⟨rfl, G.bl_trans (G.bl_alloc HB0.out _) hb1⟩
end Go.Proofs.YtofgmijmhpmabaaGreatDoor.D

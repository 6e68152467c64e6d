/- The contract of (kind).plain: are the fields that a kind does not keep nothing? Printed by gen_plain2.py. -/
import Derived.Test.YtmhklnjmeoeanaaGreatDoorDKc
import Derived.Deep.RegionHeld3
import Derived.Laws.StructEq
import Derived.ChangeKeysEq
import Derived.WalkKit
namespace Go.Proofs.YtmhklnjmeoeanaaGreatDoor.D
open Go Go.RowKit
set_option linter.unusedVariables false
set_option linter.unusedSimpArgs false
def bareA (e : Ev) : Array Value := #[.int .i8 e.kind, .int .i8 e.field, .int .i64 e.card, .int .i64 e.player, .int .i64 e.other, .int .i64 e.src, .int .i64 e.srcAt, .int .i64 e.dst, .int .i64 e.dstAt, .int .i32 e.was, .int .i32 e.now]
def zeroB : Array Value := #[.int .i8 0, .int .i8 0, .int .i64 0, .int .i64 0, .int .i64 0, .int .i64 0, .int .i64 0, .int .i64 0, .int .i64 0, .int .i32 0, .int .i32 0]
theorem run_bare {w : World} {g : Nat} {cs : Array Value} (hg : w.heap[g]? = some (.cells cs 177 (0, 0))) (hs : cs.size = 11) : (loadVar 177 ⟨g, 0, none⟩).run Tryz.prog w = .ok (.agg cs) w := by
  have hi : (Tryz.prog.info? 177).map (·.size) = some 11 := by kernel_rfl
  have hu : (Tryz.prog.underlying 177).map (fun d => match d with | .struct _ => true | _ => false) = some true := by kernel_rfl
  obtain ⟨fs, hfs⟩ : ∃ fs, Tryz.prog.underlying 177 = some (.struct fs) := by
    cases hx : Tryz.prog.underlying 177 with
    | none => rw [hx] at hu; simp at hu
    | some d =>
      rw [hx] at hu
      cases d <;> simp at hu
      exact ⟨_, rfl⟩
  exact run_loadVar_row (P := Tryz.prog) w g 177 177 cs (0, 0) (.struct fs) hg hfs rfl (by rw [hs]; exact hi)
theorem bare_result {fn : Func} {p : Tmp} (h : fn.results = #[.cell p 177]) (tmps : Array Value) (w : World) (g : Nat) (cs : Array Value) (hp : tmps.getD p undef = .pointer (some ⟨g, 0, none⟩)) (hg : w.heap[g]? = some (.cells cs 177 (0, 0))) (hs : cs.size = 11) :
    (results fn tmps).run Tryz.prog w = .ok (.agg cs) w := by
  have hp' : tmps[p]?.getD undef = .pointer (some ⟨g, 0, none⟩) := by simpa using hp
  simp [results, h, hp', asAddr, run_bare hg hs]
set_option maxRecDepth 100000 in
set_option maxHeartbeats 2000000 in
theorem bare_any (w : World) (y : EV) (e : Ev) : Calls Tryz.prog 103 #[y.val e] w fun e' w' => e' = .returned (.agg (bareA e)) ∧ Below w.heap.size w w' := by
  obtain ⟨kind, field, card, player, other, src, srcAt, dst, dstAt, was, now, order⟩ := e
  obtain ⟨oa, oc⟩ := y
  unfold EV.val EV.arr bareA
  simp only
  generalize hev : (#[.int .i8 kind, .int .i8 field, .int .i64 card, .int .i64 player, .int .i64 other, .int .i64 src, .int .i64 srcAt, .int .i64 dst, .int .i64 dstAt, .int .i32 was, .int .i32 now, .slice oa order.length oc] : Array Value) = ev
  have he0 : ev[0]? = some (.int .i8 kind) := by rw [← hev]; rfl
  have he1 : ev[1]? = some (.int .i8 field) := by rw [← hev]; rfl
  have he2 : ev[2]? = some (.int .i64 card) := by rw [← hev]; rfl
  have he3 : ev[3]? = some (.int .i64 player) := by rw [← hev]; rfl
  have he4 : ev[4]? = some (.int .i64 other) := by rw [← hev]; rfl
  have he5 : ev[5]? = some (.int .i64 src) := by rw [← hev]; rfl
  have he6 : ev[6]? = some (.int .i64 srcAt) := by rw [← hev]; rfl
  have he7 : ev[7]? = some (.int .i64 dst) := by rw [← hev]; rfl
  have he8 : ev[8]? = some (.int .i64 dstAt) := by rw [← hev]; rfl
  have he9 : ev[9]? = some (.int .i32 was) := by rw [← hev]; rfl
  have he10 : ev[10]? = some (.int .i32 now) := by rw [← hev]; rfl
  clear hev
  go_enter Tryz.func103, Tryz.ntmps103
  go_upto_region 1 with (fail)
  have hB0 := Lib.hid ((((Below.refl w.heap.size w).alloc (Nat.le_refl _) (.cells ev 37)).alloc (by simp) (.cells zeroB 177)))
  have hE0 := Lib.hid (heap_alloc2_old w (.cells ev 37) (.cells zeroB 177))
  have hR0 := Lib.hid (heap_alloc2_new w (.cells ev 37) (.cells zeroB 177))
  obtain ⟨w0, hw0⟩ : ∃ w0, w0 = (w.alloc (.cells ev 37)).alloc (.cells zeroB 177) := ⟨_, rfl⟩
  rw [← hw0] at hB0 hE0 hR0
  unfold zeroB at hw0
  rw [← hw0]
  clear hw0
  generalize hg : w.heap.size = g at *
  have hB0 := hB0.out
  have hE0 := hE0.out
  have hR0 := hR0.out
  have hc0 : w0.cell? ⟨g, 0, none⟩ = some (.int .i8 kind) := by rw [cell_of_row w0 g 0 ev _ _ hE0]; exact he0
  have hc1 : w0.cell? ⟨g, 1, none⟩ = some (.int .i8 field) := by rw [cell_of_row w0 g 1 ev _ _ hE0]; exact he1
  have hc2 : w0.cell? ⟨g, 2, none⟩ = some (.int .i64 card) := by rw [cell_of_row w0 g 2 ev _ _ hE0]; exact he2
  have hc3 : w0.cell? ⟨g, 3, none⟩ = some (.int .i64 player) := by rw [cell_of_row w0 g 3 ev _ _ hE0]; exact he3
  have hc4 : w0.cell? ⟨g, 4, none⟩ = some (.int .i64 other) := by rw [cell_of_row w0 g 4 ev _ _ hE0]; exact he4
  have hc5 : w0.cell? ⟨g, 5, none⟩ = some (.int .i64 src) := by rw [cell_of_row w0 g 5 ev _ _ hE0]; exact he5
  have hc6 : w0.cell? ⟨g, 6, none⟩ = some (.int .i64 srcAt) := by rw [cell_of_row w0 g 6 ev _ _ hE0]; exact he6
  have hc7 : w0.cell? ⟨g, 7, none⟩ = some (.int .i64 dst) := by rw [cell_of_row w0 g 7 ev _ _ hE0]; exact he7
  have hc8 : w0.cell? ⟨g, 8, none⟩ = some (.int .i64 dstAt) := by rw [cell_of_row w0 g 8 ev _ _ hE0]; exact he8
  have hc9 : w0.cell? ⟨g, 9, none⟩ = some (.int .i32 was) := by rw [cell_of_row w0 g 9 ev _ _ hE0]; exact he9
  have hc10 : w0.cell? ⟨g, 10, none⟩ = some (.int .i32 now) := by rw [cell_of_row w0 g 10 ev _ _ hE0]; exact he10
  go_wp2_with (first | (refine build_to #[.int .i8 kind, .int .i8 field, .int .i64 card, .int .i64 player, .int .i64 other, .int .i64 src, .int .i64 srcAt, .int .i64 dst, .int .i64 dstAt, .int .i32 was, .int .i32 now] rfl 177 _ rfl [(0, .int .i8 kind), (1, .int .i8 field), (2, .int .i64 card), (3, .int .i64 player), (4, .int .i64 other), (5, .int .i64 src), (6, .int .i64 srcAt), (7, .int .i64 dst), (8, .int .i64 dstAt), (9, .int .i32 was), (10, .int .i32 now)] rfl (by kernel_rfl) ?_) | (refine wpList_store_row rfl 177 _ _ rfl (g + 1) #[.int .i8 kind, .int .i8 field, .int .i64 card, .int .i64 player, .int .i64 other, .int .i64 src, .int .i64 srcAt, .int .i64 dst, .int .i64 dstAt, .int .i32 was, .int .i32 now] rfl rfl 177 zeroB hR0 (by kernel_rfl) (by kernel_rfl) (by kernel_rfl) ?_))
  refine bodyPost_ret (v := .agg #[.int .i8 kind, .int .i8 field, .int .i64 card, .int .i64 player, .int .i64 other, .int .i64 src, .int .i64 srcAt, .int .i64 dst, .int .i64 dstAt, .int .i32 was, .int .i32 now]) (bare_result rfl _ _ (g + 1) _ rfl (setRow_heap _ _ _ _ _ _ hR0) rfl) rfl ⟨rfl, ?_⟩
  first | exact below_setRow hB0 (by omega) _ | (rw [hg]; exact below_setRow hB0 (by omega) _)
end Go.Proofs.YtmhklnjmeoeanaaGreatDoor.D
namespace Go.Proofs.YtmhklnjmeoeanaaGreatDoor.D
open Go Go.RowKit
set_option linter.unusedVariables false
set_option linter.unusedSimpArgs false
/-- The four functions of a kind. -/
def kindK (k : Int) : Array Value := if k = 1 then thingsK0 else if k = 2 then thingsK1 else if k = 3 then thingsK2 else if k = 4 then thingsK3 else if k = 5 then gamesK0 else if k = 6 then gamesK1 else if k = 7 then gamesK2 else #[Value.nilFunc, Value.nilFunc, Value.nilFunc, Value.nilFunc]
def nilK : Array Value := #[Value.nilFunc, Value.nilFunc, Value.nilFunc, Value.nilFunc]
theorem kindK_out {k : Int} (h : k < 1 ∨ 8 ≤ k) : kindK k = nilK := by
  unfold kindK
  rw [if_neg (by omega), if_neg (by omega), if_neg (by omega), if_neg (by omega), if_neg (by omega), if_neg (by omega), if_neg (by omega)]
  rfl
theorem of_ret_no {k : Int} (h : k < 1 ∨ 8 ≤ k) : Ending.returned (.tuple #[.agg nilK, .bool false]) = .returned (.tuple #[.agg (kindK k), .bool (decide (1 ≤ k) && decide (k ≤ 7))]) := by
  rw [kindK_out h, show (decide (1 ≤ k) && decide (k ≤ 7)) = false by simp; omega]
theorem nil_b : Tryz.prog.built 161 [] = some nilK := by kernel_rfl
theorem of_results (tmps : Array Value) (w : World) (g : Nat) (cs : Array Value) (b : Bool) (hp : tmps.getD 2 undef = .pointer (some ⟨g, 0, none⟩)) (hb : tmps.getD 3 undef = .bool b) (hg : w.heap[g]? = some (.cells cs 161 (0, 0))) (hs : cs.size = 4) :
    (results Tryz.f90 tmps).run Tryz.prog w = .ok (.tuple #[.agg cs, .bool b]) w := by
  have hi : (Tryz.prog.info? 161).map (·.size) = some 4 := by kernel_rfl
  have hu : (Tryz.prog.underlying 161).map (fun d => match d with | .struct _ => true | _ => false) = some true := by kernel_rfl
  obtain ⟨fs, hfs⟩ : ∃ fs, Tryz.prog.underlying 161 = some (.struct fs) := by
    cases hx : Tryz.prog.underlying 161 with
    | none => rw [hx] at hu; simp at hu
    | some d =>
      rw [hx] at hu
      cases d <;> simp at hu
      exact ⟨_, rfl⟩
  have hr := run_loadVar_row (P := Tryz.prog) w g 161 161 cs (0, 0) (.struct fs) hg hfs rfl (by rw [hs]; exact hi)
  have h2 : tmps[2]?.getD undef = .pointer (some ⟨g, 0, none⟩) := by simpa using hp
  have h3 : tmps[3]?.getD undef = .bool b := by simpa using hb
  simp [results, Tryz.results90, asAddr, h2, h3, hr]
set_option maxRecDepth 100000 in
set_option maxHeartbeats 4000000 in
theorem of_any (w : World) (y : EV) (e : Ev) (hf : e.Fits) : Calls Tryz.prog 90 #[y.val e] w fun e' w' => e' = .returned (.tuple #[.agg (kindK e.kind), .bool (decide (1 ≤ e.kind ∧ e.kind ≤ 7))]) ∧ Below w.heap.size w w' := by
  obtain ⟨k, fd, c, p, o, s, sa, d, da, ws, nw, ord⟩ := e
  have hk := hf.kind
  simp only at hk ⊢
  obtain ⟨hk0, hk1⟩ := hk
  show Calls Tryz.prog _ #[.agg #[.int .i8 k, .int .i8 fd, .int .i64 c, .int .i64 p, .int .i64 o, .int .i64 s, .int .i64 sa, .int .i64 d, .int .i64 da, .int .i32 ws, .int .i32 nw, .slice y.oa ord.length y.oc]] _ _
  generalize hev : (#[.int .i8 k, .int .i8 fd, .int .i64 c, .int .i64 p, .int .i64 o, .int .i64 s, .int .i64 sa, .int .i64 d, .int .i64 da, .int .i32 ws, .int .i32 nw, .slice y.oa ord.length y.oc] : Array Value) = ev
  have he0 : ev[0]? = some (.int .i8 k) := by rw [← hev]; rfl
  clear hev hf
  go_enter Tryz.func90, Tryz.ntmps90
  go_upto_region 1 with (fail)
  have hB0 := Lib.hid ((((Below.refl w.heap.size w).alloc (Nat.le_refl _) (.cells ev 37)).alloc (by simp) (.cells #[Value.nilFunc, Value.nilFunc, Value.nilFunc, Value.nilFunc] 161)))
  have hE0 := Lib.hid (heap_alloc2_old w (.cells ev 37) (.cells #[Value.nilFunc, Value.nilFunc, Value.nilFunc, Value.nilFunc] 161))
  have hR0 := Lib.hid (heap_alloc2_new w (.cells ev 37) (.cells #[Value.nilFunc, Value.nilFunc, Value.nilFunc, Value.nilFunc] 161))
  obtain ⟨w0, hw0⟩ : ∃ w0, w0 = (w.alloc (.cells ev 37)).alloc (.cells #[Value.nilFunc, Value.nilFunc, Value.nilFunc, Value.nilFunc] 161) := ⟨_, rfl⟩
  have hs0 : w0.heap.size = w.heap.size + 2 := by rw [hw0]; simp
  rw [← hw0] at hB0 hE0 hR0 ⊢
  clear hw0
  generalize hg : w.heap.size = g at *
  have hB0 := hB0.out
  have hE0 := hE0.out
  have hR0 := hR0.out
  go_upto_region 2 with (first | (go_at_call 101; refine (things_any _).mono ?_; rintro e1 w1 ⟨rfl, hb1⟩) | (refine wpList_store_row rfl 174 _ _ rfl _ thingsArr rfl rfl 174 _ (heap_alloc_new _ _) (by kernel_rfl) (by kernel_rfl) (by kernel_rfl) ?_))
  generalize hw2 : World.setRow _ _ _ = w2
  have hg4 : g + 2 ≤ w1.heap.size := by have := hb1.size; omega
  have hB2 : Below g w w2 := by rw [← hw2]; exact below_setRow (((hB0.trans (hb1.mono (by omega))).alloc (by omega) _)) (by omega) _
  have hL2 : w2.heap[w1.heap.size]? = some (.cells thingsArr 174 (0, 0)) := by rw [← hw2]; exact setRow_heap _ _ _ _ _ _ (heap_alloc_new _ _)
  have hE2 : w2.heap[g]? = some (.cells ev 37 (0, 0)) := by rw [← hw2, setRow_other _ _ _ _ (by omega), heap_alloc_old _ _ (by omega), hb1.block _ (by omega)]; exact hE0
  have hR2 : w2.heap[g + 1]? = some (.cells #[Value.nilFunc, Value.nilFunc, Value.nilFunc, Value.nilFunc] 161 (0, 0)) := by rw [← hw2, setRow_other _ _ _ _ (by omega), heap_alloc_old _ _ (by omega), hb1.block _ (by omega)]; exact hR0
  have hS2 : w1.heap.size < w2.heap.size := by rw [← hw2]; simp
  clear hw2 hb1
  generalize w1.heap.size = l at *
  have hc : w2.cell? ⟨g, 0, none⟩ = some (.int .i8 k) := by rw [cell_of_row w2 g 0 ev _ _ hE2]; exact he0
  by_cases h5 : k ≥ 5
  · go_upto_region 4 with (first | (go_at_call 102; refine (games_any _).mono ?_; rintro e3 w3 ⟨rfl, hb3⟩) | (refine wpList_store_row rfl 174 _ _ rfl l gamesArr rfl rfl 174 thingsArr (by rw [hb3.block _ hS2]; exact hL2) (by kernel_rfl) (by kernel_rfl) (by kernel_rfl) ?_))
    generalize hw4 : World.setRow _ _ _ = w4
    have hB4 : Below g w w4 := by rw [← hw4]; exact below_setRow (hB2.trans (hb3.mono (by omega))) (by omega) _
    have hL4 : w4.heap[l]? = some (.cells gamesArr 174 (0, 0)) := by rw [← hw4]; exact setRow_heap _ _ _ _ _ _ (by rw [hb3.block _ hS2]; exact hL2)
    have hR4 : w4.heap[g + 1]? = some (.cells #[Value.nilFunc, Value.nilFunc, Value.nilFunc, Value.nilFunc] 161 (0, 0)) := by rw [← hw4, setRow_other _ _ _ _ (by omega), hb3.block _ (by omega)]; exact hR2
    have hE4 : w4.heap[g]? = some (.cells ev 37 (0, 0)) := by rw [← hw4, setRow_other _ _ _ _ (by omega), hb3.block _ (by omega)]; exact hE2
    have hc4 : w4.cell? ⟨g, 0, none⟩ = some (.int .i8 k) := by rw [cell_of_row w4 g 0 ev _ _ hE4]; exact he0
    clear hw4 hb3 hc
    have hw64 : IntKind.i64.wrap k = k := IntWalk.i64_in _ (by omega)
    by_cases h8 : 8 ≤ k
    · go_wp2_with (refine wpList_store_row rfl 161 _ _ rfl (g + 1) nilK rfl rfl 161 _ hR4 (by kernel_rfl) (by kernel_rfl) (by kernel_rfl) ?_)
      refine bodyPost_ret (v := .tuple #[.agg nilK, .bool false]) (of_results _ _ (g + 1) nilK false rfl rfl (setRow_heap _ _ _ _ _ _ hR4) rfl) rfl ⟨by first | exact of_ret_no (by omega) | (rw [kindK_out (by omega), show decide (1 ≤ k ∧ k ≤ 7) = false by simp; omega]) | (rw [kindK_out (by omega)]; rfl), ?_⟩
      first | exact below_setRow hB4 (by omega) _ | (rw [hg]; exact below_setRow hB4 (by omega) _)
    · have hkk : k = 5 ∨ k = 6 ∨ k = 7 := by omega
      rcases hkk with rfl | rfl | rfl
      · have c0 : w4.cell? ⟨l, 20, none⟩ = gamesArr[20]? := cell_of_row w4 l 20 gamesArr _ _ hL4
        have c1 : w4.cell? ⟨l, 21, none⟩ = gamesArr[21]? := cell_of_row w4 l 21 gamesArr _ _ hL4
        have c2 : w4.cell? ⟨l, 22, none⟩ = gamesArr[22]? := cell_of_row w4 l 22 gamesArr _ _ hL4
        have c3 : w4.cell? ⟨l, 23, none⟩ = gamesArr[23]? := cell_of_row w4 l 23 gamesArr _ _ hL4
        simp only [gamesArr, List.getElem?_toArray, List.getElem?_cons_succ, List.getElem?_cons_zero] at c0 c1 c2 c3
        go_wp2_with (refine wpList_store_row rfl 161 _ _ rfl (g + 1) (kindK 5) rfl rfl 161 _ hR4 (by kernel_rfl) (by kernel_rfl) (by kernel_rfl) ?_)
        refine bodyPost_ret (v := .tuple #[.agg (kindK 5), .bool true]) (of_results _ _ (g + 1) (kindK 5) true rfl rfl (setRow_heap _ _ _ _ _ _ hR4) rfl) rfl ⟨rfl, ?_⟩
        first | exact below_setRow hB4 (by omega) _ | (rw [hg]; exact below_setRow hB4 (by omega) _)
      · have c0 : w4.cell? ⟨l, 24, none⟩ = gamesArr[24]? := cell_of_row w4 l 24 gamesArr _ _ hL4
        have c1 : w4.cell? ⟨l, 25, none⟩ = gamesArr[25]? := cell_of_row w4 l 25 gamesArr _ _ hL4
        have c2 : w4.cell? ⟨l, 26, none⟩ = gamesArr[26]? := cell_of_row w4 l 26 gamesArr _ _ hL4
        have c3 : w4.cell? ⟨l, 27, none⟩ = gamesArr[27]? := cell_of_row w4 l 27 gamesArr _ _ hL4
        simp only [gamesArr, List.getElem?_toArray, List.getElem?_cons_succ, List.getElem?_cons_zero] at c0 c1 c2 c3
        go_wp2_with (refine wpList_store_row rfl 161 _ _ rfl (g + 1) (kindK 6) rfl rfl 161 _ hR4 (by kernel_rfl) (by kernel_rfl) (by kernel_rfl) ?_)
        refine bodyPost_ret (v := .tuple #[.agg (kindK 6), .bool true]) (of_results _ _ (g + 1) (kindK 6) true rfl rfl (setRow_heap _ _ _ _ _ _ hR4) rfl) rfl ⟨rfl, ?_⟩
        first | exact below_setRow hB4 (by omega) _ | (rw [hg]; exact below_setRow hB4 (by omega) _)
      · have c0 : w4.cell? ⟨l, 28, none⟩ = gamesArr[28]? := cell_of_row w4 l 28 gamesArr _ _ hL4
        have c1 : w4.cell? ⟨l, 29, none⟩ = gamesArr[29]? := cell_of_row w4 l 29 gamesArr _ _ hL4
        have c2 : w4.cell? ⟨l, 30, none⟩ = gamesArr[30]? := cell_of_row w4 l 30 gamesArr _ _ hL4
        have c3 : w4.cell? ⟨l, 31, none⟩ = gamesArr[31]? := cell_of_row w4 l 31 gamesArr _ _ hL4
        simp only [gamesArr, List.getElem?_toArray, List.getElem?_cons_succ, List.getElem?_cons_zero] at c0 c1 c2 c3
        go_wp2_with (refine wpList_store_row rfl 161 _ _ rfl (g + 1) (kindK 7) rfl rfl 161 _ hR4 (by kernel_rfl) (by kernel_rfl) (by kernel_rfl) ?_)
        refine bodyPost_ret (v := .tuple #[.agg (kindK 7), .bool true]) (of_results _ _ (g + 1) (kindK 7) true rfl rfl (setRow_heap _ _ _ _ _ _ hR4) rfl) rfl ⟨rfl, ?_⟩
        first | exact below_setRow hB4 (by omega) _ | (rw [hg]; exact below_setRow hB4 (by omega) _)
  · go_upto_region 4 with (fail)
    by_cases h1 : k < 1
    · go_wp2_with (refine wpList_store_row rfl 161 _ _ rfl (g + 1) nilK rfl rfl 161 _ hR2 (by kernel_rfl) (by kernel_rfl) (by kernel_rfl) ?_)
      refine bodyPost_ret (v := .tuple #[.agg nilK, .bool false]) (of_results _ _ (g + 1) nilK false rfl rfl (setRow_heap _ _ _ _ _ _ hR2) rfl) rfl ⟨by first | exact of_ret_no (by omega) | (rw [kindK_out (by omega), show decide (1 ≤ k ∧ k ≤ 7) = false by simp; omega]) | (rw [kindK_out (by omega)]; rfl), ?_⟩
      first | exact below_setRow hB2 (by omega) _ | (rw [hg]; exact below_setRow hB2 (by omega) _)
    · have hkk : k = 1 ∨ k = 2 ∨ k = 3 ∨ k = 4 := by omega
      rcases hkk with rfl | rfl | rfl | rfl
      · have c0 : w2.cell? ⟨l, 4, none⟩ = thingsArr[4]? := cell_of_row w2 l 4 thingsArr _ _ hL2
        have c1 : w2.cell? ⟨l, 5, none⟩ = thingsArr[5]? := cell_of_row w2 l 5 thingsArr _ _ hL2
        have c2 : w2.cell? ⟨l, 6, none⟩ = thingsArr[6]? := cell_of_row w2 l 6 thingsArr _ _ hL2
        have c3 : w2.cell? ⟨l, 7, none⟩ = thingsArr[7]? := cell_of_row w2 l 7 thingsArr _ _ hL2
        simp only [thingsArr, List.getElem?_toArray, List.getElem?_cons_succ, List.getElem?_cons_zero] at c0 c1 c2 c3
        go_wp2_with (refine wpList_store_row rfl 161 _ _ rfl (g + 1) (kindK 1) rfl rfl 161 _ hR2 (by kernel_rfl) (by kernel_rfl) (by kernel_rfl) ?_)
        refine bodyPost_ret (v := .tuple #[.agg (kindK 1), .bool true]) (of_results _ _ (g + 1) (kindK 1) true rfl rfl (setRow_heap _ _ _ _ _ _ hR2) rfl) rfl ⟨rfl, ?_⟩
        first | exact below_setRow hB2 (by omega) _ | (rw [hg]; exact below_setRow hB2 (by omega) _)
      · have c0 : w2.cell? ⟨l, 8, none⟩ = thingsArr[8]? := cell_of_row w2 l 8 thingsArr _ _ hL2
        have c1 : w2.cell? ⟨l, 9, none⟩ = thingsArr[9]? := cell_of_row w2 l 9 thingsArr _ _ hL2
        have c2 : w2.cell? ⟨l, 10, none⟩ = thingsArr[10]? := cell_of_row w2 l 10 thingsArr _ _ hL2
        have c3 : w2.cell? ⟨l, 11, none⟩ = thingsArr[11]? := cell_of_row w2 l 11 thingsArr _ _ hL2
        simp only [thingsArr, List.getElem?_toArray, List.getElem?_cons_succ, List.getElem?_cons_zero] at c0 c1 c2 c3
        go_wp2_with (refine wpList_store_row rfl 161 _ _ rfl (g + 1) (kindK 2) rfl rfl 161 _ hR2 (by kernel_rfl) (by kernel_rfl) (by kernel_rfl) ?_)
        refine bodyPost_ret (v := .tuple #[.agg (kindK 2), .bool true]) (of_results _ _ (g + 1) (kindK 2) true rfl rfl (setRow_heap _ _ _ _ _ _ hR2) rfl) rfl ⟨rfl, ?_⟩
        first | exact below_setRow hB2 (by omega) _ | (rw [hg]; exact below_setRow hB2 (by omega) _)
      · have c0 : w2.cell? ⟨l, 12, none⟩ = thingsArr[12]? := cell_of_row w2 l 12 thingsArr _ _ hL2
        have c1 : w2.cell? ⟨l, 13, none⟩ = thingsArr[13]? := cell_of_row w2 l 13 thingsArr _ _ hL2
        have c2 : w2.cell? ⟨l, 14, none⟩ = thingsArr[14]? := cell_of_row w2 l 14 thingsArr _ _ hL2
        have c3 : w2.cell? ⟨l, 15, none⟩ = thingsArr[15]? := cell_of_row w2 l 15 thingsArr _ _ hL2
        simp only [thingsArr, List.getElem?_toArray, List.getElem?_cons_succ, List.getElem?_cons_zero] at c0 c1 c2 c3
        go_wp2_with (refine wpList_store_row rfl 161 _ _ rfl (g + 1) (kindK 3) rfl rfl 161 _ hR2 (by kernel_rfl) (by kernel_rfl) (by kernel_rfl) ?_)
        refine bodyPost_ret (v := .tuple #[.agg (kindK 3), .bool true]) (of_results _ _ (g + 1) (kindK 3) true rfl rfl (setRow_heap _ _ _ _ _ _ hR2) rfl) rfl ⟨rfl, ?_⟩
        first | exact below_setRow hB2 (by omega) _ | (rw [hg]; exact below_setRow hB2 (by omega) _)
      · have c0 : w2.cell? ⟨l, 16, none⟩ = thingsArr[16]? := cell_of_row w2 l 16 thingsArr _ _ hL2
        have c1 : w2.cell? ⟨l, 17, none⟩ = thingsArr[17]? := cell_of_row w2 l 17 thingsArr _ _ hL2
        have c2 : w2.cell? ⟨l, 18, none⟩ = thingsArr[18]? := cell_of_row w2 l 18 thingsArr _ _ hL2
        have c3 : w2.cell? ⟨l, 19, none⟩ = thingsArr[19]? := cell_of_row w2 l 19 thingsArr _ _ hL2
        simp only [thingsArr, List.getElem?_toArray, List.getElem?_cons_succ, List.getElem?_cons_zero] at c0 c1 c2 c3
        go_wp2_with (refine wpList_store_row rfl 161 _ _ rfl (g + 1) (kindK 4) rfl rfl 161 _ hR2 (by kernel_rfl) (by kernel_rfl) (by kernel_rfl) ?_)
        refine bodyPost_ret (v := .tuple #[.agg (kindK 4), .bool true]) (of_results _ _ (g + 1) (kindK 4) true rfl rfl (setRow_heap _ _ _ _ _ _ hR2) rfl) rfl ⟨rfl, ?_⟩
        first | exact below_setRow hB2 (by omega) _ | (rw [hg]; exact below_setRow hB2 (by omega) _)
end Go.Proofs.YtmhklnjmeoeanaaGreatDoor.D
namespace Go.Proofs.YtmhklnjmeoeanaaGreatDoor.G
open Go Go.RowKit
set_option linter.unusedVariables false
set_option linter.unusedSimpArgs false
section
variable {P : Program} {w : World}
theorem eqFields_step {d : Nat} {xs ys : Array Value} {f : Field} {fs : List Field} {k : IntKind} {a b : Int} {rest : Bool} (hn : f.name ≠ "_") (ht : P.underlying f.type = some (.int k)) (hk : P.plainKey f.type = true) (hx : xs[f.offset]? = some (.int k a)) (hy : ys[f.offset]? = some (.int k b))
    (hr : (Op.eqFields (d + 1) xs ys fs).run P w = .ok rest w) : (Op.eqFields (d + 1) xs ys (f :: fs)).run P w = .ok (a == b && rest) w := by
  unfold Op.eqFields
  rw [if_pos hn]
  simp only [Sem.run_bind, run_part_plain w hk hx, run_part_plain w hk hy, Result.andThen_ok, run_equalIn_int w d f.type k k a b ht]
  cases h : a == b
  · simp
  · simp [hr]
theorem eqAt_step {d : Nat} {xs ys : Array Value} {L : List Field} {k : IntKind} {a b : Int} {rest : Bool} (j : Nat) (ty : TypeId) (h : (L[j]?).map (fun f => (f.name == "_", f.type, f.offset)) = some (false, ty, j)) (ht : P.underlying ty = some (.int k)) (hk : P.plainKey ty = true) (hx : xs[j]? = some (.int k a)) (hy : ys[j]? = some (.int k b))
    (hr : (Op.eqFields (d + 1) xs ys (L.drop (j + 1))).run P w = .ok rest w) : (Op.eqFields (d + 1) xs ys (L.drop j)).run P w = .ok (a == b && rest) w := by
  cases hf : L[j]? with
  | none => rw [hf] at h; cases h
  | some f =>
    rw [hf] at h
    simp only [Option.map_some, Option.some.injEq, Prod.mk.injEq] at h
    obtain ⟨h1, h2, h3⟩ := h
    have hd : L.drop j = f :: L.drop (j + 1) := by
      obtain ⟨hlt, hg⟩ := List.getElem?_eq_some_iff.1 hf
      rw [List.drop_eq_getElem_cons hlt, hg]
    rw [hd]
    exact eqFields_step (by simpa using h1) (by rw [h2]; exact ht) (by rw [h2]; exact hk) (by rw [h3]; exact hx) (by rw [h3]; exact hy) hr
theorem eqAt_end {d : Nat} {xs ys : Array Value} {L : List Field} {j : Nat} (h : L.length ≤ j) : (Op.eqFields d xs ys (L.drop j)).run P w = .ok true w := by
  rw [List.drop_eq_nil_of_le h]
  simp [Op.eqFields]
theorem exec_eql_struct {o : Oper} {f : Operand → Value} (t : TypeId) (x y : Operand) (ho : o.op = .binOp .eql t x y t) (xs ys : Array Value) (hx : f x = .agg xs) (hy : f y = .agg ys) (b : Bool) (hm : P.eqGuardType P.depth t = false)
    (ht : P.underlying t = some (.struct (P.fieldsOf t))) (hp : P.stoodInHeld t = false) (h : (Op.eqFields 9999 xs ys ((P.fieldsOf t).toList.drop 0)).run P w = .ok b w) : (execOp f o).run P w = .ok (.value (.bool b)) w := by
  rw [List.drop_zero] at h
  unfold execOp
  simp only [ho, hx, hy, Sem.run_bind, run_eqGuard_agg _ _ _ _ _ _ _ hm, Result.andThen_ok, run_eql_struct, run_equalIn_struct w 9999 t xs ys ht hp, h, Sem.run_pure]
end
end Go.Proofs.YtmhklnjmeoeanaaGreatDoor.G
namespace Go.Proofs.YtmhklnjmeoeanaaGreatDoor.D
open Go Go.RowKit
set_option linter.unusedVariables false
set_option linter.unusedSimpArgs false
def bareB (e f : Ev) : Bool := (e.kind == f.kind && (e.field == f.field && (e.card == f.card && (e.player == f.player && (e.other == f.other && (e.src == f.src && (e.srcAt == f.srcAt && (e.dst == f.dst && (e.dstAt == f.dstAt && (e.was == f.was && (e.now == f.now && true)))))))))))
theorem bareB_iff {e f : Ev} : bareB e f = true ↔ bareA e = bareA f := by
  simp [bareB, bareA, and_assoc]
theorem bare_eq (e f : Ev) (w : World) {o : Oper} {fn : Operand → Value} (x y : Operand) (ho : o.op = .binOp .eql 177 x y 177) (hx : fn x = .agg (bareA e)) (hy : fn y = .agg (bareA f)) : (execOp fn o).run Tryz.prog w = .ok (.value (.bool (bareB e f))) w :=
  G.exec_eql_struct 177 x y ho _ _ hx hy _ (by kernel_rfl) (by kernel_rfl) (by kernel_rfl)
    (G.eqAt_step 0 25 (by kernel_rfl) Tryz.underlying25 (by kernel_rfl) rfl rfl (G.eqAt_step 1 25 (by kernel_rfl) Tryz.underlying25 (by kernel_rfl) rfl rfl (G.eqAt_step 2 3 (by kernel_rfl) Tryz.underlying3 (by kernel_rfl) rfl rfl (G.eqAt_step 3 3 (by kernel_rfl) Tryz.underlying3 (by kernel_rfl) rfl rfl (G.eqAt_step 4 3 (by kernel_rfl) Tryz.underlying3 (by kernel_rfl) rfl rfl (G.eqAt_step 5 3 (by kernel_rfl) Tryz.underlying3 (by kernel_rfl) rfl rfl (G.eqAt_step 6 3 (by kernel_rfl) Tryz.underlying3 (by kernel_rfl) rfl rfl (G.eqAt_step 7 3 (by kernel_rfl) Tryz.underlying3 (by kernel_rfl) rfl rfl (G.eqAt_step 8 3 (by kernel_rfl) Tryz.underlying3 (by kernel_rfl) rfl rfl (G.eqAt_step 9 21 (by kernel_rfl) Tryz.underlying21 (by kernel_rfl) rfl rfl (G.eqAt_step 10 21 (by kernel_rfl) Tryz.underlying21 (by kernel_rfl) rfl rfl (G.eqAt_end (of_decide_eq_true (by kernel_rfl))))))))))))))
def EvHeld (g1 g2 : Nat) (c1 c2 : Array Value) (w : World) : Prop := (loadVar 37 ⟨g1, 0, none⟩).run Tryz.prog w = .ok (.agg c1) w ∧ (loadVar 37 ⟨g2, 0, none⟩).run Tryz.prog w = .ok (.agg c2) w ∧ w.heap[g1]? = some (.cells c1 37 (0, 0)) ∧ w.heap[g2]? = some (.cells c2 37 (0, 0))
theorem EvHeld.mk {g1 g2 : Nat} {c1 c2 : Array Value} {w : World} (h1 : w.heap[g1]? = some (.cells c1 37 (0, 0))) (h2 : w.heap[g2]? = some (.cells c2 37 (0, 0))) (s1 : c1.size = 12) (s2 : c2.size = 12) : EvHeld g1 g2 c1 c2 w := ⟨run_ev h1 s1, run_ev h2 s2, h1, h2⟩
theorem EvHeld.below {g1 g2 : Nat} {c1 c2 : Array Value} {w w' : World} (h : EvHeld g1 g2 c1 c2 w) (hb : Below w.heap.size w w') (s1 : c1.size = 12) (s2 : c2.size = 12) : EvHeld g1 g2 c1 c2 w' :=
  EvHeld.mk ((hb.block _ (Array.getElem?_eq_some_iff.1 h.2.2.1).1).trans h.2.2.1) ((hb.block _ (Array.getElem?_eq_some_iff.1 h.2.2.2).1).trans h.2.2.2) s1 s2
theorem exec_load_held {P : Program} {o : Oper} {f : Operand → Value} {w : World} (ty : TypeId) (x : Operand) (ho : o.op = .load ty x) (g : Nat) (hx : f x = .pointer (some ⟨g, 0, none⟩)) (cs : Array Value) (h : (loadVar ty ⟨g, 0, none⟩).run P w = .ok (.agg cs) w) : (execOp f o).run P w = .ok (.value (.agg cs)) w := by
  unfold execOp
  simp only [ho, hx, Instr.loadAt, Instr.sureAddr, Sem.run_bind, Sem.run_pure, Result.andThen_ok, h]
theorem undEv : ∃ fs, Tryz.prog.underlying 37 = some (.struct fs) := by
  have hu : (Tryz.prog.underlying 37).map (fun d => match d with | .struct _ => true | _ => false) = some true := by kernel_rfl
  cases hx : Tryz.prog.underlying 37 with
  | none => rw [hx] at hu; simp at hu
  | some d =>
    rw [hx] at hu
    cases d <;> simp at hu
    exact ⟨_, rfl⟩
theorem sizeEv : (Tryz.prog.info? 37).map (·.size) = some 12 := by kernel_rfl
set_option maxRecDepth 100000 in
set_option maxHeartbeats 4000000 in
theorem plain_gen (n0 : FuncId) (eg : ∀ args w, (callFunc n0 args).run Tryz.prog w = .ok (.enter n0 args) w) (F1 F2 F3 : Value) (w : World) (y y2 : EV) (e e2 : Ev) (hl : e.order.length ≤ 33554432) (hl2 : e2.order.length ≤ 33554432)
    (hk : ∀ W, Calls Tryz.prog n0 #[y.val e] W fun e' w' => e' = .returned (y2.val e2) ∧ Below W.heap.size W w') :
    Calls Tryz.prog 91 #[.agg #[.func (.func n0) #[] #[], F1, F2, F3], y.val e] w (BoolPost (decide (e2.order.length = e.order.length) && bareB e2 e) w) := by
  have HB1 := Lib.hid (fun W => bare_any W y2 e2)
  have HB2 := Lib.hid (fun W => bare_any W y e)
  have HK := Lib.hid hk
  obtain ⟨c1, hc1⟩ : ∃ c, c = y.arr e := ⟨_, rfl⟩
  obtain ⟨c2, hc2⟩ : ∃ c, c = y2.arr e2 := ⟨_, rfl⟩
  have hs1 : c1.size = 12 := by rw [hc1]; rfl
  have hs2 : c2.size = 12 := by rw [hc2]; rfl
  have HA2 := Lib.hid (show c2.all (·.oneCell') = true by rw [hc2]; simp [EV.arr, Value.oneCell'])
  have HO1 := Lib.hid (show c1[11]? = some (.slice y.oa e.order.length y.oc) by rw [hc1]; rfl)
  have HO2 := Lib.hid (show c2[11]? = some (.slice y2.oa e2.order.length y2.oc) by rw [hc2]; rfl)
  unfold EV.val at HB1 HB2 HK ⊢
  rw [← hc1] at HB2 HK ⊢
  rw [← hc2] at HB1 HK
  obtain ⟨m, hm⟩ : ∃ m, m = e.order.length := ⟨_, rfl⟩
  obtain ⟨m2, hm2⟩ : ∃ m, m = e2.order.length := ⟨_, rfl⟩
  obtain ⟨oa, hoa⟩ : ∃ q, q = y.oa := ⟨_, rfl⟩
  obtain ⟨oc, hoc⟩ : ∃ q, q = y.oc := ⟨_, rfl⟩
  obtain ⟨oa2, hoa2⟩ : ∃ q, q = y2.oa := ⟨_, rfl⟩
  obtain ⟨oc2, hoc2⟩ : ∃ q, q = y2.oc := ⟨_, rfl⟩
  rw [← hm] at hl HO1 ⊢
  rw [← hm2] at hl2 HO2 ⊢
  rw [← hoa, ← hoc] at HO1
  rw [← hoa2, ← hoc2] at HO2
  have HS1 := Lib.hid hs1
  have HS2 := Lib.hid hs2
  have HC1 := Lib.hid hc1
  have HC2 := Lib.hid hc2
  clear hc1 hc2 hm hm2 hoa hoc hoa2 hoc2 hk hs1 hs2
  go_enter Tryz.func91, Tryz.ntmps91
  go_upto_region 1 with (fail)
  obtain ⟨fsE, hfsE⟩ := undEv
  have HFS := Lib.hid hfsE
  have HB0 := Lib.hid (G.bl_alloc (G.bl_alloc (Below.refl w.heap.size w) (.cells #[Value.func (Fn.func n0) #[] #[], F1, F2, F3] 161)) (.cells c1 37))
  have HK0 := Lib.hid (show G.Blk _ _ _ _ from heap_alloc2_old w (.cells #[Value.func (Fn.func n0) #[] #[], F1, F2, F3] 161) (.cells c1 37))
  have HE0 := Lib.hid (show G.Blk _ _ _ _ from heap_alloc2_new w (.cells #[Value.func (Fn.func n0) #[] #[], F1, F2, F3] 161) (.cells c1 37))
  obtain ⟨w0, hw0⟩ : ∃ w0, w0 = (w.alloc (.cells #[Value.func (Fn.func n0) #[] #[], F1, F2, F3] 161)).alloc (.cells c1 37) := ⟨_, rfl⟩
  rw [← hw0] at HB0 HK0 HE0 ⊢
  clear hw0 hfsE
  obtain ⟨g, hg⟩ : ∃ g, g = w.heap.size := ⟨_, rfl⟩
  rw [← hg] at HB0 HK0 HE0 ⊢
  have HG := Lib.hid hg
  clear hg
  have hc0 := HK0.out.cell 0
  have hl0 := HE0.out.lt
  go_upto_region 2 with (first | (refine wpList_load_row rfl 37 _ rfl (g + 1) rfl _ c1 (0, 0) _ HE0.out HFS.out rfl (by rw [HS1.out]; exact sizeEv) ?_) | ((with_reducible refine (HK.out _).mono ?_); rintro e1 w1 ⟨rfl, hb1⟩; have HBW1 := Lib.hid hb1; clear hb1) | (refine wpList_store_row rfl 37 _ _ rfl _ c2 rfl rfl 37 _ (heap_alloc_new _ _) (by rw [HS2.out]; exact sizeEv) (by rw [HS2.out]; rfl) HA2.out ?_))
  generalize hw2 : World.setRow _ _ _ = w2
  have hl1 : g + 1 < w1.heap.size := by have := HBW1.out.size; omega
  have hBL2 := Lib.hid (show Below g w w2 by rw [← hw2]; exact below_setRow ((HB0.out.trans (HBW1.out.mono (by omega))).alloc (by omega) _) (by omega) _)
  have HX2 := Lib.hid (show G.Blk w2 w1.heap.size 37 c2 by rw [← hw2]; exact setRow_heap _ _ _ _ _ _ (heap_alloc_new _ _))
  have HE2 := Lib.hid (show G.Blk w2 (g + 1) 37 c1 from by unfold G.Blk; rw [← hw2, setRow_other _ _ _ _ (by omega), heap_alloc_old _ _ (by omega), HBW1.out.block _ (by omega)]; exact HE0.out)
  clear hw2
  obtain ⟨g5, hg5⟩ : ∃ g5, g5 = w1.heap.size := ⟨_, rfl⟩
  rw [← hg5] at hl1 HX2 ⊢
  clear hg5 hc0 hl0
  have hx11 : w2.cell? ⟨g5, 11, none⟩ = some (.slice oa2 m2 oc2) := by rw [HX2.out.cell]; exact HO2.out
  have he11 : w2.cell? ⟨g + 1, 11, none⟩ = some (.slice oa m oc) := by rw [HE2.out.cell]; exact HO1.out
  have hlx := HX2.out.lt
  have hle := HE2.out.lt
  by_cases hmm : m2 = m
  · subst hmm
    go_upto_region 5 with (fail)
    refine wp_region_held_drew (S := EvHeld g5 (g + 1) c2 c1) (by kernel_rfl) ?_ (fun hHeld => ?_)
    · exact EvHeld.mk HX2.out HE2.out HS2.out HS1.out
    refine wpAnyH_take (i := 0) (oi := ⟨some 18, _, _, _, _, _⟩) (v := ?_) rfl (by kernel_rfl) (by kernel_rfl) (by kernel_rfl) (fun _ _ _ h => h) (Or.inl ⟨by rfl, ?_⟩) (by assumption) ?_
    rotate_left
    · (intro w hSw; rfl)
    try simp only [Act.put, List.setIfInBounds_toArray, List.set_cons_zero, List.set_cons_succ]
    refine wpAnyH_take (i := 1) (oi := ⟨some 19, _, _, _, _, _⟩) (v := ?_) rfl (by kernel_rfl) (by kernel_rfl) (by kernel_rfl) (fun _ _ _ h => h) (Or.inl ⟨by rfl, ?_⟩) (by assumption) ?_
    rotate_left
    · (intro w hSw; refine exec_load_held 37 (.tmp 5) ?_ g5 ?_ c2 hSw.1 <;> rfl)
    try simp only [Act.put, List.setIfInBounds_toArray, List.set_cons_zero, List.set_cons_succ]
    refine wpAnyH_take (i := 3) (oi := ⟨some 21, _, _, _, _, _⟩) (v := ?_) rfl (by kernel_rfl) (by kernel_rfl) (by kernel_rfl) (fun _ _ _ h => h) (Or.inl ⟨by rfl, ?_⟩) (by assumption) ?_
    rotate_left
    · (intro w hSw; rfl)
    try simp only [Act.put, List.setIfInBounds_toArray, List.set_cons_zero, List.set_cons_succ]
    refine wpAnyH_take (i := 4) (oi := ⟨some 22, _, _, _, _, _⟩) (v := ?_) rfl (by kernel_rfl) (by kernel_rfl) (by kernel_rfl) (fun _ _ _ h => h) (Or.inl ⟨by rfl, ?_⟩) (by assumption) ?_
    rotate_left
    · (intro w hSw; refine exec_load_held 37 (.tmp 3) ?_ (g + 1) ?_ c1 hSw.2.1 <;> rfl)
    try simp only [Act.put, List.setIfInBounds_toArray, List.set_cons_zero, List.set_cons_succ]
    refine wpAnyH_ready (rs := [2]) (by kernel_rfl) (by simp) ?_
    refine AllReadyH.cons rfl (fun K hK => ?_) AllReadyH.nil
    go_simp
    ((with_reducible refine (HB1.out _).mono ?_); rintro e3 w3 ⟨rfl, hb3⟩; have HBA := Lib.hid hb3; clear hb3)
    go_wp2_with fail
    refine hK.out _ _ ?_ (fun hHeld => ?_)
    · exact EvHeld.below (by assumption) HBA.out HS2.out HS1.out
    clear hK K
    try simp only [Act.put, List.setIfInBounds_toArray, List.set_cons_zero, List.set_cons_succ]
    refine wpAnyH_ready (rs := [5]) (by kernel_rfl) (by simp) ?_
    refine AllReadyH.cons rfl (fun K hK => ?_) AllReadyH.nil
    go_simp
    ((with_reducible refine (HB2.out _).mono ?_); rintro e4 w4 ⟨rfl, hb4⟩; have HBB := Lib.hid hb4; clear hb4)
    go_wp2_with fail
    refine hK.out _ _ ?_ (fun hHeld => ?_)
    · exact EvHeld.below (by assumption) HBB.out HS2.out HS1.out
    clear hK K
    try simp only [Act.put, List.setIfInBounds_toArray, List.set_cons_zero, List.set_cons_succ]
    refine wpAnyH_take (i := 6) (oi := ⟨some 24, _, _, _, _, _⟩) (v := ?_) rfl (by kernel_rfl) (by kernel_rfl) (by kernel_rfl) (fun _ _ _ h => h) (Or.inl ⟨by rfl, ?_⟩) (by assumption) ?_
    rotate_left
    · (intro w hSw; refine bare_eq e2 e w (.tmp 20) (.tmp 23) ?_ ?_ ?_ <;> rfl)
    try simp only [Act.put, List.setIfInBounds_toArray, List.set_cons_zero, List.set_cons_succ]
    refine wpAnyH_take (i := 7) (oi := ⟨some 4, _, _, _, _, _⟩) (v := ?_) rfl (by kernel_rfl) (by kernel_rfl) (by kernel_rfl) (fun _ _ _ h => h) (Or.inl ⟨by rfl, ?_⟩) (by assumption) ?_
    rotate_left
    · (intro w hSw; rfl)
    try simp only [Act.put, List.setIfInBounds_toArray, List.set_cons_zero, List.set_cons_succ]
    refine wpAnyH_done (by kernel_rfl) ?_ _
    go_wp2_with fail
    go_ret
    refine ⟨ret_bool (by simp), ?_⟩
    have h9 := HG.out
    exact G.bl_trans (G.bl_trans (G.bl_trans (show Below w.heap.size w w2 by rw [← h9]; exact hBL2.out) (Below.refl _ _).drew) HBA.out) HBB.out
  · have hm2 : ((m2 : Int) != m) = true := by rw [bne_iff_ne]; exact fun h => hmm (by omega)
    have HNO := Lib.hid (show Ending.returned (.bool true) = .returned (.bool true) ∧ ∀ b : Bool, (decide (m2 = m) && b) = false from ⟨rfl, fun b => by simp [hmm]⟩)
    clear hmm
    go_wp2_with fail
    go_ret
    exact ⟨ret_bool (HNO.out.2 _).symm, by rw [← HG.out]; exact hBL2.out⟩
end Go.Proofs.YtmhklnjmeoeanaaGreatDoor.D

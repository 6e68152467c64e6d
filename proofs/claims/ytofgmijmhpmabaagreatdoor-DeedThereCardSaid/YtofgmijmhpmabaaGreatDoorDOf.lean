/- The contract of deed.of: what is said of an event's kind. Printed by gen_of.py. -/
import Derived.Test.YtofgmijmhpmabaaGreatDoorDKeep
import Derived.Deep.RegionHeld3
namespace Go.Proofs.YtofgmijmhpmabaaGreatDoor.D
open Go Go.RowKit
set_option linter.unusedVariables false
set_option linter.unusedSimpArgs false
/-- The four functions of a kind. -/
def kindK (k : Int) : Array Value := if k = 1 then thingsK0 else if k = 2 then thingsK1 else if k = 3 then thingsK2 else if k = 4 then thingsK3 else if k = 5 then gamesK0 else if k = 6 then gamesK1 else if k = 7 then gamesK2 else #[Value.nilFunc, Value.nilFunc, Value.nilFunc, Value.nilFunc]
def nilK : Array Value := #[Value.nilFunc, Value.nilFunc, Value.nilFunc, Value.nilFunc]
theorem kindK_out {k : Int} (h : k < 1 ∨ 8 ≤ k) : kindK k = nilK := by
  unfold kindK
  rw [if_neg (by omega), if_neg (by omega), if_neg (by omega), if_neg (by omega), if_neg (by omega), if_neg (by omega), if_neg (by omega)]
  rfl
theorem of_ret_no {k : Int} (h : k < 1 ∨ 8 ≤ k) : Ending.returned (.tuple #[.agg nilK, .bool false]) = .returned (.tuple #[.agg (kindK k), .bool (decide (1 ≤ k) && decide (k ≤ 7))]) := by
  rw [kindK_out h, show (decide (1 ≤ k) && decide (k ≤ 7)) = false by simp; omega]
theorem nil_b : Tryz.prog.built 114 [] = some nilK := by kernel_rfl
theorem of_results (tmps : Array Value) (w : World) (g : Nat) (cs : Array Value) (b : Bool) (hp : tmps.getD 2 undef = .pointer (some ⟨g, 0, none⟩)) (hb : tmps.getD 3 undef = .bool b) (hg : w.heap[g]? = some (.cells cs 114 (0, 0))) (hs : cs.size = 4) :
    (results Tryz.f94 tmps).run Tryz.prog w = .ok (.tuple #[.agg cs, .bool b]) w := by
  have hi : (Tryz.prog.info? 114).map (·.size) = some 4 := by kernel_rfl
  have hu : (Tryz.prog.underlying 114).map (fun d => match d with | .struct _ => true | _ => false) = some true := by kernel_rfl
  obtain ⟨fs, hfs⟩ : ∃ fs, Tryz.prog.underlying 114 = some (.struct fs) := by
    cases hx : Tryz.prog.underlying 114 with
    | none => rw [hx] at hu; simp at hu
    | some d =>
      rw [hx] at hu
      cases d <;> simp at hu
      exact ⟨_, rfl⟩
  have hr := run_loadVar_row (P := Tryz.prog) w g 114 114 cs (0, 0) (.struct fs) hg hfs rfl (by rw [hs]; exact hi)
  have h2 : tmps[2]?.getD undef = .pointer (some ⟨g, 0, none⟩) := by simpa using hp
  have h3 : tmps[3]?.getD undef = .bool b := by simpa using hb
  simp [results, Tryz.results94, asAddr, h2, h3, hr]
set_option maxRecDepth 100000 in
set_option maxHeartbeats 4000000 in
theorem of_any (w : World) (y : EV) (e : Ev) (hf : e.Fits) : Calls Tryz.prog 94 #[y.val e] w fun e' w' => e' = .returned (.tuple #[.agg (kindK e.kind), .bool (decide (1 ≤ e.kind ∧ e.kind ≤ 7))]) ∧ Below w.heap.size w w' := by
  obtain ⟨k, fd, c, p, o, s, sa, d, da, ws, nw, ord⟩ := e
  have hk := hf.kind
  simp only at hk ⊢
  obtain ⟨hk0, hk1⟩ := hk
  show Calls Tryz.prog _ #[.agg #[.int .i8 k, .int .i8 fd, .int .i64 c, .int .i64 p, .int .i64 o, .int .i64 s, .int .i64 sa, .int .i64 d, .int .i64 da, .int .i32 ws, .int .i32 nw, .slice y.oa ord.length y.oc]] _ _
  generalize hev : (#[.int .i8 k, .int .i8 fd, .int .i64 c, .int .i64 p, .int .i64 o, .int .i64 s, .int .i64 sa, .int .i64 d, .int .i64 da, .int .i32 ws, .int .i32 nw, .slice y.oa ord.length y.oc] : Array Value) = ev
  have he0 : ev[0]? = some (.int .i8 k) := by rw [← hev]; rfl
  clear hev hf
  go_enter Tryz.func94, Tryz.ntmps94
  go_upto_region 1 with (fail)
  have hB0 := Lib.hid ((((Below.refl w.heap.size w).alloc (Nat.le_refl _) (.cells ev 30)).alloc (by simp) (.cells #[Value.nilFunc, Value.nilFunc, Value.nilFunc, Value.nilFunc] 114)))
  have hE0 := Lib.hid (heap_alloc2_old w (.cells ev 30) (.cells #[Value.nilFunc, Value.nilFunc, Value.nilFunc, Value.nilFunc] 114))
  have hR0 := Lib.hid (heap_alloc2_new w (.cells ev 30) (.cells #[Value.nilFunc, Value.nilFunc, Value.nilFunc, Value.nilFunc] 114))
  obtain ⟨w0, hw0⟩ : ∃ w0, w0 = (w.alloc (.cells ev 30)).alloc (.cells #[Value.nilFunc, Value.nilFunc, Value.nilFunc, Value.nilFunc] 114) := ⟨_, rfl⟩
  have hs0 : w0.heap.size = w.heap.size + 2 := by rw [hw0]; simp
  rw [← hw0] at hB0 hE0 hR0 ⊢
  clear hw0
  generalize hg : w.heap.size = g at *
  have hB0 := hB0.out
  have hE0 := hE0.out
  have hR0 := hR0.out
  go_upto_region 2 with (first | (go_at_call 131; refine (things_any _).mono ?_; rintro e1 w1 ⟨rfl, hb1⟩) | (refine wpList_store_row rfl 182 _ _ rfl _ thingsArr rfl rfl 182 _ (heap_alloc_new _ _) (by kernel_rfl) (by kernel_rfl) (by kernel_rfl) ?_))
  generalize hw2 : World.setRow _ _ _ = w2
  have hg4 : g + 2 ≤ w1.heap.size := by have := hb1.size; omega
  have hB2 : Below g w w2 := by rw [← hw2]; exact below_setRow (((hB0.trans (hb1.mono (by omega))).alloc (by omega) _)) (by omega) _
  have hL2 : w2.heap[w1.heap.size]? = some (.cells thingsArr 182 (0, 0)) := by rw [← hw2]; exact setRow_heap _ _ _ _ _ _ (heap_alloc_new _ _)
  have hE2 : w2.heap[g]? = some (.cells ev 30 (0, 0)) := by rw [← hw2, setRow_other _ _ _ _ (by omega), heap_alloc_old _ _ (by omega), hb1.block _ (by omega)]; exact hE0
  have hR2 : w2.heap[g + 1]? = some (.cells #[Value.nilFunc, Value.nilFunc, Value.nilFunc, Value.nilFunc] 114 (0, 0)) := by rw [← hw2, setRow_other _ _ _ _ (by omega), heap_alloc_old _ _ (by omega), hb1.block _ (by omega)]; exact hR0
  have hS2 : w1.heap.size < w2.heap.size := by rw [← hw2]; simp
  clear hw2 hb1
  generalize w1.heap.size = l at *
  have hc : w2.cell? ⟨g, 0, none⟩ = some (.int .i8 k) := by rw [cell_of_row w2 g 0 ev _ _ hE2]; exact he0
  by_cases h5 : k ≥ 5
  · go_upto_region 4 with (first | (go_at_call 132; refine (games_any _).mono ?_; rintro e3 w3 ⟨rfl, hb3⟩) | (refine wpList_store_row rfl 182 _ _ rfl l gamesArr rfl rfl 182 thingsArr (by rw [hb3.block _ hS2]; exact hL2) (by kernel_rfl) (by kernel_rfl) (by kernel_rfl) ?_))
    generalize hw4 : World.setRow _ _ _ = w4
    have hB4 : Below g w w4 := by rw [← hw4]; exact below_setRow (hB2.trans (hb3.mono (by omega))) (by omega) _
    have hL4 : w4.heap[l]? = some (.cells gamesArr 182 (0, 0)) := by rw [← hw4]; exact setRow_heap _ _ _ _ _ _ (by rw [hb3.block _ hS2]; exact hL2)
    have hR4 : w4.heap[g + 1]? = some (.cells #[Value.nilFunc, Value.nilFunc, Value.nilFunc, Value.nilFunc] 114 (0, 0)) := by rw [← hw4, setRow_other _ _ _ _ (by omega), hb3.block _ (by omega)]; exact hR2
    have hE4 : w4.heap[g]? = some (.cells ev 30 (0, 0)) := by rw [← hw4, setRow_other _ _ _ _ (by omega), hb3.block _ (by omega)]; exact hE2
    have hc4 : w4.cell? ⟨g, 0, none⟩ = some (.int .i8 k) := by rw [cell_of_row w4 g 0 ev _ _ hE4]; exact he0
    clear hw4 hb3 hc
    have hw64 : IntKind.i64.wrap k = k := IntWalk.i64_in _ (by omega)
    by_cases h8 : 8 ≤ k
    · go_wp2_with (refine wpList_store_row rfl 114 _ _ rfl (g + 1) nilK rfl rfl 114 _ hR4 (by kernel_rfl) (by kernel_rfl) (by kernel_rfl) ?_)
      refine bodyPost_ret (v := .tuple #[.agg nilK, .bool false]) (of_results _ _ (g + 1) nilK false rfl rfl (setRow_heap _ _ _ _ _ _ hR4) rfl) rfl ⟨by first | exact of_ret_no (by omega) | (rw [kindK_out (by omega), show decide (1 ≤ k ∧ k ≤ 7) = false by simp; omega]) | (rw [kindK_out (by omega)]; rfl), ?_⟩
      first | exact below_setRow hB4 (by omega) _ | (rw [hg]; exact below_setRow hB4 (by omega) _)
    · have hkk : k = 5 ∨ k = 6 ∨ k = 7 := by omega
      rcases hkk with rfl | rfl | rfl
      · have c0 : w4.cell? ⟨l, 20, none⟩ = gamesArr[20]? := cell_of_row w4 l 20 gamesArr _ _ hL4
        have c1 : w4.cell? ⟨l, 21, none⟩ = gamesArr[21]? := cell_of_row w4 l 21 gamesArr _ _ hL4
        have c2 : w4.cell? ⟨l, 22, none⟩ = gamesArr[22]? := cell_of_row w4 l 22 gamesArr _ _ hL4
        have c3 : w4.cell? ⟨l, 23, none⟩ = gamesArr[23]? := cell_of_row w4 l 23 gamesArr _ _ hL4
        simp only [gamesArr, List.getElem?_toArray, List.getElem?_cons_succ, List.getElem?_cons_zero] at c0 c1 c2 c3
        go_wp2_with (refine wpList_store_row rfl 114 _ _ rfl (g + 1) (kindK 5) rfl rfl 114 _ hR4 (by kernel_rfl) (by kernel_rfl) (by kernel_rfl) ?_)
        refine bodyPost_ret (v := .tuple #[.agg (kindK 5), .bool true]) (of_results _ _ (g + 1) (kindK 5) true rfl rfl (setRow_heap _ _ _ _ _ _ hR4) rfl) rfl ⟨rfl, ?_⟩
        first | exact below_setRow hB4 (by omega) _ | (rw [hg]; exact below_setRow hB4 (by omega) _)
      · have c0 : w4.cell? ⟨l, 24, none⟩ = gamesArr[24]? := cell_of_row w4 l 24 gamesArr _ _ hL4
        have c1 : w4.cell? ⟨l, 25, none⟩ = gamesArr[25]? := cell_of_row w4 l 25 gamesArr _ _ hL4
        have c2 : w4.cell? ⟨l, 26, none⟩ = gamesArr[26]? := cell_of_row w4 l 26 gamesArr _ _ hL4
        have c3 : w4.cell? ⟨l, 27, none⟩ = gamesArr[27]? := cell_of_row w4 l 27 gamesArr _ _ hL4
        simp only [gamesArr, List.getElem?_toArray, List.getElem?_cons_succ, List.getElem?_cons_zero] at c0 c1 c2 c3
        go_wp2_with (refine wpList_store_row rfl 114 _ _ rfl (g + 1) (kindK 6) rfl rfl 114 _ hR4 (by kernel_rfl) (by kernel_rfl) (by kernel_rfl) ?_)
        refine bodyPost_ret (v := .tuple #[.agg (kindK 6), .bool true]) (of_results _ _ (g + 1) (kindK 6) true rfl rfl (setRow_heap _ _ _ _ _ _ hR4) rfl) rfl ⟨rfl, ?_⟩
        first | exact below_setRow hB4 (by omega) _ | (rw [hg]; exact below_setRow hB4 (by omega) _)
      · have c0 : w4.cell? ⟨l, 28, none⟩ = gamesArr[28]? := cell_of_row w4 l 28 gamesArr _ _ hL4
        have c1 : w4.cell? ⟨l, 29, none⟩ = gamesArr[29]? := cell_of_row w4 l 29 gamesArr _ _ hL4
        have c2 : w4.cell? ⟨l, 30, none⟩ = gamesArr[30]? := cell_of_row w4 l 30 gamesArr _ _ hL4
        have c3 : w4.cell? ⟨l, 31, none⟩ = gamesArr[31]? := cell_of_row w4 l 31 gamesArr _ _ hL4
        simp only [gamesArr, List.getElem?_toArray, List.getElem?_cons_succ, List.getElem?_cons_zero] at c0 c1 c2 c3
        go_wp2_with (refine wpList_store_row rfl 114 _ _ rfl (g + 1) (kindK 7) rfl rfl 114 _ hR4 (by kernel_rfl) (by kernel_rfl) (by kernel_rfl) ?_)
        refine bodyPost_ret (v := .tuple #[.agg (kindK 7), .bool true]) (of_results _ _ (g + 1) (kindK 7) true rfl rfl (setRow_heap _ _ _ _ _ _ hR4) rfl) rfl ⟨rfl, ?_⟩
        first | exact below_setRow hB4 (by omega) _ | (rw [hg]; exact below_setRow hB4 (by omega) _)
  · go_upto_region 4 with (fail)
    by_cases h1 : k < 1
    · go_wp2_with (refine wpList_store_row rfl 114 _ _ rfl (g + 1) nilK rfl rfl 114 _ hR2 (by kernel_rfl) (by kernel_rfl) (by kernel_rfl) ?_)
      refine bodyPost_ret (v := .tuple #[.agg nilK, .bool false]) (of_results _ _ (g + 1) nilK false rfl rfl (setRow_heap _ _ _ _ _ _ hR2) rfl) rfl ⟨by first | exact of_ret_no (by omega) | (rw [kindK_out (by omega), show decide (1 ≤ k ∧ k ≤ 7) = false by simp; omega]) | (rw [kindK_out (by omega)]; rfl), ?_⟩
      first | exact below_setRow hB2 (by omega) _ | (rw [hg]; exact below_setRow hB2 (by omega) _)
    · have hkk : k = 1 ∨ k = 2 ∨ k = 3 ∨ k = 4 := by omega
      rcases hkk with rfl | rfl | rfl | rfl
      · have c0 : w2.cell? ⟨l, 4, none⟩ = thingsArr[4]? := cell_of_row w2 l 4 thingsArr _ _ hL2
        have c1 : w2.cell? ⟨l, 5, none⟩ = thingsArr[5]? := cell_of_row w2 l 5 thingsArr _ _ hL2
        have c2 : w2.cell? ⟨l, 6, none⟩ = thingsArr[6]? := cell_of_row w2 l 6 thingsArr _ _ hL2
        have c3 : w2.cell? ⟨l, 7, none⟩ = thingsArr[7]? := cell_of_row w2 l 7 thingsArr _ _ hL2
        simp only [thingsArr, List.getElem?_toArray, List.getElem?_cons_succ, List.getElem?_cons_zero] at c0 c1 c2 c3
        go_wp2_with (refine wpList_store_row rfl 114 _ _ rfl (g + 1) (kindK 1) rfl rfl 114 _ hR2 (by kernel_rfl) (by kernel_rfl) (by kernel_rfl) ?_)
        refine bodyPost_ret (v := .tuple #[.agg (kindK 1), .bool true]) (of_results _ _ (g + 1) (kindK 1) true rfl rfl (setRow_heap _ _ _ _ _ _ hR2) rfl) rfl ⟨rfl, ?_⟩
        first | exact below_setRow hB2 (by omega) _ | (rw [hg]; exact below_setRow hB2 (by omega) _)
      · have c0 : w2.cell? ⟨l, 8, none⟩ = thingsArr[8]? := cell_of_row w2 l 8 thingsArr _ _ hL2
        have c1 : w2.cell? ⟨l, 9, none⟩ = thingsArr[9]? := cell_of_row w2 l 9 thingsArr _ _ hL2
        have c2 : w2.cell? ⟨l, 10, none⟩ = thingsArr[10]? := cell_of_row w2 l 10 thingsArr _ _ hL2
        have c3 : w2.cell? ⟨l, 11, none⟩ = thingsArr[11]? := cell_of_row w2 l 11 thingsArr _ _ hL2
        simp only [thingsArr, List.getElem?_toArray, List.getElem?_cons_succ, List.getElem?_cons_zero] at c0 c1 c2 c3
        go_wp2_with (refine wpList_store_row rfl 114 _ _ rfl (g + 1) (kindK 2) rfl rfl 114 _ hR2 (by kernel_rfl) (by kernel_rfl) (by kernel_rfl) ?_)
        refine bodyPost_ret (v := .tuple #[.agg (kindK 2), .bool true]) (of_results _ _ (g + 1) (kindK 2) true rfl rfl (setRow_heap _ _ _ _ _ _ hR2) rfl) rfl ⟨rfl, ?_⟩
        first | exact below_setRow hB2 (by omega) _ | (rw [hg]; exact below_setRow hB2 (by omega) _)
      · have c0 : w2.cell? ⟨l, 12, none⟩ = thingsArr[12]? := cell_of_row w2 l 12 thingsArr _ _ hL2
        have c1 : w2.cell? ⟨l, 13, none⟩ = thingsArr[13]? := cell_of_row w2 l 13 thingsArr _ _ hL2
        have c2 : w2.cell? ⟨l, 14, none⟩ = thingsArr[14]? := cell_of_row w2 l 14 thingsArr _ _ hL2
        have c3 : w2.cell? ⟨l, 15, none⟩ = thingsArr[15]? := cell_of_row w2 l 15 thingsArr _ _ hL2
        simp only [thingsArr, List.getElem?_toArray, List.getElem?_cons_succ, List.getElem?_cons_zero] at c0 c1 c2 c3
        go_wp2_with (refine wpList_store_row rfl 114 _ _ rfl (g + 1) (kindK 3) rfl rfl 114 _ hR2 (by kernel_rfl) (by kernel_rfl) (by kernel_rfl) ?_)
        refine bodyPost_ret (v := .tuple #[.agg (kindK 3), .bool true]) (of_results _ _ (g + 1) (kindK 3) true rfl rfl (setRow_heap _ _ _ _ _ _ hR2) rfl) rfl ⟨rfl, ?_⟩
        first | exact below_setRow hB2 (by omega) _ | (rw [hg]; exact below_setRow hB2 (by omega) _)
      · have c0 : w2.cell? ⟨l, 16, none⟩ = thingsArr[16]? := cell_of_row w2 l 16 thingsArr _ _ hL2
        have c1 : w2.cell? ⟨l, 17, none⟩ = thingsArr[17]? := cell_of_row w2 l 17 thingsArr _ _ hL2
        have c2 : w2.cell? ⟨l, 18, none⟩ = thingsArr[18]? := cell_of_row w2 l 18 thingsArr _ _ hL2
        have c3 : w2.cell? ⟨l, 19, none⟩ = thingsArr[19]? := cell_of_row w2 l 19 thingsArr _ _ hL2
        simp only [thingsArr, List.getElem?_toArray, List.getElem?_cons_succ, List.getElem?_cons_zero] at c0 c1 c2 c3
        go_wp2_with (refine wpList_store_row rfl 114 _ _ rfl (g + 1) (kindK 4) rfl rfl 114 _ hR2 (by kernel_rfl) (by kernel_rfl) (by kernel_rfl) ?_)
        refine bodyPost_ret (v := .tuple #[.agg (kindK 4), .bool true]) (of_results _ _ (g + 1) (kindK 4) true rfl rfl (setRow_heap _ _ _ _ _ _ hR2) rfl) rfl ⟨rfl, ?_⟩
        first | exact below_setRow hB2 (by omega) _ | (rw [hg]; exact below_setRow hB2 (by omega) _)
end Go.Proofs.YtofgmijmhpmabaaGreatDoor.D

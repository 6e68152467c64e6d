/- An event as an argument, opened, its numbers' range too; strconv.Itoa in a world that is laid. -/
import Derived.Test.YtofgmijmhpmabaaGreatDoorDOpen
import Derived.Test.YtofgmijmhpmabaaGreatDoorDTextS
import Derived.Test.YtofgmijmhpmabaaGreatDoorRows
import Derived.Lib.LaidTab
namespace Go.Proofs.YtofgmijmhpmabaaGreatDoor.D
open Go Go.RowKit Go.ChangeShapes Go.WideShapes Go.Deep
set_option linter.unusedVariables false
set_option linter.unusedSimpArgs false
theorem gTab : Tryz.prog.globalNamed "internal/strconv.uint64pow10" = some 0 := by kernel_rfl
theorem gTabType : (Tryz.prog.globals[0]?).map (·.type) = some 240 := by kernel_rfl
theorem cellsTab : Tryz.prog.cellsOf 240 = 20 := by kernel_rfl
theorem cellsU64 : Tryz.prog.cellsOf 147 = 1 := by kernel_rfl
theorem pow10_data {H : Type} : (Rows.laid_internal_strconv_uint64pow10 : DataW H) = Lib.tabData .u64 Lib.pow10Tab := rfl
theorem pow10_at {W : World} (h : laidMet Tryz.prog [("math/bits.deBruijn32tab", Rows.laid_math_bits_deBruijn32tab), ("math/bits.deBruijn64tab", Rows.laid_math_bits_deBruijn64tab), ("internal/strconv.uint64pow10", Rows.laid_internal_strconv_uint64pow10)] W) :
    Lib.TabIs Tryz.prog W "internal/strconv.uint64pow10" .u64 Lib.pow10Tab := by
  obtain ⟨ps, ⟨g1, t1, c1, f1, p1, q1, _, _, _, _, hl, _⟩, _⟩ := h
  obtain ⟨g2, t2, c2, f2, p2, q2, _, _, _, _, hl2, _⟩ := hl
  obtain ⟨g', t', cs, fuel, p, q, hg', ht', hvar, hd, _, _⟩ := hl2
  obtain rfl := Option.some.inj (gTab.symm.trans hg')
  obtain rfl := Option.some.inj (gTabType.symm.trans ht')
  rw [pow10_data] at hd
  unfold Lib.TabIs
  rw [hvar, ← Lib.cells_of_tab Tryz.underlying240 Tryz.underlying147 cellsU64 cellsTab hd]
theorem grow_below (w : World) (k : Nat) (os : Array Obj) : Below w.heap.size w (Sort.grow (w.drewN k) os) :=
  ⟨rfl, rfl, rfl, by simp [Sort.grow], fun i hi => by
    show (w.heap ++ os)[i]? = _
    rw [Array.getElem?_append, if_pos hi]⟩
theorem var_below {P : Program} {B g : Nat} {W W' : World} {n : String} {cs : Array Value} (h : Below B W W') (hg : P.globalNamed n = some g) (hgB : g < B) (hv : W.var? P n = some cs) : W'.var? P n = some cs := by
  unfold World.var? at hv ⊢
  rw [hg] at hv ⊢
  simp only [Option.bind_some] at hv ⊢
  rw [h.block g hgB]
  exact hv
theorem itoa_in {w : World} (h : Lib.TabIs Tryz.prog w "internal/strconv.uint64pow10" .u64 Lib.pow10Tab) : ItoaIn w := by
  intro n W h0 h1 hb
  have hlt : 0 < w.heap.size := by
    unfold Lib.TabIs World.var? at h
    rw [gTab] at h
    simp only [Option.bind_some] at h
    rcases Nat.lt_or_ge 0 w.heap.size with e | e
    · exact e
    · rw [Array.getElem?_eq_none e] at h
      simp at h
  refine (Tryz.strconv_Itoa n h0 h1 W (var_below hb gTab hlt h)).mono ?_
  rintro e w' ⟨rfl, k, os, rfl⟩
  exact ⟨rfl, grow_below _ _ _⟩
set_option maxRecDepth 100000 in
set_option maxHeartbeats 2000000 in
/-- A list of numbers. -/
theorem open_i64r {H : Type} {enc : TypeId × Value → H} {w : World} {fuel : Nat} {v : Value} {x : DataW H × List MemPlace}
    (hf : DataW.trod enc Tryz.prog w 0 (fun _ => true) true fuel 28 [v] = some x) (hwt : (DataW.weights Tryz.prog 28 x.1).all (· ≤ reachBytes) = true) :
    ∃ A c, ∃ l : List Int, v = .slice A l.length c ∧ G.RdS w A 1 l.length (i64s l) ∧ l.length ≤ 140737488355328 ∧ ∀ i ∈ l, InR i := by
  have hreach : reachBytes = 140737488351232 := rfl
  rcases open_ints Tryz.underlying28 Tryz.underlying3 (by kernel_rfl) hf with ⟨hcs, hx⟩ | ⟨a, len, cap, zs, hcs, _, hl, hm, hz, hx, hcell, hwf⟩
  · simp only [List.cons.injEq, and_true] at hcs
    subst hcs
    exact ⟨none, 0, [], rfl, G.RdS.nil _, by simp, by simp⟩
  · simp only [List.cons.injEq, and_true] at hcs
    subst hcs
    subst hx
    simp only [if_true] at hz
    unfold DataW.weights at hwt
    rw [Tryz.underlying28] at hwt
    simp only [List.all_cons, Bool.and_eq_true, show Tryz.prog.bytesOf 3 = 8 by kernel_rfl, lits, List.length_map, List.length_take, List.length_drop, decide_eq_true_eq] at hwt
    have hw1 := hwt.1
    rw [hreach] at hw1
    have hll : (zs.take len).length = len := by rw [List.length_take]; omega
    refine ⟨some a, cap, zs.take len, by rw [hll], ⟨by rw [i64s_length]; omega, fun h0 => ?_⟩, by omega, fun i hi => bounds_i64 (hwf i (List.mem_of_mem_take hi))⟩
    rw [hll] at h0
    have hc0 := hcell 0 (by omega)
    obtain ⟨bb, off, rfl⟩ := G.plain_addr hc0 rfl
    have hbW : bb < w.heap.size := World.block_lt_of_cell? _ _ (by rw [Addr.add_lit] at hc0; exact hc0)
    refine ⟨bb, off, rfl, hbW, fun j hj => ?_⟩
    rw [i64s_length, hll] at hj
    have h := hcell j (by omega)
    rw [Addr.add_lit] at h
    rw [h]
    simp [i64s, List.getD_eq_getElem?_getD, List.getElem?_take, hj, show j < zs.length by omega]
set_option maxRecDepth 100000 in
set_option maxHeartbeats 2000000 in
/-- An event as an argument. -/
theorem open_eventR {H : Type} {enc : TypeId × Value → H} {w : World} {b0 : Nat} {v : Value} {d : DataW H} {p : List MemPlace} (hv : Value.okWide Tryz.prog w .any b0 30 v) (h : DataW.Trod enc Tryz.prog w 0 (fun _ => true) true 30 v d p)
    (hwt : (DataW.weights Tryz.prog 30 d).all (· ≤ reachBytes) = true) : ∃ (y : EV) (e : Ev), v = y.val e ∧ RdEv w y e ∧ e.Fits ∧ e.order.length ≤ 140737488355328 ∧ (∀ i ∈ e.order, InR i) := by
  obtain ⟨cs, ys, n, rfl, hcs, hys, rfl, rfl, hf⟩ := open_struct undEventF oneEvent cellsEvent hv h
  rw [sizeEventF] at hcs hys
  have hw : (DataW.weightsEach Tryz.prog [25, 25, 3, 3, 3, 3, 3, 3, 3, 21, 21, 28] (ys.map (·.1))).all (· ≤ reachBytes) = true := by
    unfold DataW.weights at hwt
    rw [undEventF] at hwt
    simp only [typesEvent] at hwt
    exact hwt
  have get : ∀ j, j < 12 → ∃ c y, cs[j]? = some c ∧ ys[j]? = some y ∧ DataW.trod enc Tryz.prog w 0 (fun _ => true) true n ([25, 25, 3, 3, 3, 3, 3, 3, 3, 21, 21, 28].getD j 0) [c] = some y ∧ (y.1.weights Tryz.prog ([25, 25, 3, 3, 3, 3, 3, 3, 3, 21, 21, 28].getD j 0)).all (· ≤ reachBytes) = true := by
    intro j hj
    obtain ⟨f, hf1, hf2⟩ := typeEvent j hj
    obtain ⟨c, y, e1, e2, e3⟩ := hf j f hf1
    refine ⟨c, y, e1, e2, hf2 ▸ e3, weightsEach_at hw j _ y.1 ?_ (by rw [List.getElem?_map, e2]; rfl)⟩
    rw [List.getD_eq_getElem?_getD, List.getElem?_eq_getElem (by simpa using hj)]
    rfl
  obtain ⟨c0, y0, q0, _, t0, u0⟩ := get 0 (by omega)
  obtain ⟨c1, y1, q1, _, t1, u1⟩ := get 1 (by omega)
  obtain ⟨c2, y2, q2, _, t2, u2⟩ := get 2 (by omega)
  obtain ⟨c3, y3, q3, _, t3, u3⟩ := get 3 (by omega)
  obtain ⟨c4, y4, q4, _, t4, u4⟩ := get 4 (by omega)
  obtain ⟨c5, y5, q5, _, t5, u5⟩ := get 5 (by omega)
  obtain ⟨c6, y6, q6, _, t6, u6⟩ := get 6 (by omega)
  obtain ⟨c7, y7, q7, _, t7, u7⟩ := get 7 (by omega)
  obtain ⟨c8, y8, q8, _, t8, u8⟩ := get 8 (by omega)
  obtain ⟨c9, y9, q9, _, t9, u9⟩ := get 9 (by omega)
  obtain ⟨c10, y10, q10, _, t10, u10⟩ := get 10 (by omega)
  obtain ⟨c11, y11, q11, _, t11, u11⟩ := get 11 (by omega)
  obtain ⟨z0, hz0, _, f0⟩ := DataW.trod_int Tryz.underlying25 t0
  obtain ⟨z1, hz1, _, f1⟩ := DataW.trod_int Tryz.underlying25 t1
  obtain ⟨z2, hz2, _, f2⟩ := DataW.trod_int Tryz.underlying3 t2
  obtain ⟨z3, hz3, _, f3⟩ := DataW.trod_int Tryz.underlying3 t3
  obtain ⟨z4, hz4, _, f4⟩ := DataW.trod_int Tryz.underlying3 t4
  obtain ⟨z5, hz5, _, f5⟩ := DataW.trod_int Tryz.underlying3 t5
  obtain ⟨z6, hz6, _, f6⟩ := DataW.trod_int Tryz.underlying3 t6
  obtain ⟨z7, hz7, _, f7⟩ := DataW.trod_int Tryz.underlying3 t7
  obtain ⟨z8, hz8, _, f8⟩ := DataW.trod_int Tryz.underlying3 t8
  obtain ⟨z9, hz9, _, f9⟩ := DataW.trod_int Tryz.underlying21 t9
  obtain ⟨z10, hz10, _, f10⟩ := DataW.trod_int Tryz.underlying21 t10
  obtain ⟨A, k, l, rfl, rl, ll, lr⟩ := open_i64r t11 u11
  simp only [List.cons.injEq, and_true] at hz0 hz1 hz2 hz3 hz4 hz5 hz6 hz7 hz8 hz9 hz10
  subst hz0 hz1 hz2 hz3 hz4 hz5 hz6 hz7 hz8 hz9 hz10
  refine ⟨⟨A, k⟩, ⟨z0, z1, z2, z3, z4, z5, z6, z7, z8, z9, z10, l⟩, ?_, rl, ⟨bounds_i8 f0, bounds_i8 f1, bounds_i64 f2, bounds_i64 f3, bounds_i64 f4, bounds_i64 f5, bounds_i64 f6, bounds_i64 f7, bounds_i64 f8, bounds_i32 f9, bounds_i32 f10⟩, ll, lr⟩
  unfold EV.val
  congr 1
  refine Array.ext_getElem? fun i => ?_
  match i with
  | 0 => exact q0
  | 1 => exact q1
  | 2 => exact q2
  | 3 => exact q3
  | 4 => exact q4
  | 5 => exact q5
  | 6 => exact q6
  | 7 => exact q7
  | 8 => exact q8
  | 9 => exact q9
  | 10 => exact q10
  | 11 => exact q11
  | i + 12 => rw [Array.getElem?_eq_none (by omega)]; rfl
end Go.Proofs.YtofgmijmhpmabaaGreatDoor.D

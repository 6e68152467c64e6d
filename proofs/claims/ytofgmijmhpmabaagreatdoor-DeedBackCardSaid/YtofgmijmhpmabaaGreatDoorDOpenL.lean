/- Lists of events, of deeds as arguments, opened: what they read as, and how great they may be. Printed by gen_openl.py. -/
import Derived.Test.YtofgmijmhpmabaaGreatDoorDOpen
import Derived.Test.YtofgmijmhpmabaaGreatDoorDOpenD
import Derived.Test.YtofgmijmhpmabaaGreatDoorDEvAt
namespace Go.Proofs.YtofgmijmhpmabaaGreatDoor.D
open Go Go.RowKit Go.ChangeShapes Go.WideShapes Go.Deep
set_option linter.unusedVariables false
set_option linter.unusedSimpArgs false
def cellsDq (p : EV × Dq) : List Value := (dqArr p.1 p.2).toList
def flatD (L : List (EV × Dq)) : List Value := L.flatMap cellsDq
theorem flatD_length (L : List (EV × Dq)) : (flatD L).length = L.length * 7 := G.flat_len cellsDq 7 (fun _ => rfl) L
def zeroQ : EV × Dq := (⟨none, 0⟩, ⟨0, 0, 0, false, 0, 0, []⟩)
theorem bytesL_evs : Tryz.prog.bytesOf 30 = 96 := by kernel_rfl
set_option maxRecDepth 100000 in
set_option maxHeartbeats 2000000 in
/-- A list of events as an argument. -/
theorem open_evs {H : Type} {enc : TypeId × Value → H} {w : World} {b0 : Nat} {v : Value} {d : DataW H} {p : List MemPlace} (hv : Value.okWide Tryz.prog w .any b0 32 v) (h : DataW.Trod enc Tryz.prog w 0 (fun _ => true) true 32 v d p)
    (hwt : (DataW.weights Tryz.prog 32 d).all (· ≤ reachBytes) = true) : ∃ A c, ∃ L : List (EV × Ev), v = .slice A L.length c ∧ G.RdS w A 12 L.length (flatE L) ∧ L.length ≤ 1466015503700 ∧ ∀ k, k < L.length → RdEv w (L.getD k zeroP).1 (L.getD k zeroP).2 ∧ (L.getD k zeroP).2.Fits ∧ (L.getD k zeroP).2.order.length ≤ 140737488355328 := by
  obtain ⟨a0, len0, cap0, rfl⟩ := okWide_slice Tryz.underlying32 hv
  obtain ⟨fuel, hf⟩ := h
  rcases G.open_slice_fields Tryz.underlying32 undEventF oneEvent cellsEvent hf with ⟨hcs, hx⟩ | ⟨a, len, cap, m, D, Ps, hcs, _, hl, hm, hmm, hx, hi⟩
  · simp [Value.cells] at hcs
    obtain ⟨rfl, rfl, rfl⟩ := hcs
    exact ⟨none, 0, [], rfl, G.RdS.nil _, by simp, fun k hk => by simp at hk⟩
  · simp [Value.cells] at hcs
    obtain ⟨rfl, rfl, rfl⟩ := hcs
    simp only [if_true] at hmm
    subst hmm
    simp only [Prod.mk.injEq] at hx
    obtain ⟨rfl, rfl⟩ := hx
    unfold DataW.weights at hwt
    rw [Tryz.underlying32] at hwt
    simp only [List.all_cons, Bool.and_eq_true, bytesL_evs, List.length_map, List.length_range, decide_eq_true_eq] at hwt
    obtain ⟨hsz, hel⟩ := hwt
    obtain ⟨hel, _⟩ := all_append_le hel
    have hreach : reachBytes = 140737488351232 := rfl
    have hlen : len0 ≤ 1466015503700 := by rw [hreach] at hsz; omega
    have key : ∀ i, i < len0 → ∃ q : EV × Ev, (G.RdS w q.1.oa 1 q.2.order.length (i64s q.2.order) ∧ q.2.Fits ∧ q.2.order.length ≤ 140737488355328) ∧ ∀ j, j < 12 → w.cell? (a.add (i * 12 + j)) = some ((cellsE q).getD j undef) := by
      intro i hil
      obtain ⟨ys, n, hD, _, hyl, hfield⟩ := hi i (by omega)
      rw [sizeEventF] at hyl hfield
      have hw := weightsAll_mem hel (D i) (List.mem_map.2 ⟨i, List.mem_range.2 hil, rfl⟩)
      rw [hD] at hw
      unfold DataW.weights at hw
      rw [undEventF] at hw
      simp only [typesEvent] at hw
      have get : ∀ j, j < 12 → ∃ v y, w.cell? (a.add (i * 12 + j)) = some v ∧ DataW.trod enc Tryz.prog w 0 (fun _ => true) true n ([25, 25, 3, 3, 3, 3, 3, 3, 3, 21, 21, 28].getD j 0) [v] = some y ∧ (y.1.weights Tryz.prog ([25, 25, 3, 3, 3, 3, 3, 3, 3, 21, 21, 28].getD j 0)).all (· ≤ reachBytes) = true := by
        intro j hj
        obtain ⟨f, hf1, hf2⟩ := typeEvent j hj
        obtain ⟨v, y, e1, e2, e3⟩ := hfield j f hf1
        refine ⟨v, y, e1, hf2 ▸ e3, weightsEach_at hw j _ y.1 ?_ (by rw [List.getElem?_map, e2]; rfl)⟩
        rw [List.getD_eq_getElem?_getD, List.getElem?_eq_getElem (by simpa using hj)]
        rfl
      obtain ⟨v0, y0, c0, t0, u0⟩ := get 0 (by omega)
      obtain ⟨v1, y1, c1, t1, u1⟩ := get 1 (by omega)
      obtain ⟨v2, y2, c2, t2, u2⟩ := get 2 (by omega)
      obtain ⟨v3, y3, c3, t3, u3⟩ := get 3 (by omega)
      obtain ⟨v4, y4, c4, t4, u4⟩ := get 4 (by omega)
      obtain ⟨v5, y5, c5, t5, u5⟩ := get 5 (by omega)
      obtain ⟨v6, y6, c6, t6, u6⟩ := get 6 (by omega)
      obtain ⟨v7, y7, c7, t7, u7⟩ := get 7 (by omega)
      obtain ⟨v8, y8, c8, t8, u8⟩ := get 8 (by omega)
      obtain ⟨v9, y9, c9, t9, u9⟩ := get 9 (by omega)
      obtain ⟨v10, y10, c10, t10, u10⟩ := get 10 (by omega)
      obtain ⟨v11, y11, c11, t11, u11⟩ := get 11 (by omega)
      obtain ⟨z0, hz0, _, f0⟩ := DataW.trod_int Tryz.underlying25 t0
      obtain ⟨z1, hz1, _, f1⟩ := DataW.trod_int Tryz.underlying25 t1
      obtain ⟨z2, hz2, _, f2⟩ := DataW.trod_int Tryz.underlying3 t2
      obtain ⟨z3, hz3, _, f3⟩ := DataW.trod_int Tryz.underlying3 t3
      obtain ⟨z4, hz4, _, f4⟩ := DataW.trod_int Tryz.underlying3 t4
      obtain ⟨z5, hz5, _, f5⟩ := DataW.trod_int Tryz.underlying3 t5
      obtain ⟨z6, hz6, _, f6⟩ := DataW.trod_int Tryz.underlying3 t6
      obtain ⟨z7, hz7, _, f7⟩ := DataW.trod_int Tryz.underlying3 t7
      obtain ⟨z8, hz8, _, f8⟩ := DataW.trod_int Tryz.underlying3 t8
      obtain ⟨z9, hz9, _, f9⟩ := DataW.trod_int Tryz.underlying21 t9
      obtain ⟨z10, hz10, _, f10⟩ := DataW.trod_int Tryz.underlying21 t10
      obtain ⟨A, k, l, rfl, rl, ll⟩ := open_i64s t11 u11
      simp only [List.cons.injEq, and_true] at hz0 hz1 hz2 hz3 hz4 hz5 hz6 hz7 hz8 hz9 hz10
      subst hz0 hz1 hz2 hz3 hz4 hz5 hz6 hz7 hz8 hz9 hz10
      refine ⟨(⟨A, k⟩, ⟨z0, z1, z2, z3, z4, z5, z6, z7, z8, z9, z10, l⟩), ⟨rl, ⟨bounds_i8 f0, bounds_i8 f1, bounds_i64 f2, bounds_i64 f3, bounds_i64 f4, bounds_i64 f5, bounds_i64 f6, bounds_i64 f7, bounds_i64 f8, bounds_i32 f9, bounds_i32 f10⟩, ll⟩, fun j hj => ?_⟩
      match j, hj with
      | 0, _ => exact c0
      | 1, _ => exact c1
      | 2, _ => exact c2
      | 3, _ => exact c3
      | 4, _ => exact c4
      | 5, _ => exact c5
      | 6, _ => exact c6
      | 7, _ => exact c7
      | 8, _ => exact c8
      | 9, _ => exact c9
      | 10, _ => exact c10
      | 11, _ => exact c11
    obtain ⟨L, hLl, hL⟩ := G.list_of zeroP _ len0 key
    refine ⟨some a, m, L, by rw [hLl], ⟨by rw [flatE_length], fun h0 => ?_⟩, by rw [hLl]; exact hlen, fun k hk => (hL k (by omega)).1⟩
    have h00 := (hL 0 (by omega)).2 0 (by omega)
    obtain ⟨b, off, rfl⟩ := G.plain_addr h00 (by omega)
    have hbW : b < w.heap.size := World.block_lt_of_cell? _ _ (by rw [Addr.add_lit] at h00; exact h00)
    refine ⟨b, off, rfl, ?_⟩
    exact G.rdV_structs (f := cellsE) (sz := 12) (fun _ => rfl) zeroP hbW rfl (fun i hi j hj => by
      have h := (hL i (by omega)).2 j hj
      rw [Addr.add_lit] at h
      exact h)
theorem bytesL_dos : Tryz.prog.bytesOf 80 = 64 := by kernel_rfl
set_option maxRecDepth 100000 in
set_option maxHeartbeats 2000000 in
/-- A list of deeds as an argument. -/
theorem open_dos {H : Type} {enc : TypeId × Value → H} {w : World} {b0 : Nat} {v : Value} {d : DataW H} {p : List MemPlace} (hv : Value.okWide Tryz.prog w .any b0 87 v) (h : DataW.Trod enc Tryz.prog w 0 (fun _ => true) true 87 v d p)
    (hwt : (DataW.weights Tryz.prog 87 d).all (· ≤ reachBytes) = true) : ∃ A c, ∃ L : List (EV × Dq), v = .slice A L.length c ∧ G.RdS w A 7 L.length (flatD L) ∧ L.length ≤ 2199023255551 ∧ ∀ k, k < L.length → G.RdS w (L.getD k zeroQ).1.oa 1 (L.getD k zeroQ).2.order.length (i64s (L.getD k zeroQ).2.order) ∧ (-128 ≤ (L.getD k zeroQ).2.field ∧ (L.getD k zeroQ).2.field ≤ 127) ∧ (-9223372036854775808 ≤ (L.getD k zeroQ).2.by_ ∧ (L.getD k zeroQ).2.by_ ≤ 9223372036854775807) ∧ (L.getD k zeroQ).2.order.length ≤ 140737488355328 := by
  obtain ⟨a0, len0, cap0, rfl⟩ := okWide_slice Tryz.underlying87 hv
  obtain ⟨fuel, hf⟩ := h
  rcases G.open_slice_fields Tryz.underlying87 undDoF oneDo cellsDo hf with ⟨hcs, hx⟩ | ⟨a, len, cap, m, D, Ps, hcs, _, hl, hm, hmm, hx, hi⟩
  · simp [Value.cells] at hcs
    obtain ⟨rfl, rfl, rfl⟩ := hcs
    exact ⟨none, 0, [], rfl, G.RdS.nil _, by simp, fun k hk => by simp at hk⟩
  · simp [Value.cells] at hcs
    obtain ⟨rfl, rfl, rfl⟩ := hcs
    simp only [if_true] at hmm
    subst hmm
    simp only [Prod.mk.injEq] at hx
    obtain ⟨rfl, rfl⟩ := hx
    unfold DataW.weights at hwt
    rw [Tryz.underlying87] at hwt
    simp only [List.all_cons, Bool.and_eq_true, bytesL_dos, List.length_map, List.length_range, decide_eq_true_eq] at hwt
    obtain ⟨hsz, hel⟩ := hwt
    obtain ⟨hel, _⟩ := all_append_le hel
    have hreach : reachBytes = 140737488351232 := rfl
    have hlen : len0 ≤ 2199023255551 := by rw [hreach] at hsz; omega
    have key : ∀ i, i < len0 → ∃ q : EV × Dq, (G.RdS w q.1.oa 1 q.2.order.length (i64s q.2.order) ∧ (-128 ≤ q.2.field ∧ q.2.field ≤ 127) ∧ (-9223372036854775808 ≤ q.2.by_ ∧ q.2.by_ ≤ 9223372036854775807) ∧ q.2.order.length ≤ 140737488355328) ∧ ∀ j, j < 7 → w.cell? (a.add (i * 7 + j)) = some ((cellsDq q).getD j undef) := by
      intro i hil
      obtain ⟨ys, n, hD, _, hyl, hfield⟩ := hi i (by omega)
      rw [sizeDoF] at hyl hfield
      have hw := weightsAll_mem hel (D i) (List.mem_map.2 ⟨i, List.mem_range.2 hil, rfl⟩)
      rw [hD] at hw
      unfold DataW.weights at hw
      rw [undDoF] at hw
      simp only [typesDo] at hw
      have get : ∀ j, j < 7 → ∃ v y, w.cell? (a.add (i * 7 + j)) = some v ∧ DataW.trod enc Tryz.prog w 0 (fun _ => true) true n ([3, 3, 3, 4, 25, 2, 28].getD j 0) [v] = some y ∧ (y.1.weights Tryz.prog ([3, 3, 3, 4, 25, 2, 28].getD j 0)).all (· ≤ reachBytes) = true := by
        intro j hj
        obtain ⟨f, hf1, hf2⟩ := typeDo j hj
        obtain ⟨v, y, e1, e2, e3⟩ := hfield j f hf1
        refine ⟨v, y, e1, hf2 ▸ e3, weightsEach_at hw j _ y.1 ?_ (by rw [List.getElem?_map, e2]; rfl)⟩
        rw [List.getD_eq_getElem?_getD, List.getElem?_eq_getElem (by simpa using hj)]
        rfl
      obtain ⟨v0, y0, c0, t0, u0⟩ := get 0 (by omega)
      obtain ⟨v1, y1, c1, t1, u1⟩ := get 1 (by omega)
      obtain ⟨v2, y2, c2, t2, u2⟩ := get 2 (by omega)
      obtain ⟨v3, y3, c3, t3, u3⟩ := get 3 (by omega)
      obtain ⟨v4, y4, c4, t4, u4⟩ := get 4 (by omega)
      obtain ⟨v5, y5, c5, t5, u5⟩ := get 5 (by omega)
      obtain ⟨v6, y6, c6, t6, u6⟩ := get 6 (by omega)
      obtain ⟨z0, hz0, _, f0⟩ := DataW.trod_int Tryz.underlying3 t0
      obtain ⟨z1, hz1, _, f1⟩ := DataW.trod_int Tryz.underlying3 t1
      obtain ⟨z2, hz2, _, f2⟩ := DataW.trod_int Tryz.underlying3 t2
      obtain ⟨z3, hz3, _⟩ := DataW.trod_bool Tryz.underlying4 t3
      obtain ⟨z4, hz4, _, f4⟩ := DataW.trod_int Tryz.underlying25 t4
      obtain ⟨z5, hz5, _, f5⟩ := DataW.trod_int Tryz.underlying2 t5
      obtain ⟨A, k, l, rfl, rl, ll⟩ := open_i64s t6 u6
      simp only [List.cons.injEq, and_true] at hz0 hz1 hz2 hz3 hz4 hz5
      subst hz0 hz1 hz2 hz3 hz4 hz5
      refine ⟨(⟨A, k⟩, ⟨z0, z1, z2, z3, z4, z5, l⟩), ⟨rl, bounds_i8 f4, bounds_i64 f5, ll⟩, fun j hj => ?_⟩
      match j, hj with
      | 0, _ => exact c0
      | 1, _ => exact c1
      | 2, _ => exact c2
      | 3, _ => exact c3
      | 4, _ => exact c4
      | 5, _ => exact c5
      | 6, _ => exact c6
    obtain ⟨L, hLl, hL⟩ := G.list_of zeroQ _ len0 key
    refine ⟨some a, m, L, by rw [hLl], ⟨by rw [flatD_length], fun h0 => ?_⟩, by rw [hLl]; exact hlen, fun k hk => (hL k (by omega)).1⟩
    have h00 := (hL 0 (by omega)).2 0 (by omega)
    obtain ⟨b, off, rfl⟩ := G.plain_addr h00 (by omega)
    have hbW : b < w.heap.size := World.block_lt_of_cell? _ _ (by rw [Addr.add_lit] at h00; exact h00)
    refine ⟨b, off, rfl, ?_⟩
    exact G.rdV_structs (f := cellsDq) (sz := 7) (fun _ => rfl) zeroQ hbW rfl (fun i hi j hj => by
      have h := (hL i (by omega)).2 j hj
      rw [Addr.add_lit] at h
      exact h)
end Go.Proofs.YtofgmijmhpmabaaGreatDoor.D

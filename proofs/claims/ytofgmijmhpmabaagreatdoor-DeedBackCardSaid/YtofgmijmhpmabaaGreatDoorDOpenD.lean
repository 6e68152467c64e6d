/- A deed as an argument, opened: what it reads as, and how great it may be. Printed by gen_opend.py. -/
import Derived.Test.YtofgmijmhpmabaaGreatDoorDOpen
import Derived.Test.YtofgmijmhpmabaaGreatDoorDAsked
namespace Go.Proofs.YtofgmijmhpmabaaGreatDoor.D
open Go Go.RowKit Go.ChangeShapes Go.WideShapes Go.Deep
set_option linter.unusedVariables false
set_option linter.unusedSimpArgs false
noncomputable def fieldsDo : Array Field := ((Tryz.prog.underlying 80).map fun | .struct fs => fs | _ => #[]).getD #[]
theorem undDoF : Tryz.prog.underlying 80 = some (.struct fieldsDo) := by kernel_rfl
theorem oneDo : oneCellFields Tryz.prog fieldsDo = true := by kernel_rfl
theorem cellsDo : Tryz.prog.cellsOf 80 = fieldsDo.size := by kernel_rfl
theorem sizeDoF : fieldsDo.size = 7 := by kernel_rfl
theorem typesDo : fieldsDo.toList.map (·.type) = [3, 3, 3, 4, 25, 2, 28] := by kernel_rfl
theorem typeDo (j : Nat) (hj : j < 7) : ∃ f, fieldsDo[j]? = some f ∧ f.type = [3, 3, 3, 4, 25, 2, 28].getD j 0 := by
  have hl : j < fieldsDo.size := by rw [sizeDoF]; exact hj
  refine ⟨fieldsDo[j], Array.getElem?_eq_getElem hl, ?_⟩
  rw [← typesDo, List.getD_eq_getElem?_getD, List.getElem?_map, Array.getElem?_toList, Array.getElem?_eq_getElem hl]
  rfl
set_option maxRecDepth 100000 in
set_option maxHeartbeats 2000000 in
/-- A deed as an argument. -/
theorem open_do {H : Type} {enc : TypeId × Value → H} {w : World} {b0 : Nat} {v : Value} {d : DataW H} {p : List MemPlace} (hv : Value.okWide Tryz.prog w .any b0 80 v) (h : DataW.Trod enc Tryz.prog w 0 (fun _ => true) true 80 v d p)
    (hwt : (DataW.weights Tryz.prog 80 d).all (· ≤ reachBytes) = true) : ∃ (y : EV) (q : Dq), v = .agg (dqArr y q) ∧ G.RdS w y.oa 1 q.order.length (i64s q.order) ∧ (-128 ≤ q.field ∧ q.field ≤ 127) ∧ (-9223372036854775808 ≤ q.by_ ∧ q.by_ ≤ 9223372036854775807) ∧ q.order.length ≤ 140737488355328 := by
  obtain ⟨cs, ys, n, rfl, hcs, hys, rfl, rfl, hf⟩ := open_struct undDoF oneDo cellsDo hv h
  rw [sizeDoF] at hcs hys
  have hw : (DataW.weightsEach Tryz.prog [3, 3, 3, 4, 25, 2, 28] (ys.map (·.1))).all (· ≤ reachBytes) = true := by
    unfold DataW.weights at hwt
    rw [undDoF] at hwt
    simp only [typesDo] at hwt
    exact hwt
  have get : ∀ j, j < 7 → ∃ c y, cs[j]? = some c ∧ ys[j]? = some y ∧ DataW.trod enc Tryz.prog w 0 (fun _ => true) true n ([3, 3, 3, 4, 25, 2, 28].getD j 0) [c] = some y ∧ (y.1.weights Tryz.prog ([3, 3, 3, 4, 25, 2, 28].getD j 0)).all (· ≤ reachBytes) = true := by
    intro j hj
    obtain ⟨f, hf1, hf2⟩ := typeDo j hj
    obtain ⟨c, y, e1, e2, e3⟩ := hf j f hf1
    refine ⟨c, y, e1, e2, hf2 ▸ e3, weightsEach_at hw j _ y.1 ?_ (by rw [List.getElem?_map, e2]; rfl)⟩
    rw [List.getD_eq_getElem?_getD, List.getElem?_eq_getElem (by simpa using hj)]
    rfl
  obtain ⟨c0, y0, q0, _, t0, u0⟩ := get 0 (by omega)
  obtain ⟨c1, y1, q1, _, t1, u1⟩ := get 1 (by omega)
  obtain ⟨c2, y2, q2, _, t2, u2⟩ := get 2 (by omega)
  obtain ⟨c3, y3, q3, _, t3, u3⟩ := get 3 (by omega)
  obtain ⟨c4, y4, q4, _, t4, u4⟩ := get 4 (by omega)
  obtain ⟨c5, y5, q5, _, t5, u5⟩ := get 5 (by omega)
  obtain ⟨c6, y6, q6, _, t6, u6⟩ := get 6 (by omega)
  obtain ⟨z0, hz0, _, f0⟩ := DataW.trod_int Tryz.underlying3 t0
  obtain ⟨z1, hz1, _, f1⟩ := DataW.trod_int Tryz.underlying3 t1
  obtain ⟨z2, hz2, _, f2⟩ := DataW.trod_int Tryz.underlying3 t2
  obtain ⟨z3, hz3, _⟩ := DataW.trod_bool Tryz.underlying4 t3
  obtain ⟨z4, hz4, _, f4⟩ := DataW.trod_int Tryz.underlying25 t4
  obtain ⟨z5, hz5, _, f5⟩ := DataW.trod_int Tryz.underlying2 t5
  obtain ⟨A, k, l, rfl, rl, ll⟩ := open_i64s t6 u6
  simp only [List.cons.injEq, and_true] at hz0 hz1 hz2 hz3 hz4 hz5
  subst hz0 hz1 hz2 hz3 hz4 hz5
  refine ⟨⟨A, k⟩, ⟨z0, z1, z2, z3, z4, z5, l⟩, ?_, rl, bounds_i8 f4, bounds_i64 f5, ll⟩
  congr 1
  refine Array.ext_getElem? fun i => ?_
  match i with
  | 0 => exact q0
  | 1 => exact q1
  | 2 => exact q2
  | 3 => exact q3
  | 4 => exact q4
  | 5 => exact q5
  | 6 => exact q6
  | i + 7 => rw [Array.getElem?_eq_none (by omega)]; rfl
end Go.Proofs.YtofgmijmhpmabaaGreatDoor.D

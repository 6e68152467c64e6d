/- TreeParts: a tree is its node and the trees of its kids, one behind the other; cut off, or gone on with, it is no tree any more; where the nodes stand says nothing. No condition. -/
import Derived.Test.YtamienmbpdbnnaaRows
import Derived.Test.YtamienmbpdbnnaaTPartsW
import Derived.Test.YtamienmbpdbnnaaTOpen
import Derived.HandedShaped
import Derived.ProofKit
namespace Go.Proofs.Ytamienmbpdbnnaa.T
open Go.ChangeShapes Go.WideShapes Go.ChangeAt Go.RowKit
set_option linter.unusedVariables false
set_option linter.unusedSimpArgs false
theorem own : ownKnob Try.prog.godebug = none := by kernel_rfl
theorem laidOut : laidOutB Try.prog = true := by kernel_rfl
theorem weights_two {H : Type} {P : Program} {t u : TypeId} {d e : DataW H} {k : Nat} (h : (DataW.weightsEach P [t, u] [d, e]).all (· ≤ k) = true) : (d.weights P t).all (· ≤ k) = true ∧ (e.weights P u).all (· ≤ k) = true := by
  unfold DataW.weightsEach at h
  obtain ⟨h1, h⟩ := all_append_le h
  unfold DataW.weightsEach at h
  exact ⟨h1, (all_append_le h).1⟩
theorem nodes_cap {H : Type} {enc : TypeId × Value → H} {w : World} {d : DataW H} {ps : List MemPlace} {A : Option Addr} {n c : Nat} (h : DataW.Trod enc Try.prog w 0 (fun _ => true) true 22 (.slice A n c) d ps) : n ≤ c := by
  obtain ⟨fuel, hf⟩ := h
  rcases G.open_slice_fields Try.underlying22 undNd oneNd cellsNd hf with ⟨hcs, hx⟩ | ⟨a, len, cap, m, D, Pl, hcs, _, hl, _, _, _, _⟩
  · simp [Value.cells] at hcs
    omega
  · simp [Value.cells] at hcs
    omega
set_option maxRecDepth 100000 in
theorem parts_lifted (os : Os) (started : os.Started) (H : Type) (enc : TypeId × Value → H) :
    ReturnsInHanded {} Try.checked os 5 .any (Rows.treePartsSpec.pre6 enc Try.prog Try.f5 Rows.treePartsRow.domain false) (Rows.treePartsSpec.post enc Try.prog Try.f5 false true false false) := by
  refine returnsInHanded_of_change_shaped (C := Try.checked) own started (by kernel_rfl) Try.func5
    (ChangeSpec.witness6 (enc := enc) (C := Try.checked) false ⟨#[], #[.slice none 0 0, .int .i64 0], []⟩ 8 (by kernel_rfl) (by kernel_rfl) (by kernel_rfl) (by kernel_rfl)) ?_
  intro W base args ds gs before hval0 hW _ hwt0 hsh _
  have hval : ∀ (j : Nat) t v, Try.f5.params[j]? = some t → args[j]? = some v → Value.okWide Try.prog W .any base t v := hval0
  have hW' := hW
  obtain ⟨p, q, hA0, hV, rfl, hfz, hnd⟩ := hW
  have hA : DataW.TrodAll enc Try.prog W 0 (fun _ => true) true Try.f5.params.toList args.toList ds p := hA0
  have hwt1 : (DataW.weightsEach Try.prog (Try.f5.params.toList ++ Rows.treePartsSpec.plain.varTypes Try.prog) (ds ++ gs)).all (· ≤ reachBytes) = true := hwt0
  rw [Try.params5] at hA hval hwt1
  obtain ⟨v0, v1, d0, d1, p0, p1, rfl, rfl, rfl, h0, h1⟩ := trodAll_two hA
  obtain ⟨rfl, rfl⟩ := trodVars_none hV
  have hwt2 : (DataW.weightsEach Try.prog [22, 3] [d0, d1]).all (· ≤ reachBytes) = true := hwt1
  obtain ⟨hw0, _⟩ := weights_two hwt2
  obtain ⟨m1, rfl, rfl, rfl, wm1⟩ := open_int Try.underlying3 (hval 1 3 v1 rfl rfl) h1
  clear hA0 hval0 hwt0 hwt1 hwt2
  simp only [List.append_nil] at hW'
  have hlt : ∀ x ∈ p0, x.block < W.heap.size := fun x hx => by simpa using hW'.lt x hx
  have h0k := h0
  obtain ⟨A, c, xs, rfl, hs0, hl0, hf0⟩ := open_nodes (hval 0 22 v0 rfl rfl) h0 hw0 hlt
  refine (parts_walk A c xs m1 W hs0.rd (by omega) (nodes_cap h0k) hf0 (bounds_i64 wm1) (cont_in hsh)).mono fun e W' he => ?_
  unfold LivesPost at he
  obtain ⟨rfl, hb⟩ := he
  exact ⟨_, rfl, _, _, _, [], _, [], hW', trodAll_cons_mk (shut_bool Try.underlying4 _) trodAll_mk0,
    trodAll_mk2 (Below.trod laidOut (by kernel_rfl) (of_decide_eq_true (by kernel_rfl)) h0k hb hlt) (shut_int Try.underlying3 wm1), rfl, hb.frame _, fun h => by cases h⟩
theorem treeParts_holds : Rows.TreePartsSaid :=
  OpenClaim.holds_of_wide 5 Try.f5 rfl rfl rfl rfl rfl rfl rfl ⟨rfl, rfl, rfl, rfl, rfl⟩ rfl rfl rfl rfl rfl (by kernel_rfl) Try.func5 (by kernel_rfl)
    (of_decide_eq_true (by kernel_rfl)) (by unfold Func.isWrapper; first | (rw [if_pos (by decide +kernel)]; kernel_rfl) | (rw [if_neg (by decide +kernel)]; exact ⟨rfl, rfl⟩))
    (fun os started H enc _ => parts_lifted os started H enc)
#print axioms treeParts_holds
end Go.Proofs.Ytamienmbpdbnnaa.T

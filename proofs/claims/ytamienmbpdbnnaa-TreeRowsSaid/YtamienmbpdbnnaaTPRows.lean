/- TreeRows: a row of numbers with so many marks, all of one rank, opens one less than it has marks, leaning left or right. No condition. -/
import Derived.Test.YtamienmbpdbnnaaRows
import Derived.Test.YtamienmbpdbnnaaTRowsW
import Derived.Test.YtamienmbpdbnnaaTOpen
import Derived.HandedShaped
import Derived.ProofKit
namespace Go.Proofs.Ytamienmbpdbnnaa.T
open Go.ChangeShapes Go.WideShapes Go.ChangeAt Go.RowKit
set_option linter.unusedVariables false
set_option linter.unusedSimpArgs false
theorem own : ownKnob Try.prog.godebug = none := by kernel_rfl
theorem laidOut : laidOutB Try.prog = true := by kernel_rfl
theorem weights_two {H : Type} {P : Program} {t u : TypeId} {d e : DataW H} {k : Nat} (h : (DataW.weightsEach P [t, u] [d, e]).all (· ≤ k) = true) : (d.weights P t).all (· ≤ k) = true ∧ (e.weights P u).all (· ≤ k) = true := by
  unfold DataW.weightsEach at h
  obtain ⟨h1, h⟩ := all_append_le h
  unfold DataW.weightsEach at h
  exact ⟨h1, (all_append_le h).1⟩
set_option maxRecDepth 100000 in
theorem rows_lifted (os : Os) (started : os.Started) (H : Type) (enc : TypeId × Value → H) :
    ReturnsInHanded {} Try.checked os 7 .any (Rows.treeRowsSpec.pre6 enc Try.prog Try.f7 Rows.treeRowsRow.domain false) (Rows.treeRowsSpec.post enc Try.prog Try.f7 false true false false) := by
  refine returnsInHanded_of_change_shaped (C := Try.checked) own started (by kernel_rfl) Try.func7
    (ChangeSpec.witness6 (enc := enc) (C := Try.checked) false ⟨#[], #[.int .i64 0, .int .i8 0], []⟩ 8 (by kernel_rfl) (by kernel_rfl) (by kernel_rfl) (by kernel_rfl)) ?_
  intro W base args ds gs before hval0 hW _ hwt0 hsh _
  have hval : ∀ (j : Nat) t v, Try.f7.params[j]? = some t → args[j]? = some v → Value.okWide Try.prog W .any base t v := hval0
  have hW' := hW
  obtain ⟨p, q, hA0, hV, rfl, hfz, hnd⟩ := hW
  have hA : DataW.TrodAll enc Try.prog W 0 (fun _ => true) true Try.f7.params.toList args.toList ds p := hA0
  have hwt1 : (DataW.weightsEach Try.prog (Try.f7.params.toList ++ Rows.treeRowsSpec.plain.varTypes Try.prog) (ds ++ gs)).all (· ≤ reachBytes) = true := hwt0
  rw [Try.params7] at hA hval hwt1
  obtain ⟨v0, v1, d0, d1, p0, p1, rfl, rfl, rfl, h0, h1⟩ := trodAll_two hA
  obtain ⟨rfl, rfl⟩ := trodVars_none hV
  obtain ⟨m, rfl, rfl, rfl, wm⟩ := open_int Try.underlying3 (hval 0 3 v0 rfl rfl) h0
  obtain ⟨o, rfl, rfl, rfl, wo⟩ := open_int Try.underlying31 (hval 1 31 v1 rfl rfl) h1
  clear hA0 hval0 hwt0 hwt1
  simp only [List.append_nil] at hW'
  refine (rows_walk m o W (bounds_i64 wm) (cont_in hsh)).mono fun e W' he => ?_
  unfold LivesPost at he
  obtain ⟨rfl, hb⟩ := he
  exact ⟨_, rfl, _, _, _, [], _, [], hW', trodAll_cons_mk (shut_bool Try.underlying4 _) trodAll_mk0,
    trodAll_mk2 (shut_int Try.underlying3 wm) (shut_int Try.underlying31 wo), rfl, hb.frame _, fun h => by cases h⟩
theorem treeRows_holds : Rows.TreeRowsSaid :=
  OpenClaim.holds_of_wide 7 Try.f7 rfl rfl rfl rfl rfl rfl rfl ⟨rfl, rfl, rfl, rfl, rfl⟩ rfl rfl rfl rfl rfl (by kernel_rfl) Try.func7 (by kernel_rfl)
    (of_decide_eq_true (by kernel_rfl)) (by unfold Func.isWrapper; first | (rw [if_pos (by decide +kernel)]; kernel_rfl) | (rw [if_neg (by decide +kernel)]; exact ⟨rfl, rfl⟩))
    (fun os started H enc _ => rows_lifted os started H enc)
#print axioms treeRows_holds
end Go.Proofs.Ytamienmbpdbnnaa.T

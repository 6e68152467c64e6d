/- TreeChecks: of every list of nodes the program and the document say alike whether it is a tree, how deep and how heavy it is; it stays as it is; written over it is another question. No condition. -/
import Derived.Test.YtamienmbpdbnnaaRows
import Derived.Test.YtamienmbpdbnnaaTChecksW
import Derived.Test.YtamienmbpdbnnaaTOpen
import Derived.HandedShaped
import Derived.ProofKit
namespace Go.Proofs.Ytamienmbpdbnnaa.T
open Go.ChangeShapes Go.WideShapes Go.ChangeAt Go.RowKit
set_option linter.unusedVariables false
set_option linter.unusedSimpArgs false
theorem own : ownKnob Try.prog.godebug = none := by kernel_rfl
theorem laidOut : laidOutB Try.prog = true := by kernel_rfl
theorem weights_two {H : Type} {P : Program} {t u : TypeId} {d e : DataW H} {k : Nat} (h : (DataW.weightsEach P [t, u] [d, e]).all (· ≤ k) = true) : (d.weights P t).all (· ≤ k) = true ∧ (e.weights P u).all (· ≤ k) = true := by
  unfold DataW.weightsEach at h
  obtain ⟨h1, h⟩ := all_append_le h
  unfold DataW.weightsEach at h
  exact ⟨h1, (all_append_le h).1⟩
set_option maxRecDepth 100000 in
theorem checks_lifted (os : Os) (started : os.Started) (H : Type) (enc : TypeId × Value → H) :
    ReturnsInHanded {} Try.checked os 3 .any (Rows.treeChecksSpec.pre6 enc Try.prog Try.f3 Rows.treeChecksRow.domain false) (Rows.treeChecksSpec.post enc Try.prog Try.f3 false true false false) := by
  refine returnsInHanded_of_change_shaped (C := Try.checked) own started (by kernel_rfl) Try.func3
    (ChangeSpec.witness6 (enc := enc) (C := Try.checked) false ⟨#[], #[.slice none 0 0], []⟩ 8 (by kernel_rfl) (by kernel_rfl) (by kernel_rfl) (by kernel_rfl)) ?_
  intro W base args ds gs before hval0 hW _ hwt0 hsh _
  have hval : ∀ (j : Nat) t v, Try.f3.params[j]? = some t → args[j]? = some v → Value.okWide Try.prog W .any base t v := hval0
  have hW' := hW
  obtain ⟨p, q, hA0, hV, rfl, hfz, hnd⟩ := hW
  have hA : DataW.TrodAll enc Try.prog W 0 (fun _ => true) true Try.f3.params.toList args.toList ds p := hA0
  have hwt1 : (DataW.weightsEach Try.prog (Try.f3.params.toList ++ Rows.treeChecksSpec.plain.varTypes Try.prog) (ds ++ gs)).all (· ≤ reachBytes) = true := hwt0
  rw [Try.params3] at hA hval hwt1
  obtain ⟨v0, d0, rfl, rfl, h0⟩ := trodAll_one hA
  obtain ⟨rfl, rfl⟩ := trodVars_none hV
  have hwt2 : (DataW.weightsEach Try.prog [22] [d0]).all (· ≤ reachBytes) = true := hwt1
  have hw0 : (d0.weights Try.prog 22).all (· ≤ reachBytes) = true := by
    unfold DataW.weightsEach at hwt2
    exact (all_append_le hwt2).1
  clear hA0 hval0 hwt0 hwt1 hwt2
  simp only [List.append_nil] at hW'
  have hlt : ∀ x ∈ p, x.block < W.heap.size := fun x hx => hW'.lt x hx
  have h0k := h0
  obtain ⟨A, c, xs, rfl, hs0, hl0, hf0⟩ := open_nodes (hval 0 22 v0 rfl rfl) h0 hw0 hlt
  refine (checks_walk A c xs W hs0.rd (by omega) hf0 (cont_in hsh)).mono fun e W' he => ?_
  unfold LivesPost at he
  obtain ⟨rfl, hb⟩ := he
  exact ⟨_, rfl, _, _, _, [], _, [], hW', trodAll_cons_mk (shut_bool Try.underlying4 _) trodAll_mk0,
    trodAll_mk1 (Below.trod laidOut (by kernel_rfl) (of_decide_eq_true (by kernel_rfl)) h0k hb hlt), rfl, hb.frame _, fun h => by cases h⟩
theorem treeChecks_holds : Rows.TreeChecksSaid :=
  OpenClaim.holds_of_wide 3 Try.f3 rfl rfl rfl rfl rfl rfl rfl ⟨rfl, rfl, rfl, rfl, rfl⟩ rfl rfl rfl rfl rfl (by kernel_rfl) Try.func3 (by kernel_rfl)
    (of_decide_eq_true (by kernel_rfl)) (by unfold Func.isWrapper; first | (rw [if_pos (by decide +kernel)]; kernel_rfl) | (rw [if_neg (by decide +kernel)]; exact ⟨rfl, rfl⟩))
    (fun os started H enc _ => checks_lifted os started H enc)
#print axioms treeChecks_holds
end Go.Proofs.Ytamienmbpdbnnaa.T

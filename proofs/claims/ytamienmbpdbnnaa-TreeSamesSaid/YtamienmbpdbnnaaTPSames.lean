/- TreeSames: of every two lists of nodes the program and the document say alike whether they are the same but for their places; both lists stay as they are. No condition. -/
import Derived.Test.YtamienmbpdbnnaaRows
import Derived.Test.YtamienmbpdbnnaaTSames
import Derived.Test.YtamienmbpdbnnaaTOpen
import Derived.HandedShaped
import Derived.ProofKit
namespace Go.Proofs.Ytamienmbpdbnnaa.T
open Go.ChangeShapes Go.WideShapes Go.ChangeAt Go.RowKit
set_option linter.unusedVariables false
set_option linter.unusedSimpArgs false
theorem own : ownKnob Try.prog.godebug = none := by kernel_rfl
theorem laidOut : laidOutB Try.prog = true := by kernel_rfl
theorem weights_two {H : Type} {P : Program} {t u : TypeId} {d e : DataW H} {k : Nat} (h : (DataW.weightsEach P [t, u] [d, e]).all (· ≤ k) = true) : (d.weights P t).all (· ≤ k) = true ∧ (e.weights P u).all (· ≤ k) = true := by
  unfold DataW.weightsEach at h
  obtain ⟨h1, h⟩ := all_append_le h
  unfold DataW.weightsEach at h
  exact ⟨h1, (all_append_le h).1⟩
set_option maxRecDepth 100000 in
theorem sames_lifted (os : Os) (started : os.Started) (H : Type) (enc : TypeId × Value → H) :
    ReturnsInHanded {} Try.checked os 4 .any (Rows.treeSamesSpec.pre6 enc Try.prog Try.f4 Rows.treeSamesRow.domain false) (Rows.treeSamesSpec.post enc Try.prog Try.f4 false true false false) := by
  refine returnsInHanded_of_change_shaped (C := Try.checked) own started (by kernel_rfl) Try.func4
    (ChangeSpec.witness6 (enc := enc) (C := Try.checked) false ⟨#[], #[.slice none 0 0, .slice none 0 0], []⟩ 8 (by kernel_rfl) (by kernel_rfl) (by kernel_rfl) (by kernel_rfl)) ?_
  intro W base args ds gs before hval0 hW _ hwt0 hsh _
  have hval : ∀ (j : Nat) t v, Try.f4.params[j]? = some t → args[j]? = some v → Value.okWide Try.prog W .any base t v := hval0
  have hW' := hW
  obtain ⟨p, q, hA0, hV, rfl, hfz, hnd⟩ := hW
  have hA : DataW.TrodAll enc Try.prog W 0 (fun _ => true) true Try.f4.params.toList args.toList ds p := hA0
  have hwt1 : (DataW.weightsEach Try.prog (Try.f4.params.toList ++ Rows.treeSamesSpec.plain.varTypes Try.prog) (ds ++ gs)).all (· ≤ reachBytes) = true := hwt0
  rw [Try.params4] at hA hval hwt1
  obtain ⟨v0, v1, d0, d1, p0, p1, rfl, rfl, rfl, h0, h1⟩ := trodAll_two hA
  obtain ⟨rfl, rfl⟩ := trodVars_none hV
  have hwt2 : (DataW.weightsEach Try.prog [22, 22] [d0, d1]).all (· ≤ reachBytes) = true := hwt1
  obtain ⟨hw0, hw1⟩ := weights_two hwt2
  clear hA0 hval0 hwt0 hwt1 hwt2
  simp only [List.append_nil] at hW'
  have hlt : ∀ x ∈ p0 ++ p1, x.block < W.heap.size := fun x hx => hW'.lt x (by simpa using hx)
  have h0k := h0
  have h1k := h1
  obtain ⟨A, c, xs, rfl, hs0, hl0, hf0⟩ := open_nodes (hval 0 22 v0 rfl rfl) h0 hw0 (fun x hx => hlt x (by simp [hx]))
  obtain ⟨B, d, ys, rfl, hs1, hl1, hf1⟩ := open_nodes (hval 1 22 v1 rfl rfl) h1 hw1 (fun x hx => hlt x (by simp [hx]))
  refine (sames_walk A B c d xs ys W hs0.rd hs1.rd (by omega) (by omega) (fun x hx => (hf0 x hx).text) (fun x hx => (hf1 x hx).text) (cont_in hsh)).mono fun e W' he => ?_
  unfold LivesPost at he
  obtain ⟨rfl, hb⟩ := he
  exact ⟨_, rfl, _, _, _, [], _, [], hW', trodAll_cons_mk (shut_bool Try.underlying4 _) trodAll_mk0,
    trodAll_mk2 (Below.trod laidOut (by kernel_rfl) (of_decide_eq_true (by kernel_rfl)) h0k hb (fun x hx => hlt x (by simp [hx]))) (Below.trod laidOut (by kernel_rfl) (of_decide_eq_true (by kernel_rfl)) h1k hb (fun x hx => hlt x (by simp [hx]))), rfl, hb.frame _, fun h => by cases h⟩
theorem treeSames_holds : Rows.TreeSamesSaid :=
  OpenClaim.holds_of_wide 4 Try.f4 rfl rfl rfl rfl rfl rfl rfl ⟨rfl, rfl, rfl, rfl, rfl⟩ rfl rfl rfl rfl rfl (by kernel_rfl) Try.func4 (by kernel_rfl)
    (of_decide_eq_true (by kernel_rfl)) (by unfold Func.isWrapper; first | (rw [if_pos (by decide +kernel)]; kernel_rfl) | (rw [if_neg (by decide +kernel)]; exact ⟨rfl, rfl⟩))
    (fun os started H enc _ => sames_lifted os started H enc)
#print axioms treeSames_holds
end Go.Proofs.Ytamienmbpdbnnaa.T

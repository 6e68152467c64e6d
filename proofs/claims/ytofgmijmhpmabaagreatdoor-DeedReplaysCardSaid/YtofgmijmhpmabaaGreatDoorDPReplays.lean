/- DeedReplays: of every state and every list of events: what the list leads to and back to, or the refusal and its place, is the document's; what was handed in stays, and is not kept; answers are lists of their own; the arguments stay as they are. No condition. -/
import Derived.Test.YtofgmijmhpmabaaGreatDoorCards
import Derived.Test.YtofgmijmhpmabaaGreatDoorTie
import Derived.Test.YtofgmijmhpmabaaGreatDoorDRepW
import Derived.Test.YtofgmijmhpmabaaGreatDoorDOpenL
import Derived.ProofKit
import Derived.OpenShut
import Derived.Deep.DeepHandedRow
import Derived.Deep.DeepWitnessRowRef
import Derived.Lay
import Derived.WalkSmall
import Derived.Carry
namespace Go.Proofs.YtofgmijmhpmabaaGreatDoor.D
open Go.ChangeShapes Go.WideShapes Go.ChangeAt Go.RowKit
set_option linter.unusedVariables false
set_option linter.unusedSimpArgs false
theorem own : ownKnob Tryz.prog.godebug = none := by kernel_rfl
theorem laidOut : laidOutB Tryz.prog = true := by kernel_rfl
set_option maxRecDepth 100000 in
theorem replays_contract (H : Type) (enc : TypeId × Value → H) (W : World) (base : Nat) (args : Array Value) (ds gs : List (DataW H)) (before : List MemPlace)
 (hval0 : ∀ (j : Nat) t v, Tryz.f7.params[j]? = some t → args[j]? = some v → Value.okWide Tryz.prog W .any base t v)
 (hW : DataW.Whole enc Tryz.prog Tryz.f7.params.toList Rows.deedReplaysSpec.vars false W args.toList ds gs before)
 (hwt0 : (DataW.weightsEach Tryz.prog (Tryz.f7.params.toList ++ Rows.deedReplaysSpec.plain.varTypes Tryz.prog) (ds ++ gs)).all (· ≤ reachBytes) = true) :
 Calls Tryz.prog 7 args W fun e W' => ∃ v, e = .returned v ∧ Rows.deedReplaysSpec.post enc Tryz.prog Tryz.f7 false true false false W args v W' := by
 have hval := hval0
 have hW' := hW
 obtain ⟨p, q, hA0, hV, rfl, _, _⟩ := hW
 have hA : DataW.TrodAll enc Tryz.prog W 0 (fun _ => true) true Tryz.f7.params.toList args.toList ds p := hA0
 have hwt1 := hwt0
 rw [Tryz.params7] at hA hval hwt1
 obtain ⟨v0, v1, d0, d1, p0, p1, rfl, rfl, rfl, h0, h1⟩ := trodAll_two hA
 obtain ⟨rfl, rfl⟩ := trodVars_none hV
 have hwt2 : (DataW.weightsEach Tryz.prog [27, 32] [d0, d1]).all (· ≤ reachBytes) = true := hwt1
 clear hA0 hval0 hwt0 hwt1
 simp only [List.append_nil] at hW'
 have hlt : ∀ x ∈ p0 ++ p1, x.block < W.heap.size := fun x hx => by simpa using hW'.lt x hx
 have h0k := h0
 have h1k := h1
 obtain ⟨x, s, rfl, hr0, hs0⟩ := open_state (hval 0 27 v0 rfl rfl) h0 (weightsEach_at hwt2 0 _ d0 rfl rfl)
 obtain ⟨A, c, L, rfl, hr1, hl1, hk1⟩ := open_evs (hval 1 32 v1 rfl rfl) h1 (weightsEach_at hwt2 1 _ d1 rfl rfl)
 refine (replays_any x s A L.length c L W hr0 ⟨hr1, fun k hk => (hk1 k hk).1⟩ (fun k hk => (hk1 k hk).2) hs0 (Nat.le_trans hl1 (by decide))).mono fun e W' he => ?_
 obtain ⟨rfl, hb⟩ := he
 exact ⟨_, rfl, _, _, _, [], _, [], hW', trodAll_cons_mk (shut_bool Tryz.underlying4 _) trodAll_mk0,
  trodAll_mk2 (Below.trod laidOut (by kernel_rfl) (of_decide_eq_true (by kernel_rfl)) h0k hb (fun x hx => hlt x (by first | (cases hx; done) | simp [hx]))) (Below.trod laidOut (by kernel_rfl) (of_decide_eq_true (by kernel_rfl)) h1k hb (fun x hx => hlt x (by first | (cases hx; done) | simp [hx]))), rfl, hb.frame _, fun h => by cases h⟩
theorem replaysLaid (os : Os) : laidMet Tryz.prog Rows.deedReplaysRow.laid ((World.laidAll Tryz.prog os Rows.deedReplaysRow.laid).forCall (fun _ _ => 0) ⟨#[], #[.agg #[.slice none 0 0, .slice none 0 0, .slice none 0 0, .int .i32 0, .int .i64 0, .int .i8 0, .int .i64 0], .slice none 0 0], []⟩).memory :=
 laidMet_laidAll _ (by kernel_rfl) (by kernel_rfl)
theorem replaysReads (os : Os) {H : Type} (enc : TypeId × Value → H) : ∃ places, DataW.whole enc Tryz.prog ((World.laidAll Tryz.prog os Rows.deedReplaysRow.laid).forCall (fun _ _ => 0) ⟨#[], #[.agg #[.slice none 0 0, .slice none 0 0, .slice none 0 0, .int .i32 0, .int .i64 0, .int .i8 0, .int .i64 0], .slice none 0 0], []⟩).memory Tryz.f7.params.toList Rows.deedReplaysSpec.vars false (#[.agg #[.slice none 0 0, .slice none 0 0, .slice none 0 0, .int .i32 0, .int .i64 0, .int .i8 0, .int .i64 0], .slice none 0 0] : Array Value).toList 8 = some ([.agg [.nil, .nil, .nil, .lit (.int .i32 0), .lit (.int .i64 0), .lit (.int .i8 0), .lit (.int .i64 0)], .nil], [], places) :=
 ⟨[], by kernel_rfl⟩
set_option maxRecDepth 100000 in
theorem replays_lifted (os : Os) (started : os.Started) (H : Type) (enc : TypeId × Value → H) (F : Stop.Interp) :
 ReturnsInHanded {} Tryz.checked os 7 .any ((OpenSpec.ofChange Rows.deedReplaysSpec).preRow enc Tryz.prog Tryz.f7 Rows.deedReplaysRow.domain false Rows.deedReplaysRow.laid) (((OpenSpec.ofChange Rows.deedReplaysSpec).at F).post enc Tryz.prog Tryz.f7 false true false false) := by
 obtain ⟨places, hx⟩ := replaysReads os enc
 refine returnsInHanded_of_row (C := Tryz.checked) (s := OpenSpec.ofChange Rows.deedReplaysSpec) own started (by kernel_rfl) Tryz.func7
  (witness_row_atRef (enc := enc) (C := Tryz.checked) false (World.laidAll Tryz.prog os Rows.deedReplaysRow.laid) #[.agg #[.slice none 0 0, .slice none 0 0, .slice none 0 0, .int .i32 0, .int .i64 0, .int .i8 0, .int .i64 0], .slice none 0 0] (World.laidAll_os _ _ _) (by kernel_rfl) (by kernel_rfl) (by kernel_rfl)
   (OpenSpec.preRow_of_cond 8 hx (by kernel_rfl) (fun k hk => by cases hk) (by kernel_rfl) (replaysLaid os))) ?_
 intro W base args ds gs before hval hW _ _ hwt hL _ _
 exact replays_contract H enc W base args ds gs before hval hW hwt
theorem replays_said : Rows.DeedReplaysSaid :=
 OpenClaim.holds_of_cond 7 Tryz.f7 rfl rfl rfl rfl rfl rfl rfl ⟨rfl, rfl, rfl, rfl, rfl⟩ rfl rfl rfl rfl rfl (by kernel_rfl) Tryz.func7 (by kernel_rfl)
  (of_decide_eq_true (by kernel_rfl)) (by unfold Func.isWrapper; first | (rw [if_pos (by decide +kernel)]; kernel_rfl) | (rw [if_neg (by decide +kernel)]; exact ⟨rfl, rfl⟩))
  (fun os started H enc _ F => by rw [OpenClaim.pre_eq_preRow]; exact replays_lifted os started H enc F)
theorem replays_plain (f : FuncId) (fn : Func) (hf : Tryz.pinned.checked.prog.funcNamed "tableau/tableaulaw06.DeedReplays" = some f) (hfn : Tryz.pinned.checked.prog.funcs[f]? = some fn) :
 true = Tryz.pinned.checked.prog.looks [] ∧ ∀ (j : Nat) t, fn.params[j]? = some t → Tryz.pinned.checked.prog.wantsStandIn t = false := by
 obtain rfl : f = 7 := Option.some.inj ((show Tryz.prog.funcNamed "tableau/tableaulaw06.DeedReplays" = some 7 by kernel_rfl).symm.trans hf) |>.symm
 obtain rfl : fn = Tryz.f7 := (Option.some.inj (Tryz.func7.symm.trans hfn)).symm
 refine ⟨by kernel_rfl, fun j t ht => ?_⟩
 rw [Tryz.params7] at ht
 match j, ht with
 | 0, ht => obtain rfl := Option.some.inj ht; exact (show Tryz.prog.wantsStandIn 27 = false by kernel_rfl)
 | 1, ht => obtain rfl := Option.some.inj ht; exact (show Tryz.prog.wantsStandIn 32 = false by kernel_rfl)
 | (j + 2), ht => simp at ht
/-- The card. -/
theorem deedReplays_card : Rows.DeedReplaysCardSaid :=
 Claim7.holds_tied_plain_at .later [] _ _ _ _ replays_said (fun _ h => by cases h) (by kernel_rfl) (fun _ h => by cases h) deedReplays_row_tie rfl ⟨rfl, rfl⟩ (by kernel_rfl) rfl replays_plain (by kernel_rfl)
#print axioms deedReplays_card
end Go.Proofs.YtofgmijmhpmabaaGreatDoor.D

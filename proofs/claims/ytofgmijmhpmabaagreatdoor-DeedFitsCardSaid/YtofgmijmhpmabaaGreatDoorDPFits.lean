/- DeedFits: of every state and every deed: what the deed answers is one event or none, and fits the state; the arguments stay as they are. No condition. -/
import Derived.Test.YtofgmijmhpmabaaGreatDoorDFitsW
import Derived.Test.YtofgmijmhpmabaaGreatDoorDOpen
import Derived.Test.YtofgmijmhpmabaaGreatDoorDAsked
import Derived.Test.YtofgmijmhpmabaaGreatDoorCards
import Derived.Test.YtofgmijmhpmabaaGreatDoorTie
import Derived.ProofKit
import Derived.OpenShut
import Derived.Deep.DeepHandedRow
import Derived.Deep.DeepWitnessRowRef
import Derived.Lay
import Derived.WalkSmall
import Derived.Carry
namespace Go.Proofs.YtofgmijmhpmabaaGreatDoor.D
open Go Go.RowKit
set_option linter.unusedVariables false
set_option linter.unusedSimpArgs false
theorem fits_any (x : SV) (s : St) (y : EV) (d : Dq) (w : World) (h : RdSt w x s) (hr : G.RdS w y.oa 1 d.order.length (i64s d.order)) (hf : -128 ≤ d.field ∧ d.field ≤ 127) (hb : -9223372036854775808 ≤ d.by_ ∧ d.by_ ≤ 9223372036854775807) (hw : Sw s) (hl : d.order.length ≤ 140737488355328) :
    Calls Tryz.prog 10 #[x.val s, .agg (dqArr y d)] w (BoolPost true w) := by
  cases hby : beyondB s [(y, ordEv d)] with
  | true => exact fits_long x s y d w h hr hw hl hby
  | false =>
    have h1 : amountSt s + sizeEs [(y, ordEv d)] ≤ 16777216 := by
      have := of_decide_eq_false hby
      omega
    have h2 : d.order.length ≤ 16777216 := by
      have h3 : sizeEs [(y, ordEv d)] ≤ 16777216 := by omega
      exact sumTo_mem (a := d.order.length) h3 (by simp [ordEv])
    exact fits_short x s y d w h hr ⟨hf, hb, by omega⟩ hw (amount_sz (by omega)) hby
end Go.Proofs.YtofgmijmhpmabaaGreatDoor.D
namespace Go.Proofs.YtofgmijmhpmabaaGreatDoor.D
open Go Go.RowKit Go.ChangeShapes Go.WideShapes Go.Deep
set_option linter.unusedVariables false
set_option linter.unusedSimpArgs false
noncomputable def fieldsDo : Array Field := ((Tryz.prog.underlying 80).map fun | .struct fs => fs | _ => #[]).getD #[]
theorem undDoF : Tryz.prog.underlying 80 = some (.struct fieldsDo) := by kernel_rfl
theorem oneDo : oneCellFields Tryz.prog fieldsDo = true := by kernel_rfl
theorem cellsDo : Tryz.prog.cellsOf 80 = fieldsDo.size := by kernel_rfl
theorem sizeDoF : fieldsDo.size = 7 := by kernel_rfl
theorem typesDo : fieldsDo.toList.map (·.type) = [3, 3, 3, 4, 25, 2, 28] := by kernel_rfl
theorem typeDo (j : Nat) (hj : j < 7) : ∃ f, fieldsDo[j]? = some f ∧ f.type = [3, 3, 3, 4, 25, 2, 28].getD j 0 := by
  have hl : j < fieldsDo.size := by rw [sizeDoF]; exact hj
  refine ⟨fieldsDo[j], Array.getElem?_eq_getElem hl, ?_⟩
  rw [← typesDo, List.getD_eq_getElem?_getD, List.getElem?_map, Array.getElem?_toList, Array.getElem?_eq_getElem hl]
  rfl
set_option maxRecDepth 100000 in
set_option maxHeartbeats 2000000 in
/-- A deed as an argument. -/
theorem open_do {H : Type} {enc : TypeId × Value → H} {w : World} {b0 : Nat} {v : Value} {d : DataW H} {p : List MemPlace} (hv : Value.okWide Tryz.prog w .any b0 80 v) (h : DataW.Trod enc Tryz.prog w 0 (fun _ => true) true 80 v d p)
    (hwt : (DataW.weights Tryz.prog 80 d).all (· ≤ reachBytes) = true) : ∃ (y : EV) (q : Dq), v = .agg (dqArr y q) ∧ G.RdS w y.oa 1 q.order.length (i64s q.order) ∧ (-128 ≤ q.field ∧ q.field ≤ 127) ∧ (-9223372036854775808 ≤ q.by_ ∧ q.by_ ≤ 9223372036854775807) ∧ q.order.length ≤ 140737488355328 := by
  obtain ⟨cs, ys, n, rfl, hcs, hys, rfl, rfl, hf⟩ := open_struct undDoF oneDo cellsDo hv h
  rw [sizeDoF] at hcs hys
  have hw : (DataW.weightsEach Tryz.prog [3, 3, 3, 4, 25, 2, 28] (ys.map (·.1))).all (· ≤ reachBytes) = true := by
    unfold DataW.weights at hwt
    rw [undDoF] at hwt
    simp only [typesDo] at hwt
    exact hwt
  have get : ∀ j, j < 7 → ∃ c y, cs[j]? = some c ∧ ys[j]? = some y ∧ DataW.trod enc Tryz.prog w 0 (fun _ => true) true n ([3, 3, 3, 4, 25, 2, 28].getD j 0) [c] = some y ∧ (y.1.weights Tryz.prog ([3, 3, 3, 4, 25, 2, 28].getD j 0)).all (· ≤ reachBytes) = true := by
    intro j hj
    obtain ⟨f, hf1, hf2⟩ := typeDo j hj
    obtain ⟨c, y, e1, e2, e3⟩ := hf j f hf1
    refine ⟨c, y, e1, e2, hf2 ▸ e3, weightsEach_at hw j _ y.1 ?_ (by rw [List.getElem?_map, e2]; rfl)⟩
    rw [List.getD_eq_getElem?_getD, List.getElem?_eq_getElem (by simpa using hj)]
    rfl
  obtain ⟨c0, y0, q0, _, t0, u0⟩ := get 0 (by omega)
  obtain ⟨c1, y1, q1, _, t1, u1⟩ := get 1 (by omega)
  obtain ⟨c2, y2, q2, _, t2, u2⟩ := get 2 (by omega)
  obtain ⟨c3, y3, q3, _, t3, u3⟩ := get 3 (by omega)
  obtain ⟨c4, y4, q4, _, t4, u4⟩ := get 4 (by omega)
  obtain ⟨c5, y5, q5, _, t5, u5⟩ := get 5 (by omega)
  obtain ⟨c6, y6, q6, _, t6, u6⟩ := get 6 (by omega)
  obtain ⟨z0, hz0, _, f0⟩ := DataW.trod_int Tryz.underlying3 t0
  obtain ⟨z1, hz1, _, f1⟩ := DataW.trod_int Tryz.underlying3 t1
  obtain ⟨z2, hz2, _, f2⟩ := DataW.trod_int Tryz.underlying3 t2
  obtain ⟨z3, hz3, _⟩ := DataW.trod_bool Tryz.underlying4 t3
  obtain ⟨z4, hz4, _, f4⟩ := DataW.trod_int Tryz.underlying25 t4
  obtain ⟨z5, hz5, _, f5⟩ := DataW.trod_int Tryz.underlying2 t5
  obtain ⟨A, k, l, rfl, rl, ll⟩ := open_i64s t6 u6
  simp only [List.cons.injEq, and_true] at hz0 hz1 hz2 hz3 hz4 hz5
  subst hz0 hz1 hz2 hz3 hz4 hz5
  refine ⟨⟨A, k⟩, ⟨z0, z1, z2, z3, z4, z5, l⟩, ?_, rl, bounds_i8 f4, bounds_i64 f5, ll⟩
  congr 1
  refine Array.ext_getElem? fun i => ?_
  match i with
  | 0 => exact q0
  | 1 => exact q1
  | 2 => exact q2
  | 3 => exact q3
  | 4 => exact q4
  | 5 => exact q5
  | 6 => exact q6
  | i + 7 => rw [Array.getElem?_eq_none (by omega)]; rfl
end Go.Proofs.YtofgmijmhpmabaaGreatDoor.D
namespace Go.Proofs.YtofgmijmhpmabaaGreatDoor.D
open Go.ChangeShapes Go.WideShapes Go.ChangeAt Go.RowKit
set_option linter.unusedVariables false
set_option linter.unusedSimpArgs false
theorem own : ownKnob Tryz.prog.godebug = none := by kernel_rfl
theorem laidOut : laidOutB Tryz.prog = true := by kernel_rfl
set_option maxRecDepth 100000 in
theorem fits_contract (H : Type) (enc : TypeId × Value → H) (W : World) (base : Nat) (args : Array Value) (ds gs : List (DataW H)) (before : List MemPlace)
    (hval0 : ∀ (j : Nat) t v, Tryz.f10.params[j]? = some t → args[j]? = some v → Value.okWide Tryz.prog W .any base t v)
    (hW : DataW.Whole enc Tryz.prog Tryz.f10.params.toList Rows.deedFitsSpec.vars false W args.toList ds gs before)
    (hwt0 : (DataW.weightsEach Tryz.prog (Tryz.f10.params.toList ++ Rows.deedFitsSpec.plain.varTypes Tryz.prog) (ds ++ gs)).all (· ≤ reachBytes) = true) :
    Calls Tryz.prog 10 args W fun e W' => ∃ v, e = .returned v ∧ Rows.deedFitsSpec.post enc Tryz.prog Tryz.f10 false true false false W args v W' := by
  have hval := hval0
  have hW' := hW
  obtain ⟨p, q, hA0, hV, rfl, _, _⟩ := hW
  have hA : DataW.TrodAll enc Tryz.prog W 0 (fun _ => true) true Tryz.f10.params.toList args.toList ds p := hA0
  have hwt1 := hwt0
  rw [Tryz.params10] at hA hval hwt1
  obtain ⟨v0, v1, d0, d1, p0, p1, rfl, rfl, rfl, h0, h1⟩ := trodAll_two hA
  obtain ⟨rfl, rfl⟩ := trodVars_none hV
  have hwt2 : (DataW.weightsEach Tryz.prog [27, 80] [d0, d1]).all (· ≤ reachBytes) = true := hwt1
  clear hA0 hval0 hwt0 hwt1
  simp only [List.append_nil] at hW'
  have hlt : ∀ x ∈ p0 ++ p1, x.block < W.heap.size := fun x hx => by simpa using hW'.lt x hx
  have h0k := h0
  have h1k := h1
  obtain ⟨x, s, rfl, hr0, hs0⟩ := open_state (hval 0 27 v0 rfl rfl) h0 (weightsEach_at hwt2 0 _ d0 rfl rfl)
  obtain ⟨y, q, rfl, hr1, hf1, hb1, hl1⟩ := open_do (hval 1 80 v1 rfl rfl) h1 (weightsEach_at hwt2 1 _ d1 rfl rfl)
  refine (fits_any x s y q W hr0 hr1 hf1 hb1 hs0 hl1).mono fun e W' he => ?_
  obtain ⟨rfl, hb⟩ := he
  exact ⟨_, rfl, _, _, _, [], _, [], hW', trodAll_cons_mk (shut_bool Tryz.underlying4 _) trodAll_mk0,
    trodAll_mk2 (Below.trod laidOut (by kernel_rfl) (of_decide_eq_true (by kernel_rfl)) h0k hb (fun x hx => hlt x (by simp [hx]))) (Below.trod laidOut (by kernel_rfl) (of_decide_eq_true (by kernel_rfl)) h1k hb (fun x hx => hlt x (by simp [hx]))), rfl, hb.frame _, fun h => by cases h⟩
theorem fitsLaid (os : Os) : laidMet Tryz.prog Rows.deedFitsRow.laid ((World.laidAll Tryz.prog os Rows.deedFitsRow.laid).forCall (fun _ _ => 0) ⟨#[], #[.agg #[.slice none 0 0, .slice none 0 0, .slice none 0 0, .int .i32 0, .int .i64 0, .int .i8 0, .int .i64 0], .agg #[.int .i64 0, .int .i64 0, .int .i64 0, .bool false, .int .i8 0, .int .i64 0, .slice none 0 0]], []⟩).memory :=
  laidMet_laidAll _ (by kernel_rfl) (by kernel_rfl)
theorem fitsReads (os : Os) {H : Type} (enc : TypeId × Value → H) : ∃ places, DataW.whole enc Tryz.prog ((World.laidAll Tryz.prog os Rows.deedFitsRow.laid).forCall (fun _ _ => 0) ⟨#[], #[.agg #[.slice none 0 0, .slice none 0 0, .slice none 0 0, .int .i32 0, .int .i64 0, .int .i8 0, .int .i64 0], .agg #[.int .i64 0, .int .i64 0, .int .i64 0, .bool false, .int .i8 0, .int .i64 0, .slice none 0 0]], []⟩).memory Tryz.f10.params.toList Rows.deedFitsSpec.vars false (#[.agg #[.slice none 0 0, .slice none 0 0, .slice none 0 0, .int .i32 0, .int .i64 0, .int .i8 0, .int .i64 0], .agg #[.int .i64 0, .int .i64 0, .int .i64 0, .bool false, .int .i8 0, .int .i64 0, .slice none 0 0]] : Array Value).toList 8 = some ([.agg [.nil, .nil, .nil, .lit (.int .i32 0), .lit (.int .i64 0), .lit (.int .i8 0), .lit (.int .i64 0)], .agg [.lit (.int .i64 0), .lit (.int .i64 0), .lit (.int .i64 0), .lit (.bool false), .lit (.int .i8 0), .lit (.int .i64 0), .nil]], [], places) :=
  ⟨[], by kernel_rfl⟩
set_option maxRecDepth 100000 in
theorem fits_lifted (os : Os) (started : os.Started) (H : Type) (enc : TypeId × Value → H) (F : Stop.Interp) :
    ReturnsInHanded {} Tryz.checked os 10 .any ((OpenSpec.ofChange Rows.deedFitsSpec).preRow enc Tryz.prog Tryz.f10 Rows.deedFitsRow.domain false Rows.deedFitsRow.laid) (((OpenSpec.ofChange Rows.deedFitsSpec).at F).post enc Tryz.prog Tryz.f10 false true false false) := by
  obtain ⟨places, hx⟩ := fitsReads os enc
  refine returnsInHanded_of_row (C := Tryz.checked) (s := OpenSpec.ofChange Rows.deedFitsSpec) own started (by kernel_rfl) Tryz.func10
    (witness_row_atRef (enc := enc) (C := Tryz.checked) false (World.laidAll Tryz.prog os Rows.deedFitsRow.laid) #[.agg #[.slice none 0 0, .slice none 0 0, .slice none 0 0, .int .i32 0, .int .i64 0, .int .i8 0, .int .i64 0], .agg #[.int .i64 0, .int .i64 0, .int .i64 0, .bool false, .int .i8 0, .int .i64 0, .slice none 0 0]] (World.laidAll_os _ _ _) (by kernel_rfl) (by kernel_rfl) (by kernel_rfl)
      (OpenSpec.preRow_of_cond 8 hx (by kernel_rfl) (fun k hk => by cases hk) (by kernel_rfl) (fitsLaid os))) ?_
  intro W base args ds gs before hval hW _ _ hwt _ _ _
  exact fits_contract H enc W base args ds gs before hval hW hwt
theorem fits_said : Rows.DeedFitsSaid :=
  OpenClaim.holds_of_cond 10 Tryz.f10 rfl rfl rfl rfl rfl rfl rfl ⟨rfl, rfl, rfl, rfl, rfl⟩ rfl rfl rfl rfl rfl (by kernel_rfl) Tryz.func10 (by kernel_rfl)
    (of_decide_eq_true (by kernel_rfl)) (by unfold Func.isWrapper; first | (rw [if_pos (by decide +kernel)]; kernel_rfl) | (rw [if_neg (by decide +kernel)]; exact ⟨rfl, rfl⟩))
    (fun os started H enc _ F => by rw [OpenClaim.pre_eq_preRow]; exact fits_lifted os started H enc F)
theorem fits_plain (f : FuncId) (fn : Func) (hf : Tryz.pinned.checked.prog.funcNamed "tableau/tableaulaw06.DeedFits" = some f) (hfn : Tryz.pinned.checked.prog.funcs[f]? = some fn) :
    true = Tryz.pinned.checked.prog.looks [] ∧ ∀ (j : Nat) t, fn.params[j]? = some t → Tryz.pinned.checked.prog.wantsStandIn t = false := by
  obtain rfl : f = 10 := Option.some.inj ((show Tryz.prog.funcNamed "tableau/tableaulaw06.DeedFits" = some 10 by kernel_rfl).symm.trans hf) |>.symm
  obtain rfl : fn = Tryz.f10 := (Option.some.inj (Tryz.func10.symm.trans hfn)).symm
  refine ⟨by kernel_rfl, fun j t ht => ?_⟩
  rw [Tryz.params10] at ht
  match j, ht with
  | 0, ht => obtain rfl := Option.some.inj ht; exact (show Tryz.prog.wantsStandIn 27 = false by kernel_rfl)
  | 1, ht => obtain rfl := Option.some.inj ht; exact (show Tryz.prog.wantsStandIn 80 = false by kernel_rfl)
  | (j + 2), ht => simp at ht
/-- The card. -/
theorem deedFits_card : Rows.DeedFitsCardSaid :=
  Claim7.holds_tied_plain_at .later [] _ _ _ _ fits_said (fun _ h => by cases h) (by kernel_rfl) (fun _ h => by cases h) deedFits_row_tie rfl ⟨rfl, rfl⟩ (by kernel_rfl) rfl fits_plain (by kernel_rfl)
#print axioms deedFits_card
end Go.Proofs.YtofgmijmhpmabaaGreatDoor.D

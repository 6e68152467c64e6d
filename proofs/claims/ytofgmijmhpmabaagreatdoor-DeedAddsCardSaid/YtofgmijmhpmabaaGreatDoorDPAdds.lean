/- DeedAdds: of every state, every field and every two numbers: changes one behind the other are added, where neither comes to an end; the arguments stay as they are. No condition. -/
import Derived.Test.YtofgmijmhpmabaaGreatDoorDAddsW
import Derived.Test.YtofgmijmhpmabaaGreatDoorCards
import Derived.Test.YtofgmijmhpmabaaGreatDoorTie
import Derived.Test.YtofgmijmhpmabaaGreatDoorDOpen
import Derived.ProofKit
import Derived.OpenShut
import Derived.Deep.DeepHandedRow
import Derived.Deep.DeepWitnessRowRef
import Derived.Lay
import Derived.WalkSmall
import Derived.Carry
namespace Go.Proofs.YtofgmijmhpmabaaGreatDoor.D
open Go Go.RowKit
set_option linter.unusedVariables false
set_option linter.unusedSimpArgs false
set_option maxRecDepth 100000 in
set_option maxHeartbeats 8000000 in
theorem adds_long (x : SV) (s : St) (f num a b : Int) (w : World) (h : RdSt w x s) (hw : Sw s) (hby : beyondB s [] = true) :
    Calls Tryz.prog 8 #[x.val s, .int .i8 f, .int .i64 num, .int .i32 a, .int .i32 b] w (BoolPost true w) := by
  obtain ⟨fsS, hfsS⟩ := undSt
  have HFS := Lib.hid hfsS
  have HBY := Lib.hid (fun W (hW : Below w.heap.size w W) => beyond_any x s none 0 0 [] W (h.below hW) hw (rdEvs_nil W) (by omega) (fun i => by simp [zeroP, zeroEv]))
  rw [hby] at HBY
  obtain ⟨cs, hcs⟩ : ∃ c, c = x.arr s := ⟨_, rfl⟩
  have HS := Lib.hid (show cs.size = 7 by rw [hcs]; rfl)
  have he1 : x.val s = .agg cs := by rw [hcs]; rfl
  rw [he1] at HBY ⊢
  clear h hw hcs he1 hfsS hby
  have hx0 : G.Blk (w.alloc (.cells cs 27)) w.heap.size 27 cs := G.Blk.new w _ _
  have hbl0 : Below w.heap.size w (w.alloc (.cells cs 27)) := G.bl_alloc (Below.refl _ _) _
  go_enter Tryz.func8, Tryz.ntmps8
  go_upto_region 1 with (fail)
  obtain ⟨w0, hw0⟩ : ∃ w0, w0 = w.alloc (.cells cs 27) := ⟨_, rfl⟩
  rw [← hw0] at hx0 hbl0 ⊢
  clear hw0
  obtain ⟨g, hg⟩ : ∃ g, g = w.heap.size := ⟨_, rfl⟩
  rw [← hg] at hx0 ⊢
  have HX := Lib.hid hx0
  have HBL := Lib.hid hbl0
  clear hx0 hbl0 hg
  go_wp2_with (first | (refine wpList_load_row_g (by rfl) 27 _ rfl g rfl _ cs (0, 0) _ HX.out HFS.out rfl (by rw [HS.out]; exact sizeSt) ?_))
  refine (HBY.out _ HBL.out).mono ?_
  rintro e1 w1 ⟨rfl, hb1⟩
  have HBL := Lib.hid (G.bl_trans HBL.out hb1)
  clear hb1
  go_wp2_with fail
  go_ret
  exact ⟨rfl, HBL.out⟩
theorem adds_any (x : SV) (s : St) (f num a b : Int) (w : World) (h : RdSt w x s) (hf : -128 ≤ f ∧ f ≤ 127) (ha : -2147483648 ≤ a ∧ a ≤ 2147483647) (hb : -2147483648 ≤ b ∧ b ≤ 2147483647) (hw : Sw s) :
    Calls Tryz.prog 8 #[x.val s, .int .i8 f, .int .i64 num, .int .i32 a, .int .i32 b] w (BoolPost true w) := by
  cases hby : beyondB s [] with
  | true => exact adds_long x s f num a b w h hw hby
  | false =>
    have h1 : amountSt s + sizeEs [] ≤ 16777216 := by
      have := of_decide_eq_false hby
      omega
    exact adds_short x s f num a b w h hf ha hb hw (amount_sz (by omega)) hby
end Go.Proofs.YtofgmijmhpmabaaGreatDoor.D
namespace Go.Proofs.YtofgmijmhpmabaaGreatDoor.D
open Go.ChangeShapes Go.WideShapes Go.ChangeAt Go.RowKit
set_option linter.unusedVariables false
set_option linter.unusedSimpArgs false
theorem own : ownKnob Tryz.prog.godebug = none := by kernel_rfl
theorem laidOut : laidOutB Tryz.prog = true := by kernel_rfl
theorem trodAll_5 {H : Type} {enc : TypeId × Value → H} {P : Program} {w : World} {base : Nat} {spare : Nat → Bool} {held : Bool} {t0 t1 t2 t3 t4 : TypeId} {args : Array Value} {ds : List (DataW H)} {ps : List MemPlace} (h : DataW.TrodAll enc P w base spare held [t0, t1, t2, t3, t4] args.toList ds ps) :
    ∃ v0 v1 v2 v3 v4 d0 d1 d2 d3 d4 p0 p1 p2 p3 p4, args = #[v0, v1, v2, v3, v4] ∧ ds = [d0, d1, d2, d3, d4] ∧ ps = p0 ++ p1 ++ p2 ++ p3 ++ p4 ∧ DataW.Trod enc P w base spare held t0 v0 d0 p0 ∧ DataW.Trod enc P w base spare held t1 v1 d1 p1 ∧ DataW.Trod enc P w base spare held t2 v2 d2 p2 ∧ DataW.Trod enc P w base spare held t3 v3 d3 p3 ∧ DataW.Trod enc P w base spare held t4 v4 d4 p4 := by
  obtain ⟨v, vs, d, ds', p, q, hargs, rfl, rfl, hd, hrest⟩ := trodAll_cons h
  obtain ⟨v', vs', d', ds'', p', q', rfl, rfl, rfl, hd', hrest'⟩ := trodAll_cons hrest
  obtain ⟨v'', vs'', d'', dsx, p'', q'', rfl, rfl, rfl, hd'', hrest''⟩ := trodAll_cons hrest'
  obtain ⟨v3, vs3, d3, ds3, p3, q3, rfl, rfl, rfl, hd3, hrest3⟩ := trodAll_cons hrest''
  obtain ⟨v4, vs4, d4, ds4, p4, q4, rfl, rfl, rfl, hd4, hrest4⟩ := trodAll_cons hrest3
  obtain ⟨rfl, rfl, rfl⟩ := trodAll_nil hrest4
  exact ⟨v, v', v'', v3, v4, d, d', d'', d3, d4, p, p', p'', p3, p4, by cases args; simp_all, rfl, by simp, hd, hd', hd'', hd3, hd4⟩
theorem trodAll_mk5 {H : Type} {enc : TypeId × Value → H} {P : Program} {w : World} {base : Nat} {spare : Nat → Bool} {held : Bool} {t0 t1 t2 t3 t4 : TypeId} {v0 v1 v2 v3 v4 : Value} {d0 d1 d2 d3 d4 : DataW H} {p0 p1 p2 p3 p4 : List MemPlace} (h0 : DataW.Trod enc P w base spare held t0 v0 d0 p0) (h1 : DataW.Trod enc P w base spare held t1 v1 d1 p1) (h2 : DataW.Trod enc P w base spare held t2 v2 d2 p2) (h3 : DataW.Trod enc P w base spare held t3 v3 d3 p3) (h4 : DataW.Trod enc P w base spare held t4 v4 d4 p4) :
    DataW.TrodAll enc P w base spare held [t0, t1, t2, t3, t4] [v0, v1, v2, v3, v4] [d0, d1, d2, d3, d4] (p0 ++ (p1 ++ (p2 ++ (p3 ++ p4)))) :=
  trodAll_cons_mk h0 (trodAll_cons_mk h1 (trodAll_cons_mk h2 (trodAll_cons_mk h3 (trodAll_mk1 h4))))
set_option maxRecDepth 100000 in
theorem adds_contract (H : Type) (enc : TypeId × Value → H) (W : World) (base : Nat) (args : Array Value) (ds gs : List (DataW H)) (before : List MemPlace)
    (hval0 : ∀ (j : Nat) t v, Tryz.f8.params[j]? = some t → args[j]? = some v → Value.okWide Tryz.prog W .any base t v)
    (hW : DataW.Whole enc Tryz.prog Tryz.f8.params.toList Rows.deedAddsSpec.vars false W args.toList ds gs before)
    (hwt0 : (DataW.weightsEach Tryz.prog (Tryz.f8.params.toList ++ Rows.deedAddsSpec.plain.varTypes Tryz.prog) (ds ++ gs)).all (· ≤ reachBytes) = true) :
    Calls Tryz.prog 8 args W fun e W' => ∃ v, e = .returned v ∧ Rows.deedAddsSpec.post enc Tryz.prog Tryz.f8 false true false false W args v W' := by
  have hval := hval0
  have hW' := hW
  obtain ⟨p, q, hA0, hV, rfl, _, _⟩ := hW
  have hA : DataW.TrodAll enc Tryz.prog W 0 (fun _ => true) true Tryz.f8.params.toList args.toList ds p := hA0
  have hwt1 := hwt0
  rw [Tryz.params8] at hA hval hwt1
  obtain ⟨v0, v1, v2, v3, v4, d0, d1, d2, d3, d4, p0, p1, p2, p3, p4, rfl, rfl, rfl, h0, h1, h2, h3, h4⟩ := trodAll_5 hA
  obtain ⟨rfl, rfl⟩ := trodVars_none hV
  have hwt2 : (DataW.weightsEach Tryz.prog [27, 25, 3, 21, 21] [d0, d1, d2, d3, d4]).all (· ≤ reachBytes) = true := hwt1
  clear hA0 hval0 hwt0 hwt1
  simp only [List.append_nil] at hW'
  have hlt : ∀ x ∈ p0 ++ p1 ++ p2 ++ p3 ++ p4, x.block < W.heap.size := fun x hx => by simpa using hW'.lt x hx
  have h0k := h0
  have h1k := h1
  have h2k := h2
  have h3k := h3
  have h4k := h4
  obtain ⟨x, s, rfl, hr0, hs0⟩ := open_state (hval 0 27 v0 rfl rfl) h0 (weightsEach_at hwt2 0 _ d0 rfl rfl)
  obtain ⟨z1, rfl, rfl, rfl, wm1⟩ := open_int Tryz.underlying25 (hval 1 25 v1 rfl rfl) h1
  have b1 := bounds_i8 wm1
  obtain ⟨z2, rfl, rfl, rfl, wm2⟩ := open_int Tryz.underlying3 (hval 2 3 v2 rfl rfl) h2
  have b2 := bounds_i64 wm2
  obtain ⟨z3, rfl, rfl, rfl, wm3⟩ := open_int Tryz.underlying21 (hval 3 21 v3 rfl rfl) h3
  have b3 := bounds_i32 wm3
  obtain ⟨z4, rfl, rfl, rfl, wm4⟩ := open_int Tryz.underlying21 (hval 4 21 v4 rfl rfl) h4
  have b4 := bounds_i32 wm4
  refine (adds_any x s z1 z2 z3 z4 W hr0 b1 b3 b4 hs0).mono fun e W' he => ?_
  obtain ⟨rfl, hb⟩ := he
  exact ⟨_, rfl, _, _, _, [], _, [], hW', trodAll_cons_mk (shut_bool Tryz.underlying4 _) trodAll_mk0,
    trodAll_mk5 (Below.trod laidOut (by kernel_rfl) (of_decide_eq_true (by kernel_rfl)) h0k hb (fun x hx => hlt x (by first | (cases hx; done) | simp [hx]))) (Below.trod laidOut (by kernel_rfl) (of_decide_eq_true (by kernel_rfl)) h1k hb (fun x hx => hlt x (by first | (cases hx; done) | simp [hx]))) (Below.trod laidOut (by kernel_rfl) (of_decide_eq_true (by kernel_rfl)) h2k hb (fun x hx => hlt x (by first | (cases hx; done) | simp [hx]))) (Below.trod laidOut (by kernel_rfl) (of_decide_eq_true (by kernel_rfl)) h3k hb (fun x hx => hlt x (by first | (cases hx; done) | simp [hx]))) (Below.trod laidOut (by kernel_rfl) (of_decide_eq_true (by kernel_rfl)) h4k hb (fun x hx => hlt x (by first | (cases hx; done) | simp [hx]))), rfl, hb.frame _, fun h => by cases h⟩
theorem addsLaid (os : Os) : laidMet Tryz.prog Rows.deedAddsRow.laid ((World.laidAll Tryz.prog os Rows.deedAddsRow.laid).forCall (fun _ _ => 0) ⟨#[], #[.agg #[.slice none 0 0, .slice none 0 0, .slice none 0 0, .int .i32 0, .int .i64 0, .int .i8 0, .int .i64 0], .int .i8 0, .int .i64 0, .int .i32 0, .int .i32 0], []⟩).memory :=
  laidMet_laidAll _ (by kernel_rfl) (by kernel_rfl)
theorem addsReads (os : Os) {H : Type} (enc : TypeId × Value → H) : ∃ places, DataW.whole enc Tryz.prog ((World.laidAll Tryz.prog os Rows.deedAddsRow.laid).forCall (fun _ _ => 0) ⟨#[], #[.agg #[.slice none 0 0, .slice none 0 0, .slice none 0 0, .int .i32 0, .int .i64 0, .int .i8 0, .int .i64 0], .int .i8 0, .int .i64 0, .int .i32 0, .int .i32 0], []⟩).memory Tryz.f8.params.toList Rows.deedAddsSpec.vars false (#[.agg #[.slice none 0 0, .slice none 0 0, .slice none 0 0, .int .i32 0, .int .i64 0, .int .i8 0, .int .i64 0], .int .i8 0, .int .i64 0, .int .i32 0, .int .i32 0] : Array Value).toList 8 = some ([.agg [.nil, .nil, .nil, .lit (.int .i32 0), .lit (.int .i64 0), .lit (.int .i8 0), .lit (.int .i64 0)], .lit (.int .i8 0), .lit (.int .i64 0), .lit (.int .i32 0), .lit (.int .i32 0)], [], places) :=
  ⟨[], by kernel_rfl⟩
set_option maxRecDepth 100000 in
theorem adds_lifted (os : Os) (started : os.Started) (H : Type) (enc : TypeId × Value → H) (F : Stop.Interp) :
    ReturnsInHanded {} Tryz.checked os 8 .any ((OpenSpec.ofChange Rows.deedAddsSpec).preRow enc Tryz.prog Tryz.f8 Rows.deedAddsRow.domain false Rows.deedAddsRow.laid) (((OpenSpec.ofChange Rows.deedAddsSpec).at F).post enc Tryz.prog Tryz.f8 false true false false) := by
  obtain ⟨places, hx⟩ := addsReads os enc
  refine returnsInHanded_of_row (C := Tryz.checked) (s := OpenSpec.ofChange Rows.deedAddsSpec) own started (by kernel_rfl) Tryz.func8
    (witness_row_atRef (enc := enc) (C := Tryz.checked) false (World.laidAll Tryz.prog os Rows.deedAddsRow.laid) #[.agg #[.slice none 0 0, .slice none 0 0, .slice none 0 0, .int .i32 0, .int .i64 0, .int .i8 0, .int .i64 0], .int .i8 0, .int .i64 0, .int .i32 0, .int .i32 0] (World.laidAll_os _ _ _) (by kernel_rfl) (by kernel_rfl) (by kernel_rfl)
      (OpenSpec.preRow_of_cond 8 hx (by kernel_rfl) (fun k hk => by cases hk) (by kernel_rfl) (addsLaid os))) ?_
  intro W base args ds gs before hval hW _ _ hwt _ _ _
  exact adds_contract H enc W base args ds gs before hval hW hwt
theorem adds_said : Rows.DeedAddsSaid :=
  OpenClaim.holds_of_cond 8 Tryz.f8 rfl rfl rfl rfl rfl rfl rfl ⟨rfl, rfl, rfl, rfl, rfl⟩ rfl rfl rfl rfl rfl (by kernel_rfl) Tryz.func8 (by kernel_rfl)
    (of_decide_eq_true (by kernel_rfl)) (by unfold Func.isWrapper; first | (rw [if_pos (by decide +kernel)]; kernel_rfl) | (rw [if_neg (by decide +kernel)]; exact ⟨rfl, rfl⟩))
    (fun os started H enc _ F => by rw [OpenClaim.pre_eq_preRow]; exact adds_lifted os started H enc F)
theorem adds_plain (f : FuncId) (fn : Func) (hf : Tryz.pinned.checked.prog.funcNamed "tableau/tableaulaw06.DeedAdds" = some f) (hfn : Tryz.pinned.checked.prog.funcs[f]? = some fn) :
    true = Tryz.pinned.checked.prog.looks [] ∧ ∀ (j : Nat) t, fn.params[j]? = some t → Tryz.pinned.checked.prog.wantsStandIn t = false := by
  obtain rfl : f = 8 := Option.some.inj ((show Tryz.prog.funcNamed "tableau/tableaulaw06.DeedAdds" = some 8 by kernel_rfl).symm.trans hf) |>.symm
  obtain rfl : fn = Tryz.f8 := (Option.some.inj (Tryz.func8.symm.trans hfn)).symm
  refine ⟨by kernel_rfl, fun j t ht => ?_⟩
  rw [Tryz.params8] at ht
  match j, ht with
  | 0, ht => obtain rfl := Option.some.inj ht; exact (show Tryz.prog.wantsStandIn 27 = false by kernel_rfl)
  | 1, ht => obtain rfl := Option.some.inj ht; exact (show Tryz.prog.wantsStandIn 25 = false by kernel_rfl)
  | 2, ht => obtain rfl := Option.some.inj ht; exact (show Tryz.prog.wantsStandIn 3 = false by kernel_rfl)
  | 3, ht => obtain rfl := Option.some.inj ht; exact (show Tryz.prog.wantsStandIn 21 = false by kernel_rfl)
  | 4, ht => obtain rfl := Option.some.inj ht; exact (show Tryz.prog.wantsStandIn 21 = false by kernel_rfl)
  | (j + 5), ht => simp at ht
/-- The card. -/
theorem deedAdds_card : Rows.DeedAddsCardSaid :=
  Claim7.holds_tied_plain_at .later [] _ _ _ _ adds_said (fun _ h => by cases h) (by kernel_rfl) (fun _ h => by cases h) deedAdds_row_tie rfl ⟨rfl, rfl⟩ (by kernel_rfl) rfl adds_plain (by kernel_rfl)
#print axioms deedAdds_card
end Go.Proofs.YtofgmijmhpmabaaGreatDoor.D

/- CodePuts: of every instructions the program puts and tells what the document says, in new memory, the instructions staying. No condition. -/
import Derived.Test.YtfldicaaaadgaaaDoorCJoin
import Derived.Test.YtfldicaaaadgaaaDoorCPutsW
import Derived.Test.YtfldicaaaadgaaaDoorOpenS
namespace Go.Proofs.YtfldicaaaadgaaaDoor.Code
open Go.ChangeShapes Go.WideShapes Go.ChangeAt Go.RowKit
set_option linter.unusedVariables false
set_option linter.unusedSimpArgs false
theorem one26 : ∀ fs, Tryd.prog.underlying 26 = some (.struct fs) → Go.Deep.oneCellFields Tryd.prog fs = true ∧ fs.size = 5 := by
  intro fs h
  rw [Tryd.underlying26] at h
  obtain rfl := (by simpa using h : _ = fs)
  exact ⟨by kernel_rfl, rfl⟩
theorem cellsOf26 : Tryd.prog.cellsOf 26 = 5 := by kernel_rfl
theorem open_instrs {H : Type} {enc : TypeId × Value → H} {w : World} {base fuel : Nat} {spare : Nat → Bool} {held : Bool} {cs : List Value} {x : DataW H × List MemPlace} (h : DataW.trod enc Tryd.prog w base spare held fuel 30 cs = some x) :
    (cs = [.slice none 0 0]) ∨ ∃ (a : Addr) (len cap : Nat) (l : List Ins), cs = [.slice (some a) len cap] ∧ len ≤ cap ∧ cap ≤ maxLen ∧ l.length = len ∧ (∀ i, i < len → ∀ j, j < 5 → w.cell? (a.add (i * 5 + j)) = some ((l.getD i zeroIns).cells.getD j undef)) ∧
      (∀ y ∈ l, 0 ≤ y.op ∧ y.op < 256) ∧ (0 < len → .cell a.block a.off ∈ x.2) := by
  rcases G.open_slice_fields Tryd.underlying30 Tryd.underlying26 (one26 _ Tryd.underlying26).1 (by rw [cellsOf26]; rfl) h with ⟨h0, _⟩ | ⟨a, len, cap, m, D, Pl, hcs, _, hl, hm, hmm, hx, hi⟩
  · exact .inl h0
  · have hlm : len ≤ m := by rw [hmm]; split <;> omega
    have key : ∀ i, i < len → ∃ y : Ins, (∀ j, j < 5 → w.cell? (a.add (i * 5 + j)) = some (y.cells.getD j undef)) ∧ 0 ≤ y.op ∧ y.op < 256 := by
      intro i hil
      obtain ⟨ys, n, _, _, _, hf⟩ := hi i (by omega)
      obtain ⟨v0, y0, c0, _, t0⟩ := hf 0 _ rfl
      obtain ⟨v1, y1, c1, _, t1⟩ := hf 1 _ rfl
      obtain ⟨v2, y2, c2, _, t2⟩ := hf 2 _ rfl
      obtain ⟨v3, y3, c3, _, t3⟩ := hf 3 _ rfl
      obtain ⟨v4, y4, c4, _, t4⟩ := hf 4 _ rfl
      obtain ⟨n0, e0, _, _⟩ := DataW.trod_int Tryd.underlying3 t0
      obtain ⟨n1, e1, _, wf1⟩ := DataW.trod_int Tryd.underlying5 t1
      obtain ⟨n2, e2, _, _⟩ := DataW.trod_int Tryd.underlying3 t2
      obtain ⟨n3, e3, _, _⟩ := DataW.trod_int Tryd.underlying3 t3
      obtain ⟨n4, e4, _, _⟩ := DataW.trod_int Tryd.underlying3 t4
      simp only [List.cons.injEq, and_true] at e0 e1 e2 e3 e4
      subst e0 e1 e2 e3 e4
      have hb := bounds_u8 wf1
      refine ⟨⟨n0, n1, n2, n3, n4⟩, fun j hj => ?_, by simp only; omega, by simp only; omega⟩
      have hj' : j = 0 ∨ j = 1 ∨ j = 2 ∨ j = 3 ∨ j = 4 := by omega
      rcases hj' with rfl | rfl | rfl | rfl | rfl
      · exact c0
      · exact c1
      · exact c2
      · exact c3
      · exact c4
    obtain ⟨l, hll, hp⟩ := G.list_of zeroIns (fun i (y : Ins) => (∀ j, j < 5 → w.cell? (a.add (i * 5 + j)) = some (y.cells.getD j undef)) ∧ 0 ≤ y.op ∧ y.op < 256) len key
    refine .inr ⟨a, len, cap, l, hcs, hl, hm, hll, fun i hil => (hp i hil).1, fun y hy => ?_, fun hpos => ?_⟩
    · obtain ⟨i, hil, rfl⟩ := List.mem_iff_getElem.1 hy
      have := (hp i (by omega)).2
      rwa [List.getD_eq_getElem?_getD, List.getElem?_eq_getElem hil] at this
    · rw [hx]
      refine List.mem_append_left _ (MemPlace.mem_row.2 ⟨0, ?_, by simp⟩)
      show 0 < m * 5
      omega
set_option maxRecDepth 100000 in
theorem puts_contract (H : Type) (enc : TypeId × Value → H) (W : World) (base : Nat) (args : Array Value) (ds gs : List (DataW H)) (before : List MemPlace)
    (hval0 : ∀ (j : Nat) t v, Tryd.f4.params[j]? = some t → args[j]? = some v → Value.okWide Tryd.prog W .any base t v)
    (hW : DataW.Whole enc Tryd.prog Tryd.f4.params.toList Rows.codePutsSpec.vars false W args.toList ds gs before) (hL : laidMetH Tryd.prog Rows.codePutsRow.laid W) :
    Calls Tryd.prog 4 args W fun e W' => ∃ v, e = .returned v ∧ Rows.codePutsSpec.post enc Tryd.prog Tryd.f4 false true false false W args v W' := by
  have hval := hval0
  have hW' := hW
  obtain ⟨p, q, hA0, hV, rfl, _, _⟩ := hW
  have hA : DataW.TrodAll enc Tryd.prog W 0 (fun _ => true) true Tryd.f4.params.toList args.toList ds p := hA0
  rw [Tryd.params4] at hA hval
  obtain ⟨v0, d0, rfl, rfl, h0⟩ := trodAll_one hA
  obtain ⟨rfl, rfl⟩ := trodVars_none hV
  obtain ⟨a0, len, cap, rfl⟩ := okWide_slice Tryd.underlying30 (hval 0 30 v0 rfl rfl)
  have h0k := h0
  obtain ⟨fuel, hf⟩ := h0
  clear hA0 hval0
  simp only [List.append_nil] at hW'
  have hlt : ∀ x ∈ p, x.block < W.heap.size := fun x hx => by simpa using hW'.lt x hx
  have hargs : ∀ (W' : World), Below W.heap.size W W' → DataW.Trod enc Tryd.prog W' 0 (fun b => decide (b < W.heap.size)) true 30 (.slice a0 len cap) d0 p :=
    fun W' hn => Below.trod laidOut (by kernel_rfl) (of_decide_eq_true (by kernel_rfl)) h0k hn hlt
  have hit := itoa_in (pow10_at hL)
  have fin : (Calls Tryd.prog 4 #[.slice a0 len cap] W fun e w' => e = .returned (.bool true) ∧ Below W.heap.size W w') → Calls Tryd.prog 4 #[.slice a0 len cap] W fun e W' => ∃ v, e = .returned v ∧ Rows.codePutsSpec.post enc Tryd.prog Tryd.f4 false true false false W #[.slice a0 len cap] v W' := by
    intro h
    refine h.mono fun e W' ⟨he, hnx⟩ => ?_
    subst he
    exact ⟨_, rfl, _, _, _, [], _, [], hW', trodAll_cons_mk (shut_bool Tryd.underlying4 _) trodAll_mk0, trodAll_mk1 (hargs _ hnx), rfl, hnx.frame _, fun h => by cases h⟩
  apply fin
  rcases open_instrs hf with hcs | ⟨a, len', cap', l, hcs, hl, hm, hll, hcell, hop, hpl⟩
  · simp [Value.cells] at hcs
    obtain ⟨rfl, rfl, rfl⟩ := hcs
    exact puts_short none 0 0 [] W rfl (by omega) (G.RdS.nil _) (fun x hx => by cases hx) hit
  · simp [Value.cells] at hcs
    obtain ⟨rfl, rfl, rfl⟩ := hcs
    by_cases hlong : 131072 < len
    · exact puts_long _ _ _ W (by omega) hlong hit
    · refine puts_short _ _ _ l W hll (by omega) ⟨by rw [flat_length, hll], fun hpos => ?_⟩ hop hit
      obtain ⟨b, off, rfl⟩ := G.plain_addr (hcell 0 hpos 0 (by omega)) rfl
      have hbW : b < W.heap.size := hlt (.cell b off) (hpl hpos)
      refine ⟨b, off, rfl, G.rdV_structs (f := Ins.cells) (sz := 5) (fun x => rfl) zeroIns hbW hll (fun i hi j hj => ?_)⟩
      have h := hcell i hi j hj
      rw [Addr.add_lit] at h
      exact h
theorem putsLaid (os : Os) : laidMet Tryd.prog Rows.codePutsRow.laid ((laidWorldOf os ⟨#[], #[.slice none 0 0], []⟩).forCall (fun _ _ => 0) ⟨#[], #[.slice none 0 0], []⟩).memory :=
  laidMet_of_run' 8 (by kernel_rfl) (by kernel_rfl)
theorem putsReads (os : Os) {H : Type} (enc : TypeId × Value → H) : ∃ places, DataW.whole enc Tryd.prog ((laidWorldOf os ⟨#[], #[.slice none 0 0], []⟩).forCall (fun _ _ => 0) ⟨#[], #[.slice none 0 0], []⟩).memory Tryd.f4.params.toList Rows.codePutsSpec.vars false (#[.slice none 0 0] : Array Value).toList 8 = some ([.nil], [], places) :=
  ⟨[], by kernel_rfl⟩
set_option maxRecDepth 100000 in
theorem puts_lifted (os : Os) (started : os.Started) (H : Type) (enc : TypeId × Value → H) (F : Stop.Interp) :
    ReturnsInHanded {} Tryd.checked os 4 .any ((OpenSpec.ofChange Rows.codePutsSpec).preRow enc Tryd.prog Tryd.f4 Rows.codePutsRow.domain false Rows.codePutsRow.laid) (((OpenSpec.ofChange Rows.codePutsSpec).at F).post enc Tryd.prog Tryd.f4 false true false false) := by
  obtain ⟨places, hx⟩ := putsReads os enc
  refine returnsInHanded_of_row (C := Tryd.checked) (s := OpenSpec.ofChange Rows.codePutsSpec) own started (by kernel_rfl) Tryd.func4
    (witness_row_at (enc := enc) (C := Tryd.checked) false (laidWorldOf os ⟨#[], #[.slice none 0 0], []⟩) #[.slice none 0 0] rfl (by kernel_rfl) (by kernel_rfl) (by kernel_rfl)
      (OpenSpec.preRow_of_cond 8 hx (by kernel_rfl) (fun k hk => by cases hk) (by kernel_rfl) (putsLaid os))) ?_
  intro W base args ds gs before hval hW _ _ _ hL _ _
  exact puts_contract H enc W base args ds gs before hval hW hL
theorem puts_said : Rows.CodePutsSaid :=
  OpenClaim.holds_of_cond 4 Tryd.f4 rfl rfl rfl rfl rfl rfl rfl ⟨rfl, rfl, rfl, rfl, rfl⟩ rfl rfl rfl rfl rfl (by kernel_rfl) Tryd.func4 (by kernel_rfl)
    (of_decide_eq_true (by kernel_rfl)) (by unfold Func.isWrapper; first | (rw [if_pos (by decide +kernel)]; kernel_rfl) | (rw [if_neg (by decide +kernel)]; exact ⟨rfl, rfl⟩))
    (fun os started H enc _ F => by rw [OpenClaim.pre_eq_preRow]; exact puts_lifted os started H enc F)
theorem puts_plain (f : FuncId) (fn : Func) (hf : Tryd.pinned.checked.prog.funcNamed "tableau/tableaulaw16.CodePuts" = some f) (hfn : Tryd.pinned.checked.prog.funcs[f]? = some fn) :
    true = Tryd.pinned.checked.prog.looks [] ∧ ∀ (j : Nat) t, fn.params[j]? = some t → Tryd.pinned.checked.prog.wantsStandIn t = false := by
  obtain rfl : f = 4 := Option.some.inj ((show Tryd.prog.funcNamed "tableau/tableaulaw16.CodePuts" = some 4 by kernel_rfl).symm.trans hf) |>.symm
  obtain rfl : fn = Tryd.f4 := (Option.some.inj (Tryd.func4.symm.trans hfn)).symm
  refine ⟨by kernel_rfl, fun j t ht => ?_⟩
  rw [Tryd.params4] at ht
  match j, ht with
  | 0, ht => obtain rfl := Option.some.inj ht; exact (show Tryd.prog.wantsStandIn 30 = false by kernel_rfl)
  | (j + 1), ht => simp at ht
/-- The card. -/
theorem codePuts_card : Rows.CodePutsCardSaid :=
  Claim7.holds_tied_plain_at .later [] _ _ _ _ puts_said (fun _ h => by cases h) (by kernel_rfl) (fun _ h => by cases h) codePuts_row_tie rfl ⟨rfl, rfl⟩ (by kernel_rfl) rfl puts_plain (by kernel_rfl)
#print axioms codePuts_card
end Go.Proofs.YtfldicaaaadgaaaDoor.Code

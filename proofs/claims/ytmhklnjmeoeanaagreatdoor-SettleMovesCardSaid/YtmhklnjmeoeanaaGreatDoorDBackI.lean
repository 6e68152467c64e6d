/- The iterator of slices.Backward over events: its contract. -/
import Derived.Test.YtmhklnjmeoeanaaGreatDoorDOne
import Derived.Test.YtmhklnjmeoeanaaGreatDoorDLawM
import Derived.Test.YtmhklnjmeoeanaaGreatDoorDField
import Derived.RangeFuncWrites
import Derived.RangeFuncCalls
import Derived.RangeFuncLeaves
import Derived.RangeFuncBox
import Derived.OwnWalkIn
import Derived.TacticsInMore
import Derived.Deep.RegionHeld3
import Derived.LoopNIn
import Derived.LoopIn
namespace Go.Proofs.YtmhklnjmeoeanaaGreatDoor.D
open Go Go.RowKit
set_option linter.unusedVariables false
set_option linter.unusedSimpArgs false
theorem run_loadVar_at {P : Program} (w : World) (g off : Nat) (ty : TypeId) (cs : Array Value) (d : TypeDesc) (hg : ∀ j v, cs[j]? = some v → w.cell? ⟨g, off + j, none⟩ = some v)
    (hu : P.underlying ty = some d) (hd : (match d with | .struct _ | .array _ _ => true | _ => false) = true) (hi : (P.info? ty).map (·.size) = some cs.size) :
    (loadVar ty ⟨g, off, none⟩).run P w = .ok (.agg cs) w := by
  have hl : (loadCells ⟨g, off, none⟩ cs.toList.length).run P w = .ok cs.toList.toArray w :=
    run_loadCells_list (P := P) w ⟨g, off, none⟩ cs.toList (fun j v hv => by
      rw [Addr.add_lit]
      exact hg j v (by simpa using hv))
  cases hq : P.info? ty with
  | none => simp [hq] at hi
  | some i =>
    have hs : i.size = cs.size := by simpa [hq] using hi
    have hagg : (isAgg ty).run P w = .ok true w := by
      unfold isAgg
      rw [Sem.run_bind, run_underlying hu w]
      cases d <;> simp_all
    simp only [Array.length_toList, Array.toArray_toList] at hl
    simp [loadVar, Sem.run_bind, hagg, sizeOf, typeInfo, hq, hs, hl]
theorem wpList_load_run {P : Program} {ops : Array Oper} {rest : List Oper} {o : Oper} {a : Act} {w : World} {Q : Exit → Act → World → Prop} (hw : Region.wanted o (yielded ops a.tmps) = true) (ty : TypeId) (x : Operand) (ho : o.op = .load ty x)
    (g off : Nat) (hx : a.eval x = .pointer (some ⟨g, off, none⟩)) (cs : Array Value) (hr : (loadVar ty ⟨g, off, none⟩).run P w = .ok (.agg cs) w)
    (h : wpList P ops Q rest (a.put o.dst (.agg cs)) w) : wpList P ops Q (o :: rest) a w :=
  wpList_step fun K hK => by
    simp only [hw, if_true]
    unfold Oper.wp execOp
    simp only [ho, hx, Instr.loadAt, Instr.sureAddr, Sem.run_bind, Sem.run_pure, Result.andThen_ok, hr]
    exact hK _ _ h
/-- The event at a place of a list. -/
theorem ev_whole {w : World} {A : Option Addr} {n : Nat} {L : List (EV × Ev)} (h : RdEvs w A n L) {k : Nat} (hk : k < n) :
    ∃ b off, A = some ⟨b, off, none⟩ ∧ b < w.heap.size ∧ (loadVar 37 ⟨b, off + k * 12, none⟩).run Tryz.prog w = .ok (.agg ((L.getD k zeroP).1.arr (L.getD k zeroP).2)) w ∧ RdEv w (L.getD k zeroP).1 (L.getD k zeroP).2 ∧
      ∀ j v, ((L.getD k zeroP).1.arr (L.getD k zeroP).2)[j]? = some v → w.cell? ⟨b, off + k * 12 + j, none⟩ = some v := by
  obtain ⟨b, off, e, hr⟩ := h.s.2 (by omega)
  have hl := h.len
  have hc : ∀ j v, ((L.getD k zeroP).1.arr (L.getD k zeroP).2)[j]? = some v → w.cell? ⟨b, off + k * 12 + j, none⟩ = some v := fun j v hv => by
    have hj : j < 12 := (Array.getElem?_eq_some_iff.1 hv).1
    have h1 := hr.2 (k * 12 + j) (by rw [flatE_length]; omega)
    have h2 : (flatE L).getD (k * 12 + j) undef = (cellsE (L.getD k zeroP)).getD j undef := G.flat_getD cellsE 12 (fun _ => rfl) zeroP L k j (by omega) hj
    rw [h2] at h1
    rw [Nat.add_assoc, h1, List.getD_eq_getElem?_getD]
    unfold cellsE
    rw [Array.getElem?_toList, hv]
    rfl
  obtain ⟨fs, hfs⟩ := undEv
  exact ⟨b, off, e, hr.1, run_loadVar_at w b _ _ _ _ hc hfs rfl sizeEv, h.o k hk, hc⟩
theorem st_results3 {fn : Func} {p q r : Tmp} (h : fn.results = #[.cell p 27, .tmp q, .tmp r]) (tmps : Array Value) (w : World) (g : Nat) (cs : Array Value) (v u : Value) (hp : tmps.getD p undef = .pointer (some ⟨g, 0, none⟩)) (hq : tmps.getD q undef = v) (hr : tmps.getD r undef = u) (hg : w.heap[g]? = some (.cells cs 27 (0, 0))) (hs : cs.size = 7) :
    (results fn tmps).run Tryz.prog w = .ok (.tuple #[.agg cs, v, u]) w := by
  have hp' : tmps[p]?.getD undef = .pointer (some ⟨g, 0, none⟩) := by simpa using hp
  have hq' : tmps[q]?.getD undef = v := by simpa using hq
  have hr' : tmps[r]?.getD undef = u := by simpa using hr
  simp [results, h, hp', hq', hr', asAddr, run_st hg hs]
theorem getD_snd (L : List (EV × Ev)) (k : Nat) : (L.map Prod.snd).getD k zeroEv = (L.getD k zeroP).2 := by
  rw [List.getD_eq_getElem?_getD, List.getD_eq_getElem?_getD, List.getElem?_map]
  cases L[k]? <;> rfl
end Go.Proofs.YtmhklnjmeoeanaaGreatDoor.D
namespace Go.Proofs.YtmhklnjmeoeanaaGreatDoor.D
open Go Go.RowKit
set_option linter.unusedVariables false
set_option linter.unusedSimpArgs false
/-- The place of the first event that does not fit. -/
def failAt (s : St) : List Ev → Nat
  | [] => 0
  | e :: l => match stepE s e false with
    | some t => failAt t l + 1
    | none => 0
theorem run_no : ∀ {l : List Ev} {s t : St} {i : Nat} {e : Ev}, i < l.length → l.getD i zeroEv = e → runE s (l.take i) = some t → stepE t e false = none → runE s l = none ∧ failAt s l = i
  | [], s, t, i, e, hi, _, _, _ => absurd hi (by simp)
  | a :: l, s, t, 0, e, _, he, h, hn => by
    obtain rfl : a = e := he
    obtain rfl := Option.some.inj (show some s = some t from h)
    unfold runE failAt
    rw [hn]
    exact ⟨rfl, rfl⟩
  | a :: l, s, t, i + 1, e, hi, he, h, hn => by
    rw [List.take_succ_cons] at h
    unfold runE at h
    unfold runE failAt
    cases hs : stepE s a false with
    | none => rw [hs] at h; cases h
    | some u =>
      rw [hs] at h
      obtain ⟨p, q⟩ := run_no (l := l) (by simpa using hi) (by simpa using he) h hn
      exact ⟨p, by simp only; rw [q]⟩
theorem run_yes {l : List Ev} {s t u : St} {i : Nat} {e : Ev} (hi : i < l.length) (he : l.getD i zeroEv = e) (h : runE s (l.take i) = some t) (hy : stepE t e false = some u) : runE s (l.take (i + 1)) = some u := by
  rw [List.take_succ_eq_append_getElem hi, run_app h]
  rw [getD_lt hi] at he
  unfold runE
  rw [he, hy]
  rfl
theorem run_may {l : List Ev} {s t : St} (hm : May s) (h : runE s l = some t) : May t := (run_back hm h).2.1
/-- The place of the last event that does not lead back. -/
noncomputable def backAt (s : St) : List Ev → Nat
  | [] => 0
  | e :: l => match backL s l with
    | some _ => 0
    | none => backAt s l + 1
theorem backL_cons (s : St) (e : Ev) (l : List Ev) : backL s (e :: l) = match backL s l with
    | some t => undoE t e
    | none => none := rfl
theorem back_no : ∀ {l : List Ev} {s t : St} {i : Nat} {e : Ev}, i < l.length → l.getD i zeroEv = e → backL s (l.drop (i + 1)) = some t → undoE t e = none → backL s l = none ∧ backAt s l = i
  | [], s, t, i, e, hi, _, _, _ => absurd hi (by simp)
  | a :: l, s, t, 0, e, _, he, h, hn => by
    obtain rfl : a = e := he
    rw [List.drop_succ_cons, List.drop_zero] at h
    rw [backL_cons]
    unfold backAt
    rw [h]
    exact ⟨hn, rfl⟩
  | a :: l, s, t, i + 1, e, hi, he, h, hn => by
    rw [List.drop_succ_cons] at h
    obtain ⟨p, q⟩ := back_no (l := l) (by simpa using hi) (by simpa using he) h hn
    rw [backL_cons]
    unfold backAt
    rw [p]
    exact ⟨rfl, by simp only; rw [q]⟩
theorem back_yes {l : List Ev} {s t u : St} {i : Nat} {e : Ev} (hi : i < l.length) (he : l.getD i zeroEv = e) (h : backL s (l.drop (i + 1)) = some t) (hy : undoE t e = some u) : backL s (l.drop i) = some u := by
  rw [getD_lt hi] at he
  rw [List.drop_eq_getElem_cons hi, backL_cons, h, he]
  exact hy
theorem undo_may {s t : St} {e : Ev} (h : undoE s e = some t) (hm : May s) : May t := (undo_facts h hm).2.1
theorem backL_may : ∀ {l : List Ev} {s t : St}, May s → backL s l = some t → May t
  | [], s, t, hm, h => by obtain rfl := Option.some.inj h; exact hm
  | e :: l, s, t, hm, h => by
    rw [backL_cons] at h
    cases hb : backL s l with
    | none => rw [hb] at h; cases h
    | some u =>
      rw [hb] at h
      exact undo_may h (backL_may hm hb)
end Go.Proofs.YtmhklnjmeoeanaaGreatDoor.D
namespace Go.Proofs.YtmhklnjmeoeanaaGreatDoor.G
open Go Go.RowKit
set_option linter.unusedVariables false
set_option linter.unusedSimpArgs false
/-- None of the operations is a defer statement. -/
def noDefer (ops : Array Oper) : Bool := ops.toList.all fun o => match o.op with | .defer _ => false | _ => true
theorem noDefer_at {ops : Array Oper} (h : noDefer ops = true) {i : Nat} {o : Oper} (hi : ops[i]? = some o) : ∀ c, o.op ≠ .defer c := by
  intro c hc
  obtain ⟨hlt, he⟩ := Array.getElem?_eq_some_iff.1 hi
  have h1 := List.all_eq_true.1 h o (by rw [← he]; exact Array.getElem_mem_toList hlt)
  rw [hc] at h1
  simp at h1
theorem rows_round {P : Program} {row : String} {args : Array Value} {w : World} {R : Value → World → Prop} (l n : Nat) (h : Rows P row args w R) : RowsIn (Fence.wide.inRound l) n P row args w R :=
  fun c cs _ => let ⟨v, w', r, s⟩ := h c cs; ⟨v, w', r, stepsIn_wide.2 s⟩
theorem calls_round {P : Program} {f : FuncId} {args : Array Value} {w : World} {R : Ending → World → Prop} (l n : Nat) (h : Calls P f args w R) : CallsIn (Fence.wide.inRound l) n P f args w R := CallsIn.inRound l (callsIn_wide.2 h)
theorem upon_round {P : Program} {o : Oper} {a : Act} {next next' : Act → World → Prop} {Q : Exit → Act → World → Prop} {l n : Nat} {r : Result Next} (hn : ∀ a w, next a w → next' a w) (h : o.upon P a next Q r) : o.uponIn (Fence.wide.inRound l) n P a next' Q r := by
  cases r with
  | halt x w' =>
    cases x <;> simp only [Oper.upon, Oper.uponIn] at h ⊢
    all_goals exact h
  | ok x w' =>
    cases x with
    | value v => exact hn _ _ h
    | skip => exact hn _ _ h
    | defer d => exact hn _ _ h
    | enter f args =>
      refine ⟨(fun h => by simp [Fence.wide] at h), calls_round l _ (Calls.mono h fun e w'' he => ?_)⟩
      cases e with
      | returned v => exact hn _ _ he
      | panicked ch => exact he
      | outgrown => exact he
    | row row args => exact ⟨(fun h => by simp [Fence.wide] at h), rows_round l _ (Rows.mono h fun v w'' he => hn _ _ he)⟩
    | _ => exact False.elim h
theorem ops_round {P : Program} {ops : Array Oper} {Q : Exit → Act → World → Prop} (l n : Nat) (hd : noDefer ops = true) (hQ : ¬ LetsOut Q) : ∀ (is : List Nat) (a : Act) (w : World), wpOps P ops Q is a w → wpOpsIn (Fence.wide.inRound l) n P ops Q is a w
  | [], _, _, h => h
  | i :: rest, a, w, h => by
    simp only [wpOps, wpOpsIn] at h ⊢
    cases ho : ops[i]? with
    | none =>
      rw [ho] at h
      exact ops_round l n hd hQ rest a w h
    | some o =>
      rw [ho] at h
      simp only at h ⊢
      split
      · rename_i hw
        rw [if_pos hw] at h
        rcases h with h | h
        · refine ⟨fun _ _ => trivial, ?_⟩
          rw [Oper.semAt_eq _ _ _ (noDefer_at hd ho)]
          exact upon_round (fun a w => ops_round l n hd hQ rest a w) h
        · exact absurd h.2 hQ
      · rename_i hw
        rw [if_neg hw] at h
        exact ⟨fun _ _ => trivial, ops_round l n hd hQ rest _ w h⟩
theorem list_round {P : Program} {id l n : Nat} {ops : List Oper} {Q : Exit → Act → World → Prop} {a : Act} {w : World} (hd : noDefer ops.toArray = true) (hQ : ¬ LetsOut Q) (h : wpList P ops.toArray Q ops a w) : (Code.region id ops.toArray false).wpIn (Fence.wide.inRound l) n P Q a w :=
  wpIn_region (ops_round l n hd hQ _ _ _ (by
    rw [List.range_eq_range', List.size_toArray, wpOps_eq_wpList ops 0 (by simp)]
    exact h))
theorem any_round {P : Program} {id l n : Nat} {ops : Array Oper} {Q : Exit → Act → World → Prop} {a : Act} {w : World} (hm : P.follows .mixedOrders = true) (hd : noDefer ops = true) (hQ : ¬ LetsOut Q)
    (h : wpAny P .any ops Q ops.size (Array.replicate ops.size false) a { w with drawn := w.drawn + 1 }) : (Code.region id ops true).wpIn (Fence.wide.inRound l) n P Q a w :=
  wpIn_region_draw fun t => by
    refine ops_round l n hd hQ _ _ _ ?_
    simp only [Region.schedule, hm, Bool.true_or, if_true]
    exact wpAny_sound ops.size t _ a _ h
theorem held_round {P : Program} {id l n : Nat} {ops : Array Oper} {Q : Exit → Act → World → Prop} {S : World → Prop} {a : Act} {w : World} (hm : P.follows .mixedOrders = true) (hd : noDefer ops = true) (hQ : ¬ LetsOut Q) (hS : S w.drew)
    (h : S w.drew → wpAnyH P .any ops Q S ops.size (Array.replicate ops.size false) a w.drew) : (Code.region id ops true).wpIn (Fence.wide.inRound l) n P Q a w :=
  any_round hm hd hQ (wpAny_of_held _ _ _ _ (h hS))
end Go.Proofs.YtmhklnjmeoeanaaGreatDoor.G
namespace Go.Proofs.YtmhklnjmeoeanaaGreatDoor.G
open Go Go.RowKit
set_option linter.unusedVariables false
set_option linter.unusedSimpArgs false
/-- The loop's record. -/
def recOf (fn : FuncId) (t : Array Value) (ps : Array Tmp) (asg bdy : Code) (D : Nat) (st : LoopState) (pe : Option Code) : Obj := .loop { state := st, pending := pe, fn := fn, tmps := t, params := ps, assign := asg, body := bdy, defers := D }
/-- The two blocks that the statement lays hold the record, in a state, and no deferred calls. -/
structure Held (fn : FuncId) (t : Array Value) (ps : Array Tmp) (asg bdy : Code) (D : Nat) (st : LoopState) (pe : Option Code) (W : World) : Prop where
  loop : W.heap[D + 1]? = some (recOf fn t ps asg bdy D st pe)
  dfr : W.heap[D]? = some (.deferred (some []))
theorem Held.keep {fn : FuncId} {t : Array Value} {ps : Array Tmp} {asg bdy : Code} {D B : Nat} {st : LoopState} {pe : Option Code} {W W' : World} (h : Held fn t ps asg bdy D st pe W) (hk : KeepsFrom B W W') (hB : B ≤ D) : Held fn t ps asg bdy D st pe W' :=
  ⟨hk.same _ _ (by omega) h.loop rfl, hk.same _ _ hB h.dfr rfl⟩
theorem Held.turn {fn : FuncId} {t : Array Value} {ps : Array Tmp} {asg bdy : Code} {D : Nat} {st : LoopState} {pe : Option Code} {W : World} (h : Held fn t ps asg bdy D st pe W) (st' : LoopState) (pe' : Option Code) : Held fn t ps asg bdy D st' pe' (W.putObj (D + 1) (recOf fn t ps asg bdy D st' pe')) :=
  ⟨World.putObj_heap_same (Array.getElem?_eq_some_iff.1 h.loop).1, (World.putObj_heap_other (by omega)).trans h.dfr⟩
theorem rangeFunc_box {P : Program} {α : Type} {g : Operand} {ps : Array Tmp} {assign body : Code} {Q : Exit → Act → World → Prop} {a : Act} {w : World}
    {gf : Nat} {lb : Array Value} (hg : a.eval g = .func (.func gf) #[] lb) (eg : ∀ args w, (callFunc gf args).run P w = .ok (.enter gf args) w)
    {encs : α → Array Value} {Kp : World → World → Prop} {S Sp : List α → Prop} {N : Nat} {w0 : World} (hseq : SeqStopsK Fence.wide 2 P gf lb encs Kp S Sp N w0)
    (hKt : ∀ {A B C : World}, Kp A B → Kp B C → Kp A C) (hKb : ∀ (W : World) (l : Nat) (o o' : Obj), w.heap.size ≤ l → W.heap[l]? = some o → o.isCells = false → o.isWalk = false → Kp W (W.putObj l o')) (hb0 : Below w0.heap.size w0 w) (hps : ∀ x, (encs x).size = ps.size)
    (I : List α → World → Prop) (I1 : List α → α → Act → World → Prop) (Ix : Code → List α → World → Prop) (hI : OwnFrom w.heap.size I) (hI1 : ∀ x a1, OwnFrom w.heap.size (fun pre W => I1 pre x a1 W)) (hIx : ∀ c, OwnFrom w.heap.size (Ix c)) (h0 : I [] w)
    (hassign : ∀ (l : Nat) (pre : List α) (x : α) (W : World) (K : Act → World → Prop), I pre W → pre.length < N → (∀ a1 W1, KeepsFrom w.heap.size W W1 → Kp W W1 → I1 pre x a1 W1 → K a1 W1) →
      assign.wpIn (Fence.wide.inRound l) 1 P (Exit.then K (fun _ _ _ => False)) { tmps := (ps.zip (encs x)).foldl (fun t (p, v) => t.setIfInBounds p v) a.tmps, defers := [] } W)
    (hbody : ∀ (l : Nat) (pre : List α) (x : α) (a1 : Act) (W : World), I1 pre x a1 W → body.wpIn (Fence.wide.inRound l) 1 P (ownPostG w.heap.size Kp I Ix (pre ++ [x]) W) a1 W)
    (hdone : ∀ (D : Nat) (xs : List α) (W : World), w.heap.size ≤ D → S xs → I xs W → W.heap[D]? = some (.deferred (some [])) → Q .normal { a with defers := { target := .collected D, args := #[] } :: a.defers } W)
    (hstop : ∀ (D : Nat) (c : Code) (pre : List α) (W : World), w.heap.size ≤ D → Sp pre → Ix c pre W → W.heap[D]? = some (.deferred (some [])) → c.wpIn Fence.wide 3 P Q { a with defers := { target := .collected D, args := #[] } :: a.defers } W) :
    (Code.rangeFunc g ps assign body).wpIn Fence.wide 3 P Q a w := by
  refine wpIn_rangeFunc fun fn _ => ?_
  obtain ⟨D, hD⟩ : ∃ D, D = w.heap.size := ⟨_, rfl⟩
  obtain ⟨W1, hW1⟩ : ∃ W1, W1 = (w.alloc (.deferred (some []))).alloc (recOf fn a.tmps ps assign body D .ready none) := ⟨_, rfl⟩
  have hz : (w.alloc (.deferred (some []))).heap.size = D + 1 := by rw [hD]; simp
  have hH1 : Held fn a.tmps ps assign body D .ready none W1 := by
    refine ⟨?_, ?_⟩
    · rw [hW1, ← hz]
      exact World.alloc_heap_new _ _
    · rw [hW1]
      refine (Below.heap_alloc _ _ _ (by rw [hz]; omega)).trans ?_
      rw [hD]
      exact World.alloc_heap_new w _
  have hI1w : I [] W1 := by rw [hW1]; exact hI.alloc _ (hI.alloc _ h0)
  have hb1 : Below w0.heap.size w0 W1 := by
    rw [hW1]
    exact (hb0.alloc hb0.size _).alloc (by have := hb0.size; simp; omega) _
  have hzw : w.heap.size ≤ W1.heap.size := by rw [hW1]; simp; omega
  refine ⟨D + 1, [{ target := .collected D, args := #[] }], W1, { target := .fn (.func gf) lb, args := #[.func (.yield (D + 1)) #[] #[]] }, W1, gf, #[.func (.yield (D + 1)) #[] #[]] ++ lb, W1, ?_, ?_, fun _ _ => trivial, ?_, (fun _ => by decide), ?_⟩
  · rw [hW1, hD]
    exact run_enterLoop_outer _ _ _ _ _
  · simp only [resolve, hg]
    simp [go_sem]
  · simp [invoke, go_sem, eg]
  · have far : ∀ {A : World} {row : Option Nat}, (∀ r, row = some r → W1.heap.size ≤ r ∧ ∃ o : Obj, A.heap[r]? = some o ∧ o.isWalk = true) → (∀ r, row = some r → w.heap.size ≤ r ∧ ∃ o : Obj, A.heap[r]? = some o ∧ o.isCells = false) :=
      fun hr r e => by
        obtain ⟨hB, o, ho, hw⟩ := hr r e
        exact ⟨Nat.le_trans hzw hB, o, ho, Obj.not_cells_of_walk hw⟩
    have heldG : ∀ {A B : World} {row : Option Nat} {st : LoopState} {pe : Option Code}, Held fn a.tmps ps assign body D st pe A → A.grownBy B row → (∀ r, row = some r → W1.heap.size ≤ r ∧ ∃ o : Obj, A.heap[r]? = some o ∧ o.isWalk = true) → Held fn a.tmps ps assign body D st pe B :=
      fun hh hg' hr => ⟨(grownBy_keeps hg' (fun r e => (hr r e).2) hh.loop rfl).trans hh.loop, (grownBy_keeps hg' (fun r e => (hr r e).2) hh.dfr rfl).trans hh.dfr⟩
    refine (hseq (D + 1) (fun pre W => I pre W ∧ Held fn a.tmps ps assign body D .ready none W) (fun pre W => ∃ c, Ix c pre W ∧ Held fn a.tmps ps assign body D .done (some c) W) W1 hb1
      (fun s A B row hs hg' hr => ⟨hI s A B row hs.1 hg' (far hr), heldG hs.2 hg' hr⟩)
      (fun s A B row hs hg' hr => by
        obtain ⟨c, hc, hh⟩ := hs
        exact ⟨c, hIx c s A B row hc hg' (far hr), heldG hh hg' hr⟩) ?_ ⟨hI1w, hH1⟩).mono ?_
    · rintro pre x W ⟨hi, hh⟩ hlen
      refine ⟨fn, _, assign, body, run_yield (P := P) (args := encs x) hh.loop (hps x), roundIn_of_wpIn trivial (hassign _ pre x W _ hi hlen fun a1 V hk hkp hi1 => ?_)⟩
      have hh2 := hh.keep hk (by rw [hD]; exact Nat.le_refl _)
      refine ⟨_, run_beginRound hh2.loop rfl, ?_⟩
      have hh3 := hh2.turn .busy none
      have hi2 := (hI1 x a1).putObj (s := pre) (recOf fn a.tmps ps assign body D .busy none) hi1 (by omega) hh2.loop rfl
      have hk2 : Kp W (V.putObj (D + 1) (recOf fn a.tmps ps assign body D .busy none)) := hKt hkp (hKb _ _ _ _ (by omega) hh2.loop rfl rfl)
      refine wpIn_mono (hbody _ pre x a1 _ hi2) ?_
      have fin : ∀ (jump : Option Code) (V3 : World), KeepsFrom w.heap.size (V.putObj (D + 1) (recOf fn a.tmps ps assign body D .busy none)) V3 →
          (Instr.endRound (D + 1) jump).run P V3 = .ok (.bool jump.isNone) (V3.putObj (D + 1) (recOf fn a.tmps ps assign body D (if jump.isNone then .ready else .done) jump)) ∧ Held fn a.tmps ps assign body D .busy none V3 ∧
            Held fn a.tmps ps assign body D (if jump.isNone then .ready else .done) jump (V3.putObj (D + 1) (recOf fn a.tmps ps assign body D (if jump.isNone then .ready else .done) jump)) := fun jump V3 hk3 => by
        have h3 := hh3.keep hk3 (by rw [hD]; exact Nat.le_refl _)
        exact ⟨run_endRound (P := P) jump h3.loop, h3, h3.turn _ _⟩
      rintro e a3 V3 hp
      cases e with
      | normal =>
        obtain ⟨q1, q2, q3⟩ := hp
        obtain ⟨hr, h3, h4⟩ := fin none V3 q1
        exact ⟨_, _, hr, .inl ⟨rfl, ⟨hI.putObj _ q3 (by omega) h3.loop rfl, h4⟩, hKt (hKt hk2 q2) (hKb _ _ _ _ (by omega) h3.loop rfl rfl)⟩⟩
      | ret =>
        obtain ⟨q1, q2⟩ := hp
        obtain ⟨hr, h3, h4⟩ := fin (some .ret) V3 q1
        exact ⟨_, _, hr, .inr ⟨rfl, .ret, (hIx _).putObj _ q2 (by omega) h3.loop rfl, h4⟩⟩
      | exit id =>
        obtain ⟨q1, q2⟩ := hp
        obtain ⟨hr, h3, h4⟩ := fin (some (.exit id)) V3 q1
        exact ⟨_, _, hr, .inr ⟨rfl, .exit id, (hIx _).putObj _ q2 (by omega) h3.loop rfl, h4⟩⟩
      | goto l =>
        obtain ⟨q1, q2⟩ := hp
        obtain ⟨hr, h3, h4⟩ := fin (some (.goto l)) V3 q1
        exact ⟨_, _, hr, .inr ⟨rfl, .goto l, (hIx _).putObj _ q2 (by omega) h3.loop rfl, h4⟩⟩
      | panic ch => exact hp.elim
      | outgrown => exact hp.elim
    · rintro e W2 ⟨⟨v, rfl⟩, (⟨xs, hS, hi, hh⟩ | ⟨pre, hSp, c, hi, hh⟩)⟩
      · exact ⟨none, _, run_endLoop (P := P) hh.loop (by simp), hdone D xs _ (by omega) hS (hI.putObj _ hi (by omega) hh.loop rfl) ((World.putObj_heap_other (by omega)).trans hh.dfr)⟩
      · exact ⟨some c, _, run_endLoop (P := P) hh.loop (by simp), hstop D c pre _ (by omega) hSp ((hIx c).putObj _ hi (by omega) hh.loop rfl) ((World.putObj_heap_other (by omega)).trans hh.dfr)⟩
end Go.Proofs.YtmhklnjmeoeanaaGreatDoor.G
namespace Go.Proofs.YtmhklnjmeoeanaaGreatDoor.D
open Go Go.RowKit
set_option linter.unusedVariables false
set_option linter.unusedSimpArgs false
attribute [local go_sem] Oper.semAt_some
/-- The places that have come when r are still to come. -/
def dnr (N r : Nat) : List Nat := (List.range' r (N - r)).reverse
theorem dnr_all (N : Nat) : dnr N N = [] := by simp [dnr]
theorem dnr_len (N r : Nat) : (dnr N r).length = N - r := by simp [dnr]
theorem dnr_next {N k : Nat} (h : k < N) : dnr N k = dnr N (k + 1) ++ [k] := by
  unfold dnr
  rw [show N - k = (N - (k + 1)) + 1 by omega, List.range'_succ, List.reverse_cons]
/-- What is handed to a round. -/
def encE (L : List (EV × Ev)) (k : Nat) : Array Value := #[.int .i64 (k : Int), .agg ((L.getD k zeroP).1.arr (L.getD k zeroP).2)]
theorem exec_load_at2 {P : Program} {o : Oper} {f : Operand → Value} {w : World} (ty : TypeId) (x : Operand) (ho : o.op = .load ty x) (g off : Nat) (hx : f x = .pointer (some ⟨g, off, none⟩)) (cs : Array Value) (h : (loadVar ty ⟨g, off, none⟩).run P w = .ok (.agg cs) w) : (execOp f o).run P w = .ok (.value (.agg cs)) w := by
  unfold execOp
  simp only [ho, hx, Instr.loadAt, Instr.sureAddr, Sem.run_bind, Sem.run_pure, Result.andThen_ok, h]
theorem listIn_load_run {n : Nat} {P : Program} {ops : Array Oper} {Q : Exit → Act → World → Prop} {a : Act} {w : World} {o : Oper} {rest : List Oper} (hw : Region.wanted o (yielded ops a.tmps) = true) (ty : TypeId) (x : Operand) (ho : o.op = .load ty x)
    (b off : Nat) (hx : a.eval x = .pointer (some ⟨b, off, none⟩)) (cs : Array Value) (h : (loadVar ty ⟨b, off, none⟩).run P w = .ok (.agg cs) w) (k : wpListIn Fence.wide n P ops Q rest (a.put o.dst (.agg cs)) w) : wpListIn Fence.wide n P ops Q (o :: rest) a w := by
  unfold wpListIn
  rw [if_pos hw]
  refine ⟨fun _ _ => trivial, ?_⟩
  rw [show Fence.wide.round = none from rfl, Oper.semAt_none, exec_load_at2 ty x ho b off hx cs h]
  exact k
/-- What lay below n₀ lies as it lay, and so does the iterator's box. -/
structure KpB (n₀ Bs : Nat) (W W' : World) : Prop where
  below : Below n₀ W W'
  bs : W'.heap[Bs]? = W.heap[Bs]?
theorem KpB.refl (n₀ Bs : Nat) (W : World) : KpB n₀ Bs W W := ⟨Below.refl _ _, rfl⟩
theorem KpB.trans {n₀ Bs : Nat} {A B C : World} (h : KpB n₀ Bs A B) (k : KpB n₀ Bs B C) : KpB n₀ Bs A C := ⟨h.below.trans k.below, k.bs.trans h.bs⟩
theorem KpB.put {n₀ Bs : Nat} {w : World} (hn : n₀ ≤ w.heap.size) (hb : Bs < w.heap.size) (W : World) (l : Nat) (o o' : Obj) (hl : w.heap.size ≤ l) (h : W.heap[l]? = some o) (h1 : o.isCells = false) (h2 : o.isWalk = false) : KpB n₀ Bs W (W.putObj l o') :=
  ⟨belowK_b hn W l o o' hl h h1 h2, World.putObj_heap_other (by omega)⟩
end Go.Proofs.YtmhklnjmeoeanaaGreatDoor.D

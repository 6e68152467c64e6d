/- A range over a function whose loop variables lie in boxes: each round lays them anew. -/
import Derived.Test.YtofgmijmhpmabaaGreatDoorRound
namespace Go.Proofs.YtofgmijmhpmabaaGreatDoor.G
open Go Go.RowKit
set_option linter.unusedVariables false
set_option linter.unusedSimpArgs false
/-- The loop's record. -/
def recOf (fn : FuncId) (t : Array Value) (ps : Array Tmp) (asg bdy : Code) (D : Nat) (st : LoopState) (pe : Option Code) : Obj := .loop { state := st, pending := pe, fn := fn, tmps := t, params := ps, assign := asg, body := bdy, defers := D }
/-- The two blocks that the statement lays hold the record, in a state, and no deferred calls. -/
structure Held (fn : FuncId) (t : Array Value) (ps : Array Tmp) (asg bdy : Code) (D : Nat) (st : LoopState) (pe : Option Code) (W : World) : Prop where
  loop : W.heap[D + 1]? = some (recOf fn t ps asg bdy D st pe)
  dfr : W.heap[D]? = some (.deferred (some []))
theorem Held.keep {fn : FuncId} {t : Array Value} {ps : Array Tmp} {asg bdy : Code} {D B : Nat} {st : LoopState} {pe : Option Code} {W W' : World} (h : Held fn t ps asg bdy D st pe W) (hk : KeepsFrom B W W') (hB : B ≤ D) : Held fn t ps asg bdy D st pe W' :=
  ⟨hk.same _ _ (by omega) h.loop rfl, hk.same _ _ hB h.dfr rfl⟩
theorem Held.turn {fn : FuncId} {t : Array Value} {ps : Array Tmp} {asg bdy : Code} {D : Nat} {st : LoopState} {pe : Option Code} {W : World} (h : Held fn t ps asg bdy D st pe W) (st' : LoopState) (pe' : Option Code) : Held fn t ps asg bdy D st' pe' (W.putObj (D + 1) (recOf fn t ps asg bdy D st' pe')) :=
  ⟨World.putObj_heap_same (Array.getElem?_eq_some_iff.1 h.loop).1, (World.putObj_heap_other (by omega)).trans h.dfr⟩
theorem rangeFunc_box {P : Program} {α : Type} {g : Operand} {ps : Array Tmp} {assign body : Code} {Q : Exit → Act → World → Prop} {a : Act} {w : World}
    {gf : Nat} {lb : Array Value} (hg : a.eval g = .func (.func gf) #[] lb) (eg : ∀ args w, (callFunc gf args).run P w = .ok (.enter gf args) w)
    {encs : α → Array Value} {Kp : World → World → Prop} {S Sp : List α → Prop} {N : Nat} {w0 : World} (hseq : SeqStopsK Fence.wide 2 P gf lb encs Kp S Sp N w0)
    (hKt : ∀ {A B C : World}, Kp A B → Kp B C → Kp A C) (hKb : ∀ (W : World) (l : Nat) (o o' : Obj), w.heap.size ≤ l → W.heap[l]? = some o → o.isCells = false → o.isWalk = false → Kp W (W.putObj l o')) (hb0 : Below w0.heap.size w0 w) (hps : ∀ x, (encs x).size = ps.size)
    (I : List α → World → Prop) (I1 : List α → α → Act → World → Prop) (Ix : Code → List α → World → Prop) (hI : OwnFrom w.heap.size I) (hI1 : ∀ x a1, OwnFrom w.heap.size (fun pre W => I1 pre x a1 W)) (hIx : ∀ c, OwnFrom w.heap.size (Ix c)) (h0 : I [] w)
    (hassign : ∀ (l : Nat) (pre : List α) (x : α) (W : World) (K : Act → World → Prop), I pre W → pre.length < N → (∀ a1 W1, KeepsFrom w.heap.size W W1 → Kp W W1 → I1 pre x a1 W1 → K a1 W1) →
      assign.wpIn (Fence.wide.inRound l) 1 P (Exit.then K (fun _ _ _ => False)) { tmps := (ps.zip (encs x)).foldl (fun t (p, v) => t.setIfInBounds p v) a.tmps, defers := [] } W)
    (hbody : ∀ (l : Nat) (pre : List α) (x : α) (a1 : Act) (W : World), I1 pre x a1 W → body.wpIn (Fence.wide.inRound l) 1 P (ownPostG w.heap.size Kp I Ix (pre ++ [x]) W) a1 W)
    (hdone : ∀ (D : Nat) (xs : List α) (W : World), w.heap.size ≤ D → S xs → I xs W → W.heap[D]? = some (.deferred (some [])) → Q .normal { a with defers := { target := .collected D, args := #[] } :: a.defers } W)
    (hstop : ∀ (D : Nat) (c : Code) (pre : List α) (W : World), w.heap.size ≤ D → Sp pre → Ix c pre W → W.heap[D]? = some (.deferred (some [])) → c.wpIn Fence.wide 3 P Q { a with defers := { target := .collected D, args := #[] } :: a.defers } W) :
    (Code.rangeFunc g ps assign body).wpIn Fence.wide 3 P Q a w := by
  refine wpIn_rangeFunc fun fn _ => ?_
  obtain ⟨D, hD⟩ : ∃ D, D = w.heap.size := ⟨_, rfl⟩
  obtain ⟨W1, hW1⟩ : ∃ W1, W1 = (w.alloc (.deferred (some []))).alloc (recOf fn a.tmps ps assign body D .ready none) := ⟨_, rfl⟩
  have hz : (w.alloc (.deferred (some []))).heap.size = D + 1 := by rw [hD]; simp
  have hH1 : Held fn a.tmps ps assign body D .ready none W1 := by
    refine ⟨?_, ?_⟩
    · rw [hW1, ← hz]
      exact World.alloc_heap_new _ _
    · rw [hW1]
      refine (Below.heap_alloc _ _ _ (by rw [hz]; omega)).trans ?_
      rw [hD]
      exact World.alloc_heap_new w _
  have hI1w : I [] W1 := by rw [hW1]; exact hI.alloc _ (hI.alloc _ h0)
  have hb1 : Below w0.heap.size w0 W1 := by
    rw [hW1]
    exact (hb0.alloc hb0.size _).alloc (by have := hb0.size; simp; omega) _
  have hzw : w.heap.size ≤ W1.heap.size := by rw [hW1]; simp; omega
  refine ⟨D + 1, [{ target := .collected D, args := #[] }], W1, { target := .fn (.func gf) lb, args := #[.func (.yield (D + 1)) #[] #[]] }, W1, gf, #[.func (.yield (D + 1)) #[] #[]] ++ lb, W1, ?_, ?_, fun _ _ => trivial, ?_, (fun _ => by decide), ?_⟩
  · rw [hW1, hD]
    exact run_enterLoop_outer _ _ _ _ _
  · simp only [resolve, hg]
    simp [go_sem]
  · simp [invoke, go_sem, eg]
  · have far : ∀ {A : World} {row : Option Nat}, (∀ r, row = some r → W1.heap.size ≤ r ∧ ∃ o : Obj, A.heap[r]? = some o ∧ o.isWalk = true) → (∀ r, row = some r → w.heap.size ≤ r ∧ ∃ o : Obj, A.heap[r]? = some o ∧ o.isCells = false) :=
      fun hr r e => by
        obtain ⟨hB, o, ho, hw⟩ := hr r e
        exact ⟨Nat.le_trans hzw hB, o, ho, Obj.not_cells_of_walk hw⟩
    have heldG : ∀ {A B : World} {row : Option Nat} {st : LoopState} {pe : Option Code}, Held fn a.tmps ps assign body D st pe A → A.grownBy B row → (∀ r, row = some r → W1.heap.size ≤ r ∧ ∃ o : Obj, A.heap[r]? = some o ∧ o.isWalk = true) → Held fn a.tmps ps assign body D st pe B :=
      fun hh hg' hr => ⟨(grownBy_keeps hg' (fun r e => (hr r e).2) hh.loop rfl).trans hh.loop, (grownBy_keeps hg' (fun r e => (hr r e).2) hh.dfr rfl).trans hh.dfr⟩
    refine (hseq (D + 1) (fun pre W => I pre W ∧ Held fn a.tmps ps assign body D .ready none W) (fun pre W => ∃ c, Ix c pre W ∧ Held fn a.tmps ps assign body D .done (some c) W) W1 hb1
      (fun s A B row hs hg' hr => ⟨hI s A B row hs.1 hg' (far hr), heldG hs.2 hg' hr⟩)
      (fun s A B row hs hg' hr => by
        obtain ⟨c, hc, hh⟩ := hs
        exact ⟨c, hIx c s A B row hc hg' (far hr), heldG hh hg' hr⟩) ?_ ⟨hI1w, hH1⟩).mono ?_
    · rintro pre x W ⟨hi, hh⟩ hlen
      refine ⟨fn, _, assign, body, run_yield (P := P) (args := encs x) hh.loop (hps x), roundIn_of_wpIn trivial (hassign _ pre x W _ hi hlen fun a1 V hk hkp hi1 => ?_)⟩
      have hh2 := hh.keep hk (by rw [hD]; exact Nat.le_refl _)
      refine ⟨_, run_beginRound hh2.loop rfl, ?_⟩
      have hh3 := hh2.turn .busy none
      have hi2 := (hI1 x a1).putObj (s := pre) (recOf fn a.tmps ps assign body D .busy none) hi1 (by omega) hh2.loop rfl
      have hk2 : Kp W (V.putObj (D + 1) (recOf fn a.tmps ps assign body D .busy none)) := hKt hkp (hKb _ _ _ _ (by omega) hh2.loop rfl rfl)
      refine wpIn_mono (hbody _ pre x a1 _ hi2) ?_
      have fin : ∀ (jump : Option Code) (V3 : World), KeepsFrom w.heap.size (V.putObj (D + 1) (recOf fn a.tmps ps assign body D .busy none)) V3 →
          (Instr.endRound (D + 1) jump).run P V3 = .ok (.bool jump.isNone) (V3.putObj (D + 1) (recOf fn a.tmps ps assign body D (if jump.isNone then .ready else .done) jump)) ∧ Held fn a.tmps ps assign body D .busy none V3 ∧
            Held fn a.tmps ps assign body D (if jump.isNone then .ready else .done) jump (V3.putObj (D + 1) (recOf fn a.tmps ps assign body D (if jump.isNone then .ready else .done) jump)) := fun jump V3 hk3 => by
        have h3 := hh3.keep hk3 (by rw [hD]; exact Nat.le_refl _)
        exact ⟨run_endRound (P := P) jump h3.loop, h3, h3.turn _ _⟩
      rintro e a3 V3 hp
      cases e with
      | normal =>
        obtain ⟨q1, q2, q3⟩ := hp
        obtain ⟨hr, h3, h4⟩ := fin none V3 q1
        exact ⟨_, _, hr, .inl ⟨rfl, ⟨hI.putObj _ q3 (by omega) h3.loop rfl, h4⟩, hKt (hKt hk2 q2) (hKb _ _ _ _ (by omega) h3.loop rfl rfl)⟩⟩
      | ret =>
        obtain ⟨q1, q2⟩ := hp
        obtain ⟨hr, h3, h4⟩ := fin (some .ret) V3 q1
        exact ⟨_, _, hr, .inr ⟨rfl, .ret, (hIx _).putObj _ q2 (by omega) h3.loop rfl, h4⟩⟩
      | exit id =>
        obtain ⟨q1, q2⟩ := hp
        obtain ⟨hr, h3, h4⟩ := fin (some (.exit id)) V3 q1
        exact ⟨_, _, hr, .inr ⟨rfl, .exit id, (hIx _).putObj _ q2 (by omega) h3.loop rfl, h4⟩⟩
      | goto l =>
        obtain ⟨q1, q2⟩ := hp
        obtain ⟨hr, h3, h4⟩ := fin (some (.goto l)) V3 q1
        exact ⟨_, _, hr, .inr ⟨rfl, .goto l, (hIx _).putObj _ q2 (by omega) h3.loop rfl, h4⟩⟩
      | panic ch => exact hp.elim
      | outgrown => exact hp.elim
    · rintro e W2 ⟨⟨v, rfl⟩, (⟨xs, hS, hi, hh⟩ | ⟨pre, hSp, c, hi, hh⟩)⟩
      · exact ⟨none, _, run_endLoop (P := P) hh.loop (by simp), hdone D xs _ (by omega) hS (hI.putObj _ hi (by omega) hh.loop rfl) ((World.putObj_heap_other (by omega)).trans hh.dfr)⟩
      · exact ⟨some c, _, run_endLoop (P := P) hh.loop (by simp), hstop D c pre _ (by omega) hSp ((hIx c).putObj _ hi (by omega) hh.loop rfl) ((World.putObj_heap_other (by omega)).trans hh.dfr)⟩
end Go.Proofs.YtofgmijmhpmabaaGreatDoor.G

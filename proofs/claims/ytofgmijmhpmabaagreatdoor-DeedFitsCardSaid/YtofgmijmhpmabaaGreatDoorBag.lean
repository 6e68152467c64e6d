/- Worlds that differ in blocks of a few element types alone. Plain Lean, no program in sight. -/
import Derived.Test.YtofgmijmhpmabaaGreatDoorStores
namespace Go.Proofs.YtofgmijmhpmabaaGreatDoor.G
open Go Go.RowKit
set_option linter.unusedVariables false
set_option linter.unusedSimpArgs false
structure Touch (ts : List TypeId) (B : Nat) (w w' : World) : Prop where
  below : Below B w w'
  other : ∀ (k : Nat) (cs : Array Value) (t : TypeId) (fr : Nat × Nat), w.heap[k]? = some (Obj.cells cs t fr) → t ∉ ts → w'.heap[k]? = some (Obj.cells cs t fr)
section
variable {ts : List TypeId} {B : Nat} {w w1 w' : World}
theorem Touch.refl (ts : List TypeId) (B : Nat) (w : World) : Touch ts B w w := ⟨Below.refl _ _, fun _ _ _ _ h _ => h⟩
theorem Touch.trans (h : Touch ts B w w1) (k : Touch ts B w1 w') : Touch ts B w w' := ⟨h.below.trans k.below, fun g cs t fr hg ht => k.other g cs t fr (h.other g cs t fr hg ht) ht⟩
theorem Touch.later (h : Touch ts B w w1) (hB : B ≤ w1.heap.size) (hb : Below w1.heap.size w1 w') : Touch ts B w w' :=
  h.trans ⟨hb.mono hB, fun k cs t fr hk _ => (hb.block k (Array.getElem?_eq_some_iff.1 hk).1).trans hk⟩
theorem Touch.of_only {E : TypeId} (h : Only E B w w') (hE : E ∈ ts) : Touch ts B w w' := ⟨h.below, fun k cs t fr hk ht => h.other k cs t fr hk (fun e => ht (e ▸ hE))⟩
theorem Touch.weaken {ts' : List TypeId} (h : Touch ts B w w') (hs : ∀ t ∈ ts, t ∈ ts') : Touch ts' B w w' := ⟨h.below, fun k cs t fr hk ht => h.other k cs t fr hk (fun e => ht (hs t e))⟩
theorem Touch.mono {B' : Nat} (h : Touch ts B w w') (hB : B' ≤ B) : Touch ts B' w w' := ⟨h.below.mono hB, h.other⟩
theorem Touch.grown {base : Nat} {e : TypeId} {sz n : Nat} {v : Value} {xs : List Value} (h : Touch ts B w w1) (ho : w1.ownsRow base e sz v n xs) (hg : w1.grownBy w' v.ownBlock) (he : e ∈ ts) (hB : B ≤ base) (hB1 : B ≤ w1.heap.size) : Touch ts B w w' := by
  refine h.trans ⟨(Below.refl _ _).grown hg hB1 fun k hk => Nat.le_trans hB (ho.lt k hk).1, fun k cs t fr hk ht => ?_⟩
  by_cases hrow : some k = v.ownBlock
  · obtain ⟨c2, h4⟩ := ownsRow.block_e ho hrow.symm
    rw [hk] at h4
    simp only [Option.some.injEq, Obj.cells.injEq] at h4
    exact absurd (h4.2.1 ▸ he) ht
  · exact (hg.block k (Array.getElem?_eq_some_iff.1 hk).1 hrow).trans hk
theorem Touch.set {g : Nat} {t : TypeId} {cs : Array Value} (h : Touch ts B w w1) (hb : Blk w1 g t cs) (ht : t ∈ ts) (hg : B ≤ g) (i : Nat) (u : Value) : Touch ts B w (w1.setCell ⟨g, i, none⟩ u) := by
  refine h.trans ⟨(Below.refl _ _).setCell (p := ⟨g, i, none⟩) hg u, fun k cs' t' fr hk ht' => ?_⟩
  by_cases hkp : k = g
  · subst hkp
    unfold Blk at hb
    rw [hk] at hb
    simp only [Option.some.injEq, Obj.cells.injEq] at hb
    exact absurd (hb.2.1 ▸ ht) ht'
  · exact (Below.heap_setCell w1 ⟨g, i, none⟩ u k hkp).trans hk
theorem Touch.blk (h : Touch ts B w w') {g : Nat} {t : TypeId} {cs : Array Value} (hb : Blk w g t cs) (ht : t ∉ ts) : Blk w' g t cs := h.other g cs t (0, 0) hb ht
theorem Touch.own (h : Touch ts B w w') {base : Nat} {e : TypeId} {sz n : Nat} {v : Value} {xs : List Value} (ho : w.ownsRow base e sz v n xs) (he : e ∉ ts) : w'.ownsRow base e sz v n xs := by
  refine ⟨ho.1, ho.2.imp id fun ⟨g, cap, cur, e1, h2, h3, r⟩ => ⟨g, cap, cur, e1, h2, h.other g cur e (0, 0) h3 he, r⟩⟩
end
/-- A block stands while a row of another element type grows. -/
theorem Blk.far_row {w w' : World} {gb base : Nat} {T e : TypeId} {cs : Array Value} {sz n : Nat} {v : Value} {xs : List Value} (hB : Blk w gb T cs) (ho : w.ownsRow base e sz v n xs) (hg : w.grownBy w' v.ownBlock) (he : e ≠ T) : Blk w' gb T cs := by
  refine hB.same (hg.block gb hB.lt fun hrow => ?_)
  obtain ⟨c2, h4⟩ := ownsRow.block_e ho hrow.symm
  unfold Blk at hB
  rw [hB] at h4
  simp only [Option.some.injEq, Obj.cells.injEq] at h4
  exact he h4.2.1.symm
theorem Blk.alloc {w : World} {g : Nat} {t : TypeId} {cs : Array Value} (h : Blk w g t cs) (o : Obj) : Blk (w.alloc o) g t cs := (Below.heap_alloc w o g h.lt).trans h
theorem row_ne {w : World} {base gb : Nat} {e T : TypeId} {sz n : Nat} {v : Value} {xs : List Value} {cs : Array Value} (ho : w.ownsRow base e sz v n xs) (hB : Blk w gb T cs) (he : e ≠ T) : v.ownBlock = none ∨ v.ownBlock ≠ some gb := by
  cases hv : v.ownBlock with
  | none => exact .inl rfl
  | some g =>
    refine .inr fun hg => ?_
    obtain ⟨c2, h4⟩ := ownsRow.block_e ho hv
    simp only [Option.some.injEq] at hg
    subst hg
    unfold Blk at hB
    rw [hB] at h4
    simp only [Option.some.injEq, Obj.cells.injEq] at h4
    exact he h4.2.1.symm
/-- What adding a list to a bag leaves. -/
def AddPost (T S : TypeId) (base gb i k : Nat) (cs : Array Value) (hdrs : List Value) (v : Value) (w : World) (e : Ending) (w' : World) : Prop :=
  e = .returned (.tuple #[]) ∧ ∃ HA hc, Blk w' gb T (cs.setIfInBounds i (.slice HA (k + 1) hc)) ∧ w'.ownsRow base S 1 (.slice HA (k + 1) hc) (k + 1) (hdrs ++ [v]) ∧ Touch [T, S] base w w'
end Go.Proofs.YtofgmijmhpmabaaGreatDoor.G

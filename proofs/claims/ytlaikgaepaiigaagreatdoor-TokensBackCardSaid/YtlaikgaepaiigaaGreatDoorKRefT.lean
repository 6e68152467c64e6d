/- The contract of the reference's text. -/
import Derived.Test.YtlaikgaepaiigaaGreatDoorKRefX
namespace Go.Proofs.YtlaikgaepaiigaaGreatDoor.K
open Go Go.RowKit
set_option linter.unusedVariables false
set_option linter.unusedSimpArgs false
theorem own_upd {w w' : World} {g base sz n : Nat} {e : TypeId} {v : Value} {xs : List Value} (h : w.ownsRow base e sz v n xs) (hg : g < base) (hu : Upd g w w') : w'.ownsRow base e sz v n xs := by
  refine ⟨h.1, h.2.imp id ?_⟩
  rintro ⟨k, cap, cur, e1, hb, hk, r⟩
  have hlt : k < w.heap.size := (Array.getElem?_eq_some_iff.1 hk).1
  exact ⟨k, cap, cur, e1, hb, (hu.2 k (by omega) hlt).trans hk, r⟩
theorem upd_grown {w w1 w' : World} {g : Nat} {v : Value} {e : TypeId} {sz n : Nat} {xs : List Value} (h : Upd g w w1) (ho : w1.ownsRow w.heap.size e sz v n xs) (hl : g < w.heap.size) (hg : w1.grownBy w' v.ownBlock) : Upd g w w' := by
  have hgb : ∀ k, v.ownBlock = some k → w.heap.size ≤ k := fun k hk => (ho.lt k hk).1
  refine ⟨h.1.grown hg (by have := h.1.size; omega) (fun k hk => by have := hgb k hk; omega), fun b h1 h2 => ?_⟩
  rw [← h.2 b h1 h2]
  exact hg.block b (Nat.lt_of_lt_of_le h2 h.1.size) (fun e => by have := hgb b e.symm; omega)
end Go.Proofs.YtlaikgaepaiigaaGreatDoor.K

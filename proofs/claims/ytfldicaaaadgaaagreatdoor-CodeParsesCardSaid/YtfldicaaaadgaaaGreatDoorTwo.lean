/- Two rows that share no memory; the empty bag. Plain, no program in sight. -/
import Derived.Test.YtfldicaaaadgaaaGreatDoorBag
namespace Go.Proofs.YtfldicaaaadgaaaGreatDoor.G
open Go Go.RowKit
set_option linter.unusedVariables false
set_option linter.unusedSimpArgs false
theorem fam2 {w : World} {base : Nat} {e : TypeId} {sz : Nat} {v1 v2 : Value} {n1 n2 : Nat} {x1 x2 : List Value} (h1 : w.ownsRow base e sz v1 n1 x1) (h2 : w.ownsRow base e sz v2 n2 x2)
    (d12 : ∀ g, v1.ownBlock = some g → v2.ownBlock ≠ some g) : Fam w base e sz (Rows0 [⟨v1, n1, x1⟩, ⟨v2, n2, x2⟩]) := by
  have ne : v1.ownBlock = none ∨ v1.ownBlock ≠ v2.ownBlock := by
    cases ha : v1.ownBlock with
    | none => exact .inl rfl
    | some g => exact .inr fun e => d12 g ha e.symm
  have ne' : v2.ownBlock = none ∨ v2.ownBlock ≠ v1.ownBlock := by
    cases hb : v2.ownBlock with
    | none => exact .inl rfl
    | some g => exact .inr fun e => d12 g e.symm hb
  refine ⟨fun r ⟨l, hl, e1, e2, e3⟩ => ?_, fun r ⟨l, hl, e1, _, _⟩ r' ⟨l', hl', e1', _, _⟩ ht => ?_⟩
  · obtain ⟨t, v, n, xs⟩ := r
    simp only at hl e1 e2 e3
    subst e1 e2 e3
    match t, hl with
    | 0, hl => obtain rfl := Option.some.inj hl; exact h1
    | 1, hl => obtain rfl := Option.some.inj hl; exact h2
    | (t + 2), hl => simp at hl
  · obtain ⟨t, v, n, xs⟩ := r
    obtain ⟨t', v', n', xs'⟩ := r'
    simp only at hl hl' e1 e1' ht ⊢
    subst e1 e1'
    match t, hl, t', hl', ht with
    | 0, hl, 0, hl', ht => exact absurd rfl ht
    | 1, hl, 1, hl', ht => exact absurd rfl ht
    | 0, hl, 1, hl', ht => obtain rfl := Option.some.inj hl; obtain rfl := Option.some.inj hl'; exact ne
    | 1, hl, 0, hl', ht => obtain rfl := Option.some.inj hl; obtain rfl := Option.some.inj hl'; exact ne'
    | (t + 2), hl, _, _, _ => simp at hl
    | _, _, (t' + 2), hl', _ => simp at hl'
/-- A row that was made later lies in another block. -/
theorem later_ne {w1 w2 : World} {b1 b2 : Nat} {e1 e2 : TypeId} {s1 s2 n1 n2 : Nat} {v1 v2 : Value} {x1 x2 : List Value} (h1 : w1.ownsRow b1 e1 s1 v1 n1 x1) (h2 : w2.ownsRow b2 e2 s2 v2 n2 x2) (h : w1.heap.size ≤ b2) : ∀ g, v1.ownBlock = some g → v2.ownBlock ≠ some g := by
  intro g hg hg2
  have a := (h1.lt g hg).2
  have b := (h2.lt g hg2).1
  omega
def nilBag : Array Value := #[.slice none 0 0, .slice none 0 0, .slice none 0 0, .slice none 0 0, .slice none 0 0, .slice none 0 0, .slice none 0 0, .slice none 0 0, .slice none 0 0, .slice none 0 0, .slice none 0 0, .slice none 0 0, .slice none 0 0, .slice none 0 0, .slice none 0 0, .slice none 0 0, .slice none 0 0, .slice none 0 0, .slice none 0 0, .slice none 0 0, .slice none 0 0]
theorem nilBag_at (i : Nat) (h : i < 21) : nilBag[i]? = some (.slice none 0 0) := by
  have h' : i = 0 ∨ i = 1 ∨ i = 2 ∨ i = 3 ∨ i = 4 ∨ i = 5 ∨ i = 6 ∨ i = 7 ∨ i = 8 ∨ i = 9 ∨ i = 10 ∨ i = 11 ∨ i = 12 ∨ i = 13 ∨ i = 14 ∨ i = 15 ∨ i = 16 ∨ i = 17 ∨ i = 18 ∨ i = 19 ∨ i = 20 := by omega
  rcases h' with rfl | rfl | rfl | rfl | rfl | rfl | rfl | rfl | rfl | rfl | rfl | rfl | rfl | rfl | rfl | rfl | rfl | rfl | rfl | rfl | rfl <;> rfl
end Go.Proofs.YtfldicaaaadgaaaGreatDoor.G

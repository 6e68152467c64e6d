/- Three rows that share no memory. Plain, no program in sight. -/
import Derived.Test.YtlaikgaepaiigaaDoorTwo
namespace Go.Proofs.YtlaikgaepaiigaaDoor.G
open Go Go.RowKit
set_option linter.unusedVariables false
set_option linter.unusedSimpArgs false
theorem fam3 {w : World} {base : Nat} {e : TypeId} {sz : Nat} {v1 v2 v3 : Value} {n1 n2 n3 : Nat} {x1 x2 x3 : List Value} (h1 : w.ownsRow base e sz v1 n1 x1) (h2 : w.ownsRow base e sz v2 n2 x2) (h3 : w.ownsRow base e sz v3 n3 x3)
    (d12 : ∀ g, v1.ownBlock = some g → v2.ownBlock ≠ some g) (d13 : ∀ g, v1.ownBlock = some g → v3.ownBlock ≠ some g) (d23 : ∀ g, v2.ownBlock = some g → v3.ownBlock ≠ some g) :
    Fam w base e sz (Rows0 [⟨v1, n1, x1⟩, ⟨v2, n2, x2⟩, ⟨v3, n3, x3⟩]) := by
  have ne : ∀ {a b : Value}, (∀ g, a.ownBlock = some g → b.ownBlock ≠ some g) → a.ownBlock = none ∨ a.ownBlock ≠ b.ownBlock := fun {a b} h => by
    cases ha : a.ownBlock with
    | none => exact .inl rfl
    | some g => exact .inr fun e => h g ha e.symm
  have ne' : ∀ {a b : Value}, (∀ g, a.ownBlock = some g → b.ownBlock ≠ some g) → b.ownBlock = none ∨ b.ownBlock ≠ a.ownBlock := fun {a b} h => by
    cases hb : b.ownBlock with
    | none => exact .inl rfl
    | some g => exact .inr fun e => h g e.symm hb
  refine ⟨fun r ⟨l, hl, e1, e2, e3⟩ => ?_, fun r ⟨l, hl, e1, _, _⟩ r' ⟨l', hl', e1', _, _⟩ ht => ?_⟩
  · obtain ⟨t, v, n, xs⟩ := r
    simp only at hl e1 e2 e3
    subst e1 e2 e3
    match t, hl with
    | 0, hl => obtain rfl := Option.some.inj hl; exact h1
    | 1, hl => obtain rfl := Option.some.inj hl; exact h2
    | 2, hl => obtain rfl := Option.some.inj hl; exact h3
    | (t + 3), hl => simp at hl
  · obtain ⟨t, v, n, xs⟩ := r
    obtain ⟨t', v', n', xs'⟩ := r'
    simp only at hl hl' e1 e1' ht ⊢
    subst e1 e1'
    match t, hl, t', hl', ht with
    | 0, hl, 0, hl', ht => exact absurd rfl ht
    | 1, hl, 1, hl', ht => exact absurd rfl ht
    | 2, hl, 2, hl', ht => exact absurd rfl ht
    | 0, hl, 1, hl', ht => obtain rfl := Option.some.inj hl; obtain rfl := Option.some.inj hl'; exact ne d12
    | 0, hl, 2, hl', ht => obtain rfl := Option.some.inj hl; obtain rfl := Option.some.inj hl'; exact ne d13
    | 1, hl, 2, hl', ht => obtain rfl := Option.some.inj hl; obtain rfl := Option.some.inj hl'; exact ne d23
    | 1, hl, 0, hl', ht => obtain rfl := Option.some.inj hl; obtain rfl := Option.some.inj hl'; exact ne' d12
    | 2, hl, 0, hl', ht => obtain rfl := Option.some.inj hl; obtain rfl := Option.some.inj hl'; exact ne' d13
    | 2, hl, 1, hl', ht => obtain rfl := Option.some.inj hl; obtain rfl := Option.some.inj hl'; exact ne' d23
    | (t + 3), hl, _, _, _ => simp at hl
    | _, _, (t' + 3), hl', _ => simp at hl'
end Go.Proofs.YtlaikgaepaiigaaDoor.G

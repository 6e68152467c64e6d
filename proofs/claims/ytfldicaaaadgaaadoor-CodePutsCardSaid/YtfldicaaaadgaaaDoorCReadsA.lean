/- Towards CodeReads: the contracts in the form in which the law meets them. -/
import Derived.Test.YtfldicaaaadgaaaDoorCEq
import Derived.Test.YtfldicaaaadgaaaDoorAddInstrs
import Derived.Test.YtfldicaaaadgaaaDoorCWorks
namespace Go.Proofs.YtfldicaaaadgaaaDoor.Code
open Go.RowKit
set_option linter.unusedVariables false
set_option linter.unusedSimpArgs false
theorem rdI_of {w : World} {b off : Nat} {k : IntKind} {zs : List Int} (h : G.RdV w b off (zs.map (Value.int k))) : RdI w k b off zs := ⟨h.1, fun j hj => h.int hj⟩
theorem refRead_S (A : Option Addr) (n cap : Nat) (zs : List Int) (p : Int) (w : World) (hn : zs.length = n) (hm : n ≤ 1099511627776) (hr : G.RdS w A 1 n (zs.map (Value.int .u8))) (hz : IsBytes zs) :
    Calls Tryd.prog 11 #[.slice A n cap, .int .i64 p] w fun e w' => e = .returned (.tuple #[(readAt zs p).1.val, .int .i64 (readAt zs p).2]) ∧ Below w.heap.size w w' := by
  subst hn
  by_cases h0 : zs.length = 0
  · have e : readAt zs p = (zeroIns, 1) := by unfold readAt; rw [if_pos (by omega)]
    rw [e]
    exact refRead_out _ _ _ _ w (by unfold maxLen; omega) (by omega)
  · obtain ⟨b, off, rfl, h⟩ := hr.2 (by omega)
    exact refRead_any b off cap zs p w hm (rdI_of h) hz
theorem refAll_S (A : Option Addr) (n cap : Nat) (zs : List Int) (w : World) (hn : zs.length = n) (hm : n ≤ 1099511627776) (hc : cap ≤ 9223372036854775807) (hnc : n ≤ cap) (hr : G.RdS w A 1 n (zs.map (Value.int .u8))) (hz : IsBytes zs) :
    Calls Tryd.prog 13 #[.slice A n cap] w (AllPost zs w) := by
  subst hn
  by_cases h0 : zs.length = 0
  · obtain rfl := List.eq_nil_of_length_eq_zero h0
    refine (refAll_nil A cap w).mono fun e w' ⟨he, hw⟩ => ?_
    subst hw
    exact ⟨_, he, World.ownsRow_nil _ _ _ _, Below.refl _ _⟩
  · obtain ⟨b, off, rfl, h⟩ := hr.2 (by omega)
    exact refAll_any b off cap zs w hc hm hnc (rdI_of h) hz
/-- A row of the call's own, of bytes with marks behind them, read as the bytes. -/
theorem in_rd {w : World} {base g N : Nat} {zs ys : List Int} (h : w.ownsRow base 5 1 (.slice (some ⟨g, 0, none⟩) N N) N ((zs ++ ys).map (Value.int .u8))) : G.RdV w g 0 (zs.map (Value.int .u8)) := by
  rcases h.2 with ⟨hv, _⟩ | ⟨g', cap, cur, hv, hb, hgg, hnc, hc, hcs, ht⟩
  · cases hv
  · simp only [Value.slice.injEq, Option.some.injEq, Addr.mk.injEq, and_true, true_and] at hv
    obtain ⟨rfl, rfl⟩ := hv
    refine ⟨(Array.getElem?_eq_some_iff.1 hgg).1, fun j hj => ?_⟩
    have hj' : j < zs.length := by simpa using hj
    rw [Nat.zero_add, h.cellAt j (by have := h.1; simp at this; omega), List.map_append, List.getElem?_append_left (by simpa using hj'), List.getD_eq_getElem?_getD, List.getElem?_eq_getElem hj]
    rfl
theorem in_rd_all {w : World} {base g N : Nat} {xs : List Value} (h : w.ownsRow base 5 1 (.slice (some ⟨g, 0, none⟩) N N) N xs) : G.RdV w g 0 xs := by
  rcases h.2 with ⟨hv, _⟩ | ⟨g', cap, cur, hv, hb, hgg, hnc, hc, hcs, ht⟩
  · cases hv
  · simp only [Value.slice.injEq, Option.some.injEq, Addr.mk.injEq, and_true, true_and] at hv
    obtain ⟨rfl, rfl⟩ := hv
    refine ⟨(Array.getElem?_eq_some_iff.1 hgg).1, fun j hj => ?_⟩
    rw [Nat.zero_add, h.cellAt j (by have := h.1; omega), List.getD_eq_getElem?_getD, List.getElem?_eq_getElem hj]
    rfl
theorem own_cap {w : World} {base : Nat} {e : TypeId} {size : Nat} {v : Value} {n : Nat} {xs : List Value} (h : w.ownsRow base e size v n xs) : ∃ ao cap, v = .slice ao n cap ∧ n ≤ cap ∧ cap ≤ maxLen := by
  rcases h.2 with ⟨rfl, rfl⟩ | ⟨g, cap, cur, rfl, _, _, hn, hc, _⟩
  · exact ⟨_, _, rfl, Nat.le_refl _, by unfold maxLen; omega⟩
  · exact ⟨_, _, rfl, hn, hc⟩
theorem xor8_range (z : Int) : 0 ≤ bits .xor .u8 z 8 ∧ bits .xor .u8 z 8 < 256 := by
  have := bounds_u8 (wf_bits .xor .u8 z 8)
  omega
theorem allGo_le (b : List Int) : ∀ (f : Nat) (p : Int) (acc : List Ins), (allGo b f p acc).1.length ≤ acc.length + f
  | 0, _, acc => by simp [allGo]
  | f + 1, p, acc => by
    rw [allGo]
    split
    · simp <;> omega
    · split
      · have := allGo_le b f (p + sizeOf (readAt b p).1.op) (acc ++ [(readAt b p).1])
        rw [List.length_append] at this
        simp at this ⊢
        omega
      · simp
theorem allOf_le (zs : List Int) : (allOf zs).1.length ≤ zs.length + 1 := by
  have := allGo_le zs (zs.length + 1) 0 []
  simpa [allOf] using this
/-- Three rows of instructions that lie in different blocks. -/
theorem fam3 {w : World} {base : Nat} {v1 v2 v3 : Value} {l1 l2 l3 : List Ins} (h1 : w.ownsRow base 26 5 v1 l1.length (flat l1)) (h2 : w.ownsRow base 26 5 v2 l2.length (flat l2)) (h3 : w.ownsRow base 26 5 v3 l3.length (flat l3))
    (d12 : ∀ g, v1.ownBlock = some g → v2.ownBlock ≠ some g) (d13 : ∀ g, v1.ownBlock = some g → v3.ownBlock ≠ some g) (d23 : ∀ g, v2.ownBlock = some g → v3.ownBlock ≠ some g) :
    G.Fam w base 26 5 (G.Rows0 [⟨v1, l1.length, flat l1⟩, ⟨v2, l2.length, flat l2⟩, ⟨v3, l3.length, flat l3⟩]) := by
  have ne : ∀ {a b : Value}, (∀ g, a.ownBlock = some g → b.ownBlock ≠ some g) → a.ownBlock = none ∨ a.ownBlock ≠ b.ownBlock := fun {a b} h => by
    cases ha : a.ownBlock with
    | none => exact .inl rfl
    | some g => exact .inr fun e => h g ha e.symm
  have ne' : ∀ {a b : Value}, (∀ g, a.ownBlock = some g → b.ownBlock ≠ some g) → b.ownBlock = none ∨ b.ownBlock ≠ a.ownBlock := fun {a b} h => by
    cases hb : b.ownBlock with
    | none => exact .inl rfl
    | some g => exact .inr fun e => h g e.symm hb
  refine ⟨fun r ⟨l, hl, e1, e2, e3⟩ => ?_, fun r ⟨l, hl, e1, _, _⟩ r' ⟨l', hl', e1', _, _⟩ ht => ?_⟩
  · obtain ⟨t, v, n, xs⟩ := r
    simp only at hl e1 e2 e3
    subst e1 e2 e3
    match t, hl with
    | 0, hl => obtain rfl := Option.some.inj hl; exact h1
    | 1, hl => obtain rfl := Option.some.inj hl; exact h2
    | 2, hl => obtain rfl := Option.some.inj hl; exact h3
    | (t + 3), hl => simp at hl
  · obtain ⟨t, v, n, xs⟩ := r
    obtain ⟨t', v', n', xs'⟩ := r'
    simp only at hl hl' e1 e1' ht ⊢
    subst e1 e1'
    match t, hl, t', hl', ht with
    | 0, hl, 0, hl', ht => exact absurd rfl ht
    | 1, hl, 1, hl', ht => exact absurd rfl ht
    | 2, hl, 2, hl', ht => exact absurd rfl ht
    | 0, hl, 1, hl', ht => obtain rfl := Option.some.inj hl; obtain rfl := Option.some.inj hl'; exact ne d12
    | 0, hl, 2, hl', ht => obtain rfl := Option.some.inj hl; obtain rfl := Option.some.inj hl'; exact ne d13
    | 1, hl, 2, hl', ht => obtain rfl := Option.some.inj hl; obtain rfl := Option.some.inj hl'; exact ne d23
    | 1, hl, 0, hl', ht => obtain rfl := Option.some.inj hl; obtain rfl := Option.some.inj hl'; exact ne' d12
    | 2, hl, 0, hl', ht => obtain rfl := Option.some.inj hl; obtain rfl := Option.some.inj hl'; exact ne' d13
    | 2, hl, 1, hl', ht => obtain rfl := Option.some.inj hl; obtain rfl := Option.some.inj hl'; exact ne' d23
    | (t + 3), hl, _, _, _ => simp at hl
    | _, _, (t' + 3), hl', _ => simp at hl'
/-- A row that was made later lies in another block. -/
theorem later_ne {w1 w2 : World} {b1 b2 : Nat} {e1 e2 : TypeId} {s1 s2 n1 n2 : Nat} {v1 v2 : Value} {x1 x2 : List Value} (h1 : w1.ownsRow b1 e1 s1 v1 n1 x1) (h2 : w2.ownsRow b2 e2 s2 v2 n2 x2) (h : w1.heap.size ≤ b2) : ∀ g, v1.ownBlock = some g → v2.ownBlock ≠ some g := by
  intro g hg hg2
  have a := (h1.lt g hg).2
  have b := (h2.lt g hg2).1
  omega
def nilBag : Array Value := #[.slice none 0 0, .slice none 0 0, .slice none 0 0, .slice none 0 0, .slice none 0 0, .slice none 0 0, .slice none 0 0, .slice none 0 0, .slice none 0 0, .slice none 0 0, .slice none 0 0, .slice none 0 0, .slice none 0 0, .slice none 0 0, .slice none 0 0, .slice none 0 0, .slice none 0 0, .slice none 0 0, .slice none 0 0, .slice none 0 0, .slice none 0 0]
theorem nilBag_at (i : Nat) (h : i < 21) : nilBag[i]? = some (.slice none 0 0) := by
  have h' : i = 0 ∨ i = 1 ∨ i = 2 ∨ i = 3 ∨ i = 4 ∨ i = 5 ∨ i = 6 ∨ i = 7 ∨ i = 8 ∨ i = 9 ∨ i = 10 ∨ i = 11 ∨ i = 12 ∨ i = 13 ∨ i = 14 ∨ i = 15 ∨ i = 16 ∨ i = 17 ∨ i = 18 ∨ i = 19 ∨ i = 20 := by omega
  rcases h' with rfl | rfl | rfl | rfl | rfl | rfl | rfl | rfl | rfl | rfl | rfl | rfl | rfl | rfl | rfl | rfl | rfl | rfl | rfl | rfl | rfl <;> rfl
theorem set_bytes (ys ms : List Int) {j : Nat} (hj : j < ys.length) (u : Int) : ((ys ++ ms).map (Value.int .u8)).set j (.int .u8 u) = ((ys.set j u) ++ ms).map (Value.int .u8) := by
  rw [← List.map_set, List.set_append_left _ _ hj]
theorem bytes_set {ys : List Int} (h : IsBytes ys) (j : Nat) {u : Int} (hu : 0 ≤ u ∧ u < 256) : IsBytes (ys.set j u) := by
  intro i
  rw [List.getD_eq_getElem?_getD, List.getElem?_set]
  split
  · split
    · exact hu
    · simp
  · have := h i
    rwa [List.getD_eq_getElem?_getD] at this
end Go.Proofs.YtfldicaaaadgaaaDoor.Code

/- A struct is stored into a row that the call owns: cell by cell. Plain Lean, no program in sight. -/
import Derived.Test.YtofgmijmhpmabaaGreatDoorMarks
namespace Go.Proofs.YtofgmijmhpmabaaGreatDoor.G
open Go Go.RowKit
set_option linter.unusedVariables false
set_option linter.unusedSimpArgs false
/-- The cells of a struct, stored one behind the other. -/
def setCells (w : World) (g p : Nat) : List Value → World
  | [] => w
  | u :: us => setCells (w.setCell ⟨g, p, none⟩ u) g (p + 1) us
theorem splice_cons {xs : List Value} {p : Nat} {u : Value} {us : List Value} (hp : p < xs.length) : (xs.set p u).take (p + 1) ++ us ++ (xs.set p u).drop (p + 1 + us.length) = xs.take p ++ (u :: us) ++ xs.drop (p + (u :: us).length) := by
  rw [List.take_set, List.drop_set, if_pos (by omega), List.take_succ_eq_append_getElem hp]
  rw [List.set_append_right _ _ (by rw [List.length_take]; omega), List.length_take]
  have : p - min p xs.length = 0 := by omega
  rw [this, List.set_cons_zero]
  simp only [List.length_cons, List.append_assoc, List.cons_append, List.nil_append]
  congr 4
  omega
theorem grown_trans {w w1 w2 : World} {row : Option Nat} (h : w.grownBy w1 row) (k : w1.grownBy w2 row) : w.grownBy w2 row :=
  ⟨k.os.trans h.os, k.tape.trans h.tape, k.output.trans h.output, Nat.le_trans h.size k.size, fun b hb hr => (k.block b (Nat.lt_of_lt_of_le hb h.size) hr).trans (h.block b hb hr)⟩
theorem own_setCells {base : Nat} {e : TypeId} {sz g n cap : Nat} : ∀ (us : List Value) {w : World} {xs : List Value} {p : Nat}, w.ownsRow base e sz (.slice (some ⟨g, 0, none⟩) n cap) n xs → p + us.length ≤ xs.length →
    (setCells w g p us).ownsRow base e sz (.slice (some ⟨g, 0, none⟩) n cap) n (xs.take p ++ us ++ xs.drop (p + us.length)) ∧ w.grownBy (setCells w g p us) (some g)
  | [], w, xs, p, h, hp => by
    refine ⟨?_, ⟨rfl, rfl, rfl, Nat.le_refl _, fun _ _ _ => rfl⟩⟩
    simp only [setCells, List.append_nil, List.length_nil, Nat.add_zero, List.take_append_drop]
    exact h
  | u :: us, w, xs, p, h, hp => by
    have hst := h.stored p u
    simp only [List.length_cons] at hp
    have ih := own_setCells us (p := p + 1) hst.1 (by rw [List.length_set]; omega)
    rw [splice_cons (by omega)] at ih
    exact ⟨ih.1, grown_trans hst.2 ih.2⟩
theorem Only.grown_in {E : TypeId} {B : Nat} {w w1 w2 : World} {g : Nat} {cs : Array Value} (h : Only E B w w1) (hg : w1.grownBy w2 (some g)) (hb : B ≤ g) (hB : B ≤ w1.heap.size) (hc : w1.heap[g]? = some (.cells cs E (0, 0))) : Only E B w w2 :=
  h.grown hg hB fun k hk => by
    obtain rfl := Option.some.inj hk
    exact ⟨hb, cs, hc⟩
theorem setmid {mk : Nat → Nat → List Value} {sz : Nat} (hmk : ∀ n i, (mk n i).length = sz) {n i : Nat} {xs : List Value} (hi : (i + 1) * sz ≤ xs.length) :
    (mks mk n i ++ xs.drop (i * sz)).take (i * sz) ++ mk n i ++ (mks mk n i ++ xs.drop (i * sz)).drop (i * sz + (mk n i).length) = mks mk n i ++ mk n i ++ xs.drop ((i + 1) * sz) := by
  have h1 : (mks mk n i).length = i * sz := mks_length hmk n i
  rw [List.take_left' h1, hmk, List.drop_append, h1, List.drop_eq_nil_of_le (by omega), List.nil_append, List.drop_drop, Nat.succ_mul]
  congr 2
  omega
theorem mark_cellc {w : World} {base : Nat} {e : TypeId} {g cap m n j sz c : Nat} {mk : Nat → Nat → List Value} {u : Value} (hmk : ∀ n i, (mk n i).length = sz) (h : w.ownsRow base e sz (.slice (some ⟨g, 0, none⟩) m cap) m (mks mk n m)) (hj : j < m) (hu : (mk n j)[c]? = some u) :
    w.cell? ⟨g, j * sz + c, none⟩ = some u := by
  have hc : c < sz := by rw [← hmk n j]; exact (List.getElem?_eq_some_iff.1 hu).1
  have h1 := mks_at hmk n m j c hj hc
  have h2 : j * sz + c < m * sz := by
    have : (j + 1) * sz ≤ m * sz := Nat.mul_le_mul_right _ hj
    rw [Nat.succ_mul] at this
    omega
  rw [h.cellAt _ h2, h1, hu]
theorem cells5_use {Q : Prop} {w : World} {base : Nat} {e : TypeId} {g n cap j : Nat} {xs : List Value} (h : w.ownsRow base e 5 (.slice (some ⟨g, 0, none⟩) n cap) n xs) (hj : j < n)
    (hQ : ∀ y0 y1 y2 y3 y4, w.cell? ⟨g, j * 5, none⟩ = some y0 → w.cell? ⟨g, j * 5 + 1, none⟩ = some y1 → w.cell? ⟨g, j * 5 + 2, none⟩ = some y2 → w.cell? ⟨g, j * 5 + 3, none⟩ = some y3 → w.cell? ⟨g, j * 5 + 4, none⟩ = some y4 →
      w.frozen? ⟨g, j * 5, none⟩ = false → w.frozen? ⟨g, j * 5 + 1, none⟩ = false → w.frozen? ⟨g, j * 5 + 2, none⟩ = false → w.frozen? ⟨g, j * 5 + 3, none⟩ = false → w.frozen? ⟨g, j * 5 + 4, none⟩ = false → Q) : Q := by
  have hc : ∀ c, c < 5 → w.cell? ⟨g, j * 5 + c, none⟩ = some (xs.getD (j * 5 + c) undef) := fun c hc => by
    rw [h.cellAt _ (by omega), List.getD_eq_getElem?_getD, List.getElem?_eq_getElem (by rw [h.1]; omega)]
    rfl
  exact hQ _ _ _ _ _ (hc 0 (by omega)) (hc 1 (by omega)) (hc 2 (by omega)) (hc 3 (by omega)) (hc 4 (by omega)) (h.frozenAt _) (h.frozenAt _) (h.frozenAt _) (h.frozenAt _) (h.frozenAt _)
end Go.Proofs.YtofgmijmhpmabaaGreatDoor.G

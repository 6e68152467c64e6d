/- An argument that is a slice of structs, opened. Plain Lean, no program in sight. (open_slice_fields: after the guide's extra-structs.) -/
import Derived.Deep.Slices
import Derived.Deep.Fields
import Derived.ChangeSame
import Derived.Test.YtofgmijmhpmabaaGreatDoorWords
namespace Go.Proofs.YtofgmijmhpmabaaGreatDoor.G
open Go Go.ChangeShapes Go.WideShapes Go.Deep Go.RowKit
set_option linter.unusedVariables false
set_option linter.unusedSimpArgs false
section
variable {H : Type} {enc : TypeId × Value → H} {P : Program} {w : World} {base : Nat} {spare : Nat → Bool} {held : Bool}
theorem open_slice_fields {t e : TypeId} {fs : Array Field} {fuel : Nat} {cs : List Value} {x : DataW H × List MemPlace} (ht : P.underlying t = some (.slice e)) (he : P.underlying e = some (.struct fs))
    (hone : oneCellFields P fs = true) (hC : P.cellsOf e = fs.size) (h : DataW.trod enc P w base spare held fuel t cs = some x) :
    (cs = [.slice none 0 0] ∧ x = (.nil, [])) ∨
    ∃ (a : Addr) (len cap m : Nat) (D : Nat → DataW H) (Pl : Nat → List MemPlace), cs = [.slice (some a) len cap] ∧ base ≤ a.block ∧ len ≤ cap ∧ cap ≤ maxLen ∧ m = (if spare a.block then cap else len) ∧
      x = (.slice ((List.range len).map D) ((List.range (m - len)).map fun j => D (len + j)), MemPlace.row a (m * fs.size) ++ (List.range m).flatMap Pl) ∧
      ∀ i, i < m → ∃ (ys : List (DataW H × List MemPlace)) (n : Nat), D i = .agg (ys.map (·.1)) ∧ Pl i = ys.flatMap (·.2) ∧ ys.length = fs.size ∧
        ∀ (j : Nat) (f : Field), fs[j]? = some f → ∃ (v : Value) (y : DataW H × List MemPlace), w.cell? (a.add (i * fs.size + j)) = some v ∧ ys[j]? = some y ∧ DataW.trod enc P w base spare held n f.type [v] = some y := by
  rcases open_slice ht h with h0 | ⟨a, len, cap, m, n, D, Pl, hcs, hb, hl, hm, hmm, hx, hi⟩
  · exact .inl h0
  · refine .inr ⟨a, len, cap, m, D, Pl, hcs, hb, hl, hm, hmm, by rw [hC] at hx; exact hx, fun i him => ?_⟩
    obtain ⟨cs', hc, ht'⟩ := hi i him
    rw [hC] at hc
    obtain ⟨ys, n', hn', hy, hlen, hyl, hf⟩ := DataW.trod_struct he ht'
    obtain ⟨_, hcl, hat⟩ := World.cells?_some hc
    simp only [Prod.mk.injEq] at hy
    refine ⟨ys, n', hy.1, hy.2, hyl, fun j f hj => ?_⟩
    obtain ⟨ho, hk⟩ := hone_of hone j f hj
    have hjl : j < fs.size := (Array.getElem?_eq_some_iff.1 hj).1
    have hcell := hat j hjl
    have hv : cs'[j]? = some (cs'[j]'(by omega)) := List.getElem?_eq_getElem (by omega)
    have h1 := hf j f hj
    rw [ho, hk] at h1
    have hone' : (cs'.drop j).take 1 = [cs'[j]'(by omega)] := by
      rw [List.drop_eq_getElem_cons (by omega)]
      rfl
    rw [hone'] at h1
    have hys : ys[j]? = some (ys[j]'(by omega)) := List.getElem?_eq_getElem (by omega)
    refine ⟨_, _, ?_, hys, h1.trans hys⟩
    rw [← Go.Deep.add_add, hcell, hv]
end
theorem list_of {α : Type} (d : α) (P : Nat → α → Prop) : ∀ m : Nat, (∀ i, i < m → ∃ x, P i x) → ∃ l : List α, l.length = m ∧ ∀ i, i < m → P i (l.getD i d)
  | 0, _ => ⟨[], rfl, fun i hi => by omega⟩
  | m + 1, h => by
    obtain ⟨l, hl, hp⟩ := list_of d P m (fun i hi => h i (by omega))
    obtain ⟨x, hx⟩ := h m (by omega)
    refine ⟨l ++ [x], by simp [hl], fun i hi => ?_⟩
    rw [List.getD_eq_getElem?_getD]
    by_cases e : i < m
    · rw [List.getElem?_append_left (by omega), ← List.getD_eq_getElem?_getD]
      exact hp i e
    · obtain rfl : i = m := by omega
      rw [List.getElem?_append_right (by omega), hl, Nat.sub_self]
      exact hx
theorem flat_getD {α : Type} (f : α → List Value) (sz : Nat) (hf : ∀ x, (f x).length = sz) (d : α) : ∀ (l : List α) (i j : Nat), i < l.length → j < sz → (l.flatMap f).getD (i * sz + j) undef = (f (l.getD i d)).getD j undef
  | [], i, j, hi, _ => by simp at hi
  | x :: l, 0, j, _, hj => by
    rw [List.flatMap_cons, Nat.zero_mul, Nat.zero_add, List.getD_eq_getElem?_getD, List.getElem?_append_left (by rw [hf]; exact hj), ← List.getD_eq_getElem?_getD]
    rfl
  | x :: l, i + 1, j, hi, hj => by
    have ih := flat_getD f sz hf d l i j (by simp at hi; omega) hj
    rw [List.flatMap_cons, List.getD_eq_getElem?_getD, List.getElem?_append_right (by rw [hf, Nat.succ_mul]; omega), hf, ← List.getD_eq_getElem?_getD]
    have e : (i + 1) * sz + j - sz = i * sz + j := by rw [Nat.succ_mul]; omega
    rw [e, ih]
    rfl
theorem flat_len {α : Type} (f : α → List Value) (sz : Nat) (hf : ∀ x, (f x).length = sz) (l : List α) : (l.flatMap f).length = l.length * sz := by
  induction l with
  | nil => simp
  | cons x l ih => rw [List.flatMap_cons, List.length_append, ih, hf, List.length_cons, Nat.succ_mul]; omega
/-- Cells of structs, element by element, read as the list. -/
theorem rdV_structs {α : Type} {f : α → List Value} {sz : Nat} (hf : ∀ x, (f x).length = sz) (d : α) {w : World} {b off len : Nat} {l : List α} (hb : b < w.heap.size) (hl : l.length = len)
    (h : ∀ i, i < len → ∀ j, j < sz → w.cell? ⟨b, off + (i * sz + j), none⟩ = some ((f (l.getD i d)).getD j undef)) : RdV w b off (l.flatMap f) := by
  refine ⟨hb, fun k hk => ?_⟩
  rw [flat_len f sz hf, hl] at hk
  have hsz : 0 < sz := by
    rcases Nat.eq_zero_or_pos sz with e | e
    · rw [e] at hk; omega
    · exact e
  have e : k = k / sz * sz + k % sz := by rw [Nat.mul_comm]; exact (Nat.div_add_mod k sz).symm
  have h1 : k / sz < len := by rw [Nat.div_lt_iff_lt_mul hsz]; exact hk
  have h2 : k % sz < sz := Nat.mod_lt _ hsz
  rw [e, flat_getD f sz hf d l _ _ (by omega) h2]
  exact h _ h1 _ h2
theorem plain_addr {w : World} {a : Addr} {v : Value} {n : Nat} (h : w.cell? (a.add n) = some v) (hn : n = 0) : ∃ b off, a = ⟨b, off, none⟩ := by
  obtain ⟨b, off, spot⟩ := a
  subst hn
  have hspot : spot = none := by simpa [Addr.add] using World.cell?_spot h
  subst hspot
  exact ⟨b, off, rfl⟩
end Go.Proofs.YtofgmijmhpmabaaGreatDoor.G

/- Words for memory: slices that read as lists, blocks known whole, worlds that differ in blocks of one element type alone. Plain Lean, no program in sight. -/
import Derived.Below
import Derived.Laws.OwnMore
import Derived.Deep.AppendLies
import Derived.Deep.Draws
import Derived.Laws.Rows
import Derived.WalkKit
namespace Go.Proofs.YtofgmijmhpmabaaGreatDoor.G
open Go Go.RowKit
set_option linter.unusedVariables false
set_option linter.unusedSimpArgs false
/-! ### The world behind a call -/
theorem bl_alloc {a w : World} (h : Below a.heap.size a w) (o : Obj) : Below a.heap.size a (w.alloc o) := h.alloc h.size o
theorem bl_trans {a w w' : World} (h : Below a.heap.size a w) (k : Below w.heap.size w w') : Below a.heap.size a w' := h.trans (k.mono h.size)
theorem bl_drewN {a w : World} {B : Nat} (h : Below B a w) (n : Nat) : Below B a (w.drewN n) := ⟨h.os, h.tape, h.output, h.size, h.block⟩
theorem bl_set {a w : World} (h : Below a.heap.size a w) {p : Addr} (hp : a.heap.size ≤ p.block) (u : Value) : Below a.heap.size a (w.setCell p u) := h.setCell hp u
/-- All old cells and marks read as before. -/
theorem bl_cells {W w1 : World} (hb : Below W.heap.size W w1) : (∀ b o, b < W.heap.size → w1.cell? ⟨b, o, none⟩ = W.cell? ⟨b, o, none⟩) ∧ (∀ b o, b < W.heap.size → w1.frozen? ⟨b, o, none⟩ = W.frozen? ⟨b, o, none⟩) :=
  ⟨fun b o h => hb.cell (p := ⟨b, o, none⟩) h, fun b o h => hb.frozen (p := ⟨b, o, none⟩) h⟩
/-! ### Cells that read as a list -/
def RdV (w : World) (b off : Nat) (xs : List Value) : Prop := b < w.heap.size ∧ ∀ j, j < xs.length → w.cell? ⟨b, off + j, none⟩ = some (xs.getD j undef)
theorem RdV.keep {w w' : World} {b off : Nat} {xs : List Value} (h : RdV w b off xs) (hs : b < w'.heap.size) (hb : w'.heap[b]? = w.heap[b]?) : RdV w' b off xs :=
  ⟨hs, fun j hj => (World.cell?_of_block (w := w) (a := ⟨b, off + j, none⟩) hb).trans (h.2 j hj)⟩
theorem RdV.below {w w' : World} {b off : Nat} {xs : List Value} (h : RdV w b off xs) (hb : Below w.heap.size w w') : RdV w' b off xs :=
  h.keep (Nat.lt_of_lt_of_le h.1 hb.size) (hb.block b h.1)
/-- A slice's address, its length, its elements' size: what it reads as. -/
def RdS (w : World) (A : Option Addr) (sz n : Nat) (xs : List Value) : Prop := xs.length = n * sz ∧ (0 < n → ∃ b off, A = some ⟨b, off, none⟩ ∧ RdV w b off xs)
theorem RdS.below {w w' : World} {A : Option Addr} {sz n : Nat} {xs : List Value} (h : RdS w A sz n xs) (hb : Below w.heap.size w w') : RdS w' A sz n xs :=
  ⟨h.1, fun hn => by obtain ⟨b, off, e, hr⟩ := h.2 hn; exact ⟨b, off, e, hr.below hb⟩⟩
theorem RdS.nil {w : World} {sz : Nat} (A : Option Addr) : RdS w A sz 0 [] := ⟨by simp, fun h => absurd h (by omega)⟩
theorem RdS.of_rdV {w : World} {b off sz n : Nat} {xs : List Value} (h : RdV w b off xs) (hn : xs.length = n * sz) : RdS w (some ⟨b, off, none⟩) sz n xs := ⟨hn, fun _ => ⟨b, off, rfl, h⟩⟩
theorem RdS.of_own {w : World} {base : Nat} {e : TypeId} {sz n c : Nat} {A : Option Addr} {xs : List Value} (h : w.ownsRow base e sz (.slice A n c) n xs) : RdS w A sz n xs := by
  refine ⟨h.1, fun hn => ?_⟩
  rcases h.2 with ⟨hv, h0⟩ | ⟨g, cap, cur, hv, hb, hgg, hnc, hc, hcs, ht⟩
  · omega
  · simp only [Value.slice.injEq] at hv
    obtain ⟨rfl, _, _⟩ := hv
    refine ⟨g, 0, rfl, (Array.getElem?_eq_some_iff.1 hgg).1, fun j hj => ?_⟩
    have h1 := h.1
    rw [Nat.zero_add, cell_of_row _ _ j _ e (0, 0) hgg]
    have h2 : (cur.toList.take (n * sz))[j]? = some (xs.getD j undef) := by rw [ht, List.getD_eq_getElem?_getD, List.getElem?_eq_getElem hj]; rfl
    rw [List.getElem?_take] at h2
    split at h2
    · simpa using h2
    · cases h2
theorem own_shape {w : World} {base : Nat} {e : TypeId} {size : Nat} {v : Value} {n : Nat} {xs : List Value} (h : w.ownsRow base e size v n xs) : ∃ ao cap, v = .slice ao n cap := by
  rcases h.2 with ⟨rfl, rfl⟩ | ⟨g, cap, cur, rfl, _⟩
  · exact ⟨_, _, rfl⟩
  · exact ⟨_, _, rfl⟩
theorem own_below {w w' : World} {base : Nat} {e : TypeId} {size : Nat} {v : Value} {n : Nat} {xs : List Value} (h : w.ownsRow base e size v n xs) (hb : Below w.heap.size w w') : w'.ownsRow base e size v n xs :=
  h.kept (row := none) ⟨hb.os, hb.tape, hb.output, hb.size, fun k hk _ => hb.block k hk⟩ (by cases hv : v.ownBlock <;> simp)
theorem own_ge {w : World} {base base' : Nat} {e : TypeId} {size : Nat} {v : Value} {n : Nat} {xs : List Value} (h : w.ownsRow base e size v n xs) (hb : base' ≤ base) : w.ownsRow base' e size v n xs :=
  ⟨h.1, h.2.imp id fun ⟨g, cap, cur, e1, h2, r⟩ => ⟨g, cap, cur, e1, Nat.le_trans hb h2, r⟩⟩
/-! ### A block known whole -/
def Blk (w : World) (g : Nat) (t : TypeId) (cs : Array Value) : Prop := w.heap[g]? = some (.cells cs t (0, 0))
section
variable {w w' : World} {g : Nat} {t : TypeId} {cs : Array Value}
theorem Blk.lt (h : Blk w g t cs) : g < w.heap.size := (Array.getElem?_eq_some_iff.1 h).1
theorem Blk.cell (h : Blk w g t cs) (i : Nat) : w.cell? ⟨g, i, none⟩ = cs[i]? := cell_of_row w g i cs t (0, 0) h
theorem Blk.frozen (h : Blk w g t cs) (i : Nat) : w.frozen? ⟨g, i, none⟩ = false := by
  unfold Blk at h
  simp [World.frozen?, h]
theorem Blk.new (w : World) (t : TypeId) (cs : Array Value) : Blk (w.alloc (.cells cs t)) w.heap.size t cs := heap_alloc_new w _
theorem Blk.same (h : Blk w g t cs) (hb : w'.heap[g]? = w.heap[g]?) : Blk w' g t cs := hb.trans h
theorem Blk.below {B : Nat} (h : Blk w g t cs) (hb : Below B w w') (hg : g < B) : Blk w' g t cs := (hb.block g hg).trans h
theorem Blk.put (h : Blk w g t cs) (i : Nat) (u : Value) : Blk (w.setCell ⟨g, i, none⟩ u) g t (cs.setIfInBounds i u) := by
  unfold Blk at h ⊢
  simp [World.setCell, Array.getElem?_modify, h]
theorem Blk.own {base sz n cap : Nat} (h : Blk w g t cs) (hb : base ≤ g) (hn : n ≤ cap) (hc : cap ≤ maxLen) (hs : cs.size = cap * sz) : w.ownsRow base t sz (.slice (some ⟨g, 0, none⟩) n cap) n (cs.toList.take (n * sz)) :=
  ⟨by rw [List.length_take, Array.length_toList, hs]; exact Nat.min_eq_left (Nat.mul_le_mul_right _ hn), .inr ⟨g, cap, cs, rfl, hb, h, hn, hc, hs, rfl⟩⟩
theorem Blk.rdV (h : Blk w g t cs) : RdV w g 0 cs.toList :=
  ⟨h.lt, fun j hj => by rw [Nat.zero_add, h.cell, List.getD_eq_getElem?_getD, List.getElem?_eq_getElem hj]; simp at hj; simp [hj]⟩
end
/-! ### Only blocks of one element type have changed -/
structure Only (E : TypeId) (B : Nat) (w w' : World) : Prop where
  below : Below B w w'
  other : ∀ (k : Nat) (cs : Array Value) (t : TypeId) (fr : Nat × Nat), w.heap[k]? = some (Obj.cells cs t fr) → t ≠ E → w'.heap[k]? = some (Obj.cells cs t fr)
section
variable {E : TypeId} {B : Nat} {w w1 w' : World}
theorem Only.refl (E : TypeId) (B : Nat) (w : World) : Only E B w w := ⟨Below.refl _ _, fun _ _ _ _ h _ => h⟩
theorem Only.trans (h : Only E B w w1) (k : Only E B w1 w') : Only E B w w' := ⟨h.below.trans k.below, fun g cs t fr hg ht => k.other g cs t fr (h.other g cs t fr hg ht) ht⟩
theorem Only.mono {B' : Nat} (h : Only E B w w') (hB : B' ≤ B) : Only E B' w w' := ⟨h.below.mono hB, h.other⟩
theorem Only.of_below (h : Below w.heap.size w w') (hB : B ≤ w.heap.size) : Only E B w w' :=
  ⟨h.mono hB, fun k cs t fr hk _ => (h.block k (Array.getElem?_eq_some_iff.1 hk).1).trans hk⟩
theorem Only.later (h : Only E B w w1) (hB : B ≤ w1.heap.size) (hb : Below w1.heap.size w1 w') : Only E B w w' := h.trans (Only.of_below hb hB)
theorem Only.drewN (h : Only E B w w1) (n : Nat) : Only E B w (w1.drewN n) := ⟨bl_drewN h.below n, h.other⟩
theorem Only.alloc (h : Only E B w w1) (hB : B ≤ w1.heap.size) (o : Obj) : Only E B w (w1.alloc o) :=
  h.trans (Only.of_below (bl_alloc (Below.refl _ _) o) hB)
theorem Only.grown {row : Option Nat} (h : Only E B w w1) (hg : w1.grownBy w' row) (hB : B ≤ w1.heap.size) (hr : ∀ g, row = some g → B ≤ g ∧ ∃ cs, w1.heap[g]? = some (.cells cs E (0, 0))) : Only E B w w' := by
  refine h.trans ⟨(Below.refl _ _).grown hg hB fun k hk => (hr k hk).1, fun k cs t fr hk ht => ?_⟩
  by_cases hrow : some k = row
  · obtain ⟨_, cs', hc⟩ := hr k hrow.symm
    rw [hk] at hc
    simp only [Option.some.injEq, Obj.cells.injEq] at hc
    exact absurd hc.2.1 ht
  · exact (hg.block k (Array.getElem?_eq_some_iff.1 hk).1 hrow).trans hk
theorem Only.grown_new {row : Option Nat} (h : Only E B w w1) (hg : w1.grownBy w' row) (hB : B ≤ w.heap.size) (hr : ∀ g, row = some g → w.heap.size ≤ g) : Only E B w w' :=
  ⟨h.below.grown hg (Nat.le_trans hB h.below.size) fun k hk => Nat.le_trans hB (hr k hk), fun k cs t fr hk ht => by
    have hlt := (Array.getElem?_eq_some_iff.1 hk).1
    exact (hg.block k (Nat.lt_of_lt_of_le hlt h.below.size) fun e => by have := hr k e.symm; omega).trans (h.other k cs t fr hk ht)⟩
theorem cells_new (X : World) (l : List Value) (t : TypeId) (n : Nat) (hn : n = X.heap.size) : ∀ j u, l[j]? = some u → (X.alloc (.cells l.toArray t)).cell? ((⟨n, 0, none⟩ : Addr).add j) = some u := by
  intro j u hu
  subst hn
  rw [Addr.add_lit, Nat.zero_add, cell_of_row _ _ j l.toArray t (0, 0) (heap_alloc_new X _)]
  simpa using hu
theorem Only.set (h : Only E B w w1) {p : Addr} (hp : B ≤ p.block) {cs : Array Value} (hc : w1.heap[p.block]? = some (.cells cs E (0, 0))) (u : Value) : Only E B w (w1.setCell p u) := by
  refine h.trans ⟨(Below.refl _ _).setCell hp u, fun k cs' t fr hk ht => ?_⟩
  by_cases hkp : k = p.block
  · subst hkp
    rw [hk] at hc
    simp only [Option.some.injEq, Obj.cells.injEq] at hc
    exact absurd hc.2.1 ht
  · exact (Below.heap_setCell w1 p u k hkp).trans hk
theorem Only.blk (h : Only E B w w') {g : Nat} {t : TypeId} {cs : Array Value} (hb : Blk w g t cs) (ht : t ≠ E) : Blk w' g t cs := h.other g cs t (0, 0) hb ht
theorem Only.own (h : Only E B w w') {base : Nat} {e : TypeId} {sz n : Nat} {v : Value} {xs : List Value} (ho : w.ownsRow base e sz v n xs) (he : e ≠ E) : w'.ownsRow base e sz v n xs := by
  refine ⟨ho.1, ho.2.imp id fun ⟨g, cap, cur, e1, h2, h3, r⟩ => ⟨g, cap, cur, e1, h2, h.other g cur e (0, 0) h3 he, r⟩⟩
end
end Go.Proofs.YtofgmijmhpmabaaGreatDoor.G

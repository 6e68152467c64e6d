/- What a look-up in the table of kinds gives; the blocks that its rows name. -/
import Derived.Test.YtamienmbpdbnnaaTKinds
namespace Go.Proofs.Ytamienmbpdbnnaa.T
open Go Go.RowKit
set_option linter.unusedVariables false
set_option linter.unusedSimpArgs false
theorem allocs_below (l : List (Array Value × TypeId)) : ∀ W : World, Below W.heap.size W (allocs W l) := by
  induction l with
  | nil => intro W; exact Below.refl _ _
  | cons c l ih => intro W; exact G.bl_trans (G.bl_alloc (Below.refl _ _) _) (ih _)
theorem allocs_at (l : List (Array Value × TypeId)) : ∀ (W : World) (i : Nat) (c : Array Value × TypeId), l[i]? = some c → G.Blk (allocs W l) (W.heap.size + i) c.2 c.1 := by
  induction l with
  | nil => intro W i c h; simp at h
  | cons x l ih =>
    intro W i c h
    cases i with
    | zero =>
      obtain rfl : x = c := by simpa using h
      exact (G.Blk.new W x.2 x.1).below (allocs_below l _) (by simp)
    | succ i =>
      have h1 := ih (W.alloc (.cells x.1 x.2)) i c (by simpa using h)
      rw [World.size_alloc] at h1
      have e : W.heap.size + 1 + i = W.heap.size + (i + 1) := by omega
      rw [e] at h1
      exact h1
/-- The table of kinds stands in a world. -/
structure KOk (W : World) (B : Nat) : Prop where
  map : W.heap[B]? = some (.map (kEntriesFrom B 0 table).toArray 40)
  own : ∀ op r, rowOf op = some r → r.own ≠ [] → G.Blk W (B + ownIdx op) 47 (ints r.own).toArray
  box : ∀ op r, rowOf op = some r → (r.tk = 3 ∨ r.tk = 4) → G.Blk W (B + boxIdx op) 77 #[.slice (some ⟨B + boxIdx op - 1, 0, none⟩) 2 2] ∧ G.Blk W (B + boxIdx op - 1) 9 (if r.tk = 3 then twoStr selfL meL else twoStr hitL drawL)
theorem KOk.lt {W : World} {B : Nat} (h : KOk W B) : B < W.heap.size := (Array.getElem?_eq_some_iff.1 h.map).1
theorem KOk.below {W W' : World} {B : Nat} (h : KOk W B) (hb : Below W.heap.size W W') : KOk W' B :=
  ⟨(hb.block B h.lt).trans h.map, fun op r h1 h2 => (h.own op r h1 h2).below hb (h.own op r h1 h2).lt, fun op r h1 h2 => ⟨(h.box op r h1 h2).1.below hb (h.box op r h1 h2).1.lt, (h.box op r h1 h2).2.below hb (h.box op r h1 h2).2.lt⟩⟩
theorem row_mem {op : Int} {r : KRow} (h : rowOf op = some r) : (op, r) ∈ table := by
  unfold rowOf at h
  obtain ⟨x, hx1, hx2⟩ := Option.map_eq_some_iff.1 h
  have h1 := List.mem_of_find?_eq_some hx1
  have h2 := List.find?_some hx1
  obtain ⟨a, b⟩ := x
  simp only [beq_iff_eq] at h2 hx2
  subst h2 hx2
  exact h1
def ownCellsOk (x : Int × KRow) : Prop := x.2.own ≠ [] → (kCells 0)[ownIdx x.1 - 1]? = some ((ints x.2.own).toArray, 47) ∧ 1 ≤ ownIdx x.1
theorem kCells_get (B i : Nat) (hi : i ≠ 3 ∧ i ≠ 10 ∧ i ≠ 12) : (kCells B)[i]? = (kCells 0)[i]? := by
  by_cases h : i < 29
  · have h' : i = 0 ∨ i = 1 ∨ i = 2 ∨ i = 4 ∨ i = 5 ∨ i = 6 ∨ i = 7 ∨ i = 8 ∨ i = 9 ∨ i = 11 ∨ i = 13 ∨ i = 14 ∨ i = 15 ∨ i = 16 ∨ i = 17 ∨ i = 18 ∨ i = 19 ∨ i = 20 ∨ i = 21 ∨ i = 22 ∨ i = 23 ∨ i = 24 ∨ i = 25 ∨ i = 26 ∨ i = 27 ∨ i = 28 := by omega
    rcases h' with rfl | rfl | rfl | rfl | rfl | rfl | rfl | rfl | rfl | rfl | rfl | rfl | rfl | rfl | rfl | rfl | rfl | rfl | rfl | rfl | rfl | rfl | rfl | rfl | rfl | rfl <;> rfl
  · rw [List.getElem?_eq_none (by show 29 ≤ i; omega), List.getElem?_eq_none (by show 29 ≤ i; omega)]
theorem own_table (x : Int × KRow) (h : x ∈ table) : ownCellsOk x := by
  simp only [table, List.mem_cons, List.not_mem_nil, or_false] at h
  rcases h with rfl | rfl | rfl | rfl | rfl | rfl | rfl | rfl | rfl | rfl | rfl | rfl | rfl | rfl | rfl | rfl | rfl | rfl | rfl | rfl | rfl | rfl | rfl | rfl | rfl | rfl | rfl | rfl | rfl | rfl | rfl | rfl | rfl | rfl | rfl | rfl | rfl | rfl | rfl | rfl
  all_goals first | (intro hne; exact absurd rfl hne) | (intro _; exact ⟨rfl, by decide⟩)
theorem own_idx (x : Int × KRow) (h : x ∈ table) : x.2.own ≠ [] → ownIdx x.1 - 1 ≠ 3 ∧ ownIdx x.1 - 1 ≠ 10 ∧ ownIdx x.1 - 1 ≠ 12 := by
  simp only [table, List.mem_cons, List.not_mem_nil, or_false] at h
  rcases h with rfl | rfl | rfl | rfl | rfl | rfl | rfl | rfl | rfl | rfl | rfl | rfl | rfl | rfl | rfl | rfl | rfl | rfl | rfl | rfl | rfl | rfl | rfl | rfl | rfl | rfl | rfl | rfl | rfl | rfl | rfl | rfl | rfl | rfl | rfl | rfl | rfl | rfl | rfl | rfl
  all_goals first | (intro hne; exact absurd rfl hne) | (intro _; decide)
theorem box_table (B : Nat) (x : Int × KRow) (h : x ∈ table) : (x.2.tk = 3 ∨ x.2.tk = 4) →
    (kCells B)[boxIdx x.1 - 1]? = some (#[.slice (some ⟨B + boxIdx x.1 - 1, 0, none⟩) 2 2], 77) ∧ (kCells B)[boxIdx x.1 - 2]? = some (if x.2.tk = 3 then twoStr selfL meL else twoStr hitL drawL, 9) ∧ 2 ≤ boxIdx x.1 := by
  simp only [table, List.mem_cons, List.not_mem_nil, or_false] at h
  rcases h with rfl | rfl | rfl | rfl | rfl | rfl | rfl | rfl | rfl | rfl | rfl | rfl | rfl | rfl | rfl | rfl | rfl | rfl | rfl | rfl | rfl | rfl | rfl | rfl | rfl | rfl | rfl | rfl | rfl | rfl | rfl | rfl | rfl | rfl | rfl | rfl | rfl | rfl | rfl | rfl
  all_goals first | (intro hne; exact absurd hne (by decide)) | (intro _; exact ⟨rfl, rfl, by decide⟩)
theorem kWorld_below (w : World) : Below w.heap.size w (kWorld w) := G.bl_trans (G.bl_alloc (Below.refl _ _) _) (allocs_below _ _)
theorem kWorld_ok (w : World) : KOk (kWorld w) w.heap.size := by
  have hal := fun i c h => allocs_at (kCells w.heap.size) (w.alloc (.map (kEntriesFrom w.heap.size 0 table).toArray 40)) i c h
  simp only [World.size_alloc] at hal
  refine ⟨?_, fun op r hr hne => ?_, fun op r hr htk => ?_⟩
  · exact ((allocs_below (kCells w.heap.size) (w.alloc (.map (kEntriesFrom w.heap.size 0 table).toArray 40))).block w.heap.size (by simp)).trans (heap_alloc_new w _)
  · have h1 := own_table (op, r) (row_mem hr) hne
    have h2 := own_idx (op, r) (row_mem hr) hne
    have h3 := hal (ownIdx op - 1) _ ((kCells_get w.heap.size _ h2).trans h1.1)
    have h4 : 1 ≤ ownIdx op := h1.2
    have e : w.heap.size + 1 + (ownIdx op - 1) = w.heap.size + ownIdx op := by omega
    rw [e] at h3
    exact h3
  · obtain ⟨h1, h2, h3⟩ := box_table w.heap.size (op, r) (row_mem hr) htk
    have h3' : 2 ≤ boxIdx op := h3
    have a1 := hal (boxIdx op - 1) _ h1
    have a2 := hal (boxIdx op - 2) _ h2
    have e1 : w.heap.size + 1 + (boxIdx op - 1) = w.heap.size + boxIdx op := by omega
    have e2 : w.heap.size + 1 + (boxIdx op - 2) = w.heap.size + boxIdx op - 1 := by omega
    rw [e1] at a1
    rw [e2] at a2
    exact ⟨a1, a2⟩
theorem find_entries (B : Nat) (op : Int) : ∀ (l : List (Int × KRow)) (n i : Nat),
    (∃ j, Instr.findNow (.int .i8) (.int .i8 op) (kEntriesFrom B n l) i = some ((l.find? fun r => r.1 == op).map fun r => (j, rowV B op r.2)))
  | [], _, _ => ⟨0, rfl⟩
  | r :: l, n, i => by
    simp only [kEntriesFrom]
    rw [findNow_cons]
    by_cases h : op = r.1
    · refine ⟨i, ?_⟩
      simp [h]
    · obtain ⟨j, hj⟩ := find_entries B op l (n + 1) (i + 1)
      refine ⟨j, ?_⟩
      have h' : (r.1 == op) = false := by simpa using fun e => h e.symm
      rw [if_neg h, hj, List.find?_cons, h']
def zeroKind : Value := .agg #[.nilFunc, .int .i64 0, .slice none 0 0, .int .i64 0, .bool false, .int .i64 0]
/-- A look-up in the table. -/
theorem lookup_yes {W : World} {B : Nat} (h : KOk W B) {op : Int} {r : KRow} (hr : rowOf op = some r) :
    (Instr.lookup 53 (.map (some B)) (.int .i8 op) true).run Try.prog W = .ok (.tuple #[rowV B op r, .bool true]) W := by
  have hb := h.map
  obtain ⟨j, hj⟩ := find_entries B op table 0 0
  have hkey : MapKept.IsKey (.int .i8) (.int .i8 op) := rfl
  have hf : Instr.findNow (.int .i8) (.int .i8 op) ((kEntriesFrom B 0 table).toArray).toList 0 = some ((table.find? fun r => r.1 == op).map fun r => (j, rowV B op r.2)) := hj
  unfold rowOf at hr
  obtain ⟨x, hx1, hx2⟩ := Option.map_eq_some_iff.1 hr
  rw [hx1] at hf
  subst hx2
  simp [Instr.lookup, run_underlying Try.underlying53, MapKept.run_getObj_map hb, MapKept.run_checkKey Try.underlying31 hkey, MapKept.run_findKey Try.underlying31 hf, Result.andThen]
theorem lookup_no {W : World} {B : Nat} (h : KOk W B) {op : Int} (hr : rowOf op = none) :
    (Instr.lookup 53 (.map (some B)) (.int .i8 op) true).run Try.prog W = .ok (.tuple #[zeroKind, .bool false]) W := by
  have hb := h.map
  obtain ⟨j, hj⟩ := find_entries B op table 0 0
  have hkey : MapKept.IsKey (.int .i8) (.int .i8 op) := rfl
  have hf : Instr.findNow (.int .i8) (.int .i8 op) ((kEntriesFrom B 0 table).toArray).toList 0 = some ((table.find? fun r => r.1 == op).map fun r => (j, rowV B op r.2)) := hj
  unfold rowOf at hr
  rw [Option.map_eq_none_iff] at hr
  rw [hr] at hf
  simp [Instr.lookup, run_underlying Try.underlying53, MapKept.run_getObj_map hb, MapKept.run_checkKey Try.underlying31 hkey, MapKept.run_findKey Try.underlying31 hf, Result.andThen]
  rfl
end Go.Proofs.Ytamienmbpdbnnaa.T

/- A list of its own with marks behind it, the marks looked at, a plain copy: the contracts of tableauref00.WideBytes, SpareBytes, CopyBytes. -/
import Derived.Test.YtofgmijmhpmabaaGreatDoorEqInt
import Derived.OwnWalk
import Derived.Laws.AppendOwnNone
namespace Go.Proofs.YtofgmijmhpmabaaGreatDoor.G
open Go Go.RowKit
set_option linter.unusedVariables false
set_option linter.unusedSimpArgs false
/-- Rows between what is there and what is to come. -/
def mid (F Z : List Value) (k : Nat) : List Value := F.take k ++ Z.drop k
theorem mid_zero (F Z : List Value) : mid F Z 0 = Z := by simp [mid]
theorem mid_full {F Z : List Value} {n : Nat} (hF : F.length = n) (hZ : Z.length = n) : mid F Z n = F := by
  unfold mid
  rw [List.take_of_length_le (by omega), List.drop_eq_nil_of_le (by omega), List.append_nil]
theorem mid_length {F Z : List Value} {n k : Nat} (hF : F.length = n) (hZ : Z.length = n) : (mid F Z k).length = n := by
  unfold mid
  rw [List.length_append, List.length_take, List.length_drop]
  omega
theorem mid_set {F Z : List Value} {n k : Nat} {u : Value} (hF : F.length = n) (hZ : Z.length = n) (hk : k < n) (hu : F[k]? = some u) : (mid F Z k).set k u = mid F Z (k + 1) := by
  unfold mid
  have h1 : (F.take k).length = k := by rw [List.length_take]; omega
  rw [List.set_append_right _ _ (by omega), h1, Nat.sub_self, List.drop_eq_getElem_cons (by omega : k < Z.length), List.set_cons_zero, List.take_add_one, hu]
  simp
theorem own_some {w : World} {base : Nat} {e : TypeId} {size n g cap : Nat} {xs : List Value} (h : w.ownsRow base e size (.slice (some ⟨g, 0, none⟩) n cap) n xs) (j : Nat) (hj : j < n * size) : ∃ y, w.cell? ⟨g, j, none⟩ = some y :=
  ⟨_, (h.cellAt j hj).trans (List.getElem?_eq_getElem (by rw [h.1]; exact hj))⟩
theorem info5 : (Tryz.prog.info? 5).map (fun i => (i.zero, i.size, i.bytes)) = some (some (.int .u8 0), 1, 1) := by kernel_rfl
/-- The mark at a place. -/
def markU8 (i : Nat) : Int := (279 + 7 * (i : Int) + 3) % 256
def marksU8 (n : Nat) : List Int := (List.range 64).map fun j => markU8 (n + j)
def wideU8 (zs : List Int) : List Int := zs ++ marksU8 zs.length
theorem wideU8_length (zs : List Int) : (wideU8 zs).length = zs.length + 64 := by simp [wideU8, marksU8]
theorem wideU8_lo (zs : List Int) {k : Nat} (h : k < zs.length) : (wideU8 zs).getD k 0 = zs.getD k 0 := by
  unfold wideU8
  rw [List.getD_eq_getElem?_getD, List.getD_eq_getElem?_getD, List.getElem?_append_left h]
theorem wideU8_hi (zs : List Int) {k : Nat} (h : zs.length ≤ k) (h2 : k < zs.length + 64) : (wideU8 zs).getD k 0 = markU8 k := by
  unfold wideU8 marksU8
  rw [List.getD_eq_getElem?_getD, List.getElem?_append_right h]
  have h3 : k - zs.length < 64 := by omega
  have h4 : zs.length + (k - zs.length) = k := by omega
  simp [h3, h4]
def WidePost (zs : List Int) (w : World) (e : Ending) (w' : World) : Prop :=
  e = .returned (.slice (some ⟨w.heap.size, 0, none⟩) zs.length (zs.length + 64)) ∧
    w'.ownsRow w.heap.size 5 1 (.slice (some ⟨w.heap.size, 0, none⟩) (zs.length + 64) (zs.length + 64)) (zs.length + 64) ((wideU8 zs).map (Value.int .u8)) ∧ Below w.heap.size w w'
theorem cells_getD {zs : List Int} {k : Nat} {kd : IntKind} (h : k < zs.length) : (zs.map (Value.int kd))[k]? = some (.int kd (zs.getD k 0)) := by
  simp [List.getD_eq_getElem?_getD, List.getElem?_eq_getElem h]
def CopyPost (zs : List Int) (w : World) (e : Ending) (w' : World) : Prop :=
  ∃ v, e = .returned v ∧ w'.ownsRow w.heap.size 5 1 v zs.length (zs.map (Value.int .u8)) ∧ Below w.heap.size w w'
theorem ints_one (k : IntKind) (l : List Int) : ∀ u ∈ l.map (Value.int k), u.oneCell' = true := by
  intro u hu
  obtain ⟨z, _, rfl⟩ := List.mem_map.1 hu
  rfl
end Go.Proofs.YtofgmijmhpmabaaGreatDoor.G

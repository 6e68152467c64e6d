/- The contracts of the reference's Widths, Size, Name. -/
import Derived.Test.YtfldicaaaadgaaaGreatDoorCNum
namespace Go.Proofs.YtfldicaaaadgaaaGreatDoor.Code
open Go.RowKit
set_option linter.unusedVariables false
set_option linter.unusedSimpArgs false
def widthsOf (k : Int) : List Int := if k = 1 then [1] else if k = 2 then [2] else if k = 3 then [1, 1, 2] else []
theorem kind0 : ∀ n : Fin 256, kindOf (n.val : Int) = 0 → n.val = 2 ∨ n.val = 3 ∨ n.val = 10 ∨ n.val = 11 ∨ n.val = 12 ∨ n.val = 13 ∨ n.val = 14 ∨ n.val = 15 ∨ n.val = 16 ∨ n.val = 17 ∨ n.val = 18 ∨ n.val = 19 ∨ n.val = 20 ∨ n.val = 21 ∨ n.val = 22 ∨ n.val = 23 ∨ n.val = 34 ∨ n.val = 35 ∨ n.val = 40 ∨ n.val = 42 ∨ n.val = 43 ∨ n.val = 44 := by decide +kernel
theorem kind1 : ∀ n : Fin 256, kindOf (n.val : Int) = 1 → n.val = 4 ∨ n.val = 5 ∨ n.val = 24 ∨ n.val = 41 ∨ n.val = 46 ∨ n.val = 60 := by decide +kernel
theorem kind2 : ∀ n : Fin 256, kindOf (n.val : Int) = 2 → n.val = 1 ∨ n.val = 30 ∨ n.val = 31 ∨ n.val = 33 ∨ n.val = 45 := by decide +kernel
theorem kind3 : ∀ n : Fin 256, kindOf (n.val : Int) = 3 → n.val = 32 := by decide +kernel
theorem kindN : ∀ n : Fin 256, kindOf (n.val : Int) < 0 → n.val ≠ 1 ∧ n.val ≠ 2 ∧ n.val ≠ 3 ∧ n.val ≠ 4 ∧ n.val ≠ 5 ∧ (n.val < 10 ∨ 24 < n.val) ∧ (n.val < 30 ∨ 35 < n.val) ∧ (n.val < 40 ∨ 46 < n.val) ∧ n.val ≠ 60 := by decide +kernel
def WdPost (w : World) (k : Int) (e : Ending) (w' : World) : Prop :=
  ∃ v, e = .returned (.tuple #[v, .bool (decide (0 ≤ k))]) ∧ w'.ownsRow w.heap.size 3 1 v (widthsOf k).length (i64s (widthsOf k)) ∧ Below w.heap.size w w'
set_option maxHeartbeats 4000000 in
theorem Widths0 (op : Int) (w : World) (h0 : 0 ≤ op) (h1 : op < 256) (hk : kindOf op = 0) : Calls Tryz.prog 55 #[.int .u8 op] w (WdPost w 0) := by
  obtain ⟨n, rfl⟩ := Int.eq_ofNat_of_zero_le h0
  have h := kind0 ⟨n, by omega⟩ hk
  simp only at h
  clear hk h0 h1
  rcases h with rfl | rfl | rfl | rfl | rfl | rfl | rfl | rfl | rfl | rfl | rfl | rfl | rfl | rfl | rfl | rfl | rfl | rfl | rfl | rfl | rfl | rfl
  all_goals
    go_enter Tryz.func55, Tryz.ntmps55
    go_wp2
    go_ret2
    exact ⟨_, rfl, World.ownsRow_nil _ _ _ _, Below.refl _ _⟩
set_option maxHeartbeats 4000000 in
theorem Widths1 (op : Int) (w : World) (h0 : 0 ≤ op) (h1 : op < 256) (hk : kindOf op = 1) : Calls Tryz.prog 55 #[.int .u8 op] w (WdPost w 1) := by
  obtain ⟨n, rfl⟩ := Int.eq_ofNat_of_zero_le h0
  have h := kind1 ⟨n, by omega⟩ hk
  simp only at h
  clear hk h0 h1
  rcases h with rfl | rfl | rfl | rfl | rfl | rfl
  all_goals
    go_enter Tryz.func55, Tryz.ntmps55
    go_wp2
    go_ret2
    exact ⟨_, rfl, own_new _ [.int .i64 1] 3 _ _ (by simp) (by simp) (by simp [maxLen]), by repeat (first | (with_reducible apply Bl.al) | (with_reducible exact Below.refl _ _))⟩
set_option maxHeartbeats 4000000 in
theorem Widths2 (op : Int) (w : World) (h0 : 0 ≤ op) (h1 : op < 256) (hk : kindOf op = 2) : Calls Tryz.prog 55 #[.int .u8 op] w (WdPost w 2) := by
  obtain ⟨n, rfl⟩ := Int.eq_ofNat_of_zero_le h0
  have h := kind2 ⟨n, by omega⟩ hk
  simp only at h
  clear hk h0 h1
  rcases h with rfl | rfl | rfl | rfl | rfl
  all_goals
    go_enter Tryz.func55, Tryz.ntmps55
    go_wp2
    go_ret2
    exact ⟨_, rfl, own_new _ [.int .i64 2] 3 _ _ (by simp) (by simp) (by simp [maxLen]), by repeat (first | (with_reducible apply Bl.al) | (with_reducible exact Below.refl _ _))⟩
set_option maxHeartbeats 4000000 in
theorem Widths3 (op : Int) (w : World) (h0 : 0 ≤ op) (h1 : op < 256) (hk : kindOf op = 3) : Calls Tryz.prog 55 #[.int .u8 op] w (WdPost w 3) := by
  obtain ⟨n, rfl⟩ := Int.eq_ofNat_of_zero_le h0
  have h := kind3 ⟨n, by omega⟩ hk
  simp only at h
  clear hk h0 h1
  rcases h with rfl
  all_goals
    go_enter Tryz.func55, Tryz.ntmps55
    go_wp2
    go_ret2
    exact ⟨_, rfl, own_new _ [.int .i64 1, .int .i64 1, .int .i64 2] 3 _ _ (by simp) (by simp) (by simp [maxLen]), by repeat (first | (with_reducible apply Bl.al) | (with_reducible exact Below.refl _ _))⟩
set_option maxRecDepth 100000 in
set_option maxHeartbeats 4000000 in
theorem WidthsN (op : Int) (w : World) (h0 : 0 ≤ op) (h1 : op < 256) (hk : kindOf op < 0) : Calls Tryz.prog 55 #[.int .u8 op] w (WdPost w (-1)) := by
  obtain ⟨n, rfl⟩ := Int.eq_ofNat_of_zero_le h0
  have h := kindN ⟨n, by omega⟩ hk
  simp only at h
  clear hk h0
  obtain ⟨a1, a2, a3, a4, a5, a6, a7, a8, a9⟩ := h
  rcases a6 with a6 | a6 <;> rcases a7 with a7 | a7 <;> rcases a8 with a8 | a8 <;> try (exfalso; omega)
  all_goals
    go_enter Tryz.func55, Tryz.ntmps55
    go_wp2
    go_ret2
    exact ⟨_, rfl, World.ownsRow_nil _ _ _ _, Below.refl _ _⟩
theorem Widths_any (op : Int) (w : World) (h0 : 0 ≤ op) (h1 : op < 256) : Calls Tryz.prog 55 #[.int .u8 op] w (WdPost w (kindOf op)) := by
  rcases kind_or op h0 h1 with h | h | h | h | h
  · rw [h]; exact WidthsN op w h0 h1 (by omega)
  · rw [h]; exact Widths0 op w h0 h1 h
  · rw [h]; exact Widths1 op w h0 h1 h
  · rw [h]; exact Widths2 op w h0 h1 h
  · rw [h]; exact Widths3 op w h0 h1 h
end Go.Proofs.YtfldicaaaadgaaaGreatDoor.Code

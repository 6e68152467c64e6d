/- The contracts of the reference's instr, Read and All. -/
import Derived.Test.YtfldicaaaadgaaaGreatDoorCRefB
import Derived.Test.YtfldicaaaadgaaaGreatDoorStores
import Derived.Test.YtfldicaaaadgaaaGreatDoorWideInt
import Derived.Handy
namespace Go.Proofs.YtfldicaaaadgaaaGreatDoor.Code
open Go.RowKit
set_option linter.unusedVariables false
set_option linter.unusedSimpArgs false
set_option maxHeartbeats 1000000 in
theorem instr0 (p op : Int) (w : World) : Calls Tryz.prog 56 #[.int .i64 p, .int .u8 op, .slice none 0 0] w fun e w' => e = .returned (Ins.mk p op 0 0 0).val ∧ Below w.heap.size w w' := by
  go_enter Tryz.func56, Tryz.ntmps56
  go_wp2
  exact bodyPost_ret (v := (Ins.mk p op 0 0 0).val) (by simp [results, Tryz.results35, go_sem, Ins.val]) rfl ⟨rfl, by repeat (first | (with_reducible apply Bl.al) | (with_reducible refine Bl.sc ?_ (by simp) _) | (with_reducible exact Below.refl _ _))⟩
set_option maxHeartbeats 1000000 in
theorem instr0' (p op : Int) (g c : Nat) (w : World) : Calls Tryz.prog 56 #[.int .i64 p, .int .u8 op, .slice (some ⟨g, 0, none⟩) 0 c] w fun e w' => e = .returned (Ins.mk p op 0 0 0).val ∧ Below w.heap.size w w' := by
  go_enter Tryz.func56, Tryz.ntmps56
  go_wp2
  exact bodyPost_ret (v := (Ins.mk p op 0 0 0).val) (by simp [results, Tryz.results35, go_sem, Ins.val]) rfl ⟨rfl, by repeat (first | (with_reducible apply Bl.al) | (with_reducible refine Bl.sc ?_ (by simp) _) | (with_reducible exact Below.refl _ _))⟩
set_option maxHeartbeats 1000000 in
theorem instr1 (p op a : Int) (g c : Nat) (w : World) (hc : w.cell? ⟨g, 0, none⟩ = some (.int .i64 a)) : Calls Tryz.prog 56 #[.int .i64 p, .int .u8 op, .slice (some ⟨g, 0, none⟩) 1 c] w fun e w' => e = .returned (Ins.mk p op a 0 0).val ∧ Below w.heap.size w w' := by
  have hg : g < w.heap.size := World.block_lt_of_cell? _ _ hc
  go_enter Tryz.func56, Tryz.ntmps56
  go_wp2
  exact bodyPost_ret (v := (Ins.mk p op a 0 0).val) (by simp [results, Tryz.results35, go_sem, Ins.val]) rfl ⟨rfl, by repeat (first | (with_reducible apply Bl.al) | (with_reducible refine Bl.sc ?_ (by simp) _) | (with_reducible exact Below.refl _ _))⟩
set_option maxHeartbeats 1000000 in
theorem instr3 (p op a a2 a3 : Int) (g c : Nat) (w : World) (hc : w.cell? ⟨g, 0, none⟩ = some (.int .i64 a)) (hc1 : w.cell? ⟨g, 1, none⟩ = some (.int .i64 a2)) (hc2 : w.cell? ⟨g, 2, none⟩ = some (.int .i64 a3)) :
    Calls Tryz.prog 56 #[.int .i64 p, .int .u8 op, .slice (some ⟨g, 0, none⟩) 3 c] w fun e w' => e = .returned (Ins.mk p op a a2 a3).val ∧ Below w.heap.size w w' := by
  have hg : g < w.heap.size := World.block_lt_of_cell? _ _ hc
  go_enter Tryz.func56, Tryz.ntmps56
  go_wp2
  exact bodyPost_ret (v := (Ins.mk p op a a2 a3).val) (by simp [results, Tryz.results35, go_sem, Ins.val]) rfl ⟨rfl, by repeat (first | (with_reducible apply Bl.al) | (with_reducible refine Bl.sc ?_ (by simp) _) | (with_reducible exact Below.refl _ _))⟩
def numsAt (zs : List Int) (i : Nat) (k : Int) : List Int := if k = 1 then [zs.getD (i + 1) 0] else if k = 2 then [zs.getD (i + 1) 0 * 256 + zs.getD (i + 2) 0] else if k = 3 then [zs.getD (i + 1) 0, zs.getD (i + 2) 0, zs.getD (i + 3) 0 * 256 + zs.getD (i + 4) 0] else []
def offAt (k : Int) (j : Nat) : Nat := if k = 3 then (if j = 3 then 4 else j) else if k = 2 then 2 * j else j
theorem nums_at (zs : List Int) (i : Nat) (k : Int) (hk : k = 0 ∨ k = 1 ∨ k = 2 ∨ k = 3) (j : Nat) (hj : j < (widthsOf k).length) (hl : (i : Int) + 1 + width k ≤ zs.length) :
    ((widthsOf k).getD j 0 = 1 ∧ i + 1 + offAt k j < zs.length ∧ (numsAt zs i k).getD j 0 = zs.getD (i + 1 + offAt k j) 0 ∧ offAt k (j + 1) = offAt k j + 1) ∨
    ((widthsOf k).getD j 0 = 2 ∧ i + 1 + offAt k j + 1 < zs.length ∧ (numsAt zs i k).getD j 0 = 256 * zs.getD (i + 1 + offAt k j) 0 + zs.getD (i + 1 + offAt k j + 1) 0 ∧ offAt k (j + 1) = offAt k j + 2) := by
  rcases hk with rfl | rfl | rfl | rfl
  · simp [widthsOf] at hj
  · obtain rfl : j = 0 := by simp [widthsOf] at hj; omega
    simp [width] at hl
    exact .inl ⟨rfl, by simp [offAt]; omega, by simp [numsAt, offAt], rfl⟩
  · obtain rfl : j = 0 := by simp [widthsOf] at hj; omega
    simp [width] at hl
    exact .inr ⟨rfl, by simp [offAt]; omega, by simp [numsAt, offAt]; omega, rfl⟩
  · have : j = 0 ∨ j = 1 ∨ j = 2 := by simp [widthsOf] at hj; omega
    simp [width] at hl
    rcases this with rfl | rfl | rfl
    · exact .inl ⟨rfl, by simp [offAt]; omega, by simp [numsAt, offAt], rfl⟩
    · exact .inl ⟨rfl, by simp [offAt]; omega, by simp [numsAt, offAt], rfl⟩
    · exact .inr ⟨rfl, by simp [offAt]; omega, by simp [numsAt, offAt, Nat.add_assoc]; omega, rfl⟩
theorem nums_length (zs : List Int) (i : Nat) (k : Int) : (numsAt zs i k).length = (widthsOf k).length := by
  unfold numsAt widthsOf
  (repeat' split) <;> rfl
theorem wd_some (op : Int) (h0 : 0 ≤ op) (h1 : op < 256) (k : Int) (hk : kindOf op = k) (hk0 : 0 ≤ k) (w : World) :
    Calls Tryz.prog 55 #[.int .u8 op] w fun e w' => ∃ v, e = .returned (.tuple #[v, .bool true]) ∧ w'.ownsRow w.heap.size 3 1 v (widthsOf k).length (i64s (widthsOf k)) ∧ Below w.heap.size w w' := by
  refine (Widths_any op w h0 h1).mono fun e w' h => ?_
  unfold WdPost at h
  rw [hk] at h
  have hd : decide (0 ≤ k) = true := by simpa using hk0
  rw [hd] at h
  exact h
theorem wd_none (op : Int) (h0 : 0 ≤ op) (h1 : op < 256) (hk : kindOf op < 0) (w : World) :
    Calls Tryz.prog 55 #[.int .u8 op] w fun e w' => ∃ v, e = .returned (.tuple #[v, .bool false]) ∧ Below w.heap.size w w' := by
  refine (Widths_any op w h0 h1).mono fun e w' h => ?_
  unfold WdPost at h
  have hd : decide (0 ≤ kindOf op) = false := by simpa using hk
  rw [hd] at h
  obtain ⟨v, h1, _, h3⟩ := h
  exact ⟨v, h1, h3⟩
theorem i64s_cell {w : World} {base g c n j : Nat} {ws : List Int} (h : w.ownsRow base 3 1 (.slice (some ⟨g, 0, none⟩) n c) n (i64s ws)) (hj : j < ws.length) : w.cell? ⟨g, j, none⟩ = some (.int .i64 (ws.getD j 0)) :=
  G.own_cell h (G.cells_getD hj)
/-- What instr makes of the numbers of a kind. -/
theorem instr_nums (p op : Int) (k : Int) (hk : k = 0 ∨ k = 1 ∨ k = 2 ∨ k = 3) (zs : List Int) (i : Nat) (v : Value) (base : Nat) (w : World) (h : w.ownsRow base 3 1 v (widthsOf k).length (i64s (numsAt zs i k))) :
    Calls Tryz.prog 56 #[.int .i64 p, .int .u8 op, v] w fun e w' => e = .returned (Ins.mk p op ((numsAt zs i k).getD 0 0) ((numsAt zs i k).getD 1 0) ((numsAt zs i k).getD 2 0)).val ∧ Below w.heap.size w w' := by
  rcases hk with rfl | rfl | rfl | rfl
  · rcases h.2 with ⟨rfl, _⟩ | ⟨g, cap, cur, rfl, hb, hgg, hnc, hc, hcs, ht⟩
    · exact instr0 p op w
    · exact (instr0' p op g cap w)
  · obtain ⟨g, c, rfl, _⟩ := G.own_addr h (by decide)
    exact instr1 p op _ g c w (i64s_cell h (j := 0) (by simp [numsAt]))
  · obtain ⟨g, c, rfl, _⟩ := G.own_addr h (by decide)
    exact instr1 p op _ g c w (i64s_cell h (j := 0) (by simp [numsAt]))
  · obtain ⟨g, c, rfl, _⟩ := G.own_addr h (by decide)
    exact instr3 p op _ _ _ g c w (i64s_cell h (j := 0) (by simp [numsAt])) (i64s_cell h (j := 1) (by simp [numsAt])) (i64s_cell h (j := 2) (by simp [numsAt]))
theorem info3 : (Tryz.prog.info? 3).map (fun i => (i.zero, i.size, i.bytes)) = some (some (.int .i64 0), 1, 8) := by kernel_rfl
theorem take_snoc (l : List Int) {j : Nat} (h : j < l.length) : i64s (l.take (j + 1)) = i64s (l.take j) ++ [.int .i64 (l.getD j 0)] := by
  rw [List.take_succ_eq_append_getElem h, i64s, List.map_append]
  simp [i64s, List.getD_eq_getElem?_getD, List.getElem?_eq_getElem h]
end Go.Proofs.YtfldicaaaadgaaaGreatDoor.Code

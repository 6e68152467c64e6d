/- Two lists of ints are compared: the contract of tableauref00.EqInts. -/
import Derived.Test.YtmhklnjmeoeanaaGreatDoorProg
import Derived.Test.YtmhklnjmeoeanaaGreatDoorDMem
import Derived.Lib.Hide
import Derived.Deep.QuietTactic
import Derived.BigQuiet
import Derived.OwnWalk
import Derived.Laws.AppendOwnNone
namespace Go.Proofs.YtmhklnjmeoeanaaGreatDoor.G
open Go Go.RowKit
set_option linter.unusedVariables false
set_option linter.unusedSimpArgs false
theorem RdV.int {w : World} {b off : Nat} {k : IntKind} {zs : List Int} (h : RdV w b off (zs.map (Value.int k))) {j : Nat} (hj : j < zs.length) : w.cell? ⟨b, off + j, none⟩ = some (.int k (zs.getD j 0)) := by
  rw [h.2 j (by simpa using hj)]
  simp [List.getD_eq_getElem?_getD, List.getElem?_eq_getElem hj]
theorem take_eq_succ {xs ys : List Int} {k : Nat} (h : xs.take k = ys.take k) (hx : k < xs.length) (hy : k < ys.length) (he : xs.getD k 0 = ys.getD k 0) : xs.take (k + 1) = ys.take (k + 1) := by
  simp only [List.getD_eq_getElem?_getD, List.getElem?_eq_getElem hx, List.getElem?_eq_getElem hy, Option.getD_some] at he
  rw [List.take_succ_eq_append_getElem hx, List.take_succ_eq_append_getElem hy, h, he]
theorem ret_bool {a b : Bool} (h : a = b) : Ending.returned (.bool a) = .returned (.bool b) := by rw [h]
end Go.Proofs.YtmhklnjmeoeanaaGreatDoor.G
namespace Go.Proofs.YtmhklnjmeoeanaaGreatDoor.G
open Go Go.RowKit
set_option linter.unusedVariables false
set_option linter.unusedSimpArgs false
/-- Rows between what is there and what is to come. -/
def mid (F Z : List Value) (k : Nat) : List Value := F.take k ++ Z.drop k
theorem mid_zero (F Z : List Value) : mid F Z 0 = Z := by simp [mid]
theorem mid_full {F Z : List Value} {n : Nat} (hF : F.length = n) (hZ : Z.length = n) : mid F Z n = F := by
  unfold mid
  rw [List.take_of_length_le (by omega), List.drop_eq_nil_of_le (by omega), List.append_nil]
theorem mid_length {F Z : List Value} {n k : Nat} (hF : F.length = n) (hZ : Z.length = n) : (mid F Z k).length = n := by
  unfold mid
  rw [List.length_append, List.length_take, List.length_drop]
  omega
theorem mid_set {F Z : List Value} {n k : Nat} {u : Value} (hF : F.length = n) (hZ : Z.length = n) (hk : k < n) (hu : F[k]? = some u) : (mid F Z k).set k u = mid F Z (k + 1) := by
  unfold mid
  have h1 : (F.take k).length = k := by rw [List.length_take]; omega
  rw [List.set_append_right _ _ (by omega), h1, Nat.sub_self, List.drop_eq_getElem_cons (by omega : k < Z.length), List.set_cons_zero, List.take_add_one, hu]
  simp
theorem own_some {w : World} {base : Nat} {e : TypeId} {size n g cap : Nat} {xs : List Value} (h : w.ownsRow base e size (.slice (some ⟨g, 0, none⟩) n cap) n xs) (j : Nat) (hj : j < n * size) : ∃ y, w.cell? ⟨g, j, none⟩ = some y :=
  ⟨_, (h.cellAt j hj).trans (List.getElem?_eq_getElem (by rw [h.1]; exact hj))⟩
theorem info5 : (Tryz.prog.info? 5).map (fun i => (i.zero, i.size, i.bytes)) = some (some (.int .u8 0), 1, 1) := by kernel_rfl
/-- The mark at a place. -/
def markU8 (i : Nat) : Int := (279 + 7 * (i : Int) + 3) % 256
def marksU8 (n : Nat) : List Int := (List.range 64).map fun j => markU8 (n + j)
def wideU8 (zs : List Int) : List Int := zs ++ marksU8 zs.length
theorem wideU8_length (zs : List Int) : (wideU8 zs).length = zs.length + 64 := by simp [wideU8, marksU8]
theorem wideU8_lo (zs : List Int) {k : Nat} (h : k < zs.length) : (wideU8 zs).getD k 0 = zs.getD k 0 := by
  unfold wideU8
  rw [List.getD_eq_getElem?_getD, List.getD_eq_getElem?_getD, List.getElem?_append_left h]
theorem wideU8_hi (zs : List Int) {k : Nat} (h : zs.length ≤ k) (h2 : k < zs.length + 64) : (wideU8 zs).getD k 0 = markU8 k := by
  unfold wideU8 marksU8
  rw [List.getD_eq_getElem?_getD, List.getElem?_append_right h]
  have h3 : k - zs.length < 64 := by omega
  have h4 : zs.length + (k - zs.length) = k := by omega
  simp [h3, h4]
def WidePost (zs : List Int) (w : World) (e : Ending) (w' : World) : Prop :=
  e = .returned (.slice (some ⟨w.heap.size, 0, none⟩) zs.length (zs.length + 64)) ∧
    w'.ownsRow w.heap.size 5 1 (.slice (some ⟨w.heap.size, 0, none⟩) (zs.length + 64) (zs.length + 64)) (zs.length + 64) ((wideU8 zs).map (Value.int .u8)) ∧ Below w.heap.size w w'
theorem cells_getD {zs : List Int} {k : Nat} {kd : IntKind} (h : k < zs.length) : (zs.map (Value.int kd))[k]? = some (.int kd (zs.getD k 0)) := by
  simp [List.getD_eq_getElem?_getD, List.getElem?_eq_getElem h]
def CopyPost (zs : List Int) (w : World) (e : Ending) (w' : World) : Prop :=
  ∃ v, e = .returned v ∧ w'.ownsRow w.heap.size 5 1 v zs.length (zs.map (Value.int .u8)) ∧ Below w.heap.size w w'
theorem ints_one (k : IntKind) (l : List Int) : ∀ u ∈ l.map (Value.int k), u.oneCell' = true := by
  intro u hu
  obtain ⟨z, _, rfl⟩ := List.mem_map.1 hu
  rfl
end Go.Proofs.YtmhklnjmeoeanaaGreatDoor.G
namespace Go.Proofs.YtmhklnjmeoeanaaGreatDoor.G
open Go Go.RowKit
set_option linter.unusedVariables false
set_option linter.unusedSimpArgs false
set_option maxHeartbeats 400000 in
theorem eqInts_any (A B : Option Addr) (n m c d : Nat) (xs ys : List Int) (w : World) (hx : RdS w A 1 n (xs.map (Value.int .i64))) (hy : RdS w B 1 m (ys.map (Value.int .i64))) (hn : n ≤ maxLen) (hm : m ≤ maxLen) :
    Calls Tryz.prog 12 #[.slice A n c, .slice B m d] w fun e w' => e = .returned (.bool (decide (xs = ys))) ∧ ∃ k, w' = w.drewN k := by
  have hxl : xs.length = n := by simpa using hx.1
  have hyl : ys.length = m := by simpa using hy.1
  unfold maxLen at hn hm
  by_cases hnm : n = m
  · subst hnm
    have HX := Lib.hid hx
    have HY := Lib.hid hy
    have HXL := Lib.hid hxl
    have HYL := Lib.hid hyl
    clear hx hy hxl hyl hm
    go_enter Tryz.func12, Tryz.ntmps12
    go_wp2
    go_loopw [5] (fun i wr => ∃ k : Nat, k ≤ n ∧ i = .int .i64 k ∧ xs.take k = ys.take k ∧ ∃ q, wr = w.drewN q) (fun i _ => n - (intOf i).toNat)
    case atStart => exact ⟨0, Nat.zero_le _, rfl, rfl, 0, rfl⟩
    case round =>
      obtain ⟨k, hk, rfl, htk, q, rfl⟩ := hrel
      have HTK := Lib.hid htk
      clear htk
      by_cases hlt : k < n
      · obtain ⟨b, off, rfl, hb⟩ := HX.out.2 (by omega)
        obtain ⟨b2, off2, rfl, hb2⟩ := HY.out.2 (by omega)
        have hc1 := hb.int (j := k) (by rw [HXL.out]; exact hlt)
        have hc2 := hb2.int (j := k) (by rw [HYL.out]; exact hlt)
        have h0 : (k : Int) < n := by omega
        have h1 : (0 : Int) ≤ k := by omega
        by_cases he : xs.getD k 0 = ys.getD k 0
        · have hsu := Lib.hid (take_eq_succ HTK.out (by rw [HXL.out]; exact hlt) (by rw [HYL.out]; exact hlt) he)
          rw [← he] at hc2
          clear he hb hb2
          generalize xs.getD k 0 = z at *
          go_wp2
          go_quiet (fail)
          go_wp2
          go_roundw
          case rel => exact ⟨k + 1, by omega, by go_num, hsu.out, _, rfl⟩
          case measure => simp [intOf]; omega
        · have hne : decide (xs = ys) = false := by
            simp only [decide_eq_false_iff_not]
            rintro rfl
            exact he rfl
          have HNE := Lib.hid hne
          generalize xs.getD k 0 = z at *
          generalize ys.getD k 0 = y at *
          have he1 : (z == y) = false := by simpa using he
          have he2 : (z != y) = true := by simpa using he
          clear he hne hb hb2
          go_wp2
          go_quiet (fail)
          go_wp2
          go_ret
          exact ⟨(ret_bool HNE.out).symm, (by first | exact ⟨_, rfl⟩ | exact ⟨_, World.drewN_drewN ..⟩)⟩
      · have hd : decide (xs = ys) = true := by
          simp only [decide_eq_true_eq]
          have h2 := HTK.out
          rwa [List.take_of_length_le (by rw [HXL.out]; omega), List.take_of_length_le (by rw [HYL.out]; omega)] at h2
        have HD := Lib.hid hd
        clear hd
        go_wp2
        go_ret
        exact ⟨(ret_bool HD.out).symm, _, rfl⟩
  · have hd : decide (xs = ys) = false := by
      simp only [decide_eq_false_iff_not]
      rintro rfl
      omega
    have HD := Lib.hid hd
    clear hd hx hy hxl hyl
    have hnm1 : ((n : Int) == m) = false := by simpa using fun h : (n : Int) = m => hnm (by omega)
    have hnm2 : ((n : Int) != m) = true := by simpa using fun h : (n : Int) = m => hnm (by omega)
    go_enter Tryz.func12, Tryz.ntmps12
    go_wp2
    go_ret
    exact ⟨(ret_bool HD.out).symm, 0, rfl⟩
end Go.Proofs.YtmhklnjmeoeanaaGreatDoor.G

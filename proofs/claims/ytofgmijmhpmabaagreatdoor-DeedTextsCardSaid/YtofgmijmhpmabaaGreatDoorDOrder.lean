/- The contracts of deed.isOrder, deed.rises. -/
import Derived.Test.YtofgmijmhpmabaaGreatDoorDCheckW
namespace Go.Proofs.YtofgmijmhpmabaaGreatDoor.D
open Go Go.RowKit
set_option linter.unusedVariables false
set_option linter.unusedSimpArgs false
def orderB (l : List Int) (n : Nat) : Bool := decide (IsOrder l n)
def risesB (l : List Int) : Bool := decide (Rises l)
theorem order_yes {l : List Int} {n : Nat} (h : IsOrder l n) : orderB l n = true := decide_eq_true h
theorem order_no {l : List Int} {n : Nat} (h : ¬ IsOrder l n) : orderB l n = false := decide_eq_false h
theorem rises_yes {l : List Int} (h : Rises l) : risesB l = true := decide_eq_true h
theorem rises_no {l : List Int} (h : ¬ Rises l) : risesB l = false := decide_eq_false h
theorem rises_iff {l : List Int} : Rises l ↔ ∀ i, i < l.length → l.getD i 0 = (i : Int) := by
  constructor
  · intro h i hi
    have h2 : i < ((List.range l.length).map Int.ofNat).length := by simpa using hi
    have e : l.getD i 0 = ((List.range l.length).map Int.ofNat).getD i 0 := congrArg (fun m : List Int => m.getD i 0) h
    rw [e, getD_lt h2, List.getElem_map, List.getElem_range]
    rfl
  · intro h
    refine ext_getD 0 (by simp) fun i hi => ?_
    rw [h i hi, getD_lt (l := (List.range l.length).map Int.ofNat) (by simpa using hi), List.getElem_map, List.getElem_range]
    rfl
def BoolPost (b : Bool) (w : World) (e : Ending) (w' : World) : Prop := e = .returned (.bool b) ∧ Below w.heap.size w w'
set_option maxRecDepth 100000 in
set_option maxHeartbeats 2000000 in
theorem rises_any (A : Option Addr) (n c : Nat) (l : List Int) (w : World) (hn : l.length = n) (hm : n ≤ 33554432) (hr : G.RdS w A 1 n (i64s l)) :
    Calls Tryz.prog 145 #[.slice A n c] w fun e w' => e = .returned (.bool (risesB l)) ∧ w = w' := by
  have HN := Lib.hid hn
  have HR := Lib.hid hr
  clear hn hr
  go_enter Tryz.func145, Tryz.ntmps145
  go_wp2_with fail
  go_loop [7] (fun i => ∃ k : Nat, k ≤ n ∧ i = .int .i64 k ∧ ∀ j, j < k → l.getD j 0 = (j : Int)) (fun i => n - (intOf i).toNat)
  case atStart => exact ⟨0, Nat.zero_le _, rfl, fun j hj => by omega⟩
  case round =>
    obtain ⟨k, hk, rfl, hall⟩ := hrel
    have HALL := Lib.hid hall
    have hk0 : (0 : Int) ≤ k := by omega
    clear hall
    by_cases hlt : k < n
    · have hkI : (k : Int) < n := by omega
      obtain ⟨b, off, rfl, hrd⟩ := HR.out.2 (by omega)
      have hc := i64_at hrd (k := k) (by rw [HN.out]; exact hlt)
      obtain ⟨z, hz⟩ : ∃ z, z = l.getD k 0 := ⟨_, rfl⟩
      rw [← hz] at hc
      have HZ := Lib.hid hz
      clear hrd hz
      by_cases he : (k : Int) = z
      · have HA := Lib.hid (show ∀ j, j < k + 1 → l.getD j 0 = (j : Int) from fun j hj => by
          by_cases e : j = k
          · subst e
            rw [← HZ.out, he]
          · exact HALL.out j (by omega))
        have heb : ((k : Int) != z) = false := by rw [he]; simp
        clear he
        go_wp2_with fail
        go_round
        case rel => exact ⟨k + 1, by omega, by go_num, HA.out⟩
        case measure => simp [intOf]; omega
      · have HB := Lib.hid (rises_no (l := l) (fun h => he (by rw [HZ.out]; exact (rises_iff.1 h k (by rw [HN.out]; exact hlt)).symm)))
        have heb : ((k : Int) != z) = true := by rw [bne_iff_ne]; exact he
        clear he
        go_wp2_with fail
        go_ret
        exact ⟨(ret_bool HB.out).symm, rfl⟩
    · have hkI : ¬ (k : Int) < n := by omega
      have HB := Lib.hid (rises_yes (l := l) (rises_iff.2 fun i hi => HALL.out i (by rw [HN.out] at hi; omega)))
      go_wp2_with fail
      go_ret
      exact ⟨(ret_bool HB.out).symm, rfl⟩
set_option maxRecDepth 100000 in
set_option maxHeartbeats 4000000 in
theorem isOrder_any (A : Option Addr) (n c m : Nat) (l : List Int) (w : World) (hn : l.length = n) (hm : n ≤ 33554432) (hr : G.RdS w A 1 n (i64s l)) (h256 : m ≤ 256) :
    Calls Tryz.prog 144 #[.slice A n c, .int .i64 (m : Int)] w (BoolPost (orderB l m) w) := by
  have HN := Lib.hid hn
  have HR := Lib.hid hr
  clear hn hr
  by_cases h1 : n = m
  · subst h1
    have hmI : ¬ (256 : Int) < n := by omega
    have hb : ((n : Int) != n) = false := by simp
    have HST0 := Lib.hid (show StI w (w.alloc (.cells Tryz.zeroCells180 180)) n [] from ⟨by rw [stood_nil]; exact G.Blk.new _ _ _, List.nodup_nil, (fun c hc => by cases hc), Bl.al (Below.refl _ _) _⟩)
    go_enter Tryz.func144, Tryz.ntmps144
    go_wp2_with fail
    go_loopw [18] (fun i wr => ∃ k : Nat, k ≤ n ∧ i = .int .i64 k ∧ StI w wr n (l.take k)) (fun i _ => n - (intOf i).toNat)
    case atStart => exact ⟨0, Nat.zero_le _, rfl, HST0.out⟩
    case round =>
      obtain ⟨k, hk, rfl, hst⟩ := hrel
      have HST := Lib.hid hst
      have hk0 : (0 : Int) ≤ k := by omega
      clear hst
      by_cases hlt : k < n
      · have hkI : (k : Int) < n := by omega
        obtain ⟨b, off, rfl, hrd⟩ := (HR.out.below HST.out.bl).2 (by omega)
        have hc := i64_at hrd (k := k) (by rw [HN.out]; exact hlt)
        obtain ⟨z, hz⟩ : ∃ z, z = l.getD k 0 := ⟨_, rfl⟩
        rw [← hz] at hc
        have HZ := Lib.hid hz
        have hbs := World.block_lt_of_cell? _ _ hc
        have HTN := Lib.hid (show l.take (k + 1) = l.take k ++ [z] by rw [take_next (by rw [HN.out]; exact hlt), ← hz])
        have HMEM := Lib.hid (show z ∈ l by rw [hz]; exact mem_getD (by rw [HN.out]; exact hlt))
        clear hrd hz
        by_cases c1 : 0 ≤ z
        · obtain ⟨zn, rfl⟩ := Int.eq_ofNat_of_zero_le c1
          by_cases c2 : zn < n
          · have c2I : ((zn : Nat) : Int) < n := by omega
            have hsc := (HST.out.blk.cell zn).trans (stood_at (by omega))
            have hsf := HST.out.blk.frozen zn
            have hsl := HST.out.blk.lt
            have hc6 : ((zn : Nat) : Int) < 256 := by omega
            by_cases c3 : ((zn : Nat) : Int) ∈ l.take k
            · rw [decide_eq_true c3] at hsc
              have HB := Lib.hid (order_no (l := l) (n := n) (fun h => by
                have h1 := h.2.2.sublist (List.take_sublist (k + 1) l)
                rw [HTN.out, List.nodup_append] at h1
                exact h1.2.2 _ c3 _ (by simp) rfl))
              clear c3
              go_wp2_with fail
              go_ret
              exact ⟨(ret_bool HB.out).symm, HST.out.bl⟩
            · rw [decide_eq_false c3] at hsc
              have HNX := Lib.hid (HST.out.put (by omega) c2 c3)
              clear c3
              go_wp2_with fail
              go_roundw
              case rel => exact ⟨k + 1, by omega, by go_num, by rw [HTN.out]; exact HNX.out⟩
              case measure => simp [intOf]; omega
          · have c2I : ¬ ((zn : Nat) : Int) < n := by omega
            have HB := Lib.hid (order_no (l := l) (n := n) (fun h => by have := (h.2.1 _ HMEM.out).2; omega))
            go_wp2_with fail
            go_ret
            exact ⟨(ret_bool HB.out).symm, HST.out.bl⟩
        · have HB := Lib.hid (order_no (l := l) (n := n) (fun h => by have := (h.2.1 _ HMEM.out).1; omega))
          go_wp2_with fail
          go_ret
          exact ⟨(ret_bool HB.out).symm, HST.out.bl⟩
      · have hkI : ¬ (k : Int) < n := by omega
        have HB := Lib.hid (order_yes (l := l) (n := n) ⟨HN.out, by
          have h := HST.out.rng
          rw [List.take_of_length_le (by rw [HN.out]; omega)] at h
          exact h, by
          have h := HST.out.nd
          rw [List.take_of_length_le (by rw [HN.out]; omega)] at h
          exact h⟩)
        go_wp2_with fail
        go_ret
        exact ⟨(ret_bool HB.out).symm, HST.out.bl⟩
  · have hb : ((n : Int) != m) = true := by rw [bne_iff_ne]; omega
    have HB := Lib.hid (order_no (l := l) (n := m) (fun h => h1 (by rw [← HN.out]; exact h.1)))
    go_enter Tryz.func144, Tryz.ntmps144
    go_wp2_with fail
    go_ret
    exact ⟨(ret_bool HB.out).symm, Below.refl _ _⟩
end Go.Proofs.YtofgmijmhpmabaaGreatDoor.D

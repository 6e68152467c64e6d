/- The contract of tableauref00.EqInstrs. -/
import Derived.Test.YtfldicaaaadgaaaGreatDoorCRefC
namespace Go.Proofs.YtfldicaaaadgaaaGreatDoor.Code
section
open Go.RowKit
set_option linter.unusedVariables false
set_option linter.unusedSimpArgs false
end
section
open Go.RowKit
set_option linter.unusedVariables false
set_option linter.unusedSimpArgs false
theorem flat_at (xs : List Ins) (k c : Nat) (hk : k < xs.length) (hc : c < 5) : (flat xs).getD (k * 5 + c) undef = (xs.getD k zeroIns).cells.getD c undef := by
  have h : xs = xs.take k ++ xs.getD k zeroIns :: xs.drop (k + 1) := by
    rw [List.getD_eq_getElem?_getD, List.getElem?_eq_getElem hk, Option.getD_some, ← List.drop_eq_getElem_cons hk, List.take_append_drop]
  have h2 := flat_get (xs.take k) (xs.getD k zeroIns) (xs.drop (k + 1)) c hc
  rw [← h, List.length_take, Nat.min_eq_left (by omega)] at h2
  exact h2
theorem ins_at {w : World} {b off k : Nat} {xs : List Ins} (h : G.RdV w b off (flat xs)) (hk : k < xs.length) {x : Ins} (hx : xs.getD k zeroIns = x) :
    w.cell? ⟨b, off + k * 5, none⟩ = some (.int .i64 x.at_) ∧ w.cell? ⟨b, off + k * 5 + 1, none⟩ = some (.int .u8 x.op) ∧ w.cell? ⟨b, off + k * 5 + 2, none⟩ = some (.int .i64 x.a) ∧ w.cell? ⟨b, off + k * 5 + 3, none⟩ = some (.int .i64 x.b) ∧ w.cell? ⟨b, off + k * 5 + 4, none⟩ = some (.int .i64 x.c) := by
  subst hx
  have key : ∀ c, c < 5 → w.cell? ⟨b, off + k * 5 + c, none⟩ = some ((xs.getD k zeroIns).cells.getD c undef) := fun c hc => by
    have := h.2 (k * 5 + c) (by rw [flat_length]; omega)
    rw [flat_at xs k c hk hc] at this
    rw [Nat.add_assoc]
    exact this
  exact ⟨key 0 (by omega), key 1 (by omega), key 2 (by omega), key 3 (by omega), key 4 (by omega)⟩
theorem take_eq_ins {xs ys : List Ins} {k : Nat} (h : xs.take k = ys.take k) (hx : k < xs.length) (hy : k < ys.length) (he : xs.getD k zeroIns = ys.getD k zeroIns) : xs.take (k + 1) = ys.take (k + 1) := by
  simp only [List.getD_eq_getElem?_getD, List.getElem?_eq_getElem hx, List.getElem?_eq_getElem hy, Option.getD_some] at he
  rw [List.take_succ_eq_append_getElem hx, List.take_succ_eq_append_getElem hy, h, he]
set_option maxHeartbeats 400000 in
theorem eqInstrs_any (A B : Option Addr) (n m c d : Nat) (xs ys : List Ins) (w : World) (hx : G.RdS w A 5 n (flat xs)) (hy : G.RdS w B 5 m (flat ys)) (hn : n ≤ maxLen) (hm : m ≤ maxLen) :
    Calls Tryz.prog 7 #[.slice A n c, .slice B m d] w fun e w' => e = .returned (.bool (decide (xs = ys))) ∧ ∃ k, w' = w.drewN k := by
  have hxl : xs.length = n := by have := hx.1; rw [flat_length] at this; omega
  have hyl : ys.length = m := by have := hy.1; rw [flat_length] at this; omega
  unfold maxLen at hn hm
  by_cases hnm : n = m
  · subst hnm
    have HX := Lib.hid hx
    have HY := Lib.hid hy
    have HXL := Lib.hid hxl
    have HYL := Lib.hid hyl
    clear hx hy hxl hyl hm
    go_enter Tryz.func7, Tryz.ntmps7
    go_wp2
    go_loopw [5] (fun i wr => ∃ k : Nat, k ≤ n ∧ i = .int .i64 k ∧ xs.take k = ys.take k ∧ ∃ q, wr = w.drewN q) (fun i _ => n - (intOf i).toNat)
    case atStart => exact ⟨0, Nat.zero_le _, rfl, rfl, 0, rfl⟩
    case round =>
      obtain ⟨k, hk, rfl, htk, q, rfl⟩ := hrel
      have HTK := Lib.hid htk
      clear htk
      by_cases hlt : k < n
      · obtain ⟨b, off, rfl, hb⟩ := HX.out.2 (by omega)
        obtain ⟨b2, off2, rfl, hb2⟩ := HY.out.2 (by omega)
        have h0 : (k : Int) < n := by omega
        have h1 : (0 : Int) ≤ k := by omega
        by_cases he : xs.getD k zeroIns = ys.getD k zeroIns
        · have hsu := Lib.hid (take_eq_ins HTK.out (by rw [HXL.out]; exact hlt) (by rw [HYL.out]; exact hlt) he)
          obtain ⟨c0, c1, c2, c3, c4⟩ := ins_at hb (k := k) (by rw [HXL.out]; exact hlt) he
          obtain ⟨d0, d1, d2, d3, d4⟩ := ins_at hb2 (k := k) (by rw [HYL.out]; exact hlt) rfl
          clear he hb hb2
          generalize ys.getD k zeroIns = z at *
          obtain ⟨za, zo, z1, z2, z3⟩ := z
          simp only at c0 c1 c2 c3 c4 d0 d1 d2 d3 d4
          go_wp2
          go_quiet (fail)
          go_wp2
          go_roundw
          case rel => exact ⟨k + 1, by omega, by go_num, hsu.out, _, rfl⟩
          case measure => simp [intOf]; omega
        · have hne : decide (xs = ys) = false := by
            simp only [decide_eq_false_iff_not]
            rintro rfl
            exact he rfl
          have HNE := Lib.hid hne
          obtain ⟨c0, c1, c2, c3, c4⟩ := ins_at hb (k := k) (by rw [HXL.out]; exact hlt) rfl
          obtain ⟨d0, d1, d2, d3, d4⟩ := ins_at hb2 (k := k) (by rw [HYL.out]; exact hlt) rfl
          clear hne hb hb2
          generalize ys.getD k zeroIns = z at *
          generalize xs.getD k zeroIns = y at *
          obtain ⟨za, zo, z1, z2, z3⟩ := z
          obtain ⟨ya, yo, y1, y2, y3⟩ := y
          simp only [Ins.mk.injEq, not_and] at c0 c1 c2 c3 c4 d0 d1 d2 d3 d4 he
          have hq : (ya == za) = false ∨ (ya = za ∧ (yo == zo) = false) ∨ (ya = za ∧ yo = zo ∧ (y1 == z1) = false) ∨ (ya = za ∧ yo = zo ∧ y1 = z1 ∧ (y2 == z2) = false) ∨ (ya = za ∧ yo = zo ∧ y1 = z1 ∧ y2 = z2 ∧ (y3 == z3) = false) := by
            simp only [beq_eq_false_iff_ne]
            by_cases e0 : ya = za
            · by_cases e1 : yo = zo
              · by_cases e2 : y1 = z1
                · by_cases e3 : y2 = z2
                  · exact .inr (.inr (.inr (.inr ⟨e0, e1, e2, e3, he e0 e1 e2 e3⟩)))
                  · exact .inr (.inr (.inr (.inl ⟨e0, e1, e2, e3⟩)))
                · exact .inr (.inr (.inl ⟨e0, e1, e2⟩))
              · exact .inr (.inl ⟨e0, e1⟩)
            · exact .inl e0
          clear he
          rcases hq with q0 | ⟨rfl, q1⟩ | ⟨rfl, rfl, q2⟩ | ⟨rfl, rfl, rfl, q3⟩ | ⟨rfl, rfl, rfl, rfl, q4⟩
          all_goals
            go_wp2
            go_quiet (fail)
            go_wp2
            go_ret
            exact ⟨(G.ret_bool HNE.out).symm, (by first | exact ⟨_, rfl⟩ | exact ⟨_, World.drewN_drewN ..⟩)⟩
      · have hd : decide (xs = ys) = true := by
          simp only [decide_eq_true_eq]
          have h2 := HTK.out
          rwa [List.take_of_length_le (by rw [HXL.out]; omega), List.take_of_length_le (by rw [HYL.out]; omega)] at h2
        have HD := Lib.hid hd
        clear hd
        go_wp2
        go_ret
        exact ⟨(G.ret_bool HD.out).symm, _, rfl⟩
  · have hd : decide (xs = ys) = false := by
      simp only [decide_eq_false_iff_not]
      rintro rfl
      omega
    have HD := Lib.hid hd
    clear hd hx hy hxl hyl
    have hnm1 : ((n : Int) == m) = false := by simpa using fun h : (n : Int) = m => hnm (by omega)
    have hnm2 : ((n : Int) != m) = true := by simpa using fun h : (n : Int) = m => hnm (by omega)
    go_enter Tryz.func7, Tryz.ntmps7
    go_wp2
    go_ret
    exact ⟨(G.ret_bool HD.out).symm, 0, rfl⟩
end
end Go.Proofs.YtfldicaaaadgaaaGreatDoor.Code

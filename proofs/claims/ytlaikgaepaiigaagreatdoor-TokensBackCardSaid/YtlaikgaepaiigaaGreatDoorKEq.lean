/- The contract of tableauref00.EqTokens. Printed by gen_keq.py. -/
import Derived.Test.YtlaikgaepaiigaaGreatDoorKRefC
import Derived.Test.YtlaikgaepaiigaaGreatDoorStores
import Derived.Test.YtlaikgaepaiigaaGreatDoorOpenS
import Derived.Deep.QuietTactic
import Derived.BigQuiet
namespace Go.Proofs.YtlaikgaepaiigaaGreatDoor.K
open Go Go.RowKit
set_option linter.unusedVariables false
set_option linter.unusedSimpArgs false
def zeroTk : Tk := ⟨0, empB, 0, 0⟩
theorem flatT_length (l : List Tk) : (flatT l).length = l.length * 4 := G.flat_len Tk.cells 4 (fun _ => rfl) l
theorem bytes_inj {a b : ByteArray} (h : a.data.toList = b.data.toList) : a = b := ByteArray.ext (Array.toList_inj.1 h)
theorem str_ne {a b : ByteArray} (h : a ≠ b) : (a.toList == b.toList) = false := by
  rw [ByteArray.toList_eq, ByteArray.toList_eq]
  simpa using fun e => h (bytes_inj (Array.toList_inj.2 e))
theorem tk_at {w : World} {b off k : Nat} {l : List Tk} {x : Tk} (h : G.RdV w b off (flatT l)) (hk : k < l.length) (hx : l.getD k zeroTk = x) :
    w.cell? ⟨b, off + k * 4, none⟩ = some (.int .i8 x.kind) ∧ w.cell? ⟨b, off + k * 4 + 1, none⟩ = some (.string x.text) ∧ w.cell? ⟨b, off + k * 4 + 2, none⟩ = some (.int .i64 x.num) ∧ w.cell? ⟨b, off + k * 4 + 3, none⟩ = some (.int .i64 x.at_) := by
  have key : ∀ j, j < 4 → w.cell? ⟨b, off + k * 4 + j, none⟩ = some (x.cells.getD j undef) := fun j hj => by
    have h1 := h.2 (k * 4 + j) (by rw [flatT_length]; omega)
    have h2 : (flatT l).getD (k * 4 + j) undef = (Tk.cells (l.getD k zeroTk)).getD j undef := G.flat_getD Tk.cells 4 (fun _ => rfl) zeroTk l k j hk hj
    rw [h2, hx] at h1
    rw [Nat.add_assoc]
    exact h1
  exact ⟨key 0 (by omega), key 1 (by omega), key 2 (by omega), key 3 (by omega)⟩
theorem take_eq_of {α : Type} (d : α) {xs ys : List α} {k : Nat} (h : xs.take k = ys.take k) (hx : k < xs.length) (hy : k < ys.length) (he : xs.getD k d = ys.getD k d) : xs.take (k + 1) = ys.take (k + 1) := by
  simp only [List.getD_eq_getElem?_getD, List.getElem?_eq_getElem hx, List.getElem?_eq_getElem hy, Option.getD_some] at he
  rw [List.take_succ_eq_append_getElem hx, List.take_succ_eq_append_getElem hy, h, he]
set_option maxRecDepth 100000 in
set_option maxHeartbeats 2000000 in
theorem eqTokens_any (A B : Option Addr) (n m c d : Nat) (xs ys : List Tk) (w : World) (hx : G.RdS w A 4 n (flatT xs)) (hy : G.RdS w B 4 m (flatT ys)) (hn : n ≤ maxLen) (hm : m ≤ maxLen) :
    Calls Tryz.prog 13 #[.slice A n c, .slice B m d] w fun e w' => e = .returned (.bool (decide (xs = ys))) ∧ ∃ k, w' = w.drewN k := by
  have hxl : xs.length = n := by have := hx.1; rw [flatT_length] at this; omega
  have hyl : ys.length = m := by have := hy.1; rw [flatT_length] at this; omega
  unfold maxLen at hn hm
  by_cases hnm : n = m
  · subst hnm
    have HX := Lib.hid hx
    have HY := Lib.hid hy
    have HXL := Lib.hid hxl
    have HYL := Lib.hid hyl
    clear hx hy hxl hyl hm
    go_enter Tryz.func13, Tryz.ntmps13
    go_wp2
    go_loopw [5] (fun i wr => ∃ k : Nat, k ≤ n ∧ i = .int .i64 k ∧ xs.take k = ys.take k ∧ ∃ q, wr = w.drewN q) (fun i _ => n - (intOf i).toNat)
    case atStart => exact ⟨0, Nat.zero_le _, rfl, rfl, 0, rfl⟩
    case round =>
      obtain ⟨k, hk, rfl, htk, q, rfl⟩ := hrel
      have HTK := Lib.hid htk
      clear htk
      by_cases hlt : k < n
      · obtain ⟨b, off, rfl, hb⟩ := HX.out.2 (by omega)
        obtain ⟨b2, off2, rfl, hb2⟩ := HY.out.2 (by omega)
        have h0 : (k : Int) < n := by omega
        have h1 : (0 : Int) ≤ k := by omega
        by_cases he : xs.getD k zeroTk = ys.getD k zeroTk
        · have hsu := Lib.hid (take_eq_of zeroTk HTK.out (by rw [HXL.out]; exact hlt) (by rw [HYL.out]; exact hlt) he)
          obtain ⟨c0, c1, c2, c3⟩ := tk_at hb (k := k) (by rw [HXL.out]; exact hlt) he
          obtain ⟨d0, d1, d2, d3⟩ := tk_at hb2 (k := k) (by rw [HYL.out]; exact hlt) rfl
          clear he hb hb2
          generalize ys.getD k zeroTk = z at *
          obtain ⟨z0, z1, z2, z3⟩ := z
          simp only at c0 c1 c2 c3 d0 d1 d2 d3
          go_wp2
          go_quiet (fail)
          go_wp2
          go_roundw
          case rel => exact ⟨k + 1, by omega, by go_num, hsu.out, _, rfl⟩
          case measure => simp [intOf]; omega
        · have hne : decide (xs = ys) = false := by
            simp only [decide_eq_false_iff_not]
            rintro rfl
            exact he rfl
          have HNE := Lib.hid hne
          obtain ⟨c0, c1, c2, c3⟩ := tk_at hb (k := k) (by rw [HXL.out]; exact hlt) rfl
          obtain ⟨d0, d1, d2, d3⟩ := tk_at hb2 (k := k) (by rw [HYL.out]; exact hlt) rfl
          clear hne hb hb2
          generalize ys.getD k zeroTk = z at *
          generalize xs.getD k zeroTk = y at *
          obtain ⟨z0, z1, z2, z3⟩ := z
          obtain ⟨v0, v1, v2, v3⟩ := y
          simp only [Tk.mk.injEq, not_and] at c0 c1 c2 c3 d0 d1 d2 d3 he
          have hq : (v0 == z0) = false ∨ (v0 = z0 ∧ (v1.toList == z1.toList) = false) ∨ (v0 = z0 ∧ v1 = z1 ∧ (v2 == z2) = false) ∨ (v0 = z0 ∧ v1 = z1 ∧ v2 = z2 ∧ (v3 == z3) = false) := by
            by_cases e0 : v0 = z0
            · by_cases e1 : v1 = z1
              · by_cases e2 : v2 = z2
                · exact (.inr (.inr (.inr ⟨e0, e1, e2, (by simpa using (he e0 e1 e2))⟩)))
                · exact (.inr (.inr (.inl ⟨e0, e1, (by simpa using e2)⟩)))
              · exact (.inr (.inl ⟨e0, (str_ne e1)⟩))
            · exact (.inl (by simpa using e0))
          clear he
          rcases hq with q0 | ⟨rfl, q1⟩ | ⟨rfl, rfl, q2⟩ | ⟨rfl, rfl, rfl, q3⟩
          all_goals
            go_wp2
            go_quiet (fail)
            go_wp2
            go_ret
            exact ⟨(ret_bool HNE.out).symm, (by first | exact ⟨_, rfl⟩ | exact ⟨_, World.drewN_drewN ..⟩)⟩
      · have hd : decide (xs = ys) = true := by
          simp only [decide_eq_true_eq]
          have h2 := HTK.out
          rwa [List.take_of_length_le (by rw [HXL.out]; omega), List.take_of_length_le (by rw [HYL.out]; omega)] at h2
        have HD := Lib.hid hd
        clear hd
        go_wp2
        go_ret
        exact ⟨(ret_bool HD.out).symm, _, rfl⟩
  · have hd : decide (xs = ys) = false := by
      simp only [decide_eq_false_iff_not]
      rintro rfl
      omega
    have HD := Lib.hid hd
    clear hd hx hy hxl hyl
    have hnm1 : ((n : Int) == m) = false := by simpa using fun h : (n : Int) = m => hnm (by omega)
    have hnm2 : ((n : Int) != m) = true := by simpa using fun h : (n : Int) = m => hnm (by omega)
    go_enter Tryz.func13, Tryz.ntmps13
    go_wp2
    go_ret
    exact ⟨(ret_bool HD.out).symm, 0, rfl⟩
end Go.Proofs.YtlaikgaepaiigaaGreatDoor.K

/- The reference's bytes; worlds in which one block alone has changed; is, pass. -/
import Derived.Test.YtlaikgaepaiigaaGreatDoorKText
import Derived.Test.YtlaikgaepaiigaaGreatDoorBag
import Derived.BigQuiet
import Derived.Deep.QuietTactic
namespace Go.Proofs.YtlaikgaepaiigaaGreatDoor.K
open Go Go.RowKit
set_option linter.unusedVariables false
set_option linter.unusedSimpArgs false
set_option maxHeartbeats 1000000 in
theorem refSmall_any (c : Int) (w : World) : Calls Tryz.prog 47 #[.int .u8 c] w fun e w' => e = .returned (.bool (smallI c)) ∧ w = w' := by
  by_cases h1 : 97 ≤ c
  · by_cases h2 : c ≤ 122
    · have HV := Lib.hid (show smallI c = true by simp [smallI, h1, h2])
      go_enter Tryz.func47, Tryz.ntmps47
      go_wp2_with fail
      go_ret
      exact ⟨ret_bool (by rw [HV.out] <;> simp [h2]), rfl⟩
    · have HV := Lib.hid (show smallI c = false by simp [smallI, h1, h2])
      go_enter Tryz.func47, Tryz.ntmps47
      go_wp2_with fail
      go_ret
      exact ⟨ret_bool (by rw [HV.out] <;> simp [h2]), rfl⟩
  · have HV := Lib.hid (show smallI c = false by simp [smallI, h1])
    go_enter Tryz.func47, Tryz.ntmps47
    go_wp2_with fail
    go_ret
    exact ⟨ret_bool (by rw [HV.out]), rfl⟩
set_option maxHeartbeats 1000000 in
theorem refDigit_any (c : Int) (w : World) : Calls Tryz.prog 64 #[.int .u8 c] w fun e w' => e = .returned (.bool (digitI c)) ∧ w = w' := by
  by_cases h1 : 48 ≤ c
  · by_cases h2 : c ≤ 57
    · have HV := Lib.hid (show digitI c = true by simp [digitI, h1, h2])
      go_enter Tryz.func64, Tryz.ntmps64
      go_wp2_with fail
      go_ret
      exact ⟨ret_bool (by rw [HV.out] <;> simp [h2]), rfl⟩
    · have HV := Lib.hid (show digitI c = false by simp [digitI, h1, h2])
      go_enter Tryz.func64, Tryz.ntmps64
      go_wp2_with fail
      go_ret
      exact ⟨ret_bool (by rw [HV.out] <;> simp [h2]), rfl⟩
  · have HV := Lib.hid (show digitI c = false by simp [digitI, h1])
    go_enter Tryz.func64, Tryz.ntmps64
    go_wp2_with fail
    go_ret
    exact ⟨ret_bool (by rw [HV.out]), rfl⟩
set_option maxHeartbeats 2000000 in
theorem refPart_any (c : Int) (w : World) : Calls Tryz.prog 48 #[.int .u8 c] w fun e w' => e = .returned (.bool (partI c)) ∧ w = w' := by
  have HS := Lib.hid (fun W => refSmall_any c W)
  have HD := Lib.hid (fun W => refDigit_any c W)
  obtain ⟨R, hR⟩ : ∃ R, R = partI c := ⟨_, rfl⟩
  rw [← hR]
  unfold partI greatI at hR
  have HR := Lib.hid hR
  clear hR
  generalize smallI c = S at HS HR
  generalize digitI c = D at HD HR
  cases S with
  | true =>
    have HZ := Lib.hid (show R = true by rw [HR.out]; simp)
    go_enter Tryz.func48, Tryz.ntmps48
    go_wp2_with fail
    refine (HS.out _).mono ?_
    rintro e wq ⟨rfl, rfl⟩
    go_wp2_with fail
    go_ret
    exact ⟨ret_bool HZ.out.symm, rfl⟩
  | false =>
    by_cases h1 : 65 ≤ c
    · by_cases h2 : c ≤ 90
      · have HZ := Lib.hid (show R = true by rw [HR.out]; simp [h1, h2])
        go_enter Tryz.func48, Tryz.ntmps48
        go_wp2_with fail
        refine (HS.out _).mono ?_
        rintro e wq ⟨rfl, rfl⟩
        go_wp2_with fail
        go_ret
        exact ⟨ret_bool HZ.out.symm, rfl⟩
      · cases D with
        | true =>
          have HZ := Lib.hid (show R = true by rw [HR.out]; simp)
          go_enter Tryz.func48, Tryz.ntmps48
          go_wp2_with fail
          refine (HS.out _).mono ?_
          rintro e wq ⟨rfl, rfl⟩
          go_wp2_with fail
          refine (HD.out _).mono ?_
          rintro e wq ⟨rfl, rfl⟩
          go_wp2_with fail
          go_ret
          exact ⟨ret_bool HZ.out.symm, rfl⟩
        | false =>
          have HZ := Lib.hid (show R = (c == 95) by rw [HR.out]; simp [h1, h2])
          go_enter Tryz.func48, Tryz.ntmps48
          go_wp2_with fail
          refine (HS.out _).mono ?_
          rintro e wq ⟨rfl, rfl⟩
          go_wp2_with fail
          refine (HD.out _).mono ?_
          rintro e wq ⟨rfl, rfl⟩
          go_wp2_with fail
          go_ret
          exact ⟨ret_bool (by rw [HZ.out]; simp; omega), rfl⟩
    · cases D with
      | true =>
        have HZ := Lib.hid (show R = true by rw [HR.out]; simp)
        go_enter Tryz.func48, Tryz.ntmps48
        go_wp2_with fail
        refine (HS.out _).mono ?_
        rintro e wq ⟨rfl, rfl⟩
        go_wp2_with fail
        refine (HD.out _).mono ?_
        rintro e wq ⟨rfl, rfl⟩
        go_wp2_with fail
        go_ret
        exact ⟨ret_bool HZ.out.symm, rfl⟩
      | false =>
        have HZ := Lib.hid (show R = (c == 95) by rw [HR.out]; simp [h1])
        go_enter Tryz.func48, Tryz.ntmps48
        go_wp2_with fail
        refine (HS.out _).mono ?_
        rintro e wq ⟨rfl, rfl⟩
        go_wp2_with fail
        refine (HD.out _).mono ?_
        rintro e wq ⟨rfl, rfl⟩
        go_wp2_with fail
        go_ret
        exact ⟨ret_bool HZ.out.symm, rfl⟩
/-! ### One block alone has changed -/
def Upd (g : Nat) (w w' : World) : Prop := Below g w w' ∧ ∀ b, g < b → b < w.heap.size → w'.heap[b]? = w.heap[b]?
theorem Upd.refl (g : Nat) (w : World) : Upd g w w := ⟨Below.refl _ _, fun _ _ _ => rfl⟩
theorem Upd.trans {g : Nat} {a b c : World} (h : Upd g a b) (k : Upd g b c) : Upd g a c :=
  ⟨h.1.trans k.1, fun i h1 h2 => (k.2 i h1 (Nat.lt_of_lt_of_le h2 h.1.size)).trans (h.2 i h1 h2)⟩
theorem Upd.below {g : Nat} {w w' : World} (h : Below w.heap.size w w') (hg : g ≤ w.heap.size) : Upd g w w' := ⟨h.mono hg, fun i _ h2 => h.block i h2⟩
theorem Upd.drewN (g : Nat) (w : World) (n : Nat) : Upd g w (w.drewN n) := ⟨G.bl_drewN (Below.refl _ _) n, fun _ _ _ => rfl⟩
theorem Upd.set {g : Nat} (w : World) (i : Nat) (u : Value) : Upd g w (w.setCell ⟨g, i, none⟩ u) :=
  ⟨(Below.refl g w).setCell (Nat.le_refl _) u, fun b h1 h2 => Below.heap_setCell w ⟨g, i, none⟩ u b (by simp; omega)⟩
theorem Upd.blk {g : Nat} {w w' : World} (h : Upd g w w') {b : Nat} {t : TypeId} {cs : Array Value} (hb : G.Blk w b t cs) (hn : b ≠ g) : G.Blk w' b t cs := by
  refine hb.same ?_
  rcases Nat.lt_or_ge b g with h1 | h1
  · exact h.1.block b h1
  · exact h.2 b (by omega) hb.lt
end Go.Proofs.YtlaikgaepaiigaaGreatDoor.K

/- The contract of the reference's SizeTokens. -/
import Derived.Test.YtlaikgaepaiigaaGreatDoorKEq
namespace Go.Proofs.YtlaikgaepaiigaaGreatDoor.K
open Go Go.RowKit
set_option linter.unusedVariables false
set_option linter.unusedSimpArgs false
def SizePost (t : List Tk) (w : World) (e : Ending) (w' : World) : Prop :=
  ∃ N : Nat, e = .returned (.int .i64 N) ∧ w = w' ∧ N ≤ 140737505132544 ∧ t.length ≤ N ∧ (N ≤ 16777216 → ∀ x ∈ t, x.text.size ≤ 16777216)
set_option maxRecDepth 100000 in
set_option maxHeartbeats 2000000 in
theorem sizeTokens_any (A : Option Addr) (n c : Nat) (t : List Tk) (w : World) (hn : t.length = n) (hm : n ≤ 140737488355328) (hr : G.RdS w A 4 n (flatT t)) (ht : ∀ x ∈ t, x.text.size ≤ 140737488355328) :
    Calls Tryz.prog 10 #[.slice A n c] w (SizePost t w) := by
  have HN := Lib.hid hn
  have HR := Lib.hid hr
  have HT := Lib.hid ht
  clear hn hr ht
  go_enter Tryz.func10, Tryz.ntmps10
  go_wp2
  go_loop [3, 4] (fun s i => ∃ k N : Nat, k ≤ n ∧ i = .int .i64 k ∧ s = .int .i64 N ∧ N ≤ 140737505132544 ∧ n ≤ N ∧ (∀ j, j < k → (t.getD j zeroTk).text.size ≤ N)) (fun _ i => n - (intOf i).toNat)
  case atStart => exact ⟨0, n, Nat.zero_le _, rfl, rfl, by omega, Nat.le_refl _, fun j hj => by omega⟩
  case round =>
    obtain ⟨k, N, hk, rfl, rfl, hN, hnN, hall⟩ := hrel
    have HALL := Lib.hid hall
    have h1 : (0 : Int) ≤ k := by omega
    clear hall
    by_cases hlt : k < n
    · have h0 : (k : Int) < n := by omega
      by_cases hb : N ≤ 16777216
      · have hb1 : (N : Int) ≤ 16777216 := by omega
        obtain ⟨b, off, rfl, hr⟩ := HR.out.2 (by omega)
        have hc := (tk_at hr (k := k) (by rw [HN.out]; exact hlt) rfl).2.1
        have hs := HT.out (t.getD k zeroTk) (by rw [List.getD_eq_getElem?_getD, List.getElem?_eq_getElem (by rw [HN.out]; exact hlt)]; exact List.getElem_mem _)
        obtain ⟨S, hS⟩ : ∃ S, S = (t.getD k zeroTk).text := ⟨_, rfl⟩
        rw [← hS] at hc hs
        have HS := Lib.hid hS.symm
        clear hr hS
        go_wp2
        go_round
        case rel => exact ⟨k + 1, N + S.size, by omega, by go_num, by go_num, by omega, by omega, fun j hj => by
          by_cases e : j = k
          · subst e; rw [HS.out]; omega
          · exact Nat.le_trans (HALL.out j (by omega)) (by omega)⟩
        case measure => simp [intOf]; omega
      · have hb1 : ¬ (N : Int) ≤ 16777216 := by omega
        go_wp2
        go_ret
        exact ⟨N, rfl, rfl, hN, by rw [HN.out]; exact hnN, fun h => absurd h hb⟩
    · have h0 : ¬ (k : Int) < n := by omega
      go_wp2
      go_ret
      refine ⟨N, rfl, rfl, hN, by rw [HN.out]; exact hnN, fun h x hx => ?_⟩
      obtain ⟨j, hj, rfl⟩ := List.mem_iff_getElem.1 hx
      have h2 := HALL.out j (by have := HN.out; omega)
      rw [List.getD_eq_getElem?_getD, List.getElem?_eq_getElem hj] at h2
      exact Nat.le_trans h2 h
end Go.Proofs.YtlaikgaepaiigaaGreatDoor.K

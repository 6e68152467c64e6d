/- The contract of deed.move. Printed by gen_move.py. -/
import Derived.Test.YtofgmijmhpmabaaGreatDoorDMoveA
import Derived.Test.YtofgmijmhpmabaaGreatDoorDMoveB
namespace Go.Proofs.YtofgmijmhpmabaaGreatDoor.D
open Go Go.RowKit
set_option linter.unusedVariables false
set_option linter.unusedSimpArgs false
set_option maxRecDepth 100000 in
set_option maxHeartbeats 8000000 in
theorem move_any (g base : Nat) (x : SV) (s : St) (w : World) (hs : StAt w g base x s) (hz : Sz s) (card src srcAt dst dstAt : Int) :
    Calls Tryz.prog 160 #[.pointer (some ⟨g, 0, none⟩), .int .i64 card, .int .i64 src, .int .i64 srcAt, .int .i64 dst, .int .i64 dstAt] w (StepPost s (moveS s card src srcAt dst dstAt) g base w) := by
  have HS := Lib.hid hs
  have HZ := Lib.hid hz
  have hnz := hz.z
  obtain ⟨c0, c1, c2, c3, c4, c5, c6⟩ := hs.cells
  have hlt := hs.blk.lt
  obtain ⟨n, hn⟩ : ∃ n, n = s.zones.length := ⟨_, rfl⟩
  rw [← hn] at hnz c2
  have HN := Lib.hid hn
  clear hs hz hn c0 c1 c3 c4 c5 c6
  by_cases h1 : 0 ≤ src
  · by_cases h2 : src < n
    · by_cases h3 : 0 ≤ dst
      · by_cases h4 : dst < n
        · by_cases h5 : src = dst ∧ srcAt = dstAt
          · have hb1 : (src == dst) = true := by rw [h5.1]; simp
            have hb2 : (srcAt == dstAt) = true := by rw [h5.2]; simp
            have HO := Lib.hid (moveS_no (s := s) (fun h => h.2.2.1 h5 : ¬ MoveOk s card src srcAt dst dstAt))
            clear h5
            go_enter Tryz.func160, Tryz.ntmps160
            go_wp2_with fail
            go_ret
            exact stepP_no HO.out (Below.refl _ _)
          · by_cases e : src = dst
            · exact move_eq g base x s w HS.out HZ.out card src srcAt dst dstAt h1 (by rw [← HN.out]; exact h2) h3 (by rw [← HN.out]; exact h4) h5 ⟨by rw [e]; simp, by rw [beq_eq_false_iff_ne]; exact fun e2 => h5 ⟨e, e2⟩⟩
            · exact move_ne g base x s w HS.out HZ.out card src srcAt dst dstAt h1 (by rw [← HN.out]; exact h2) h3 (by rw [← HN.out]; exact h4) h5 (by rw [beq_eq_false_iff_ne]; exact e)
        · have HO := Lib.hid (moveS_no (s := s) (fun h => h4 (by have := h.2.1.2; rw [← HN.out] at this; exact this) : ¬ MoveOk s card src srcAt dst dstAt))
          go_enter Tryz.func160, Tryz.ntmps160
          go_wp2_with fail
          go_ret
          exact stepP_no HO.out (Below.refl _ _)
      · have HO := Lib.hid (moveS_no (s := s) (fun h => h3 h.2.1.1 : ¬ MoveOk s card src srcAt dst dstAt))
        go_enter Tryz.func160, Tryz.ntmps160
        go_wp2_with fail
        go_ret
        exact stepP_no HO.out (Below.refl _ _)
    · have HO := Lib.hid (moveS_no (s := s) (fun h => h2 (by have := h.1.2; rw [← HN.out] at this; exact this) : ¬ MoveOk s card src srcAt dst dstAt))
      go_enter Tryz.func160, Tryz.ntmps160
      go_wp2_with fail
      go_ret
      exact stepP_no HO.out (Below.refl _ _)
  · have HO := Lib.hid (moveS_no (s := s) (fun h => h1 h.1.1 : ¬ MoveOk s card src srcAt dst dstAt))
    go_enter Tryz.func160, Tryz.ntmps160
    go_wp2_with fail
    go_ret
    exact stepP_no HO.out (Below.refl _ _)
end Go.Proofs.YtofgmijmhpmabaaGreatDoor.D

/- The contracts of the closures that end a game and take the end back. Printed by gen_end.py. -/
import Derived.Test.YtofgmijmhpmabaaGreatDoorDClo
import Derived.RegionTactic
import Derived.ChangeAlike
namespace Go.Proofs.YtofgmijmhpmabaaGreatDoor.D
open Go Go.RowKit
set_option linter.unusedVariables false
set_option linter.unusedSimpArgs false
theorem StAt.put2 {w : World} {g base : Nat} {x : SV} {s : St} (h : StAt w g base x s) (a b : Int) : StAt ((w.setCell ⟨g, 5, none⟩ (.int .i8 a)).setCell ⟨g, 6, none⟩ (.int .i64 b)) g base x { s with fin := a, winner := b } :=
  (h.put (i := 5) (t := { s with fin := a }) (u := .int .i8 a) rfl rfl rfl rfl).put (i := 6) (t := { s with fin := a, winner := b }) (u := .int .i64 b) rfl rfl rfl rfl
theorem endS_no {s : St} {now p : Int} (h : ¬ (s.fin = 0 ∧ ((now = 1 ∧ Within p s.players.length) ∨ (now = 2 ∧ p = 0)))) : endS s now p = none := if_neg h
theorem endS_yes {s : St} {now p : Int} (h1 : s.fin = 0) (h : (now = 1 ∧ Within p s.players.length) ∨ (now = 2 ∧ p = 0)) : endS s now p = some { s with fin := now, winner := p } := if_pos ⟨h1, h⟩
theorem endB_no {s : St} {now p : Int} (h : ¬ (s.fin ≠ 0 ∧ s.fin = now ∧ s.winner = p)) : endB s now p = none := if_neg h
theorem endB_yes {s : St} {now p : Int} (h1 : s.fin ≠ 0) (h2 : s.fin = now) (h3 : s.winner = p) : endB s now p = some { s with fin := 0, winner := 0 } := if_pos ⟨h1, h2, h3⟩
set_option maxRecDepth 100000 in
set_option maxHeartbeats 4000000 in
theorem do7_any (g base : Nat) (x : SV) (s : St) (w : World) (y : EV) (e : Ev) (hs : StAt w g base x s) (hm : May s) (hf : e.Fits) : Calls Tryz.prog 189 #[.pointer (some ⟨g, 0, none⟩), y.val e] w (StepPost s (endS s e.now e.player) g base w) := by
  have HS := Lib.hid hs
  have hnp := hm.n4
  obtain ⟨c0, c1, c2, c3, c4, c5, c6⟩ := hs.cells
  have r5 := hs.blk.frozen 5
  have r6 := hs.blk.frozen 6
  have hlt := hs.blk.lt
  have hf1 := hm.fin
  obtain ⟨kind, field, card, player, other, src, srcAt, dst, dstAt, was, now, order⟩ := e
  obtain ⟨oa, oc⟩ := y
  unfold EV.val EV.arr
  simp only
  obtain ⟨n, hn⟩ : ∃ n, n = s.players.length := ⟨_, rfl⟩
  rw [← hn] at hnp c0
  have HN := Lib.hid hn
  obtain ⟨fin, hfin⟩ : ∃ f, f = s.fin := ⟨_, rfl⟩
  obtain ⟨win, hwin⟩ : ∃ f, f = s.winner := ⟨_, rfl⟩
  rw [← hfin] at c5 hf1
  rw [← hwin] at c6
  have HFI := Lib.hid hfin
  have HWI := Lib.hid hwin
  obtain ⟨q0, q1⟩ := hf1
  clear hs hm hf hn hfin hwin c1 c2 c3 c4
  by_cases n1 : now = 1
  · subst n1
    by_cases p0 : 0 ≤ player
    · by_cases pn : player < n
      · by_cases f0 : fin = 0
        · have f0b : (fin != 0) = false := by rw [f0]; rfl
          have HO := Lib.hid (endS_yes (s := s) (now := 1) (p := player) (by rw [← HFI.out]; exact f0) (.inl ⟨rfl, p0, by rw [← HN.out]; exact pn⟩))
          clear f0
          go_enter Tryz.func189, Tryz.ntmps189
          go_wp2_with fail
          go_quiet (fail)
          go_wp2_with fail
          go_region
          all_goals
            go_wp2_with fail
            go_ret
            exact stepP_yes HO.out (StAt.put2 (HS.out.below (G.bl_drewN (G.bl_alloc (Below.refl _ _) _) _)) 1 player) ((Bk.of (G.bl_drewN (G.bl_alloc (Below.refl _ _) _) _) HS.out.base_le).trans (bk_put2 (HS.out.below (G.bl_drewN (G.bl_alloc (Below.refl _ _) _) _))))
        · have f0b : (fin != 0) = true := by rw [bne_iff_ne]; exact f0
          have HO := Lib.hid (endS_no (s := s) (now := 1) (p := player) (fun h => f0 (by rw [HFI.out]; exact h.1)))
          go_enter Tryz.func189, Tryz.ntmps189
          go_wp2_with fail
          go_quiet (fail)
          go_wp2_with fail
          go_ret
          exact stepP_no HO.out (Bk.of (G.bl_drewN (G.bl_alloc (Below.refl _ _) _) _) HS.out.base_le)
      · have pnd : decide (player < (n : Int)) = false := by simpa using pn
        by_cases f0 : fin = 0
        · have f0b : (fin != 0) = false := by rw [f0]; rfl
          have HF0 := Lib.hid f0
          clear f0
          have HO := Lib.hid (endS_no (s := s) (now := 1) (p := player) (fun h => h.2.elim (fun k => pn (by have := k.2.2; rw [← HN.out] at this; exact this)) (fun k => by have := k.1; omega)))
          go_enter Tryz.func189, Tryz.ntmps189
          go_wp2_with fail
          go_quiet (fail)
          go_wp2_with fail
          go_ret
          exact stepP_no HO.out (Bk.of (G.bl_drewN (G.bl_alloc (Below.refl _ _) _) _) HS.out.base_le)
        · have f0b : (fin != 0) = true := by rw [bne_iff_ne]; exact f0
          have HO := Lib.hid (endS_no (s := s) (now := 1) (p := player) (fun h => f0 (by rw [HFI.out]; exact h.1)))
          go_enter Tryz.func189, Tryz.ntmps189
          go_wp2_with fail
          go_quiet (fail)
          go_wp2_with fail
          go_ret
          exact stepP_no HO.out (Bk.of (G.bl_drewN (G.bl_alloc (Below.refl _ _) _) _) HS.out.base_le)
    · have p0d : decide (0 ≤ player) = false := by simpa using p0
      by_cases f0 : fin = 0
      · have f0b : (fin != 0) = false := by rw [f0]; rfl
        have HF0 := Lib.hid f0
        clear f0
        have HO := Lib.hid (endS_no (s := s) (now := 1) (p := player) (fun h => h.2.elim (fun k => p0 k.2.1) (fun k => by have := k.1; omega)))
        go_enter Tryz.func189, Tryz.ntmps189
        go_wp2_with fail
        go_quiet (fail)
        go_wp2_with fail
        go_ret
        exact stepP_no HO.out (Bk.of (G.bl_drewN (G.bl_alloc (Below.refl _ _) _) _) HS.out.base_le)
      · have f0b : (fin != 0) = true := by rw [bne_iff_ne]; exact f0
        have HO := Lib.hid (endS_no (s := s) (now := 1) (p := player) (fun h => f0 (by rw [HFI.out]; exact h.1)))
        go_enter Tryz.func189, Tryz.ntmps189
        go_wp2_with fail
        go_quiet (fail)
        go_wp2_with fail
        go_ret
        exact stepP_no HO.out (Bk.of (G.bl_drewN (G.bl_alloc (Below.refl _ _) _) _) HS.out.base_le)
  · have n1b : (now == 1) = false := by rw [beq_eq_false_iff_ne]; exact n1
    by_cases f0 : fin = 0
    · have f0b : (fin != 0) = false := by rw [f0]; rfl
      have HF0 := Lib.hid f0
      clear f0
      by_cases n2 : now = 2
      · subst n2
        by_cases p0 : player = 0
        · subst p0
          have HO := Lib.hid (endS_yes (s := s) (now := 2) (p := 0) (by rw [← HFI.out]; exact HF0.out) (.inr ⟨rfl, rfl⟩))
          go_enter Tryz.func189, Tryz.ntmps189
          go_wp2_with fail
          go_quiet (fail)
          go_wp2_with fail
          go_region
          all_goals
            go_wp2_with fail
            go_ret
            exact stepP_yes HO.out (StAt.put2 (HS.out.below (G.bl_drewN (G.bl_alloc (Below.refl _ _) _) _)) 2 0) ((Bk.of (G.bl_drewN (G.bl_alloc (Below.refl _ _) _) _) HS.out.base_le).trans (bk_put2 (HS.out.below (G.bl_drewN (G.bl_alloc (Below.refl _ _) _) _))))
        · have p0b : (player != 0) = true := by rw [bne_iff_ne]; exact p0
          have HO := Lib.hid (endS_no (s := s) (now := 2) (p := player) (fun h => h.2.elim (fun k => by have := k.1; omega) (fun k => p0 k.2)))
          go_enter Tryz.func189, Tryz.ntmps189
          go_wp2_with fail
          go_quiet (fail)
          go_wp2_with fail
          go_ret
          exact stepP_no HO.out (Bk.of (G.bl_drewN (G.bl_alloc (Below.refl _ _) _) _) HS.out.base_le)
      · have n2b : (now != 2) = true := by rw [bne_iff_ne]; exact n2
        have HO := Lib.hid (endS_no (s := s) (now := now) (p := player) (fun h => h.2.elim (fun k => n1 k.1) (fun k => n2 k.1)))
        go_enter Tryz.func189, Tryz.ntmps189
        go_wp2_with fail
        go_quiet (fail)
        go_wp2_with fail
        go_ret
        exact stepP_no HO.out (Bk.of (G.bl_drewN (G.bl_alloc (Below.refl _ _) _) _) HS.out.base_le)
    · have f0b : (fin != 0) = true := by rw [bne_iff_ne]; exact f0
      have HO := Lib.hid (endS_no (s := s) (now := now) (p := player) (fun h => f0 (by rw [HFI.out]; exact h.1)))
      go_enter Tryz.func189, Tryz.ntmps189
      go_wp2_with fail
      go_quiet (fail)
      go_wp2_with fail
      go_ret
      exact stepP_no HO.out (Bk.of (G.bl_drewN (G.bl_alloc (Below.refl _ _) _) _) HS.out.base_le)
set_option maxRecDepth 100000 in
set_option maxHeartbeats 4000000 in
theorem back7_any (g base : Nat) (x : SV) (s : St) (w : World) (y : EV) (e : Ev) (hs : StAt w g base x s) (hm : May s) (hf : e.Fits) : Calls Tryz.prog 190 #[.pointer (some ⟨g, 0, none⟩), y.val e] w (StepPost s (endB s e.now e.player) g base w) := by
  have HS := Lib.hid hs
  have hnp := hm.n4
  obtain ⟨c0, c1, c2, c3, c4, c5, c6⟩ := hs.cells
  have r5 := hs.blk.frozen 5
  have r6 := hs.blk.frozen 6
  have hlt := hs.blk.lt
  have hf1 := hm.fin
  obtain ⟨kind, field, card, player, other, src, srcAt, dst, dstAt, was, now, order⟩ := e
  obtain ⟨oa, oc⟩ := y
  unfold EV.val EV.arr
  simp only
  obtain ⟨n, hn⟩ : ∃ n, n = s.players.length := ⟨_, rfl⟩
  rw [← hn] at hnp c0
  have HN := Lib.hid hn
  obtain ⟨fin, hfin⟩ : ∃ f, f = s.fin := ⟨_, rfl⟩
  obtain ⟨win, hwin⟩ : ∃ f, f = s.winner := ⟨_, rfl⟩
  rw [← hfin] at c5 hf1
  rw [← hwin] at c6
  have HFI := Lib.hid hfin
  have HWI := Lib.hid hwin
  obtain ⟨q0, q1⟩ := hf1
  clear hs hm hf hn hfin hwin c1 c2 c3 c4
  by_cases f0 : fin = 0
  · have f0b : (fin == 0) = true := by rw [f0]; rfl
    have HO := Lib.hid (endB_no (s := s) (now := now) (p := player) (fun h => h.1 (by rw [← HFI.out]; exact f0)))
    go_enter Tryz.func190, Tryz.ntmps190
    go_wp2_with fail
    go_quiet (fail)
    go_wp2_with fail
    go_ret
    exact stepP_no HO.out (Bk.of (G.bl_drewN (G.bl_alloc (Below.refl _ _) _) _) HS.out.base_le)
  · have f0b : (fin == 0) = false := by rw [beq_eq_false_iff_ne]; exact f0
    by_cases f1 : fin = now
    · have f1b : (fin != now) = false := by rw [f1]; simp
      have HF1 := Lib.hid f1
      clear f1
      by_cases p0 : win = player
      · have p0b : (win != player) = false := by rw [p0]; simp
        have HP0 := Lib.hid p0
        clear p0
        have HO := Lib.hid (endB_yes (s := s) (now := now) (p := player) (by rw [← HFI.out]; exact f0) (by rw [← HFI.out]; exact HF1.out) (by rw [← HWI.out]; exact HP0.out))
        go_enter Tryz.func190, Tryz.ntmps190
        go_wp2_with fail
        go_quiet (fail)
        go_wp2_with fail
        go_ret
        exact stepP_yes HO.out (StAt.put2 (HS.out.below (G.bl_drewN (G.bl_alloc (Below.refl _ _) _) _)) 0 0) ((Bk.of (G.bl_drewN (G.bl_alloc (Below.refl _ _) _) _) HS.out.base_le).trans (bk_put2 (HS.out.below (G.bl_drewN (G.bl_alloc (Below.refl _ _) _) _))))
      · have p0b : (win != player) = true := by rw [bne_iff_ne]; exact p0
        have HO := Lib.hid (endB_no (s := s) (now := now) (p := player) (fun h => p0 (by rw [HWI.out]; exact h.2.2)))
        go_enter Tryz.func190, Tryz.ntmps190
        go_wp2_with fail
        go_quiet (fail)
        go_wp2_with fail
        go_ret
        exact stepP_no HO.out (Bk.of (G.bl_drewN (G.bl_alloc (Below.refl _ _) _) _) HS.out.base_le)
    · have f1b : (fin != now) = true := by rw [bne_iff_ne]; exact f1
      have HO := Lib.hid (endB_no (s := s) (now := now) (p := player) (fun h => f1 (by rw [HFI.out]; exact h.2.1)))
      go_enter Tryz.func190, Tryz.ntmps190
      go_wp2_with fail
      go_quiet (fail)
      go_wp2_with fail
      go_ret
      exact stepP_no HO.out (Bk.of (G.bl_drewN (G.bl_alloc (Below.refl _ _) _) _) HS.out.base_le)
end Go.Proofs.YtofgmijmhpmabaaGreatDoor.D

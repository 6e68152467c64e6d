/- The contracts of tableauref00's EqState, EqEvent. Printed by gen_eqst.py. -/
import Derived.Test.YtmhklnjmeoeanaaGreatDoorDLawM
namespace Go.Proofs.YtmhklnjmeoeanaaGreatDoor.D
open Go Go.RowKit
set_option linter.unusedVariables false
set_option linter.unusedSimpArgs false
set_option maxRecDepth 100000 in
set_option maxHeartbeats 8000000 in
theorem eqState_any (x y : SV) (s t : St) (w : World) (h : RdSt w x s) (k : RdSt w y t) (hz : Sz s) (kz : Sz t) : Calls Tryz.prog 17 #[x.val s, y.val t] w (BoolPost (decide (s = t)) w) := by
  have HP := Lib.hid (fun W (hW : Below w.heap.size w W) => eqPlayers_any x.pa y.pa s.players.length t.players.length x.pc y.pc s.players t.players W (h.below hW).p (k.below hW).p (by have := hz.p; unfold maxLen; omega) (by have := kz.p; unfold maxLen; omega))
  have HC := Lib.hid (fun W (hW : Below w.heap.size w W) => eqCards_any x.ca y.ca s.cards.length t.cards.length x.cc y.cc s.cards t.cards W (h.below hW).c (k.below hW).c (by have := hz.c; unfold maxLen; omega) (by have := kz.c; unfold maxLen; omega))
  have HZ := Lib.hid (fun W (hW : Below w.heap.size w W) => eqRows_any x.za y.za s.zones.length t.zones.length x.zc y.zc s.zones t.zones x.rows y.rows W rfl rfl (h.below hW).z (h.below hW).rows (k.below hW).z (k.below hW).rows hz.z kz.z hz.r kz.r)
  obtain ⟨pa, pc, ca, cc, za, zc, rows⟩ := x
  obtain ⟨qa, qc, da, dc, ya, yc, rowt⟩ := y
  obtain ⟨players, cards, zones, turn, whose, fin, win⟩ := s
  obtain ⟨players2, cards2, zones2, turn2, whose2, fin2, win2⟩ := t
  simp only at HP HC HZ
  unfold SV.val SV.arr
  simp only
  clear h k hz kz
  obtain ⟨n, hn⟩ : ∃ n, n = players.length := ⟨_, rfl⟩
  obtain ⟨m, hm⟩ : ∃ m, m = cards.length := ⟨_, rfl⟩
  obtain ⟨l, hl⟩ : ∃ l, l = zones.length := ⟨_, rfl⟩
  obtain ⟨n2, hn2⟩ : ∃ n, n = players2.length := ⟨_, rfl⟩
  obtain ⟨m2, hm2⟩ : ∃ m, m = cards2.length := ⟨_, rfl⟩
  obtain ⟨l2, hl2⟩ : ∃ l, l = zones2.length := ⟨_, rfl⟩
  rw [← hn, ← hn2] at HP
  rw [← hm, ← hm2] at HC
  rw [← hl, ← hl2] at HZ
  rw [← hn, ← hn2, ← hm, ← hm2, ← hl, ← hl2]
  clear hn hn2 hm hm2 hl hl2
  have HB := Lib.hid (G.bl_alloc (G.bl_alloc (Below.refl w.heap.size w) (.cells #[.slice pa n pc, .slice ca m cc, .slice za l zc, .int .i32 turn, .int .i64 whose, .int .i8 fin, .int .i64 win] 27)) (.cells #[.slice qa n2 qc, .slice da m2 dc, .slice ya l2 yc, .int .i32 turn2, .int .i64 whose2, .int .i8 fin2, .int .i64 win2] 27))
  by_cases c1 : turn = turn2
  · by_cases c2 : whose = whose2
    · by_cases c3 : fin = fin2
      · by_cases c4 : win = win2
        · subst c1 c2 c3 c4
          by_cases c5 : players = players2
          · by_cases c6 : cards = cards2
            · have HD := Lib.hid (show decide ((⟨players, cards, zones, turn, whose, fin, win⟩ : St) = ⟨players2, cards2, zones2, turn, whose, fin, win⟩) = decide (zones = zones2) by simp [c5, c6])
              rw [decide_eq_true c5] at HP
              rw [decide_eq_true c6] at HC
              clear c5 c6
              go_enter Tryz.func17, Tryz.ntmps17
              go_wp2_with (first | ((with_reducible refine (HP.out _ HB.out).mono ?_); rintro e1 w1 ⟨rfl, q1, rfl⟩) | ((with_reducible refine (HC.out _ (G.bl_drewN HB.out _)).mono ?_); rintro e2 w2 ⟨rfl, q2, rfl⟩) | ((with_reducible refine (HZ.out _ (G.bl_drewN HB.out _)).mono ?_); rintro e3 w3 ⟨rfl, q3, rfl⟩))
              go_ret
              exact ⟨ret_bool HD.out.symm, G.bl_drewN HB.out _⟩
            · have HD := Lib.hid (show decide ((⟨players, cards, zones, turn, whose, fin, win⟩ : St) = ⟨players2, cards2, zones2, turn, whose, fin, win⟩) = false from decide_eq_false (fun e => c6 (congrArg St.cards e)))
              rw [decide_eq_true c5] at HP
              rw [decide_eq_false c6] at HC
              clear c5 c6
              go_enter Tryz.func17, Tryz.ntmps17
              go_wp2_with (first | ((with_reducible refine (HP.out _ HB.out).mono ?_); rintro e1 w1 ⟨rfl, q1, rfl⟩) | ((with_reducible refine (HC.out _ (G.bl_drewN HB.out _)).mono ?_); rintro e2 w2 ⟨rfl, q2, rfl⟩) | ((with_reducible refine (HZ.out _ (G.bl_drewN HB.out _)).mono ?_); rintro e3 w3 ⟨rfl, q3, rfl⟩))
              go_ret
              exact ⟨ret_bool HD.out.symm, G.bl_drewN HB.out _⟩
          · have HD := Lib.hid (show decide ((⟨players, cards, zones, turn, whose, fin, win⟩ : St) = ⟨players2, cards2, zones2, turn, whose, fin, win⟩) = false from decide_eq_false (fun e => c5 (congrArg St.players e)))
            rw [decide_eq_false c5] at HP
            clear c5
            go_enter Tryz.func17, Tryz.ntmps17
            go_wp2_with (first | ((with_reducible refine (HP.out _ HB.out).mono ?_); rintro e1 w1 ⟨rfl, q1, rfl⟩) | ((with_reducible refine (HC.out _ (G.bl_drewN HB.out _)).mono ?_); rintro e2 w2 ⟨rfl, q2, rfl⟩) | ((with_reducible refine (HZ.out _ (G.bl_drewN HB.out _)).mono ?_); rintro e3 w3 ⟨rfl, q3, rfl⟩))
            go_ret
            exact ⟨ret_bool HD.out.symm, G.bl_drewN HB.out _⟩
        · have HD := Lib.hid (show decide ((⟨players, cards, zones, turn, whose, fin, win⟩ : St) = ⟨players2, cards2, zones2, turn2, whose2, fin2, win2⟩) = false from decide_eq_false (fun e => c4 (congrArg St.winner e)))
          have b1 : (win != win2) = true := by rw [bne_iff_ne]; exact c4
          subst c1 c2 c3
          clear c4
          go_enter Tryz.func17, Tryz.ntmps17
          go_wp2_with (first | ((with_reducible refine (HP.out _ HB.out).mono ?_); rintro e1 w1 ⟨rfl, q1, rfl⟩) | ((with_reducible refine (HC.out _ (G.bl_drewN HB.out _)).mono ?_); rintro e2 w2 ⟨rfl, q2, rfl⟩) | ((with_reducible refine (HZ.out _ (G.bl_drewN HB.out _)).mono ?_); rintro e3 w3 ⟨rfl, q3, rfl⟩))
          go_ret
          exact ⟨ret_bool HD.out.symm, HB.out⟩
      · have HD := Lib.hid (show decide ((⟨players, cards, zones, turn, whose, fin, win⟩ : St) = ⟨players2, cards2, zones2, turn2, whose2, fin2, win2⟩) = false from decide_eq_false (fun e => c3 (congrArg St.fin e)))
        have b1 : (fin != fin2) = true := by rw [bne_iff_ne]; exact c3
        subst c1 c2
        clear c3
        go_enter Tryz.func17, Tryz.ntmps17
        go_wp2_with (first | ((with_reducible refine (HP.out _ HB.out).mono ?_); rintro e1 w1 ⟨rfl, q1, rfl⟩) | ((with_reducible refine (HC.out _ (G.bl_drewN HB.out _)).mono ?_); rintro e2 w2 ⟨rfl, q2, rfl⟩) | ((with_reducible refine (HZ.out _ (G.bl_drewN HB.out _)).mono ?_); rintro e3 w3 ⟨rfl, q3, rfl⟩))
        go_ret
        exact ⟨ret_bool HD.out.symm, HB.out⟩
    · have HD := Lib.hid (show decide ((⟨players, cards, zones, turn, whose, fin, win⟩ : St) = ⟨players2, cards2, zones2, turn2, whose2, fin2, win2⟩) = false from decide_eq_false (fun e => c2 (congrArg St.whose e)))
      have b1 : (whose != whose2) = true := by rw [bne_iff_ne]; exact c2
      subst c1
      clear c2
      go_enter Tryz.func17, Tryz.ntmps17
      go_wp2_with (first | ((with_reducible refine (HP.out _ HB.out).mono ?_); rintro e1 w1 ⟨rfl, q1, rfl⟩) | ((with_reducible refine (HC.out _ (G.bl_drewN HB.out _)).mono ?_); rintro e2 w2 ⟨rfl, q2, rfl⟩) | ((with_reducible refine (HZ.out _ (G.bl_drewN HB.out _)).mono ?_); rintro e3 w3 ⟨rfl, q3, rfl⟩))
      go_ret
      exact ⟨ret_bool HD.out.symm, HB.out⟩
  · have HD := Lib.hid (show decide ((⟨players, cards, zones, turn, whose, fin, win⟩ : St) = ⟨players2, cards2, zones2, turn2, whose2, fin2, win2⟩) = false from decide_eq_false (fun e => c1 (congrArg St.turn e)))
    have b1 : (turn != turn2) = true := by rw [bne_iff_ne]; exact c1
    clear c1
    go_enter Tryz.func17, Tryz.ntmps17
    go_wp2_with (first | ((with_reducible refine (HP.out _ HB.out).mono ?_); rintro e1 w1 ⟨rfl, q1, rfl⟩) | ((with_reducible refine (HC.out _ (G.bl_drewN HB.out _)).mono ?_); rintro e2 w2 ⟨rfl, q2, rfl⟩) | ((with_reducible refine (HZ.out _ (G.bl_drewN HB.out _)).mono ?_); rintro e3 w3 ⟨rfl, q3, rfl⟩))
    go_ret
    exact ⟨ret_bool HD.out.symm, HB.out⟩
end Go.Proofs.YtmhklnjmeoeanaaGreatDoor.D

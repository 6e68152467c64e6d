/- The contracts of deed.turn, deed.out, the ends of a game. -/
import Derived.Test.YtofgmijmhpmabaaGreatDoorDStAt
import Derived.Test.YtofgmijmhpmabaaGreatDoorDCheck
namespace Go.Proofs.YtofgmijmhpmabaaGreatDoor.D
open Go Go.RowKit
set_option linter.unusedVariables false
set_option linter.unusedSimpArgs false
theorem StAt.cells {w : World} {g base : Nat} {x : SV} {s : St} (h : StAt w g base x s) :
    w.cell? ⟨g, 0, none⟩ = some (.slice x.pa s.players.length x.pc) ∧ w.cell? ⟨g, 1, none⟩ = some (.slice x.ca s.cards.length x.cc) ∧ w.cell? ⟨g, 2, none⟩ = some (.slice x.za s.zones.length x.zc) ∧ w.cell? ⟨g, 3, none⟩ = some (.int .i32 s.turn) ∧
      w.cell? ⟨g, 4, none⟩ = some (.int .i64 s.whose) ∧ w.cell? ⟨g, 5, none⟩ = some (.int .i8 s.fin) ∧ w.cell? ⟨g, 6, none⟩ = some (.int .i64 s.winner) :=
  ⟨h.blk.cell 0, h.blk.cell 1, h.blk.cell 2, h.blk.cell 3, h.blk.cell 4, h.blk.cell 5, h.blk.cell 6⟩
/-- A number of a state is written. -/
theorem StAt.put {w : World} {g base i : Nat} {x : SV} {s t : St} {u : Value} (h : StAt w g base x s) (ht : x.arr t = (x.arr s).setIfInBounds i u) (h1 : t.players = s.players) (h2 : t.cards = s.cards) (h3 : t.zones = s.zones) : StAt (w.setCell ⟨g, i, none⟩ u) g base x t := by
  refine ⟨by rw [ht]; exact h.blk.put i u, ?_, h.ge⟩
  have hO : G.Only 27 0 w (w.setCell ⟨g, i, none⟩ u) := (G.Only.refl _ _ _).set (p := ⟨g, i, none⟩) (Nat.zero_le _) (show w.heap[g]? = some (.cells (x.arr s) 27 (0, 0)) from h.blk) u
  have := h.own.only hO (by decide) (by decide) (by decide) (by decide)
  obtain ⟨a1, a2, a3, a4, a5, a6, a7⟩ := t
  simp only at h1 h2 h3
  subst h1 h2 h3
  exact ⟨this.p, this.c, this.z, this.rows, this.apart⟩
theorem stored_by {w : World} {base e sz n c g : Nat} {a : Option Addr} {xs : List Value} (h : w.ownsRow base e sz (.slice a n c) n xs) (ha : a = some ⟨g, 0, none⟩) (j : Nat) (u : Value) : w.grownBy (w.setCell ⟨g, j, none⟩ u) (Value.slice a n c).ownBlock := by
  subst ha
  exact (h.stored j u).2
theorem bl_put {w : World} {g base i : Nat} {u : Value} (h : base ≤ g) : Below base w (w.setCell ⟨g, i, none⟩ u) := (Below.refl _ _).setCell h u
set_option maxHeartbeats 2000000 in
theorem turn_any (g base : Nat) (x : SV) (s : St) (w : World) (hs : StAt w g base x s) (hz : Sz s) (was now src dst by_ : Int) (hw : -2147483648 ≤ was ∧ was ≤ 2147483647) (hn : -2147483648 ≤ now ∧ now ≤ 2147483647) (hb : by_ = 1 ∨ by_ = -1) :
    Calls Tryz.prog 185 #[.pointer (some ⟨g, 0, none⟩), .int .i32 was, .int .i32 now, .int .i64 src, .int .i64 dst, .int .i64 by_] w (StepPost s (turnS s was now src dst by_) g base w) := by
  have HS := Lib.hid hs
  have hp := hz.p
  obtain ⟨c0, c1, c2, c3, c4, c5, c6⟩ := hs.cells
  have f3 := hs.blk.frozen 3
  have f4 := hs.blk.frozen 4
  have hlt := hs.blk.lt
  obtain ⟨w1, w2⟩ := hw
  obtain ⟨n1, n2⟩ := hn
  have HT := Lib.hid (show turnS s was now src dst by_ = if s.turn = was ∧ s.whose = src ∧ Within dst s.players.length ∧ now = was + by_ then some { s with turn := now, whose := dst } else none from rfl)
  obtain ⟨n, hnn⟩ : ∃ n, n = s.players.length := ⟨_, rfl⟩
  rw [← hnn] at hp c0
  have HNN := Lib.hid hnn
  have hby0 : -1 ≤ by_ ∧ by_ ≤ 1 := by omega
  obtain ⟨b1, b2⟩ := hby0
  clear hs hz hnn hb
  by_cases h1 : s.turn = was
  · rw [h1] at c3
    by_cases h2 : s.whose = src
    · rw [h2] at c4
      by_cases h3 : 0 ≤ dst
      · by_cases h4 : dst < n
        · by_cases h5 : now = was + by_
          · have HO := Lib.hid (show turnS s was now src dst by_ = some { s with turn := now, whose := dst } by
              rw [HT.out, if_pos ⟨h1, h2, ⟨h3, by rw [← HNN.out]; exact h4⟩, h5⟩])
            have h5b : (now != was + by_) = false := by rw [h5]; simp
            have HR := Lib.hid (((HS.out.put (i := 3) (t := { s with turn := now }) (u := .int .i32 now) rfl rfl rfl rfl).put (i := 4) (t := { s with turn := now, whose := dst }) (u := .int .i64 dst) rfl rfl rfl rfl))
            have hge := HS.out.ge
            clear h1 h2 h5 HT
            go_enter Tryz.func185, Tryz.ntmps185
            go_wp2_with fail
            go_ret
            exact stepP_yes HO.out HR.out ((bl_put hge).trans (bl_put hge))
          · have HO := Lib.hid (show turnS s was now src dst by_ = none by rw [HT.out, if_neg fun h => h5 h.2.2.2])
            have h5b : (now != was + by_) = true := by rw [bne_iff_ne]; exact h5
            clear h1 h2 h5 HT
            go_enter Tryz.func185, Tryz.ntmps185
            go_wp2_with fail
            go_ret
            exact stepP_no HO.out (Below.refl _ _)
        · have HO := Lib.hid (show turnS s was now src dst by_ = none by rw [HT.out, if_neg fun h => h4 (by have := h.2.2.1.2; rw [HNN.out]; exact this)])
          clear h1 h2 HT
          go_enter Tryz.func185, Tryz.ntmps185
          go_wp2_with fail
          go_ret
          exact stepP_no HO.out (Below.refl _ _)
      · have HO := Lib.hid (show turnS s was now src dst by_ = none by rw [HT.out, if_neg fun h => h3 h.2.2.1.1])
        clear h1 h2 HT
        go_enter Tryz.func185, Tryz.ntmps185
        go_wp2_with fail
        go_ret
        exact stepP_no HO.out (Below.refl _ _)
    · have HO := Lib.hid (show turnS s was now src dst by_ = none by rw [HT.out, if_neg fun h => h2 h.2.1])
      have h2b : (s.whose != src) = true := by rw [bne_iff_ne]; exact h2
      clear h1 HT
      go_enter Tryz.func185, Tryz.ntmps185
      go_wp2_with fail
      go_ret
      exact stepP_no HO.out (Below.refl _ _)
  · have HO := Lib.hid (show turnS s was now src dst by_ = none by rw [HT.out, if_neg fun h => h1 h.1])
    have h1b : (s.turn != was) = true := by rw [bne_iff_ne]; exact h1
    clear HT
    go_enter Tryz.func185, Tryz.ntmps185
    go_wp2_with fail
    go_ret
    exact stepP_no HO.out (Below.refl _ _)
set_option maxHeartbeats 2000000 in
theorem out_any (g base : Nat) (x : SV) (s : St) (w : World) (hs : StAt w g base x s) (hz : Sz s) (p : Int) (now : Bool) :
    Calls Tryz.prog 180 #[.pointer (some ⟨g, 0, none⟩), .int .i64 p, .bool now] w (StepPost s (outS s p now) g base w) := by
  have HS := Lib.hid hs
  have hp := hz.p
  obtain ⟨c0, c1, c2, c3, c4, c5, c6⟩ := hs.cells
  have hlt := hs.blk.lt
  have HT := Lib.hid (show outS s p now = if Within p s.players.length ∧ (s.players.getD p.toNat zeroPl).out ≠ now then some { s with players := s.players.set p.toNat { s.players.getD p.toNat zeroPl with out := now } } else none from rfl)
  obtain ⟨n, hnn⟩ : ∃ n, n = s.players.length := ⟨_, rfl⟩
  rw [← hnn] at hp c0
  have HNN := Lib.hid hnn
  clear hs hz hnn
  by_cases h1 : 0 ≤ p
  · obtain ⟨k, rfl⟩ := Int.eq_ofNat_of_zero_le h1
    by_cases h2 : k < n
    · have h2I : (k : Int) < n := by omega
      have hpo := HS.out.own.p
      rw [← HNN.out] at hpo
      obtain ⟨gp, cp, hpv, hgb, hnc, cur, hgg⟩ := G.own_addr hpo (by omega)
      simp only [Value.slice.injEq, true_and] at hpv
      obtain ⟨hpa, hpc⟩ := hpv
      rw [hpa] at c0 hpo
      obtain ⟨y, hy⟩ : ∃ y, y = s.players.getD k zeroPl := ⟨_, rfl⟩
      have hrd := G.RdS.of_own hpo
      obtain ⟨b, off, e, hrv⟩ := hrd.2 (by omega)
      simp only [Option.some.injEq, Addr.mk.injEq, and_true] at e
      obtain ⟨rfl, rfl⟩ := e
      obtain ⟨d0, d1, d2⟩ := pl_at hrv (k := k) (by rw [← HNN.out]; exact h2) hy.symm
      simp only [Nat.zero_add] at d0 d1 d2
      have hfr := hpo.frozenAt (k * 3 + 2)
      have HY := Lib.hid hy
      have HPA := Lib.hid hpa
      have hglt := World.block_lt_of_cell? _ _ d0
      have HGB := Lib.hid hgb
      clear hrv hrd hpo hgg hy hpa hpc hgb
      by_cases h3 : y.out = now
      · have HO := Lib.hid (show outS s k now = none by rw [HT.out, if_neg fun h => h.2 (by rw [Int.toNat_natCast, ← HY.out]; exact h3)])
        rw [h3] at d2
        clear h3 HT
        have hnn : (now == now) = true := by simp
        go_enter Tryz.func180, Tryz.ntmps180
        go_wp2_with fail
        go_ret
        exact stepP_no HO.out (Below.refl _ _)
      · have HO := Lib.hid (show outS s k now = some { s with players := s.players.set k { y with out := now } } by
          rw [HT.out, Int.toNat_natCast, ← HY.out, if_pos ⟨⟨by omega, by rw [← HNN.out]; exact h2I⟩, h3⟩])
        have h3b : (y.out == now) = false := by
          cases h4 : y.out <;> cases now <;> simp_all
        have HR := Lib.hid (HS.out.own.pset (j := 2) (u := .bool now) (y := { y with out := now }) HPA.out (by rw [← HNN.out]; exact h2) (by omega) (by rw [← HY.out]; rfl))
        have HBK := Lib.hid (blk_far HS.out.blk HS.out.own.p (stored_by HS.out.own.p HPA.out (k * 3 + 2) (.bool now)) (by decide))
        clear h3 HT
        go_enter Tryz.func180, Tryz.ntmps180
        go_wp2_with fail
        go_ret
        exact stepP_yes HO.out ⟨by have := HBK.out; simpa [SV.arr] using this, HR.out, HS.out.ge⟩ (bl_put HGB.out)
    · have HO := Lib.hid (show outS s k now = none by rw [HT.out, if_neg fun h => h2 (by have := h.1.2; rw [← HNN.out] at this; omega)])
      have h2I : ¬ (k : Int) < n := by omega
      clear HT
      go_enter Tryz.func180, Tryz.ntmps180
      go_wp2_with fail
      go_ret
      exact stepP_no HO.out (Below.refl _ _)
  · have HO := Lib.hid (show outS s p now = none by rw [HT.out, if_neg fun h => h1 h.1.1])
    clear HT
    go_enter Tryz.func180, Tryz.ntmps180
    go_wp2_with fail
    go_ret
    exact stepP_no HO.out (Below.refl _ _)
end Go.Proofs.YtofgmijmhpmabaaGreatDoor.D

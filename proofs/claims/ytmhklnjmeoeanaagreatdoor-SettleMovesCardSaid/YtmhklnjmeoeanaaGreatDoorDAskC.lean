/- What deed.Change and deed.Shuffle ask of a state. -/
import Derived.Test.YtmhklnjmeoeanaaGreatDoorDField
import Derived.Test.YtmhklnjmeoeanaaGreatDoorDMoveD
import Derived.Test.YtmhklnjmeoeanaaGreatDoorDShuf
import Derived.Lib.QuietBelow
import Derived.BigQuiet
namespace Go.Proofs.YtmhklnjmeoeanaaGreatDoor.D
open Go Go.RowKit
set_option linter.unusedVariables false
set_option linter.unusedSimpArgs false
def FieldR (s : St) (f num : Int) (w : World) (e : Ending) (w' : World) : Prop :=
  ∃ (p : Option Addr) (k : Nat), e = .returned (.pointer p) ∧ w' = w.drewN k ∧ ((p = none ∧ getF s f num = none) ∨ (∃ gp off v, p = some ⟨gp, off, none⟩ ∧ getF s f num = some v ∧ w.cell? ⟨gp, off, none⟩ = some (.int .i32 v)))
theorem fieldR_no {s : St} {f num : Int} {w : World} (h : getF s f num = none) : FieldR s f num w (.returned (.pointer none)) w := ⟨none, 0, rfl, rfl, .inl ⟨rfl, h⟩⟩
set_option maxRecDepth 100000 in
set_option maxHeartbeats 4000000 in
theorem fieldR_any (g : Nat) (x : SV) (s : St) (w : World) (hb : G.Blk w g 27 (x.arr s)) (hr : RdSt w x s) (hz : Sz s) (f num : Int) (hf : -128 ≤ f ∧ f ≤ 127) :
    Calls Tryz.prog 163 #[.pointer (some ⟨g, 0, none⟩), .int .i8 f, .int .i64 num] w (FieldR s f num w) := by
  have HR := Lib.hid hr
  have hp1 := hz.p
  have hp2 := hz.c
  obtain ⟨c0, c1, c2⟩ := box_cells hb
  have hlt := hb.lt
  obtain ⟨n, hn⟩ : ∃ n, n = s.players.length := ⟨_, rfl⟩
  obtain ⟨m, hm⟩ : ∃ m, m = s.cards.length := ⟨_, rfl⟩
  rw [← hn] at hp1 c0
  rw [← hm] at hp2 c1
  have HN := Lib.hid hn
  have HM := Lib.hid hm
  obtain ⟨f1, f2⟩ := hf
  clear hb hr hz hn hm c2
  by_cases k1 : f ≤ 4
  · by_cases k2 : 1 ≤ f
    · by_cases k3 : 0 ≤ num
      · obtain ⟨k, rfl⟩ := Int.eq_ofNat_of_zero_le k3
        by_cases k4 : k < m
        · have k4I : ((k : Nat) : Int) < m := by omega
          obtain ⟨gc, off, hca, hrv⟩ := HR.out.c.2 (by rw [← HM.out]; omega)
          rw [hca] at c1
          obtain ⟨d0, d1, d2, d3, d4, d5⟩ := cd_at hrv (k := k) (by rw [← HM.out]; exact k4) rfl
          have hgl := World.block_lt_of_cell? _ _ d0
          have HC2 := Lib.hid d2
          have HC3 := Lib.hid d3
          have HC4 := Lib.hid d4
          have HC5 := Lib.hid d5
          have HG := Lib.hid (show getF s f k = some (cardF (s.cards.getD k zeroCd) f) by
            unfold getF
            rw [if_pos k1, if_pos ⟨k2, by unfold Within; rw [← HM.out]; omega⟩]
            rfl)
          clear hca hrv d0 d1 d2 d3 d4 d5
          have h4 : f = 1 ∨ f = 2 ∨ f = 3 ∨ f = 4 := by omega
          rcases h4 with rfl | rfl | rfl | rfl
          · have i0 := fun x0 x1 x2 x3 => (idxp4 x0 x1 x2 x3).1
            go_enter Tryz.func163, Tryz.ntmps163
            go_wp2_with fail
            go_quiet (fail)
            go_wp2_with fail
            go_ret
            exact ⟨_, _, rfl, rfl, .inr ⟨_, _, _, rfl, HG.out, HC2.out⟩⟩
          · have i0 := fun x0 x1 x2 x3 => (idxp4 x0 x1 x2 x3).2.1
            go_enter Tryz.func163, Tryz.ntmps163
            go_wp2_with fail
            go_quiet (fail)
            go_wp2_with fail
            go_ret
            exact ⟨_, _, rfl, rfl, .inr ⟨_, _, _, rfl, HG.out, HC3.out⟩⟩
          · have i0 := fun x0 x1 x2 x3 => (idxp4 x0 x1 x2 x3).2.2.1
            go_enter Tryz.func163, Tryz.ntmps163
            go_wp2_with fail
            go_quiet (fail)
            go_wp2_with fail
            go_ret
            exact ⟨_, _, rfl, rfl, .inr ⟨_, _, _, rfl, HG.out, HC4.out⟩⟩
          · have i0 := fun x0 x1 x2 x3 => (idxp4 x0 x1 x2 x3).2.2.2
            go_enter Tryz.func163, Tryz.ntmps163
            go_wp2_with fail
            go_quiet (fail)
            go_wp2_with fail
            go_ret
            exact ⟨_, _, rfl, rfl, .inr ⟨_, _, _, rfl, HG.out, HC5.out⟩⟩
        · have k4I : ¬ ((k : Nat) : Int) < m := by omega
          have HNO := Lib.hid (show getF s f (k : Int) = none by unfold getF; rw [if_pos k1, if_neg (fun h => k4 (by have h9 := h.2.2; rw [← HM.out] at h9; omega))])
          go_enter Tryz.func163, Tryz.ntmps163
          go_wp2_with fail
          go_ret
          exact fieldR_no HNO.out
      · have HNO := Lib.hid (show getF s f num = none by unfold getF; rw [if_pos k1, if_neg (fun h => k3 h.2.1)])
        go_enter Tryz.func163, Tryz.ntmps163
        go_wp2_with fail
        go_ret
        exact fieldR_no HNO.out
    · have HNO := Lib.hid (show getF s f num = none by unfold getF; rw [if_pos k1, if_neg (fun h => k2 h.1)])
      go_enter Tryz.func163, Tryz.ntmps163
      go_wp2_with fail
      go_ret
      exact fieldR_no HNO.out
  · by_cases k2 : f ≤ 6
    · by_cases k3 : 0 ≤ num
      · obtain ⟨k, rfl⟩ := Int.eq_ofNat_of_zero_le k3
        by_cases k4 : k < n
        · have k4I : ((k : Nat) : Int) < n := by omega
          obtain ⟨gc, off, hca, hrv⟩ := HR.out.p.2 (by rw [← HN.out]; omega)
          rw [hca] at c0
          obtain ⟨d0, d1, d2⟩ := pl_at hrv (k := k) (by rw [← HN.out]; exact k4) rfl
          have hgl := World.block_lt_of_cell? _ _ d0
          have HC0 := Lib.hid d0
          have HC1 := Lib.hid d1
          have HG := Lib.hid (show getF s f k = some (plF (s.players.getD k zeroPl) f) by
            unfold getF
            rw [if_neg k1, if_pos ⟨k2, by unfold Within; rw [← HN.out]; omega⟩]
            rfl)
          clear hca hrv d0 d1 d2
          have h4 : f = 5 ∨ f = 6 := by omega
          rcases h4 with rfl | rfl
          · have i0 := fun x0 x1 => (idxp2 x0 x1).1
            go_enter Tryz.func163, Tryz.ntmps163
            go_wp2_with fail
            go_quiet (fail)
            go_wp2_with fail
            go_ret
            exact ⟨_, _, rfl, rfl, .inr ⟨_, _, _, rfl, HG.out, HC0.out⟩⟩
          · have i0 := fun x0 x1 => (idxp2 x0 x1).2
            go_enter Tryz.func163, Tryz.ntmps163
            go_wp2_with fail
            go_quiet (fail)
            go_wp2_with fail
            go_ret
            exact ⟨_, _, rfl, rfl, .inr ⟨_, _, _, rfl, HG.out, HC1.out⟩⟩
        · have k4I : ¬ ((k : Nat) : Int) < n := by omega
          have HNO := Lib.hid (show getF s f (k : Int) = none by unfold getF; rw [if_neg k1, if_neg (fun h => k4 (by have h9 := h.2.2; rw [← HN.out] at h9; omega))])
          go_enter Tryz.func163, Tryz.ntmps163
          go_wp2_with fail
          go_ret
          exact fieldR_no HNO.out
      · have HNO := Lib.hid (show getF s f num = none by unfold getF; rw [if_neg k1, if_neg (fun h => k3 h.2.1)])
        go_enter Tryz.func163, Tryz.ntmps163
        go_wp2_with fail
        go_ret
        exact fieldR_no HNO.out
    · have HNO := Lib.hid (show getF s f num = none by unfold getF; rw [if_neg k1, if_neg (fun h => k2 h.1)])
      go_enter Tryz.func163, Tryz.ntmps163
      go_wp2_with fail
      go_ret
      exact fieldR_no HNO.out
end Go.Proofs.YtmhklnjmeoeanaaGreatDoor.D
namespace Go.Proofs.YtmhklnjmeoeanaaGreatDoor.D
open Go Go.RowKit
set_option linter.unusedVariables false
set_option linter.unusedSimpArgs false
theorem box3_new (w : World) (t u v : TypeId) (a b c : Array Value) : G.Blk (((w.alloc (.cells a t)).alloc (.cells b u)).alloc (.cells c v)) w.heap.size t a ∧ G.Blk (((w.alloc (.cells a t)).alloc (.cells b u)).alloc (.cells c v)) (w.heap.size + 1) u b ∧
    G.Blk (((w.alloc (.cells a t)).alloc (.cells b u)).alloc (.cells c v)) (w.heap.size + 2) v c ∧ Below w.heap.size w (((w.alloc (.cells a t)).alloc (.cells b u)).alloc (.cells c v)) := by
  have h1 : G.Blk ((w.alloc (.cells a t)).alloc (.cells b u)) w.heap.size t a := heap_alloc2_old w (.cells a t) (.cells b u)
  have h2 : G.Blk ((w.alloc (.cells a t)).alloc (.cells b u)) (w.heap.size + 1) u b := heap_alloc2_new w (.cells a t) (.cells b u)
  have h3 : G.Blk (((w.alloc (.cells a t)).alloc (.cells b u)).alloc (.cells c v)) (w.heap.size + 2) v c := by
    have := heap_alloc_new ((w.alloc (.cells a t)).alloc (.cells b u)) (.cells c v)
    simpa [G.Blk] using this
  have hb : Below ((w.alloc (.cells a t)).alloc (.cells b u)).heap.size ((w.alloc (.cells a t)).alloc (.cells b u)) (((w.alloc (.cells a t)).alloc (.cells b u)).alloc (.cells c v)) := G.bl_alloc (Below.refl _ _) _
  exact ⟨h1.below hb h1.lt, h2.below hb h2.lt, h3, G.bl_alloc (G.bl_alloc (G.bl_alloc (Below.refl _ _) _) _) _⟩
end Go.Proofs.YtmhklnjmeoeanaaGreatDoor.D

/- The contract of deed.refused, of what Draw, Move, Out ask. -/
import Derived.Test.YtofgmijmhpmabaaGreatDoorDMay
import Derived.Test.YtofgmijmhpmabaaGreatDoorDDeeds
namespace Go.Proofs.YtofgmijmhpmabaaGreatDoor.D
open Go Go.RowKit
set_option linter.unusedVariables false
set_option linter.unusedSimpArgs false
def RefPost (s : St) (b : Bool) (w : World) (e : Ending) (w' : World) : Prop := ∃ k : Int, e = .returned (.int .i64 k) ∧ Below w.heap.size w w' ∧ ((k = 10 ∧ ¬ May s) ∨ (k = 1 ∧ May s ∧ b = false) ∨ (k = 0 ∧ May s ∧ b = true))
set_option maxRecDepth 100000 in
set_option maxHeartbeats 4000000 in
theorem refused_any (x : SV) (s : St) (w : World) (h : RdSt w x s) (hz : Sz s) (f : FuncId) (eg : ∀ args w, (callFunc f args).run Tryz.prog w = .ok (.enter f args) w) (caps : Array Value) (b : Bool)
    (hk : May s → ∀ W, Below w.heap.size w W → Calls Tryz.prog f caps W (BoolPost b W)) : Calls Tryz.prog 102 #[x.val s, .func (.func f) #[] caps] w (RefPost s b w) := by
  obtain ⟨fsS, hfsS⟩ := undSt
  have HFS := Lib.hid hfsS
  have HCK := Lib.hid (fun W (hW : Below w.heap.size w W) => check_any x s W (h.below hW) hz)
  obtain ⟨c, hc⟩ : ∃ c, c = x.arr s := ⟨_, rfl⟩
  have HS := Lib.hid (show c.size = 7 by rw [hc]; rfl)
  have he : x.val s = .agg c := by rw [hc]; rfl
  rw [he] at HCK ⊢
  have HK := Lib.hid hk
  clear h hz hc he hfsS hk
  have HB0 := Lib.hid (G.Blk.new w 27 c)
  have HBL0 := Lib.hid (G.bl_alloc (Below.refl w.heap.size w) (.cells c 27))
  go_enter Tryz.func102, Tryz.ntmps102
  go_wp2_with (refine wpList_load_row rfl 27 _ rfl w.heap.size rfl _ c (0, 0) _ HB0.out HFS.out rfl (by rw [HS.out]; exact sizeSt) ?_)
  refine (HCK.out _ HBL0.out).mono ?_
  rintro e1 w1 hp1
  obtain ⟨k1, at1, rfl, hk1, hb1⟩ := hp1
  have HBL1 := Lib.hid (G.bl_trans HBL0.out hb1)
  clear hb1
  rcases hk1 with ⟨rfl, hm⟩ | ⟨rfl, hm⟩
  · have HM := Lib.hid hm
    have HC := Lib.hid (HK.out hm _ HBL1.out)
    clear hm
    cases b
    · go_wp2_with ((with_reducible refine (HC.out).mono ?_); rintro e2 w2 ⟨rfl, hb2⟩; have HBL2 := Lib.hid (G.bl_trans HBL1.out hb2); clear hb2)
      go_ret
      exact ⟨1, rfl, HBL2.out, .inr (.inl ⟨rfl, HM.out, rfl⟩)⟩
    · go_wp2_with ((with_reducible refine (HC.out).mono ?_); rintro e2 w2 ⟨rfl, hb2⟩; have HBL2 := Lib.hid (G.bl_trans HBL1.out hb2); clear hb2)
      go_ret
      exact ⟨0, rfl, HBL2.out, .inr (.inr ⟨rfl, HM.out, rfl⟩)⟩
  · have HM := Lib.hid hm
    clear hm
    go_wp2_with fail
    go_ret
    exact ⟨10, rfl, HBL1.out, .inl ⟨rfl, HM.out⟩⟩
def withinB (k : Int) (n : Nat) : Bool := decide (Within k n)
theorem within_yes {k : Int} {n : Nat} (h : Within k n) : withinB k n = true := decide_eq_true h
theorem within_no {k : Int} {n : Nat} (h : ¬ Within k n) : withinB k n = false := decide_eq_false h
/-- A state in a box, read alone. -/
theorem box_cells {w : World} {g : Nat} {x : SV} {s : St} (h : G.Blk w g 27 (x.arr s)) :
    w.cell? ⟨g, 0, none⟩ = some (.slice x.pa s.players.length x.pc) ∧ w.cell? ⟨g, 1, none⟩ = some (.slice x.ca s.cards.length x.cc) ∧ w.cell? ⟨g, 2, none⟩ = some (.slice x.za s.zones.length x.zc) := ⟨h.cell 0, h.cell 1, h.cell 2⟩
set_option maxHeartbeats 2000000 in
theorem askDraw_any (x : SV) (s : St) (gn g : Nat) (p : Int) (w : World) (h : G.Blk w g 27 (x.arr s)) (hn : G.Blk w gn 3 #[.int .i64 p]) (hl : s.players.length ≤ 33554432) :
    Calls Tryz.prog 128 #[.pointer (some ⟨gn, 0, none⟩), .pointer (some ⟨g, 0, none⟩)] w (BoolPost (withinB p s.players.length) w) := by
  have c0 := (box_cells h).1
  have d0 := hn.cell 0
  have l0 := h.lt
  have l1 := hn.lt
  clear h hn
  have HB := Lib.hid (show withinB p s.players.length = decide (Within p s.players.length) from rfl)
  obtain ⟨n, hnn⟩ : ∃ n, n = s.players.length := ⟨_, rfl⟩
  rw [← hnn] at c0 hl HB ⊢
  clear hnn
  generalize withinB p n = b at *
  by_cases h1 : 0 ≤ p
  · by_cases h2 : p < n
    · have HT := Lib.hid (show b = true by rw [HB.out]; exact decide_eq_true ⟨h1, h2⟩)
      go_enter Tryz.func128, Tryz.ntmps128
      go_wp2_with fail
      go_ret
      exact ⟨ret_bool HT.out.symm, Below.refl _ _⟩
    · have HT := Lib.hid (show b = false by rw [HB.out]; exact decide_eq_false (fun h => h2 h.2))
      go_enter Tryz.func128, Tryz.ntmps128
      go_wp2_with fail
      go_ret
      exact ⟨ret_bool HT.out.symm, Below.refl _ _⟩
  · have HT := Lib.hid (show b = false by rw [HB.out]; exact decide_eq_false (fun h => h1 h.1))
    go_enter Tryz.func128, Tryz.ntmps128
    go_wp2_with fail
    go_ret
    exact ⟨ret_bool HT.out.symm, Below.refl _ _⟩
set_option maxHeartbeats 2000000 in
theorem askOut_any (x : SV) (s : St) (gn g : Nat) (p : Int) (w : World) (h : G.Blk w g 27 (x.arr s)) (hn : G.Blk w gn 3 #[.int .i64 p]) (hl : s.players.length ≤ 33554432) :
    Calls Tryz.prog 147 #[.pointer (some ⟨gn, 0, none⟩), .pointer (some ⟨g, 0, none⟩)] w (BoolPost (withinB p s.players.length) w) := by
  have c0 := (box_cells h).1
  have d0 := hn.cell 0
  have l0 := h.lt
  have l1 := hn.lt
  clear h hn
  have HB := Lib.hid (show withinB p s.players.length = decide (Within p s.players.length) from rfl)
  obtain ⟨n, hnn⟩ : ∃ n, n = s.players.length := ⟨_, rfl⟩
  rw [← hnn] at c0 hl HB ⊢
  clear hnn
  generalize withinB p n = b at *
  by_cases h1 : 0 ≤ p
  · by_cases h2 : p < n
    · have HT := Lib.hid (show b = true by rw [HB.out]; exact decide_eq_true ⟨h1, h2⟩)
      go_enter Tryz.func147, Tryz.ntmps147
      go_wp2_with fail
      go_ret
      exact ⟨ret_bool HT.out.symm, Below.refl _ _⟩
    · have HT := Lib.hid (show b = false by rw [HB.out]; exact decide_eq_false (fun h => h2 h.2))
      go_enter Tryz.func147, Tryz.ntmps147
      go_wp2_with fail
      go_ret
      exact ⟨ret_bool HT.out.symm, Below.refl _ _⟩
  · have HT := Lib.hid (show b = false by rw [HB.out]; exact decide_eq_false (fun h => h1 h.1))
    go_enter Tryz.func147, Tryz.ntmps147
    go_wp2_with fail
    go_ret
    exact ⟨ret_bool HT.out.symm, Below.refl _ _⟩
set_option maxHeartbeats 2000000 in
theorem askMove_any (x : SV) (s : St) (gc g gz : Nat) (c z : Int) (w : World) (h : G.Blk w g 27 (x.arr s)) (hc : G.Blk w gc 3 #[.int .i64 c]) (hz : G.Blk w gz 3 #[.int .i64 z]) (hl : s.cards.length ≤ 33554432) (hl2 : s.zones.length ≤ 33554432) :
    Calls Tryz.prog 141 #[.pointer (some ⟨gc, 0, none⟩), .pointer (some ⟨g, 0, none⟩), .pointer (some ⟨gz, 0, none⟩)] w (BoolPost (withinB c s.cards.length && withinB z s.zones.length) w) := by
  have c1 := (box_cells h).2.1
  have c2 := (box_cells h).2.2
  have d0 := hc.cell 0
  have e0 := hz.cell 0
  have l0 := h.lt
  have l1 := hc.lt
  have l2 := hz.lt
  clear h hc hz
  have HB := Lib.hid (show (withinB c s.cards.length && withinB z s.zones.length) = decide (Within c s.cards.length ∧ Within z s.zones.length) by unfold withinB; simp)
  obtain ⟨m, hm⟩ : ∃ n, n = s.cards.length := ⟨_, rfl⟩
  obtain ⟨l, hll⟩ : ∃ n, n = s.zones.length := ⟨_, rfl⟩
  rw [← hm] at c1 hl HB ⊢
  rw [← hll] at c2 hl2 HB ⊢
  clear hm hll
  generalize (withinB c m && withinB z l) = b at *
  by_cases h1 : 0 ≤ c
  · by_cases h2 : c < m
    · by_cases h3 : 0 ≤ z
      · by_cases h4 : z < l
        · have HT := Lib.hid (show b = true by rw [HB.out]; exact decide_eq_true ⟨⟨h1, h2⟩, ⟨h3, h4⟩⟩)
          go_enter Tryz.func141, Tryz.ntmps141
          go_wp2_with fail
          go_ret
          exact ⟨ret_bool HT.out.symm, Below.refl _ _⟩
        · have HT := Lib.hid (show b = false by rw [HB.out]; exact decide_eq_false (fun h => h4 h.2.2))
          go_enter Tryz.func141, Tryz.ntmps141
          go_wp2_with fail
          go_ret
          exact ⟨ret_bool HT.out.symm, Below.refl _ _⟩
      · have HT := Lib.hid (show b = false by rw [HB.out]; exact decide_eq_false (fun h => h3 h.2.1))
        go_enter Tryz.func141, Tryz.ntmps141
        go_wp2_with fail
        go_ret
        exact ⟨ret_bool HT.out.symm, Below.refl _ _⟩
    · have HT := Lib.hid (show b = false by rw [HB.out]; exact decide_eq_false (fun h => h2 h.1.2))
      go_enter Tryz.func141, Tryz.ntmps141
      go_wp2_with fail
      go_ret
      exact ⟨ret_bool HT.out.symm, Below.refl _ _⟩
  · have HT := Lib.hid (show b = false by rw [HB.out]; exact decide_eq_false (fun h => h1 h.1.1))
    go_enter Tryz.func141, Tryz.ntmps141
    go_wp2_with fail
    go_ret
    exact ⟨ret_bool HT.out.symm, Below.refl _ _⟩
end Go.Proofs.YtofgmijmhpmabaaGreatDoor.D

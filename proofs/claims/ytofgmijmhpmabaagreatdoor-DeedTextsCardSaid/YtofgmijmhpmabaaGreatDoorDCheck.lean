/- The contract of state.Check. -/
import Derived.Test.YtofgmijmhpmabaaGreatDoorDList
import Derived.Test.YtofgmijmhpmabaaGreatDoorDCards
import Derived.Deep.LoopGhost
import Derived.Handy
namespace Go.Proofs.YtofgmijmhpmabaaGreatDoor.D
open Go Go.RowKit
set_option linter.unusedVariables false
set_option linter.unusedSimpArgs false
def statB (x : Int) : Bool := decide (Stat x)
theorem stat_yes {x : Int} (h : Stat x) : statB x = true := decide_eq_true h
theorem stat_no {x : Int} (h : ¬ Stat x) : statB x = false := decide_eq_false h
theorem stat_any (x : Int) (w : World) : Calls Tryz.prog 129 #[.int .i32 x] w fun e w' => e = .returned (.bool (statB x)) ∧ w = w' := by
  by_cases h1 : -1000000000 ≤ x
  · by_cases h2 : x ≤ 1000000000
    · have H := Lib.hid (stat_yes (x := x) ⟨h1, h2⟩)
      go_enter Tryz.func129, Tryz.ntmps129
      go_wp2
      go_ret
      exact ⟨(ret_bool H.out).symm, rfl⟩
    · have H := Lib.hid (stat_no (x := x) (fun h => h2 h.2))
      go_enter Tryz.func129, Tryz.ntmps129
      go_wp2
      go_ret
      exact ⟨(ret_bool H.out).symm, rfl⟩
  · have H := Lib.hid (stat_no (x := x) (fun h => h1 h.1))
    go_enter Tryz.func129, Tryz.ntmps129
    go_wp2
    go_ret
    exact ⟨(ret_bool H.out).symm, rfl⟩
def cardB (n : Int) (c : Cd) : Bool := decide (CardOk n c)
theorem card_no {n : Int} {c : Cd} (h : ¬ CardOk n c) : cardB n c = false := decide_eq_false h
theorem card_yes {n : Int} {c : Cd} (h : CardOk n c) : cardB n c = true := decide_eq_true h
theorem card_last {n kind owner power health damage marks : Int} (h1 : 0 ≤ kind) (h2 : kind < 256) (h3 : 0 ≤ owner) (h4 : owner < n) (h5 : Stat power) (h6 : Stat health) (h7 : Stat damage) : cardB n ⟨kind, owner, power, health, damage, marks⟩ = statB marks := by
  by_cases h : Stat marks
  · rw [stat_yes h]
    exact card_yes ⟨⟨h1, h2⟩, ⟨h3, h4⟩, h5, h6, h7, h⟩
  · rw [stat_no h]
    exact card_no fun g => h g.2.2.2.2.2
set_option maxHeartbeats 2000000 in
theorem card_any (c : Cd) (n : Int) (w : World) : Calls Tryz.prog 130 #[c.val, .int .i64 n] w fun e w' => e = .returned (.bool (cardB n c)) ∧ Below w.heap.size w w' := by
  obtain ⟨kind, owner, power, health, damage, marks⟩ := c
  unfold Cd.val
  have hb : Below w.heap.size w (w.alloc (.cells #[.int .i64 kind, .int .i64 owner, .int .i32 power, .int .i32 health, .int .i32 damage, .int .i32 marks] 101)) := G.bl_alloc (Below.refl _ _) _
  by_cases h1 : 0 ≤ kind
  · by_cases h2 : kind < 256
    · by_cases h3 : 0 ≤ owner
      · by_cases h4 : owner < n
        · by_cases h5 : Stat power
          · by_cases h6 : Stat health
            · by_cases h7 : Stat damage
              · have H := Lib.hid (card_last (marks := marks) h1 h2 h3 h4 h5 h6 h7)
                have s5 := stat_yes h5
                have s6 := stat_yes h6
                have s7 := stat_yes h7
                clear h5 h6 h7
                go_enter Tryz.func130, Tryz.ntmps130
                go_wp2_with (go_at_call 129; refine (stat_any _ _).mono ?_; rintro e w' ⟨rfl, rfl⟩)
                go_ret
                exact ⟨(ret_bool H.out).symm, hb⟩
              · have H := Lib.hid (card_no (n := n) (c := ⟨kind, owner, power, health, damage, marks⟩) (fun h => h7 h.2.2.2.2.1))
                have s5 := stat_yes h5
                have s6 := stat_yes h6
                have s7 := stat_no h7
                clear h5 h6 h7
                go_enter Tryz.func130, Tryz.ntmps130
                go_wp2_with (go_at_call 129; refine (stat_any _ _).mono ?_; rintro e w' ⟨rfl, rfl⟩)
                go_ret
                exact ⟨(ret_bool H.out).symm, hb⟩
            · have H := Lib.hid (card_no (n := n) (c := ⟨kind, owner, power, health, damage, marks⟩) (fun h => h6 h.2.2.2.1))
              have s5 := stat_yes h5
              have s6 := stat_no h6
              clear h5 h6
              go_enter Tryz.func130, Tryz.ntmps130
              go_wp2_with (go_at_call 129; refine (stat_any _ _).mono ?_; rintro e w' ⟨rfl, rfl⟩)
              go_ret
              exact ⟨(ret_bool H.out).symm, hb⟩
          · have H := Lib.hid (card_no (n := n) (c := ⟨kind, owner, power, health, damage, marks⟩) (fun h => h5 h.2.2.1))
            have s5 := stat_no h5
            clear h5
            go_enter Tryz.func130, Tryz.ntmps130
            go_wp2_with (go_at_call 129; refine (stat_any _ _).mono ?_; rintro e w' ⟨rfl, rfl⟩)
            go_ret
            exact ⟨(ret_bool H.out).symm, hb⟩
        · have H := Lib.hid (card_no (n := n) (c := ⟨kind, owner, power, health, damage, marks⟩) (fun h => h4 h.2.1.2))
          go_enter Tryz.func130, Tryz.ntmps130
          go_wp2
          go_ret
          exact ⟨(ret_bool H.out).symm, hb⟩
      · have H := Lib.hid (card_no (n := n) (c := ⟨kind, owner, power, health, damage, marks⟩) (fun h => h3 h.2.1.1))
        go_enter Tryz.func130, Tryz.ntmps130
        go_wp2
        go_ret
        exact ⟨(ret_bool H.out).symm, hb⟩
    · have H := Lib.hid (card_no (n := n) (c := ⟨kind, owner, power, health, damage, marks⟩) (fun h => h2 h.1.2))
      go_enter Tryz.func130, Tryz.ntmps130
      go_wp2
      go_ret
      exact ⟨(ret_bool H.out).symm, hb⟩
  · have H := Lib.hid (card_no (n := n) (c := ⟨kind, owner, power, health, damage, marks⟩) (fun h => h1 h.1.1))
    go_enter Tryz.func130, Tryz.ntmps130
    go_wp2
    go_ret
    exact ⟨(ret_bool H.out).symm, hb⟩
end Go.Proofs.YtofgmijmhpmabaaGreatDoor.D

/- Lists of bytes that share no memory: the contract of (*tableauref00.Bag).apartBytes. -/
import Derived.Test.YtofgmijmhpmabaaGreatDoorBagAll
import Derived.Test.YtofgmijmhpmabaaGreatDoorDMem
import Derived.StillTailTactics
import Derived.Test.YtofgmijmhpmabaaGreatDoorProg
import Derived.Handy
namespace Go.Proofs.YtofgmijmhpmabaaGreatDoor.G
open Go Go.RowKit
set_option linter.unusedVariables false
set_option linter.unusedSimpArgs false
theorem bag_at {E S T : TypeId} {base gb off k hc : Nat} {HA : Option Addr} {cs : Array Value} {hdr : List Value} {w wr : World} (hB : Blk w gb T cs) (hcs : cs[off]? = some (.slice HA k hc)) (ho : w.ownsRow base S 1 (.slice HA k hc) k hdr)
 (hO : Only E base w wr) (hT : T ≠ E) (hS : S ≠ E) : wr.cell? ⟨gb, off, none⟩ = some (.slice HA k hc) ∧ RdS wr HA 1 k hdr :=
 ⟨((hO.blk hB hT).cell off).trans hcs, RdS.of_own (hO.own ho hS)⟩
theorem hdr_at {w : World} {hb ho n : Nat} {Ls : List Lst} {l : Lst} (h : RdV w hb ho (Ls.map Lst.v)) (hl : Ls[n]? = some l) : w.cell? ⟨hb, ho + n, none⟩ = some l.v := by
 have hn := (List.getElem?_eq_some_iff.1 hl).1
 rw [h.2 n (by simpa using hn), List.getD_eq_getElem?_getD, List.getElem?_map, hl]
 rfl
theorem set_mid1 {mk : Nat → Nat → List Value} (hmk : ∀ n i, (mk n i).length = 1) {n i : Nat} {xs : List Value} {u : Value} (hi : i < xs.length) (hu : mk n i = [u]) : (mks mk n i ++ xs.drop (i * 1)).set i u = mks mk n i ++ mk n i ++ xs.drop ((i + 1) * 1) := by
 have h1 : (mks mk n i).length = i := by rw [mks_length hmk, Nat.mul_one]
 rw [Nat.mul_one, Nat.mul_one, List.set_append_right _ _ (by omega), h1, Nat.sub_self, List.drop_eq_getElem_cons hi, List.set_cons_zero, hu]
 simp
theorem own_blocks {w : World} {base : Nat} {e : TypeId} {sz : Nat} {v : Value} {n : Nat} {xs : List Value} (h : w.ownsRow base e sz v n xs) : ∀ g, v.ownBlock = some g → base ≤ g ∧ ∃ cs, w.heap[g]? = some (.cells cs e (0, 0)) :=
 fun g hg => ⟨(h.lt g hg).1, ownsRow.block_e h hg⟩
theorem one_of {w : World} {base : Nat} {e : TypeId} {sz : Nat} {v : Value} {n : Nat} {xs : List Value} (h : w.ownsRow base e sz v n xs) : ∀ u ∈ [v], u.oneCell' = true := by
 obtain ⟨a, c, rfl⟩ := own_shape h
 simp [Value.oneCell']
def ApartPost (base : Nat) (E : TypeId) (w : World) (e : Ending) (w' : World) : Prop := e = .returned (.bool true) ∧ Only E base w w'
end Go.Proofs.YtofgmijmhpmabaaGreatDoor.G
namespace Go.Proofs.YtofgmijmhpmabaaGreatDoor.G
open Go Go.RowKit
set_option linter.unusedVariables false
set_option linter.unusedSimpArgs false
set_option maxRecDepth 100000 in
set_option maxHeartbeats 1000000 in
theorem apartBytes_none (gb : Nat) (w : World) (h : w.cell? ⟨gb, 0, none⟩ = some (.slice none 0 0)) : Calls Tryz.prog 66 #[.pointer (some ⟨gb, 0, none⟩)] w fun e w' => e = .returned (.bool true) ∧ w = w' := by
 go_enter Tryz.func66, Tryz.ntmps66
 go_wp2
 go_rounds 1
 go_rounds 1
 go_rounds 1
 go_ret
 exact ⟨rfl, rfl⟩
set_option maxRecDepth 100000 in
set_option maxHeartbeats 1000000 in
theorem apartLongs_none (gb : Nat) (w : World) (h : w.cell? ⟨gb, 2, none⟩ = some (.slice none 0 0)) : Calls Tryz.prog 68 #[.pointer (some ⟨gb, 0, none⟩)] w fun e w' => e = .returned (.bool true) ∧ w = w' := by
 go_enter Tryz.func68, Tryz.ntmps68
 go_wp2
 go_rounds 1
 go_rounds 1
 go_rounds 1
 go_ret
 exact ⟨rfl, rfl⟩
set_option maxRecDepth 100000 in
set_option maxHeartbeats 1000000 in
theorem apartWords_none (gb : Nat) (w : World) (h : w.cell? ⟨gb, 3, none⟩ = some (.slice none 0 0)) : Calls Tryz.prog 69 #[.pointer (some ⟨gb, 0, none⟩)] w fun e w' => e = .returned (.bool true) ∧ w = w' := by
 go_enter Tryz.func69, Tryz.ntmps69
 go_wp2
 go_rounds 1
 go_rounds 1
 go_rounds 1
 go_ret
 exact ⟨rfl, rfl⟩
set_option maxRecDepth 100000 in
set_option maxHeartbeats 1000000 in
theorem apartFloats_none (gb : Nat) (w : World) (h : w.cell? ⟨gb, 4, none⟩ = some (.slice none 0 0)) : Calls Tryz.prog 70 #[.pointer (some ⟨gb, 0, none⟩)] w fun e w' => e = .returned (.bool true) ∧ w = w' := by
 go_enter Tryz.func70, Tryz.ntmps70
 go_wp2
 go_rounds 1
 go_rounds 1
 go_rounds 1
 go_ret
 exact ⟨rfl, rfl⟩
set_option maxRecDepth 100000 in
set_option maxHeartbeats 1000000 in
theorem apartSmalls_none (gb : Nat) (w : World) (h : w.cell? ⟨gb, 5, none⟩ = some (.slice none 0 0)) : Calls Tryz.prog 71 #[.pointer (some ⟨gb, 0, none⟩)] w fun e w' => e = .returned (.bool true) ∧ w = w' := by
 go_enter Tryz.func71, Tryz.ntmps71
 go_wp2
 go_rounds 1
 go_rounds 1
 go_rounds 1
 go_ret
 exact ⟨rfl, rfl⟩
set_option maxRecDepth 100000 in
set_option maxHeartbeats 1000000 in
theorem apartTexts_none (gb : Nat) (w : World) (h : w.cell? ⟨gb, 6, none⟩ = some (.slice none 0 0)) : Calls Tryz.prog 72 #[.pointer (some ⟨gb, 0, none⟩)] w fun e w' => e = .returned (.bool true) ∧ w = w' := by
 go_enter Tryz.func72, Tryz.ntmps72
 go_wp2
 go_rounds 1
 go_rounds 1
 go_rounds 1
 go_ret
 exact ⟨rfl, rfl⟩
set_option maxRecDepth 100000 in
set_option maxHeartbeats 1000000 in
theorem apartTokens_none (gb : Nat) (w : World) (h : w.cell? ⟨gb, 9, none⟩ = some (.slice none 0 0)) : Calls Tryz.prog 75 #[.pointer (some ⟨gb, 0, none⟩)] w fun e w' => e = .returned (.bool true) ∧ w = w' := by
 go_enter Tryz.func75, Tryz.ntmps75
 go_wp2
 go_rounds 1
 go_rounds 1
 go_rounds 1
 go_ret
 exact ⟨rfl, rfl⟩
set_option maxRecDepth 100000 in
set_option maxHeartbeats 1000000 in
theorem apartNodes_none (gb : Nat) (w : World) (h : w.cell? ⟨gb, 10, none⟩ = some (.slice none 0 0)) : Calls Tryz.prog 76 #[.pointer (some ⟨gb, 0, none⟩)] w fun e w' => e = .returned (.bool true) ∧ w = w' := by
 go_enter Tryz.func76, Tryz.ntmps76
 go_wp2
 go_rounds 1
 go_rounds 1
 go_rounds 1
 go_ret
 exact ⟨rfl, rfl⟩
set_option maxRecDepth 100000 in
set_option maxHeartbeats 1000000 in
theorem apartInstrs_none (gb : Nat) (w : World) (h : w.cell? ⟨gb, 11, none⟩ = some (.slice none 0 0)) : Calls Tryz.prog 77 #[.pointer (some ⟨gb, 0, none⟩)] w fun e w' => e = .returned (.bool true) ∧ w = w' := by
 go_enter Tryz.func77, Tryz.ntmps77
 go_wp2
 go_rounds 1
 go_rounds 1
 go_rounds 1
 go_ret
 exact ⟨rfl, rfl⟩
set_option maxRecDepth 100000 in
set_option maxHeartbeats 1000000 in
theorem apartShapes_none (gb : Nat) (w : World) (h : w.cell? ⟨gb, 13, none⟩ = some (.slice none 0 0)) : Calls Tryz.prog 79 #[.pointer (some ⟨gb, 0, none⟩)] w fun e w' => e = .returned (.bool true) ∧ w = w' := by
 go_enter Tryz.func79, Tryz.ntmps79
 go_wp2
 go_rounds 1
 go_rounds 1
 go_rounds 1
 go_ret
 exact ⟨rfl, rfl⟩
set_option maxRecDepth 100000 in
set_option maxHeartbeats 1000000 in
theorem apartEvents_none (gb : Nat) (w : World) (h : w.cell? ⟨gb, 14, none⟩ = some (.slice none 0 0)) : Calls Tryz.prog 80 #[.pointer (some ⟨gb, 0, none⟩)] w fun e w' => e = .returned (.bool true) ∧ w = w' := by
 go_enter Tryz.func80, Tryz.ntmps80
 go_wp2
 go_rounds 1
 go_rounds 1
 go_rounds 1
 go_ret
 exact ⟨rfl, rfl⟩
set_option maxRecDepth 100000 in
set_option maxHeartbeats 1000000 in
theorem apartValues_none (gb : Nat) (w : World) (h : w.cell? ⟨gb, 15, none⟩ = some (.slice none 0 0)) : Calls Tryz.prog 81 #[.pointer (some ⟨gb, 0, none⟩)] w fun e w' => e = .returned (.bool true) ∧ w = w' := by
 go_enter Tryz.func81, Tryz.ntmps81
 go_wp2
 go_rounds 1
 go_rounds 1
 go_rounds 1
 go_ret
 exact ⟨rfl, rfl⟩
set_option maxRecDepth 100000 in
set_option maxHeartbeats 1000000 in
theorem apartAbilities_none (gb : Nat) (w : World) (h : w.cell? ⟨gb, 16, none⟩ = some (.slice none 0 0)) : Calls Tryz.prog 82 #[.pointer (some ⟨gb, 0, none⟩)] w fun e w' => e = .returned (.bool true) ∧ w = w' := by
 go_enter Tryz.func82, Tryz.ntmps82
 go_wp2
 go_rounds 1
 go_rounds 1
 go_rounds 1
 go_ret
 exact ⟨rfl, rfl⟩
set_option maxRecDepth 100000 in
set_option maxHeartbeats 1000000 in
theorem apartDesigns_none (gb : Nat) (w : World) (h : w.cell? ⟨gb, 17, none⟩ = some (.slice none 0 0)) : Calls Tryz.prog 83 #[.pointer (some ⟨gb, 0, none⟩)] w fun e w' => e = .returned (.bool true) ∧ w = w' := by
 go_enter Tryz.func83, Tryz.ntmps83
 go_wp2
 go_rounds 1
 go_rounds 1
 go_rounds 1
 go_ret
 exact ⟨rfl, rfl⟩
set_option maxRecDepth 100000 in
set_option maxHeartbeats 1000000 in
theorem apartEffects_none (gb : Nat) (w : World) (h : w.cell? ⟨gb, 18, none⟩ = some (.slice none 0 0)) : Calls Tryz.prog 84 #[.pointer (some ⟨gb, 0, none⟩)] w fun e w' => e = .returned (.bool true) ∧ w = w' := by
 go_enter Tryz.func84, Tryz.ntmps84
 go_wp2
 go_rounds 1
 go_rounds 1
 go_rounds 1
 go_ret
 exact ⟨rfl, rfl⟩
set_option maxRecDepth 100000 in
set_option maxHeartbeats 1000000 in
theorem apartKinds_none (gb : Nat) (w : World) (h : w.cell? ⟨gb, 19, none⟩ = some (.slice none 0 0)) : Calls Tryz.prog 85 #[.pointer (some ⟨gb, 0, none⟩)] w fun e w' => e = .returned (.bool true) ∧ w = w' := by
 go_enter Tryz.func85, Tryz.ntmps85
 go_wp2
 go_rounds 1
 go_rounds 1
 go_rounds 1
 go_ret
 exact ⟨rfl, rfl⟩
set_option maxRecDepth 100000 in
set_option maxHeartbeats 1000000 in
theorem apartStates_none (gb : Nat) (w : World) (h : w.cell? ⟨gb, 20, none⟩ = some (.slice none 0 0)) : Calls Tryz.prog 86 #[.pointer (some ⟨gb, 0, none⟩)] w fun e w' => e = .returned (.bool true) ∧ w = w' := by
 go_enter Tryz.func86, Tryz.ntmps86
 go_wp2
 go_rounds 1
 go_rounds 1
 go_rounds 1
 go_ret
 exact ⟨rfl, rfl⟩
end Go.Proofs.YtofgmijmhpmabaaGreatDoor.G

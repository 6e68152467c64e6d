/- strings.NewReplacer(..).Replace, as tokens.Text calls it. -/
import Derived.Test.YtlaikgaepaiigaaGreatDoorKRepR
namespace Go.Proofs.YtlaikgaepaiigaaGreatDoor.K
open Go Go.RowKit
set_option linter.unusedVariables false
set_option linter.unusedSimpArgs false
set_option maxRecDepth 100000 in
set_option maxHeartbeats 2000000 in
theorem replace_any (r a cap : Nat) (s : ByteArray) (w : World) (hr : G.Blk w r 71 #[.int .u32 0, .int .i32 0, .int .u32 0, .nilIface, .slice (some ⟨a, 0, none⟩) 4 cap]) (ha : G.RdV w a 0 oldnew) (har : a ≠ r) (hs : s.size ≤ 65536) :
    Calls Tryz.prog 20 #[.pointer (some ⟨r, 0, none⟩), .string s] w fun e w' => e = .returned (.string (quoteB s)) ∧ Upd r w w' := by
  have HC := Lib.hid (do_any r a cap w hr ha har)
  have hmf : ∀ (fn : Fn) (first cap : Array Value) (w : World), (Instr.makeFunc fn first cap).run Tryz.prog w = .ok (.func fn first cap) w := fun _ _ _ _ => rfl
  clear hr ha
  go_enter Tryz.func20, Tryz.ntmps20
  go_wp2_with fail
  refine HC.out.mono ?_
  rintro e w2 he
  unfold OncePost at he
  obtain ⟨rfl, B, hB, hrep, hu⟩ := he
  have HU := Lib.hid hu
  have HREP := Lib.hid hrep
  have c3 := hB.cell 3
  have hrl := hB.lt
  simp at c3
  clear hB hu hrep
  go_wp2_with fail
  refine (bsr_any _ B s w2 HREP.out hs).mono ?_
  rintro e w3 ⟨rfl, hb⟩
  have HB := Lib.hid (HU.out.trans (Upd.below hb (Nat.le_of_lt hrl)))
  clear hb
  go_wp2_with fail
  go_ret
  exact ⟨rfl, HB.out⟩
end Go.Proofs.YtlaikgaepaiigaaGreatDoor.K

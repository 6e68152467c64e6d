/- The contract of the reference's is. -/
import Derived.Test.YtlaikgaepaiigaaDoorKRefA
namespace Go.Proofs.YtlaikgaepaiigaaDoor.K
open Go Go.RowKit
set_option linter.unusedVariables false
set_option linter.unusedSimpArgs false
def isAt (s : ByteArray) (q : Nat) (t : ByteArray) : Bool := decide (q + t.size ≤ s.size) && ((s.extract q (q + t.size)).toList == t.toList)
/-- A cutter: its source, where it is read, the first fault. -/
def Cutter (w : World) (g : Nat) (A : Option Addr) (n c : Nat) (q bad : Int) : Prop := G.Blk w g 74 #[.slice A n c, .int .i64 q, .int .i64 bad]
set_option maxRecDepth 100000 in
set_option maxHeartbeats 4000000 in
theorem is_any (A : Option Addr) (c : Nat) (s t : ByteArray) (q g : Nat) (bad : Int) (w : World) (hs : Src w A s) (hc : s.size ≤ c) (hn : s.size ≤ 65536) (ht : 0 < t.size) (ht2 : t.size ≤ 65536) (hq : q ≤ s.size) (hg : Cutter w g A s.size c q bad) :
    Calls Tryd.prog 55 #[.pointer (some ⟨g, 0, none⟩), .string t] w fun e w' => e = .returned (.bool (isAt s q t)) ∧ Below w.heap.size w w' := by
  have c0 := hg.cell 0
  have c1 := hg.cell 1
  have hq0 : (0 : Int) ≤ q := by omega
  have hnI : (s.size : Int) ≤ 65536 := by omega
  have htI : (t.size : Int) ≤ 65536 := by omega
  have ht0 : (0 : Int) < t.size := by omega
  have hqI : (q : Int) ≤ s.size := by omega
  simp at c0 c1
  have hw : IntKind.i64.wrap ((q : Int) + t.size) = (q : Int) + t.size := IntWalk.i64_in _ (by omega)
  by_cases h : q + t.size ≤ s.size
  · have hI : (q : Int) + t.size ≤ s.size := by omega
    have hd : decide ((q : Int) + t.size ≤ s.size) = true := decide_eq_true hI
    obtain ⟨b, o, rfl, hbw, hbs⟩ := hs (by omega)
    obtain ⟨w1, w2⟩ := win (W := w) (p := q) (k := t.size) hbs ht hc h
    have w3 : ∀ m : Nat, (convert 22 9 (.slice (some ⟨b, o + q, none⟩) t.size (c - q))).run Tryd.prog (w.drewN m) = .ok (.string (s.extract q (q + t.size))) (w.drewN m) := fun m => (win (W := w.drewN m) (p := q) (k := t.size) (hbs.drewN m) ht hc h).2
    have hqk : (q : Int) ≤ (q : Int) + t.size := by omega
    have HV := Lib.hid (show isAt s q t = ((s.extract q (q + t.size)).toList == t.toList) by unfold isAt; rw [decide_eq_true h]; rfl)
    generalize s.extract q (q + t.size) = X at *
    clear hs hbw hbs hg
    go_enter Tryd.func55, Tryd.ntmps55
    go_wp2_with fail
    go_quiet (fail)
    go_wp2_with fail
    go_ret
    exact ⟨ret_bool (by rw [HV.out] <;> first | rfl | (cases hX : (X.toList == t.toList) <;> simp_all)), G.bl_drewN (Below.refl _ _) _⟩
  · have hI : ¬ (q : Int) + t.size ≤ s.size := by omega
    have hd : decide ((q : Int) + t.size ≤ s.size) = false := decide_eq_false hI
    have HV := Lib.hid (show isAt s q t = false by unfold isAt; rw [decide_eq_false h]; rfl)
    clear hs hg
    go_enter Tryd.func55, Tryd.ntmps55
    go_wp2_with fail
    go_quiet (fail)
    go_wp2_with fail
    go_ret
    exact ⟨ret_bool HV.out.symm, G.bl_drewN (Below.refl _ _) _⟩
end Go.Proofs.YtlaikgaepaiigaaDoor.K

/- A wide list of nodes read as the list; lists of nodes compared. -/
import Derived.Test.YtamienmbpdbnnaaTLives
namespace Go.Proofs.Ytamienmbpdbnnaa.T
open Go Go.RowKit
set_option linter.unusedVariables false
set_option linter.unusedSimpArgs false
theorem wide_rd {w : World} {base : Nat} {e : TypeId} {g N : Nat} {xs : List Nd} (h : w.ownsRow base e 7 (.slice (some ⟨g, 0, none⟩) N N) N (flat (wideNd xs))) : G.RdV w g 0 (flat xs) := by
  have e1 : flat (wideNd xs) = flat xs ++ flat (marksNd xs.length) := by unfold wideNd flat; rw [List.flatMap_append]
  rw [e1] at h
  exact own_rd h
theorem wide_rdS {w : World} {base : Nat} {e : TypeId} {g N : Nat} {xs : List Nd} (h : w.ownsRow base e 7 (.slice (some ⟨g, 0, none⟩) N N) N (flat (wideNd xs))) : G.RdS w (some ⟨g, 0, none⟩) 7 xs.length (flat xs) :=
  ⟨by rw [flat_length], fun _ => ⟨g, 0, rfl, wide_rd h⟩⟩
theorem wide_all {w : World} {base : Nat} {e : TypeId} {g N : Nat} {xs : List Nd} (h : w.ownsRow base e 7 (.slice (some ⟨g, 0, none⟩) N N) N (flat (wideNd xs))) : G.RdV w g 0 (flat (wideNd xs)) := own_rd_all h
theorem bl_drew {w : World} (k : Nat) : Below w.heap.size w (w.drewN k) := G.bl_drewN (Below.refl _ _) k
theorem eq_bl (A B : Option Addr) (n m c d : Nat) (xs ys : List Nd) (w : World) (hx : G.RdS w A 7 n (flat xs)) (hy : G.RdS w B 7 m (flat ys)) (hn : n ≤ maxLen) (hm : m ≤ maxLen) :
    Calls Try.prog 16 #[.slice A n c, .slice B m d] w fun e w' => e = .returned (.bool (decide (xs = ys))) ∧ Below w.heap.size w w' :=
  (eqNodes_any A B n m c d xs ys w hx hy hn hm).mono fun e w' ⟨a, k, b⟩ => ⟨a, b ▸ bl_drew k⟩
end Go.Proofs.Ytamienmbpdbnnaa.T

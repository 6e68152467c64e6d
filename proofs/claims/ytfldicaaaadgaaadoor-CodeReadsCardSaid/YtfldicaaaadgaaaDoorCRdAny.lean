/- The contract of code.Read at every place of bytes. -/
import Derived.Test.YtfldicaaaadgaaaDoorCReadA
import Derived.Test.YtfldicaaaadgaaaDoorCRd0
import Derived.Test.YtfldicaaaadgaaaDoorCRd1
import Derived.Test.YtfldicaaaadgaaaDoorCRd2
import Derived.Test.YtfldicaaaadgaaaDoorCRd3
namespace Go.Proofs.YtfldicaaaadgaaaDoor.Code
open Go.RowKit
set_option linter.unusedVariables false
set_option linter.unusedSimpArgs false
theorem Read_any (b off cap : Nat) (zs : List Int) (at_ : Int) (w : World) (hm : cap ≤ 9223372036854775807) (hnc : zs.length ≤ cap) (hr : RdI w .u8 b off zs) (hz : IsBytes zs) :
    Calls Tryd.prog 10 #[.slice (some ⟨b, off, none⟩) zs.length cap, .int .i64 at_] w fun e w' => e = .returned (.tuple #[(readAt zs at_).1.val, .int .i64 (readAt zs at_).2]) ∧ Below w.heap.size w w' := by
  by_cases ho : at_ < 0 ∨ (zs.length : Int) ≤ at_
  · have e : readAt zs at_ = (zeroIns, 1) := by unfold readAt; rw [if_pos ho]
    rw [e]
    exact Read_out _ _ _ _ w (by omega) ho
  · obtain ⟨i, rfl⟩ := Int.eq_ofNat_of_zero_le (show 0 ≤ at_ by omega)
    have hi : i < zs.length := by omega
    have hc := hr.2 i hi
    have hop := hz i
    unfold readAt
    rw [if_neg ho]
    simp only [Int.toNat_natCast]
    generalize hopv : zs.getD i 0 = op at *
    have hc' : ∀ d, i + d < zs.length → w.cell? ⟨b, off + (i + d), none⟩ = some (.int .u8 (zs.getD (i + d) 0)) := fun d hd => hr.2 (i + d) hd
    by_cases hk0 : kindOf op < 0
    · rw [if_pos hk0]
      exact Read_no _ _ _ _ _ op w (by omega) hi hr.1 hc hk0
    · rw [if_neg hk0]
      have hk := kind_or op hop.1 hop.2
      have hw := width_le (kindOf op)
      by_cases hcut : (zs.length : Int) - i - 1 < width (kindOf op)
      · rw [if_pos hcut]
        exact Read_cut _ _ _ _ _ op _ w (by omega) hi hr.1 hc rfl (by omega) hcut
      · rw [if_neg hcut]
        rcases hk with hk | hk | hk | hk | hk
        · omega
        · simp only [hk]
          exact Read_ok0 _ _ _ _ _ op w hm hnc (by omega) hr.1 hc hk
        · simp only [hk] at hcut ⊢
          have hwd : width 1 = 1 := rfl
          rw [hwd] at hcut
          exact Read_ok1 _ _ _ _ _ op _ w hm hnc (by omega) hr.1 hc hk (hz _).1 (hz _).2 (hc' 1 (by omega))
        · simp only [hk] at hcut ⊢
          have hwd : width 2 = 2 := rfl
          rw [hwd] at hcut
          exact Read_ok2 _ _ _ _ _ op _ _ w hm hnc (by omega) hr.1 hc hk (hz _).1 (hz _).2 (hc' 1 (by omega)) (hz _).1 (hz _).2 (hc' 2 (by omega))
        · simp only [hk] at hcut ⊢
          have hwd : width 3 = 4 := rfl
          rw [hwd] at hcut
          exact Read_ok3 _ _ _ _ _ op _ _ _ _ w hm hnc (by omega) hr.1 hc hk (hz _).1 (hz _).2 (hc' 1 (by omega)) (hz _).1 (hz _).2 (hc' 2 (by omega)) (hz _).1 (hz _).2 (hc' 3 (by omega)) (hz _).1 (hz _).2 (hc' 4 (by omega))
end Go.Proofs.YtfldicaaaadgaaaDoor.Code

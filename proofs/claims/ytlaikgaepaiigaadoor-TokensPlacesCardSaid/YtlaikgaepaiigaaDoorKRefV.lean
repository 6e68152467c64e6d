/- The contract of the reference's value. -/
import Derived.Test.YtlaikgaepaiigaaDoorKRefN
namespace Go.Proofs.YtlaikgaepaiigaaDoor.K
open Go Go.RowKit
set_option linter.unusedVariables false
set_option linter.unusedSimpArgs false
theorem numOf_mono (s : ByteArray) (q i : Nat) : ∀ j, numOf s q i ≤ numOf s q (i + j)
  | 0 => Nat.le_refl _
  | j + 1 => by
    have h := numOf_mono s q i j
    rw [← Nat.add_assoc, numOf]
    omega
def valRes (s : ByteArray) (q k : Nat) : Int × Bool := if 9223372036854775807 < numOf s q k then (0, false) else (numOf s q k, true)
set_option maxRecDepth 100000 in
set_option maxHeartbeats 4000000 in
theorem value_any (b o cap : Nat) (s : ByteArray) (q k : Nat) (w : World) (hk : q + k ≤ s.size) (hn : s.size ≤ 65536) (hb : Lib.Bytes w b o s) (hd : ∀ i, q ≤ i → i < q + k → digitI (bt s i) = true) :
    Calls Tryd.prog 73 #[.slice (some ⟨b, o + q, none⟩) k cap] w fun e w' => e = .returned (.tuple #[.int .i64 (valRes s q k).1, .bool (valRes s q k).2]) ∧ w = w' := by
  have HCE := Lib.hid (fun i (hi : i < k) => show w.cell? ⟨b, o + q + i, none⟩ = some (.int .u8 (bt s (q + i))) by
    rw [Nat.add_assoc, hb (q + i) (by omega), bt_get (by omega)])
  have HD := Lib.hid (fun i (hi : i < k) => hd (q + i) (by omega) (by omega))
  have hkI : (k : Int) ≤ 65536 := by omega
  obtain ⟨R, hR⟩ : ∃ R, R = valRes s q k := ⟨_, rfl⟩
  have HR := Lib.hid hR
  rw [← hR]
  clear hb hd hR hk hn
  go_enter Tryd.func73, Tryd.ntmps73
  go_wp2_with fail
  go_loop [4, 5, 6] (fun u v _ => ∃ i : Nat, v = .int .i64 i ∧ i ≤ k ∧ u = .int .i64 (numOf s q i) ∧ numOf s q i ≤ 9223372036854775807) (fun _ v _ => k - (intOf v).toNat)
  case atStart => exact ⟨0, rfl, Nat.zero_le _, rfl, by simp [numOf]⟩
  case round =>
    obtain ⟨i, rfl, hik, rfl, hmx⟩ := hrel
    have hi0 : (0 : Int) ≤ i := by omega
    by_cases hlt : i < k
    · have hltI : (i : Int) < k := by omega
      have hce := HCE.out i hlt
      have hdd := HD.out i hlt
      have hst : numOf s q (i + 1) = 10 * numOf s q i + (bt s (q + i) - 48).toNat := rfl
      have hmo := numOf_mono s q (i + 1) (k - (i + 1))
      rw [show i + 1 + (k - (i + 1)) = k by omega] at hmo
      simp only [digitI, Bool.and_eq_true, decide_eq_true_eq] at hdd
      obtain ⟨y1, y2⟩ := hdd
      have HBIG := Lib.hid (fun (h : 9223372036854775807 < numOf s q (i + 1)) => (show R = (0, false) by rw [HR.out]; exact if_pos (by omega)))
      generalize bt s (q + i) = y at *
      have HST := Lib.hid hst
      obtain ⟨N, hN⟩ : ∃ N, N = numOf s q i := ⟨_, rfl⟩
      rw [← hN] at hmx hst HST ⊢
      have wy : IntKind.u8.wrap (y - 48) = y - 48 := IntWalk.u8_in _ (by omega)
      obtain ⟨x, hx⟩ : ∃ x, x = y - 48 := ⟨_, rfl⟩
      have x0 : 0 ≤ x := by omega
      have x9 : x ≤ 9 := by omega
      have hNI : (N : Int) ≤ 9223372036854775807 := by omega
      have hN0 : (0 : Int) ≤ N := by omega
      rw [← hx] at wy hst
      have wx : IntKind.i64.wrap x = x := IntWalk.i64_in _ (by omega)
      have wm : IntKind.i64.wrap (9223372036854775807 - x) = 9223372036854775807 - x := IntWalk.i64_in _ (by omega)
      have td : (9223372036854775807 - x).tdiv 10 = (9223372036854775807 - x) / 10 := Int.tdiv_eq_ediv_of_nonneg (by omega)
      by_cases hbig : (9223372036854775807 - x) / 10 < (N : Int)
      · have hz := HBIG.out (by omega)
        have HZ := Lib.hid hz
        clear hz hst hmo HR hN
        have wq : IntKind.i64.wrap ((9223372036854775807 - x) / 10) = (9223372036854775807 - x) / 10 := IntWalk.i64_in _ (by omega)
        go_wp2_with fail
        go_returns
        exact ⟨by rw [HZ.out]; rfl, rfl⟩
      · have h10 : 10 * (N : Int) + x ≤ 9223372036854775807 := by omega
        have wq : IntKind.i64.wrap ((9223372036854775807 - x) / 10) = (9223372036854775807 - x) / 10 := IntWalk.i64_in _ (by omega)
        have w10 : IntKind.i64.wrap (10 * (N : Int)) = 10 * (N : Int) := IntWalk.i64_in _ (by omega)
        have w11 : IntKind.i64.wrap (10 * (N : Int) + x) = 10 * (N : Int) + x := IntWalk.i64_in _ (by omega)
        have HEN := Lib.hid (show numOf s q (i + 1) = 10 * N + x.toNat from hst)
        clear hst hmo hN
        go_wp2_with fail
        go_round
        case rel => exact ⟨i + 1, by go_num, by omega, by rw [HEN.out]; go_num, by rw [HEN.out]; omega⟩
        case measure => simp [intOf]; omega
    · have hltI : ¬ (i : Int) < k := by omega
      obtain rfl : i = k := by omega
      have HZ := Lib.hid (show R = ((numOf s q i : Int), true) by rw [HR.out]; exact if_neg (by omega))
      clear HR
      go_wp2_with fail
      go_returns
      exact ⟨by rw [HZ.out]; rfl, rfl⟩
end Go.Proofs.YtlaikgaepaiigaaDoor.K

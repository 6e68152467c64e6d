/- The contracts of tokens.Cut's function values. -/
import Derived.Test.YtlaikgaepaiigaaGreatDoorKText
namespace Go.Proofs.YtlaikgaepaiigaaGreatDoor.K
open Go Go.RowKit
set_option linter.unusedVariables false
set_option linter.unusedSimpArgs false
set_option maxHeartbeats 1000000 in
theorem isDigit_any (y : Int) (w : World) (h0 : 0 ≤ y) (h1 : y ≤ 255) : Calls Tryz.prog 26 #[.int .u8 y] w fun e w' => e = .returned (.bool (digitI y)) ∧ w = w' := by
  have HC := Lib.hid (fun W => class_any y W h0 h1)
  have hd : (classI y == 4) = digitI y := by
    rcases class_cases y with ⟨hb, hv, hp⟩ | ⟨hb, hs, hv, _⟩ | ⟨hb, hs, hg, hv, _⟩ | ⟨hb, hs, hg, hd, hv, _⟩ | ⟨hb, hs, hg, hd, rfl, hv, _⟩ | ⟨hb, hs, hg, hd, hq, hv, _⟩
    · rw [hv]
      simp only [partI, Bool.or_eq_false_iff] at hp
      rw [hp.2]; rfl
    · rw [hv]
      simp only [smallI, Bool.and_eq_true, decide_eq_true_eq] at hs
      have : digitI y = false := by simp [digitI]; omega
      rw [this]; rfl
    · rw [hv]
      have : digitI y = false := by
        simp only [greatI, Bool.or_eq_true, Bool.and_eq_true, decide_eq_true_eq, beq_iff_eq] at hg
        simp [digitI]; omega
      rw [this]; rfl
    · rw [hv, hd]; rfl
    · rw [hv, hd]; rfl
    · rw [hv, hd]; rfl
  have HD := Lib.hid hd
  go_enter Tryz.func26, Tryz.ntmps26
  go_wp2_with fail
  refine (HC.out _).mono ?_
  rintro e w1 ⟨rfl, rfl⟩
  go_wp2_with fail
  go_ret
  exact ⟨rfl, rfl⟩
set_option maxHeartbeats 1000000 in
theorem isRest_any (y : Int) (w : World) (h0 : 0 ≤ y) (h1 : y ≤ 255) : Calls Tryz.prog 29 #[.int .u8 y] w fun e w' => e = .returned (.bool (notNl y)) ∧ w = w' := by
  go_enter Tryz.func29, Tryz.ntmps29
  go_wp2_with fail
  go_ret
  exact ⟨rfl, rfl⟩
set_option maxRecDepth 100000 in
set_option maxHeartbeats 4000000 in
theorem while_part (A : Option Addr) (c : Nat) (s : ByteArray) (p bx : Nat) (w : World) (hs : Src w A s) (hn : s.size ≤ 65536) (hp : p ≤ s.size)
    (hbx : w.cell? ⟨bx, 0, none⟩ = some (.slice A s.size c)) :
    Calls Tryz.prog 23 #[.int .i64 p, .func (.func 25) #[] #[], .pointer (some ⟨bx, 0, none⟩)] w fun e w' => e = .returned (.int .i64 (whileOf partI s p)) ∧ w = w' := by
  have HS := Lib.hid hs
  have HP := Lib.hid part_any
  have HW := Lib.hid (rfl : whileOf partI s p = whileOf partI s p)
  obtain ⟨R, hR⟩ : ∃ R, R = whileOf partI s p := ⟨_, rfl⟩
  rw [← hR]
  have HR := Lib.hid hR
  obtain ⟨n, hns⟩ : ∃ n, n = s.size := ⟨_, rfl⟩
  have HN := Lib.hid hns
  rw [← hns] at hn hp hbx
  have hnI : (n : Int) ≤ 65536 := by omega
  clear hs hR hns
  go_enter Tryz.func23, Tryz.ntmps23
  go_wp2_with fail
  go_loop [0] (fun u => ∃ q : Nat, u = .int .i64 q ∧ q ≤ n ∧ Hid (R = whileOf partI s q)) (fun u => n - (intOf u).toNat)
  case atStart => exact ⟨p, rfl, hp, HR⟩
  case round =>
    obtain ⟨q, rfl, hqn, HG⟩ := hrel
    have hq0 : (0 : Int) ≤ q := by omega
    by_cases hlt : q < n
    · have hltI : (q : Int) < n := by omega
      obtain ⟨b, o, rfl, hbw, hbs, hce⟩ := HS.out.at (i := q) (by rw [← HN.out]; exact hlt)
      have hbr := bt_range s q
      have HPY := Lib.hid (HP.out (bt s q) w hbr.1 hbr.2)
      obtain ⟨B, hB⟩ : ∃ B, B = partI (bt s q) := ⟨_, rfl⟩
      rw [← hB] at HPY
      cases B with
      | true =>
        have HZ := Lib.hid (show R = whileOf partI s (q + 1) by rw [← while_step (by rw [← HN.out]; exact hlt) hB.symm]; exact HG.out)
        generalize bt s q = y at *
        clear hbw hbs hbr hB
        go_wp2_with fail
        refine HPY.out.mono ?_
        rintro e w1 ⟨rfl, rfl⟩
        go_wp2_with fail
        go_round
        case rel => exact ⟨q + 1, by go_num, by omega, HZ⟩
        case measure => simp [intOf]; omega
      | false =>
        have HZ := Lib.hid (show R = q by rw [← while_stop (P := partI) (s := s) (p := q) (fun h => by rw [← hB] at h; cases h.2)]; exact HG.out)
        generalize bt s q = y at *
        clear hbw hbs hbr hB
        go_wp2_with fail
        refine HPY.out.mono ?_
        rintro e w1 ⟨rfl, rfl⟩
        go_wp2_with fail
        go_ret
        exact ⟨ret_int (by rw [HZ.out]), rfl⟩
    · have hltI : ¬ (q : Int) < n := by omega
      have HZ := Lib.hid (show R = q by rw [← while_stop (P := partI) (s := s) (p := q) (fun h => hlt (by rw [HN.out]; exact h.1))]; exact HG.out)
      go_wp2_with fail
      go_ret
      exact ⟨ret_int (by rw [HZ.out]), rfl⟩
set_option maxRecDepth 100000 in
set_option maxHeartbeats 4000000 in
theorem while_digit (A : Option Addr) (c : Nat) (s : ByteArray) (p bx : Nat) (w : World) (hs : Src w A s) (hn : s.size ≤ 65536) (hp : p ≤ s.size)
    (hbx : w.cell? ⟨bx, 0, none⟩ = some (.slice A s.size c)) :
    Calls Tryz.prog 23 #[.int .i64 p, .func (.func 26) #[] #[], .pointer (some ⟨bx, 0, none⟩)] w fun e w' => e = .returned (.int .i64 (whileOf digitI s p)) ∧ w = w' := by
  have HS := Lib.hid hs
  have HP := Lib.hid isDigit_any
  have HW := Lib.hid (rfl : whileOf digitI s p = whileOf digitI s p)
  obtain ⟨R, hR⟩ : ∃ R, R = whileOf digitI s p := ⟨_, rfl⟩
  rw [← hR]
  have HR := Lib.hid hR
  obtain ⟨n, hns⟩ : ∃ n, n = s.size := ⟨_, rfl⟩
  have HN := Lib.hid hns
  rw [← hns] at hn hp hbx
  have hnI : (n : Int) ≤ 65536 := by omega
  clear hs hR hns
  go_enter Tryz.func23, Tryz.ntmps23
  go_wp2_with fail
  go_loop [0] (fun u => ∃ q : Nat, u = .int .i64 q ∧ q ≤ n ∧ Hid (R = whileOf digitI s q)) (fun u => n - (intOf u).toNat)
  case atStart => exact ⟨p, rfl, hp, HR⟩
  case round =>
    obtain ⟨q, rfl, hqn, HG⟩ := hrel
    have hq0 : (0 : Int) ≤ q := by omega
    by_cases hlt : q < n
    · have hltI : (q : Int) < n := by omega
      obtain ⟨b, o, rfl, hbw, hbs, hce⟩ := HS.out.at (i := q) (by rw [← HN.out]; exact hlt)
      have hbr := bt_range s q
      have HPY := Lib.hid (HP.out (bt s q) w hbr.1 hbr.2)
      obtain ⟨B, hB⟩ : ∃ B, B = digitI (bt s q) := ⟨_, rfl⟩
      rw [← hB] at HPY
      cases B with
      | true =>
        have HZ := Lib.hid (show R = whileOf digitI s (q + 1) by rw [← while_step (by rw [← HN.out]; exact hlt) hB.symm]; exact HG.out)
        generalize bt s q = y at *
        clear hbw hbs hbr hB
        go_wp2_with fail
        refine HPY.out.mono ?_
        rintro e w1 ⟨rfl, rfl⟩
        go_wp2_with fail
        go_round
        case rel => exact ⟨q + 1, by go_num, by omega, HZ⟩
        case measure => simp [intOf]; omega
      | false =>
        have HZ := Lib.hid (show R = q by rw [← while_stop (P := digitI) (s := s) (p := q) (fun h => by rw [← hB] at h; cases h.2)]; exact HG.out)
        generalize bt s q = y at *
        clear hbw hbs hbr hB
        go_wp2_with fail
        refine HPY.out.mono ?_
        rintro e w1 ⟨rfl, rfl⟩
        go_wp2_with fail
        go_ret
        exact ⟨ret_int (by rw [HZ.out]), rfl⟩
    · have hltI : ¬ (q : Int) < n := by omega
      have HZ := Lib.hid (show R = q by rw [← while_stop (P := digitI) (s := s) (p := q) (fun h => hlt (by rw [HN.out]; exact h.1))]; exact HG.out)
      go_wp2_with fail
      go_ret
      exact ⟨ret_int (by rw [HZ.out]), rfl⟩
set_option maxRecDepth 100000 in
set_option maxHeartbeats 4000000 in
theorem while_rest (A : Option Addr) (c : Nat) (s : ByteArray) (p bx : Nat) (w : World) (hs : Src w A s) (hn : s.size ≤ 65536) (hp : p ≤ s.size)
    (hbx : w.cell? ⟨bx, 0, none⟩ = some (.slice A s.size c)) :
    Calls Tryz.prog 23 #[.int .i64 p, .func (.func 29) #[] #[], .pointer (some ⟨bx, 0, none⟩)] w fun e w' => e = .returned (.int .i64 (whileOf notNl s p)) ∧ w = w' := by
  have HS := Lib.hid hs
  have HP := Lib.hid isRest_any
  have HW := Lib.hid (rfl : whileOf notNl s p = whileOf notNl s p)
  obtain ⟨R, hR⟩ : ∃ R, R = whileOf notNl s p := ⟨_, rfl⟩
  rw [← hR]
  have HR := Lib.hid hR
  obtain ⟨n, hns⟩ : ∃ n, n = s.size := ⟨_, rfl⟩
  have HN := Lib.hid hns
  rw [← hns] at hn hp hbx
  have hnI : (n : Int) ≤ 65536 := by omega
  clear hs hR hns
  go_enter Tryz.func23, Tryz.ntmps23
  go_wp2_with fail
  go_loop [0] (fun u => ∃ q : Nat, u = .int .i64 q ∧ q ≤ n ∧ Hid (R = whileOf notNl s q)) (fun u => n - (intOf u).toNat)
  case atStart => exact ⟨p, rfl, hp, HR⟩
  case round =>
    obtain ⟨q, rfl, hqn, HG⟩ := hrel
    have hq0 : (0 : Int) ≤ q := by omega
    by_cases hlt : q < n
    · have hltI : (q : Int) < n := by omega
      obtain ⟨b, o, rfl, hbw, hbs, hce⟩ := HS.out.at (i := q) (by rw [← HN.out]; exact hlt)
      have hbr := bt_range s q
      have HPY := Lib.hid (HP.out (bt s q) w hbr.1 hbr.2)
      obtain ⟨B, hB⟩ : ∃ B, B = notNl (bt s q) := ⟨_, rfl⟩
      rw [← hB] at HPY
      cases B with
      | true =>
        have HZ := Lib.hid (show R = whileOf notNl s (q + 1) by rw [← while_step (by rw [← HN.out]; exact hlt) hB.symm]; exact HG.out)
        generalize bt s q = y at *
        clear hbw hbs hbr hB
        go_wp2_with fail
        refine HPY.out.mono ?_
        rintro e w1 ⟨rfl, rfl⟩
        go_wp2_with fail
        go_round
        case rel => exact ⟨q + 1, by go_num, by omega, HZ⟩
        case measure => simp [intOf]; omega
      | false =>
        have HZ := Lib.hid (show R = q by rw [← while_stop (P := notNl) (s := s) (p := q) (fun h => by rw [← hB] at h; cases h.2)]; exact HG.out)
        generalize bt s q = y at *
        clear hbw hbs hbr hB
        go_wp2_with fail
        refine HPY.out.mono ?_
        rintro e w1 ⟨rfl, rfl⟩
        go_wp2_with fail
        go_ret
        exact ⟨ret_int (by rw [HZ.out]), rfl⟩
    · have hltI : ¬ (q : Int) < n := by omega
      have HZ := Lib.hid (show R = q by rw [← while_stop (P := notNl) (s := s) (p := q) (fun h => hlt (by rw [HN.out]; exact h.1))]; exact HG.out)
      go_wp2_with fail
      go_ret
      exact ⟨ret_int (by rw [HZ.out]), rfl⟩
end Go.Proofs.YtlaikgaepaiigaaGreatDoor.K

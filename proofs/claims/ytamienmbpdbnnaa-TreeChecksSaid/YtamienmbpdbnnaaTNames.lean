/- The contracts of what looks at names and texts. -/
import Derived.Test.YtamienmbpdbnnaaProg
import Derived.Test.YtamienmbpdbnnaaTWords
import Derived.Test.YtamienmbpdbnnaaBag
import Derived.Lib.Hide
import Derived.LoopTactic
import Derived.Outline
namespace Go.Proofs.Ytamienmbpdbnnaa.T
open Go Go.RowKit
set_option linter.unusedVariables false
set_option linter.unusedSimpArgs false
theorem ret_bool {a b : Bool} (h : a = b) : Ending.returned (.bool a) = .returned (.bool b) := by rw [h]
theorem bytes_inj {a b : ByteArray} (h : a.data.toList = b.data.toList) : a = b := by
  cases a; cases b
  simp at h
  rw [h]
theorem str_ne {a b : ByteArray} (h : a ≠ b) : (a.toList == b.toList) = false := by
  rw [ByteArray.toList_eq, ByteArray.toList_eq]
  simpa using fun e => h (bytes_inj (Array.toList_inj.2 e))
theorem byte_at (s : ByteArray) {k : Nat} (h : k < s.size) : s.data.toList[k]? = some s[k] := by
  rw [Array.getElem?_toList, Array.getElem?_eq_getElem (show k < s.data.size from h)]
  rfl
theorem take_byte (s : ByteArray) {k : Nat} (h : k < s.size) : s.data.toList.take (k + 1) = s.data.toList.take k ++ [s[k]] := by
  rw [List.take_succ_eq_append_getElem (by simpa using h)]; rfl
theorem all_step (p : UInt8 → Bool) (s : ByteArray) {k : Nat} (h : k < s.size) (ha : (s.data.toList.take k).all p = true) (hp : p s[k] = true) : (s.data.toList.take (k + 1)).all p = true := by
  rw [take_byte s h, List.all_append, ha]; simp [hp]
theorem all_end (p : UInt8 → Bool) (s : ByteArray) {k : Nat} (h : ¬ k < s.size) (ha : (s.data.toList.take k).all p = true) : s.data.toList.all p = true := by
  rwa [List.take_of_length_le (by simp; omega)] at ha
theorem all_bad (p : UInt8 → Bool) (s : ByteArray) {k : Nat} (h : k < s.size) (hp : p s[k] = false) : s.data.toList.all p = false := by
  rw [List.all_eq_false]
  exact ⟨s[k], List.mem_of_getElem? (byte_at s h), by simp [hp]⟩
def partZ (z : Int) : Bool := decide ((97 ≤ z ∧ z ≤ 122) ∨ (65 ≤ z ∧ z ≤ 90) ∨ (48 ≤ z ∧ z ≤ 57) ∨ z = 95)
theorem partZ_yes {z : Int} (h : (97 ≤ z ∧ z ≤ 122) ∨ (65 ≤ z ∧ z ≤ 90) ∨ (48 ≤ z ∧ z ≤ 57)) : partZ z = true := decide_eq_true (by omega)
theorem partZ_u {z : Int} (h : (z == 95) = true) : partZ z = true := decide_eq_true (.inr (.inr (.inr (by simpa using h))))
theorem partZ_no {z : Int} (h : (z == 95) = false) (h1 : ¬ ((97 ≤ z ∧ z ≤ 122) ∨ (65 ≤ z ∧ z ≤ 90) ∨ (48 ≤ z ∧ z ≤ 57))) : partZ z = false := by
  have h2 : z ≠ 95 := by simpa using h
  exact decide_eq_false (by omega)
theorem partB_Z (b : UInt8) : partB b = partZ (b.toNat : Int) := by
  unfold partB partZ
  rw [Bool.eq_iff_iff]
  simp only [Bool.or_eq_true, Bool.and_eq_true, decide_eq_true_eq, beq_iff_eq, UInt8.le_iff_toNat_le, ← UInt8.toNat_inj]
  simp
  omega
theorem smallB_Z (b : UInt8) : smallB b = decide (97 ≤ (b.toNat : Int) ∧ (b.toNat : Int) ≤ 122) := by
  unfold smallB
  rw [Bool.eq_iff_iff]
  simp only [Bool.and_eq_true, decide_eq_true_eq, UInt8.le_iff_toNat_le]
  simp
  omega
theorem nameL_long {s : ByteArray} (h : 32 < s.size) : nameL s.data.toList = false := by
  have : decide (s.data.toList.length ≤ 32) = false := by simp; omega
  unfold nameL
  rw [this]
  rfl
theorem nameL_nil {s : ByteArray} (h : s.size = 0) : nameL s.data.toList = false := by
  have : s.data.toList = [] := List.eq_nil_of_length_eq_zero (by simpa using h)
  rw [this]
  rfl
theorem nameL_head {s : ByteArray} (h : 0 < s.size) (h2 : s.size ≤ 32) : nameL s.data.toList = (smallB s[0] && s.data.toList.all partB) := by
  have h1 := byte_at s h
  have h3 : decide (s.data.toList.length ≤ 32) = true := by simpa using h2
  obtain ⟨b, l, e⟩ : ∃ b l, s.data.toList = b :: l := by
    cases hl : s.data.toList with
    | nil => rw [hl] at h1; cases h1
    | cons b l => exact ⟨b, l, rfl⟩
  have h4 : b = s[0] := by rw [e] at h1; simpa using h1
  unfold nameL
  rw [h3, ← h4, e]
  rfl
set_option maxHeartbeats 1000000 in
theorem isName_any (s : ByteArray) (w : World) (hs : s.size ≤ maxLen) : Calls Try.prog 56 #[.string s] w fun e w' => e = .returned (.bool (nameL s.data.toList)) ∧ w = w' := by
  unfold maxLen at hs
  by_cases h0 : s.size = 0
  · have HB := Lib.hid (nameL_nil h0)
    have h1 : (s.size : Int) < 1 := by omega
    clear h0
    go_enter Try.func56, Try.ntmps56
    go_wp2
    go_ret
    exact ⟨ret_bool HB.out.symm, rfl⟩
  · have h1 : ¬ (s.size : Int) < 1 := by omega
    by_cases h2 : (32 : Int) < s.size
    · have HB := Lib.hid (nameL_long (s := s) (by omega))
      clear h0
      go_enter Try.func56, Try.ntmps56
      go_wp2
      go_ret
      exact ⟨ret_bool HB.out.symm, rfl⟩
    · have hp : 0 < s.size := by omega
      have HB := Lib.hid (nameL_head (s := s) hp (by omega))
      obtain ⟨R, hR⟩ : ∃ R, R = nameL s.data.toList := ⟨_, rfl⟩
      rw [← hR] at HB ⊢
      have hsm := smallB_Z s[0]
      have HSM := Lib.hid hsm
      clear h0 hR hsm
      by_cases h3 : (s[0].toNat : Int) < 97
      · have hr : R = false := by rw [HB.out, HSM.out]; simp; omega
        have HR := Lib.hid hr
        clear hr
        go_enter Try.func56, Try.ntmps56
        go_wp2
        go_ret
        exact ⟨ret_bool HR.out.symm, rfl⟩
      · by_cases h4 : (122 : Int) < (s[0].toNat : Int)
        · have hr : R = false := by rw [HB.out, HSM.out]; simp; omega
          have HR := Lib.hid hr
          clear hr
          go_enter Try.func56, Try.ntmps56
          go_wp2
          go_ret
          exact ⟨ret_bool HR.out.symm, rfl⟩
        · have hr : R = s.data.toList.all partB := by
            have : decide ((97 : Int) ≤ (s[0].toNat : Int) ∧ (s[0].toNat : Int) ≤ 122) = true := by simp; omega
            rw [HB.out, HSM.out, this]; rfl
          have HR := Lib.hid hr
          clear hr
          go_enter Try.func56, Try.ntmps56
          go_wp2
          go_loop [25] (fun i => ∃ k : Nat, k ≤ s.size ∧ i = .int .i64 k ∧ (s.data.toList.take k).all partB = true) (fun i => s.size - (intOf i).toNat)
          case atStart => exact ⟨0, Nat.zero_le _, rfl, rfl⟩
          case round =>
            obtain ⟨k, hk, rfl, ha⟩ := hrel
            have HA := Lib.hid ha
            clear ha
            by_cases hlt : k < s.size
            · have hlt1 : (k : Int) < s.size := by omega
              have HP := Lib.hid (partB_Z s[k])
              have HBAD := Lib.hid (fun h => all_bad partB s hlt h)
              have HOK := Lib.hid (fun h => all_step partB s hlt HA.out h)
              go_wp2
              all_goals first
                | (go_round; (case rel => exact ⟨k + 1, by omega, by go_num, HOK.out (by rw [HP.out]; exact partZ_yes (by omega))⟩); (case measure => simp [intOf]; omega))
                | (go_round; (case rel => exact ⟨k + 1, by omega, by go_num, HOK.out (by rw [HP.out]; exact partZ_u (by assumption))⟩); (case measure => simp [intOf]; omega))
                | (go_ret; exact ⟨ret_bool (by rw [HR.out, HBAD.out (by rw [HP.out]; exact partZ_no (by assumption) (by omega))]), rfl⟩)
            · have hlt1 : ¬ (k : Int) < s.size := by omega
              have HE := Lib.hid (all_end partB s hlt HA.out)
              go_wp2
              go_ret
              exact ⟨ret_bool (by rw [HR.out, HE.out]), rfl⟩
set_option maxHeartbeats 1000000 in
theorem refName_any (s : ByteArray) (w : World) (hs : s.size ≤ maxLen) : Calls Try.prog 59 #[.string s] w fun e w' => e = .returned (.bool (nameL s.data.toList)) ∧ w = w' := by
  unfold maxLen at hs
  by_cases h0 : s.size = 0
  · have HB := Lib.hid (nameL_nil h0)
    have h1 : (s.size : Int) < 1 := by omega
    clear h0
    go_enter Try.func59, Try.ntmps59
    go_wp2
    go_ret
    exact ⟨ret_bool HB.out.symm, rfl⟩
  · have h1 : ¬ (s.size : Int) < 1 := by omega
    by_cases h2 : (32 : Int) < s.size
    · have HB := Lib.hid (nameL_long (s := s) (by omega))
      clear h0
      go_enter Try.func59, Try.ntmps59
      go_wp2
      go_ret
      exact ⟨ret_bool HB.out.symm, rfl⟩
    · have hp : 0 < s.size := by omega
      have HB := Lib.hid (nameL_head (s := s) hp (by omega))
      obtain ⟨R, hR⟩ : ∃ R, R = nameL s.data.toList := ⟨_, rfl⟩
      rw [← hR] at HB ⊢
      have hsm := smallB_Z s[0]
      have HSM := Lib.hid hsm
      clear h0 hR hsm
      by_cases h3 : (s[0].toNat : Int) < 97
      · have hr : R = false := by rw [HB.out, HSM.out]; simp; omega
        have HR := Lib.hid hr
        clear hr
        go_enter Try.func59, Try.ntmps59
        go_wp2
        go_ret
        exact ⟨ret_bool HR.out.symm, rfl⟩
      · by_cases h4 : (122 : Int) < (s[0].toNat : Int)
        · have hr : R = false := by rw [HB.out, HSM.out]; simp; omega
          have HR := Lib.hid hr
          clear hr
          go_enter Try.func59, Try.ntmps59
          go_wp2
          go_ret
          exact ⟨ret_bool HR.out.symm, rfl⟩
        · have hr : R = s.data.toList.all partB := by
            have : decide ((97 : Int) ≤ (s[0].toNat : Int) ∧ (s[0].toNat : Int) ≤ 122) = true := by simp; omega
            rw [HB.out, HSM.out, this]; rfl
          have HR := Lib.hid hr
          clear hr
          go_enter Try.func59, Try.ntmps59
          go_wp2
          go_loop [3] (fun i => ∃ k : Nat, k ≤ s.size ∧ i = .int .i64 k ∧ (s.data.toList.take k).all partB = true) (fun i => s.size - (intOf i).toNat)
          case atStart => exact ⟨0, Nat.zero_le _, rfl, rfl⟩
          case round =>
            obtain ⟨k, hk, rfl, ha⟩ := hrel
            have HA := Lib.hid ha
            clear ha
            by_cases hlt : k < s.size
            · have hlt1 : (k : Int) < s.size := by omega
              have HP := Lib.hid (partB_Z s[k])
              have HBAD := Lib.hid (fun h => all_bad partB s hlt h)
              have HOK := Lib.hid (fun h => all_step partB s hlt HA.out h)
              by_cases h95 : (s[k].toNat : Int) = 95
              · have g0 : ((s[k].toNat : Int) == 95) = true := by simpa using h95
                have g1 : ¬ (97 : Int) ≤ (s[k].toNat : Int) := by omega
                have g2 : (65 : Int) ≤ (s[k].toNat : Int) := by omega
                have g3 : ¬ (s[k].toNat : Int) ≤ 90 := by omega
                have g4 : (48 : Int) ≤ (s[k].toNat : Int) := by omega
                have g5 : ¬ (s[k].toNat : Int) ≤ 57 := by omega
                have HG := Lib.hid (HOK.out (by rw [HP.out]; exact partZ_u g0))
                clear h95
                go_wp2
                go_round
                case rel => exact ⟨k + 1, by omega, by go_num, HG.out⟩
                case measure => simp [intOf]; omega
              · have g0 : ((s[k].toNat : Int) == 95) = false := by simpa using h95
                have hcs : (s[k].toNat : Int) < 48 ∨ (48 ≤ (s[k].toNat : Int) ∧ (s[k].toNat : Int) ≤ 57) ∨ (57 < (s[k].toNat : Int) ∧ (s[k].toNat : Int) < 65) ∨ (65 ≤ (s[k].toNat : Int) ∧ (s[k].toNat : Int) ≤ 90) ∨ (90 < (s[k].toNat : Int) ∧ (s[k].toNat : Int) < 97) ∨ (97 ≤ (s[k].toNat : Int) ∧ (s[k].toNat : Int) ≤ 122) ∨ 122 < (s[k].toNat : Int) := by omega
                clear h95
                rcases hcs with hc | ⟨hc, hc'⟩ | ⟨hc, hc'⟩ | ⟨hc, hc'⟩ | ⟨hc, hc'⟩ | ⟨hc, hc'⟩ | hc
                · have : ¬ (97 : Int) ≤ (s[k].toNat : Int) := by omega
                  have : (s[k].toNat : Int) ≤ 122 := by omega
                  have : ¬ (65 : Int) ≤ (s[k].toNat : Int) := by omega
                  have : (s[k].toNat : Int) ≤ 90 := by omega
                  have : ¬ (48 : Int) ≤ (s[k].toNat : Int) := by omega
                  have : (s[k].toNat : Int) ≤ 57 := by omega
                  have HG := Lib.hid (HBAD.out (by rw [HP.out]; exact partZ_no g0 (by omega)))
                  go_wp2
                  go_ret
                  exact ⟨ret_bool (by rw [HR.out, HG.out]), rfl⟩
                · have : ¬ (97 : Int) ≤ (s[k].toNat : Int) := by omega
                  have : (s[k].toNat : Int) ≤ 122 := by omega
                  have : ¬ (65 : Int) ≤ (s[k].toNat : Int) := by omega
                  have : (s[k].toNat : Int) ≤ 90 := by omega
                  have : (48 : Int) ≤ (s[k].toNat : Int) := by omega
                  have : (s[k].toNat : Int) ≤ 57 := by omega
                  have HG := Lib.hid (HOK.out (by rw [HP.out]; exact partZ_yes (by omega)))
                  go_wp2
                  go_round
                  case rel => exact ⟨k + 1, by omega, by go_num, HG.out⟩
                  case measure => simp [intOf]; omega
                · have : ¬ (97 : Int) ≤ (s[k].toNat : Int) := by omega
                  have : (s[k].toNat : Int) ≤ 122 := by omega
                  have : ¬ (65 : Int) ≤ (s[k].toNat : Int) := by omega
                  have : (s[k].toNat : Int) ≤ 90 := by omega
                  have : (48 : Int) ≤ (s[k].toNat : Int) := by omega
                  have : ¬ (s[k].toNat : Int) ≤ 57 := by omega
                  have HG := Lib.hid (HBAD.out (by rw [HP.out]; exact partZ_no g0 (by omega)))
                  go_wp2
                  go_ret
                  exact ⟨ret_bool (by rw [HR.out, HG.out]), rfl⟩
                · have : ¬ (97 : Int) ≤ (s[k].toNat : Int) := by omega
                  have : (s[k].toNat : Int) ≤ 122 := by omega
                  have : (65 : Int) ≤ (s[k].toNat : Int) := by omega
                  have : (s[k].toNat : Int) ≤ 90 := by omega
                  have : (48 : Int) ≤ (s[k].toNat : Int) := by omega
                  have : ¬ (s[k].toNat : Int) ≤ 57 := by omega
                  have HG := Lib.hid (HOK.out (by rw [HP.out]; exact partZ_yes (by omega)))
                  go_wp2
                  go_round
                  case rel => exact ⟨k + 1, by omega, by go_num, HG.out⟩
                  case measure => simp [intOf]; omega
                · have : ¬ (97 : Int) ≤ (s[k].toNat : Int) := by omega
                  have : (s[k].toNat : Int) ≤ 122 := by omega
                  have : (65 : Int) ≤ (s[k].toNat : Int) := by omega
                  have : ¬ (s[k].toNat : Int) ≤ 90 := by omega
                  have : (48 : Int) ≤ (s[k].toNat : Int) := by omega
                  have : ¬ (s[k].toNat : Int) ≤ 57 := by omega
                  have HG := Lib.hid (HBAD.out (by rw [HP.out]; exact partZ_no g0 (by omega)))
                  go_wp2
                  go_ret
                  exact ⟨ret_bool (by rw [HR.out, HG.out]), rfl⟩
                · have : (97 : Int) ≤ (s[k].toNat : Int) := by omega
                  have : (s[k].toNat : Int) ≤ 122 := by omega
                  have : (65 : Int) ≤ (s[k].toNat : Int) := by omega
                  have : ¬ (s[k].toNat : Int) ≤ 90 := by omega
                  have : (48 : Int) ≤ (s[k].toNat : Int) := by omega
                  have : ¬ (s[k].toNat : Int) ≤ 57 := by omega
                  have HG := Lib.hid (HOK.out (by rw [HP.out]; exact partZ_yes (by omega)))
                  go_wp2
                  go_round
                  case rel => exact ⟨k + 1, by omega, by go_num, HG.out⟩
                  case measure => simp [intOf]; omega
                · have : (97 : Int) ≤ (s[k].toNat : Int) := by omega
                  have : ¬ (s[k].toNat : Int) ≤ 122 := by omega
                  have : (65 : Int) ≤ (s[k].toNat : Int) := by omega
                  have : ¬ (s[k].toNat : Int) ≤ 90 := by omega
                  have : (48 : Int) ≤ (s[k].toNat : Int) := by omega
                  have : ¬ (s[k].toNat : Int) ≤ 57 := by omega
                  have HG := Lib.hid (HBAD.out (by rw [HP.out]; exact partZ_no g0 (by omega)))
                  go_wp2
                  go_ret
                  exact ⟨ret_bool (by rw [HR.out, HG.out]), rfl⟩
            · have hlt1 : ¬ (k : Int) < s.size := by omega
              have HE := Lib.hid (all_end partB s hlt HA.out)
              go_wp2
              go_ret
              exact ⟨ret_bool (by rw [HR.out, HE.out]), rfl⟩
theorem textL_long {s : ByteArray} (h : 64 < s.size) : textL s.data.toList = false := by
  have : decide (s.data.toList.length ≤ 64) = false := by simp; omega
  unfold textL
  rw [this]
  rfl
def saysB (b : UInt8) : Bool := 32 ≤ b && b ≤ 126
theorem saysB_Z (b : UInt8) : saysB b = decide (32 ≤ (b.toNat : Int) ∧ (b.toNat : Int) ≤ 126) := by
  unfold saysB
  rw [Bool.eq_iff_iff]
  simp only [Bool.and_eq_true, decide_eq_true_eq, UInt8.le_iff_toNat_le]
  simp
  omega
theorem textL_short {s : ByteArray} (h : s.size ≤ 64) : textL s.data.toList = s.data.toList.all saysB := by
  have : decide (s.data.toList.length ≤ 64) = true := by simpa using h
  unfold textL
  rw [this]
  rfl
theorem textL_bad {s : ByteArray} (h : s.data.toList.all saysB = false) : textL s.data.toList = false := by
  unfold textL
  have : (s.data.toList.all fun b => 32 ≤ b && b ≤ 126) = false := h
  rw [this, Bool.and_false]
set_option maxHeartbeats 1000000 in
theorem isText_any (s : ByteArray) (w : World) (hs : s.size ≤ maxLen) : Calls Try.prog 55 #[.string s] w fun e w' => e = .returned (.bool (textL s.data.toList)) ∧ w = w' := by
  unfold maxLen at hs
  obtain ⟨R, hR⟩ : ∃ R, R = textL s.data.toList := ⟨_, rfl⟩
  rw [← hR]
  have HR := Lib.hid hR
  clear hR
  go_enter Try.func55, Try.ntmps55
  go_wp2
  go_loop [6] (fun i => ∃ k : Nat, k ≤ s.size ∧ i = .int .i64 k ∧ (s.data.toList.take k).all saysB = true) (fun i => s.size - (intOf i).toNat)
  case atStart => exact ⟨0, Nat.zero_le _, rfl, rfl⟩
  case round =>
    obtain ⟨k, hk, rfl, ha⟩ := hrel
    have HA := Lib.hid ha
    clear ha
    by_cases hlt : k < s.size
    · have hlt1 : (k : Int) < s.size := by omega
      have HP := Lib.hid (saysB_Z s[k])
      have HBAD := Lib.hid (fun h => textL_bad (all_bad saysB s hlt h))
      have HOK := Lib.hid (fun h => all_step saysB s hlt HA.out h)
      go_wp2
      all_goals first
        | (go_round; (case rel => exact ⟨k + 1, by omega, by go_num, HOK.out (by rw [HP.out]; exact decide_eq_true (by omega))⟩); (case measure => simp [intOf]; omega))
        | (go_ret; exact ⟨ret_bool (by rw [HR.out, HBAD.out (by rw [HP.out]; exact decide_eq_false (by omega))]), rfl⟩)
    · have hlt1 : ¬ (k : Int) < s.size := by omega
      have HE := Lib.hid (all_end saysB s hlt HA.out)
      by_cases h64 : (s.size : Int) ≤ 64
      · have HS := Lib.hid (textL_short (s := s) (by omega))
        go_wp2
        go_ret
        exact ⟨ret_bool (by rw [HR.out, HS.out, HE.out]), rfl⟩
      · have HS := Lib.hid (textL_long (s := s) (by omega))
        go_wp2
        go_ret
        exact ⟨ret_bool (by rw [HR.out, HS.out]), rfl⟩
set_option maxHeartbeats 1000000 in
theorem refText_any (s : ByteArray) (w : World) (hs : s.size ≤ maxLen) : Calls Try.prog 57 #[.string s] w fun e w' => e = .returned (.bool (textL s.data.toList)) ∧ w = w' := by
  unfold maxLen at hs
  obtain ⟨R, hR⟩ : ∃ R, R = textL s.data.toList := ⟨_, rfl⟩
  rw [← hR]
  have HR := Lib.hid hR
  clear hR
  by_cases h64 : (64 : Int) < s.size
  · have HS := Lib.hid (textL_long (s := s) (by omega))
    go_enter Try.func57, Try.ntmps57
    go_wp2
    go_ret
    exact ⟨ret_bool (by rw [HR.out, HS.out]), rfl⟩
  · have HS := Lib.hid (textL_short (s := s) (by omega))
    go_enter Try.func57, Try.ntmps57
    go_wp2
    go_loop [3] (fun i => ∃ k : Nat, k ≤ s.size ∧ i = .int .i64 k ∧ (s.data.toList.take k).all saysB = true) (fun i => s.size - (intOf i).toNat)
    case atStart => exact ⟨0, Nat.zero_le _, rfl, rfl⟩
    case round =>
      obtain ⟨k, hk, rfl, ha⟩ := hrel
      have HA := Lib.hid ha
      clear ha
      by_cases hlt : k < s.size
      · have hlt1 : (k : Int) < s.size := by omega
        have HP := Lib.hid (saysB_Z s[k])
        have HBAD := Lib.hid (fun h => textL_bad (all_bad saysB s hlt h))
        have HOK := Lib.hid (fun h => all_step saysB s hlt HA.out h)
        go_wp2
        all_goals first
          | (go_round; (case rel => exact ⟨k + 1, by omega, by go_num, HOK.out (by rw [HP.out]; exact decide_eq_true (by omega))⟩); (case measure => simp [intOf]; omega))
          | (go_ret; exact ⟨ret_bool (by rw [HR.out, HBAD.out (by rw [HP.out]; exact decide_eq_false (by omega))]), rfl⟩)
      · have hlt1 : ¬ (k : Int) < s.size := by omega
        have HE := Lib.hid (all_end saysB s hlt HA.out)
        go_wp2
        go_ret
        exact ⟨ret_bool (by rw [HR.out, HS.out, HE.out]), rfl⟩
/-! ### Words -/
theorem own_new (X : World) (l : List Value) (t : TypeId) (n base : Nat) (hn : n = X.heap.size) (hb : base ≤ n) (hl : l.length ≤ maxLen) :
    (X.alloc (.cells l.toArray t)).ownsRow base t 1 (.slice (some ⟨n, 0, none⟩) l.length l.length) l.length l := by
  subst hn
  exact ⟨by simp, .inr ⟨X.heap.size, l.length, l.toArray, rfl, hb, heap_alloc_new X _, Nat.le_refl _, hl, by simp, by simp⟩⟩
def strV (l : List UInt8) : Value := .string ⟨l.toArray⟩
theorem refWords_any (w : World) : Calls Try.prog 63 #[] w fun e w' => e = .returned (.slice (some ⟨w.heap.size, 0, none⟩) 30 30) ∧ G.Blk w' w.heap.size 9 (words.map strV).toArray ∧ Below w.heap.size w w' := by
  go_enter Try.func63, Try.ntmps63
  go_wp2
  go_ret
  exact ⟨rfl, G.Blk.new _ _ _, G.bl_alloc (Below.refl _ _) _⟩
set_option maxRecDepth 100000 in
set_option maxHeartbeats 1000000 in
theorem refWord_any (s : ByteArray) (w : World) (hs : s.size ≤ maxLen) : Calls Try.prog 61 #[.string s] w fun e w' => e = .returned (.bool (words.contains s.data.toList)) ∧ Below w.heap.size w w' := by
  obtain ⟨R, hR⟩ : ∃ R, R = words.contains s.data.toList := ⟨_, rfl⟩
  rw [← hR]
  have HR := Lib.hid hR
  clear hR
  go_enter Try.func61, Try.ntmps61
  go_wp2_with (go_at_call 63; refine (refWords_any _).mono ?_; rintro e w1 ⟨rfl, hk1, hb1⟩)
  have HK := Lib.hid hk1
  have HB := Lib.hid hb1
  clear hk1 hb1
  go_loop [4] (fun i => ∃ k : Nat, k ≤ 30 ∧ i = .int .i64 k ∧ ∀ j, j < k → words.getD j [] ≠ s.data.toList) (fun i => 30 - (intOf i).toNat)
  case atStart => exact ⟨0, Nat.zero_le _, rfl, fun j hj => by omega⟩
  case round =>
    obtain ⟨k, hk, rfl, ha⟩ := hrel
    have HA := Lib.hid ha
    clear ha
    by_cases hlt : k < 30
    · have hlt1 : (k : Int) < 30 := by omega
      have hc := HK.out.cell k
      have hc2 : (words.map strV).toArray[k]? = some (.string ⟨(words.getD k []).toArray⟩) := by
        have : k < words.length := hlt
        rw [List.getElem?_toArray, List.getElem?_map, List.getD_eq_getElem?_getD, List.getElem?_eq_getElem this]
        rfl
      rw [hc2] at hc
      clear hc2
      obtain ⟨v, hv⟩ : ∃ v : ByteArray, v = ⟨(words.getD k []).toArray⟩ := ⟨_, rfl⟩
      rw [← hv] at hc
      have HV := Lib.hid (show words.getD k [] = v.data.toList by rw [hv])
      clear hv
      by_cases he : v = s
      · subst he
        have HT := Lib.hid (show R = true by
          rw [HR.out, ← HV.out, List.contains_iff_mem]
          have : k < words.length := hlt
          rw [List.getD_eq_getElem?_getD, List.getElem?_eq_getElem this]
          exact List.getElem_mem this)
        go_wp2
        go_ret
        exact ⟨ret_bool HT.out.symm, HB.out⟩
      · have he1 := str_ne he
        have HN := Lib.hid (show words.getD k [] ≠ s.data.toList by
          rw [HV.out]
          exact fun e => he (bytes_inj e))
        have HE := Lib.hid he
        clear he
        go_wp2
        go_round
        case rel => exact ⟨k + 1, by omega, by go_num, fun j hj => by
          by_cases e : j = k
          · subst e; exact HN.out
          · exact HA.out j (by omega)⟩
        case measure => simp [intOf]; omega
    · have hlt1 : ¬ (k : Int) < 30 := by omega
      have HF := Lib.hid (show R = false by
        rw [HR.out, ← Bool.not_eq_true, List.contains_iff_mem]
        intro hm
        obtain ⟨j, hj, e⟩ := List.mem_iff_getElem.1 hm
        have hj30 : j < 30 := hj
        exact HA.out j (by omega) (by rw [List.getD_eq_getElem?_getD, List.getElem?_eq_getElem hj]; exact e))
      go_wp2
      go_ret
      exact ⟨ret_bool HF.out.symm, HB.out⟩
theorem refFree_any (s : ByteArray) (w : World) (hs : s.size ≤ maxLen) : Calls Try.prog 58 #[.string s] w fun e w' => e = .returned (.bool (freeL s.data.toList)) ∧ Below w.heap.size w w' := by
  have HN := Lib.hid (fun W => refName_any s W hs)
  have HW := Lib.hid (fun W => refWord_any s W hs)
  have HF := Lib.hid (show freeL s.data.toList = (nameL s.data.toList && !words.contains s.data.toList) from rfl)
  generalize freeL s.data.toList = R at *
  generalize nameL s.data.toList = n at *
  generalize words.contains s.data.toList = c at *
  unfold maxLen at hs
  cases n with
  | false =>
    go_enter Try.func58, Try.ntmps58
    go_wp2_with (go_at_call 59; refine (HN.out _).mono ?_; rintro e w1 ⟨rfl, rfl⟩)
    go_ret
    exact ⟨ret_bool (by rw [HF.out]; rfl), Below.refl _ _⟩
  | true =>
    go_enter Try.func58, Try.ntmps58
    go_wp2_with (first
      | (go_at_call 59; refine (HN.out _).mono ?_; rintro e w1 ⟨rfl, rfl⟩)
      | (go_at_call 61; refine (HW.out _).mono ?_; rintro e w2 ⟨rfl, hb⟩))
    go_ret
    exact ⟨ret_bool (by rw [HF.out]; rfl), hb⟩
end Go.Proofs.Ytamienmbpdbnnaa.T

/- How a token is written: names, texts, marks that may be; the contracts of tokens.isName, tokens.says, tokens.Text. -/
import Derived.Test.YtlaikgaepaiigaaGreatDoorKRepT
namespace Go.Proofs.YtlaikgaepaiigaaGreatDoor.K
open Go Go.RowKit
set_option linter.unusedVariables false
set_option linter.unusedSimpArgs false
/-- Do the bytes from i on, f of them, have P? -/
def allF (P : Int → Bool) (s : ByteArray) : Nat → Nat → Bool
  | 0, _ => true
  | f + 1, i => P (bt s i) && allF P s f (i + 1)
def allB (P : Int → Bool) (s : ByteArray) : Bool := allF P s s.size 0
theorem allF_iff (P : Int → Bool) (s : ByteArray) : ∀ f i, allF P s f i = true ↔ ∀ k, i ≤ k → k < i + f → P (bt s k) = true
  | 0, i => by simp [allF]; intro k h1 h2; omega
  | f + 1, i => by
    rw [allF, Bool.and_eq_true, allF_iff P s f (i + 1)]
    refine ⟨fun ⟨a, b⟩ k h1 h2 => ?_, fun h => ⟨h i (Nat.le_refl _) (by omega), fun k h1 h2 => h k (by omega) (by omega)⟩⟩
    by_cases e : k = i
    · subst e; exact a
    · exact b k (by omega) (by omega)
theorem allB_iff (P : Int → Bool) (s : ByteArray) : allB P s = true ↔ ∀ k, k < s.size → P (bt s k) = true := by
  unfold allB
  rw [allF_iff]
  exact ⟨fun h k hk => h k (Nat.zero_le _) (by omega), fun h k _ hk => h k (by omega)⟩
theorem allB_bad {P : Int → Bool} {s : ByteArray} {k : Nat} (hk : k < s.size) (h : P (bt s k) = false) : allB P s = false := by
  rw [Bool.eq_false_iff]
  intro ha
  rw [(allB_iff P s).1 ha k hk] at h
  cases h
def nameB (s : ByteArray) : Bool := decide (0 < s.size) && decide (s.size ≤ 32) && smallI (bt s 0) && allB partI s
def printI (c : Int) : Bool := decide (32 ≤ c) && decide (c ≤ 126)
def saysB (s : ByteArray) : Bool := allB printI s && decide (s.size ≤ 64)
theorem empty_of {s : ByteArray} (h : s.size = 0) : s = ⟨#[]⟩ := by
  apply ByteArray.ext
  apply Array.eq_empty_of_size_eq_zero
  exact h
theorem not_empty {s : ByteArray} (h : 0 < s.size) : s.toList.isEmpty = false ∧ (s.toList == []) = false ∧ s.toList ≠ [] := by
  rw [ByteArray.toList_eq]
  have hl : s.data.toList.length = s.size := by simp
  cases hc : s.data.toList with
  | nil => rw [hc] at hl; simp at hl; omega
  | cons a l => exact ⟨rfl, rfl, by simp⟩
theorem bt_nat {s : ByteArray} {i : Nat} (h : i < s.size) : (s[i].toNat : Int) = bt s i := (bt_get h).symm
set_option maxRecDepth 100000 in
set_option maxHeartbeats 4000000 in
theorem isName_any (s : ByteArray) (w : World) (hs : s.size ≤ 16777216) : Calls Tryz.prog 15 #[.string s] w fun e w' => e = .returned (.bool (nameB s)) ∧ w = w' := by
  obtain ⟨R, hR⟩ : ∃ R, R = nameB s := ⟨_, rfl⟩
  rw [← hR]
  unfold nameB at hR
  have hsI : (s.size : Int) ≤ 16777216 := by omega
  rcases Nat.eq_zero_or_pos s.size with h0 | h0
  · have hE := empty_of h0
    have HR := Lib.hid (show R = false by rw [hR, h0]; rfl)
    subst hE
    clear hR h0 hsI
    go_enter Tryz.func15, Tryz.ntmps15
    go_wp2_with fail
    go_ret
    exact ⟨ret_bool HR.out.symm, rfl⟩
  · obtain ⟨e1, e2, e3⟩ := not_empty h0
    have h0I : (0 : Int) < s.size := by omega
    rw [decide_eq_true h0] at hR
    by_cases h32 : 32 < s.size
    · have h32I : (32 : Int) < s.size := by omega
      have HR := Lib.hid (show R = false by rw [hR, decide_eq_false (show ¬ s.size ≤ 32 by omega)]; rfl)
      clear hR
      go_enter Tryz.func15, Tryz.ntmps15
      go_wp2_with fail
      go_ret
      exact ⟨ret_bool HR.out.symm, rfl⟩
    · have h32I : ¬ (32 : Int) < s.size := by omega
      rw [decide_eq_true (show s.size ≤ 32 by omega)] at hR
      have hbr := bt_range s 0
      have HC := Lib.hid (class_any (bt s 0) w hbr.1 hbr.2)
      have hcc := class_cases (bt s 0)
      have hcs : (smallI (bt s 0) = true ∧ classI (bt s 0) = 2) ∨ (smallI (bt s 0) = false ∧ (classI (bt s 0) != 2) = true) := by
        rcases hcc with ⟨_, a, b⟩ | ⟨_, b, a, _⟩ | ⟨_, b, _, a, _⟩ | ⟨_, b, _, _, a, _⟩ | ⟨_, b, _, _, _, a, _⟩ | ⟨_, b, _, _, _, a, _⟩
        · refine .inr ⟨?_, by rw [a]; rfl⟩
          unfold partI at b
          simp only [Bool.or_eq_false_iff] at b
          exact b.1.1
        · exact .inl ⟨b, a⟩
        all_goals exact .inr ⟨b, by rw [a]; rfl⟩
      have b0 : ∀ h, ((s[0]'h).toNat : Int) = bt s 0 := fun h => bt_nat h
      rcases hcs with ⟨hsm, hcl⟩ | ⟨hsm, hcl⟩
      · rw [hcl] at HC
        rw [hsm] at hR
        have HR := Lib.hid (show R = allB partI s by rw [hR]; rfl)
        clear hcc hR hsm hcl hbr
        go_enter Tryz.func15, Tryz.ntmps15
        go_wp2_with fail
        refine HC.out.mono ?_
        rintro e wq ⟨rfl, rfl⟩
        clear b0
        go_wp2_with fail
        go_loop [19] (fun i => ∃ k : Nat, i = .int .i64 k ∧ k ≤ s.size ∧ ∀ j, j < k → partI (bt s j) = true) (fun i => s.size - (intOf i).toNat)
        case atStart => exact ⟨0, rfl, Nat.zero_le _, fun j hj => by omega⟩
        case round =>
          obtain ⟨k, rfl, hk, hall⟩ := hrel
          have HALL := Lib.hid hall
          have hk0 : (0 : Int) ≤ k := by omega
          clear hall
          by_cases hlt : k < s.size
          · have hltI : (k : Int) < s.size := by omega
            have hbr := bt_range s k
            have HP := Lib.hid (part_any (bt s k) w hbr.1 hbr.2)
            have bk : ∀ h, ((s[k]'h).toNat : Int) = bt s k := fun h => bt_nat h
            cases hp : partI (bt s k) with
            | true =>
              have HA2 := Lib.hid (show ∀ j, j < k + 1 → partI (bt s j) = true from fun j hj => by
                by_cases e : j = k
                · rw [e]; exact hp
                · exact HALL.out j (by omega))
              rw [hp] at HP
              clear hp hbr
              go_wp2_with fail
              refine HP.out.mono ?_
              rintro e wq ⟨rfl, rfl⟩
              clear bk
              go_wp2_with fail
              go_round
              case rel => exact ⟨k + 1, by go_num, by omega, HA2.out⟩
              case measure => simp [intOf]; omega
            | false =>
              have HF := Lib.hid (allB_bad hlt hp)
              rw [hp] at HP
              clear hp hbr
              go_wp2_with fail
              refine HP.out.mono ?_
              rintro e wq ⟨rfl, rfl⟩
              clear bk
              go_wp2_with fail
              go_ret
              exact ⟨by rw [HR.out, HF.out]; rfl, rfl⟩
          · have hltI : ¬ (k : Int) < s.size := by omega
            have HT := Lib.hid ((allB_iff partI s).2 fun j hj => HALL.out j (by omega))
            go_wp2_with fail
            go_ret
            exact ⟨by rw [HR.out, HT.out]; rfl, rfl⟩
      · rw [hsm] at hR
        have HR := Lib.hid (show R = false by rw [hR]; rfl)
        clear hcc hR hsm hbr
        generalize classI (bt s 0) = c at HC hcl
        go_enter Tryz.func15, Tryz.ntmps15
        go_wp2_with fail
        refine HC.out.mono ?_
        rintro e wq ⟨rfl, rfl⟩
        clear b0
        go_wp2_with fail
        go_ret
        exact ⟨ret_bool HR.out.symm, rfl⟩
set_option maxRecDepth 100000 in
set_option maxHeartbeats 4000000 in
theorem says_any (s : ByteArray) (w : World) (hs : s.size ≤ 16777216) : Calls Tryz.prog 18 #[.string s] w fun e w' => e = .returned (.bool (saysB s)) ∧ w = w' := by
  obtain ⟨R, hR⟩ : ∃ R, R = saysB s := ⟨_, rfl⟩
  rw [← hR]
  unfold saysB at hR
  have hsI : (s.size : Int) ≤ 16777216 := by omega
  have HR := Lib.hid hR
  clear hR
  go_enter Tryz.func18, Tryz.ntmps18
  go_wp2_with fail
  go_loop [6] (fun i => ∃ k : Nat, i = .int .i64 k ∧ k ≤ s.size ∧ ∀ j, j < k → printI (bt s j) = true) (fun i => s.size - (intOf i).toNat)
  case atStart => exact ⟨0, rfl, Nat.zero_le _, fun j hj => by omega⟩
  case round =>
    obtain ⟨k, rfl, hk, hall⟩ := hrel
    have HALL := Lib.hid hall
    have hk0 : (0 : Int) ≤ k := by omega
    clear hall
    by_cases hlt : k < s.size
    · have hltI : (k : Int) < s.size := by omega
      have bk : ∀ h, ((s[k]'h).toNat : Int) = bt s k := fun h => bt_nat h
      have hbr := bt_range s k
      have hcase : (bt s k < 32) ∨ (¬ bt s k < 32 ∧ 126 < bt s k) ∨ (¬ bt s k < 32 ∧ ¬ 126 < bt s k) := by omega
      rcases hcase with h1 | ⟨h1, h2⟩ | ⟨h1, h2⟩
      · have HF := Lib.hid (allB_bad (P := printI) hlt (by unfold printI; rw [decide_eq_false (show ¬ 32 ≤ bt s k by omega)]; rfl))
        go_wp2_with fail
        go_ret
        exact ⟨by rw [HR.out, HF.out]; rfl, rfl⟩
      · have HF := Lib.hid (allB_bad (P := printI) hlt (by unfold printI; rw [decide_eq_false (show ¬ bt s k ≤ 126 by omega), Bool.and_false]))
        go_wp2_with fail
        go_ret
        exact ⟨by rw [HR.out, HF.out]; rfl, rfl⟩
      · have HA2 := Lib.hid (show ∀ j, j < k + 1 → printI (bt s j) = true from fun j hj => by
          by_cases e : j = k
          · rw [e]; unfold printI; rw [decide_eq_true (show 32 ≤ bt s k by omega), decide_eq_true (show bt s k ≤ 126 by omega)]; rfl
          · exact HALL.out j (by omega))
        go_wp2_with fail
        go_round
        case rel => exact ⟨k + 1, by go_num, by omega, HA2.out⟩
        case measure => simp [intOf]; omega
    · have hltI : ¬ (k : Int) < s.size := by omega
      have HT := Lib.hid ((allB_iff printI s).2 fun j hj => HALL.out j (by omega))
      by_cases h64 : s.size ≤ 64
      · have h64I : (s.size : Int) ≤ 64 := by omega
        go_wp2_with fail
        go_ret
        exact ⟨by rw [HR.out, HT.out, decide_eq_true h64]; simp; try omega, rfl⟩
      · have h64I : ¬ (s.size : Int) ≤ 64 := by omega
        go_wp2_with fail
        go_ret
        exact ⟨by rw [HR.out, HT.out, decide_eq_false h64]; simp; try omega, rfl⟩
end Go.Proofs.YtlaikgaepaiigaaGreatDoor.K

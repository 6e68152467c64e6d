/- The contracts of tokens.Line and of the reference's Line. -/
import Derived.Test.YtlaikgaepaiigaaDoorKEq
namespace Go.Proofs.YtlaikgaepaiigaaDoor.K
open Go Go.RowKit
set_option linter.unusedVariables false
set_option linter.unusedSimpArgs false
/-- A place's line and column. -/
def lineAt (s : ByteArray) : Nat → Nat × Nat
  | 0 => (1, 1)
  | i + 1 => if bt s i = 10 then ((lineAt s i).1 + 1, 1) else ((lineAt s i).1, (lineAt s i).2 + 1)
def lineOf (s : ByteArray) (a : Int) : Int × Int := if a < 0 ∨ (s.size : Int) < a then (0, 0) else ((lineAt s a.toNat).1, (lineAt s a.toNat).2)
theorem lineAt_bd (s : ByteArray) : ∀ i, 1 ≤ (lineAt s i).1 ∧ (lineAt s i).1 ≤ i + 1 ∧ 1 ≤ (lineAt s i).2 ∧ (lineAt s i).2 ≤ i + 1
  | 0 => by simp [lineAt]
  | i + 1 => by
    have := lineAt_bd s i
    rw [lineAt]
    split
    · exact ⟨by omega, by omega, by omega, by omega⟩
    · exact ⟨by omega, by omega, by omega, by omega⟩
theorem bt_10 {s : ByteArray} {i : Nat} (h : i < s.size) : (bt s i = 10) ↔ s[i] = 10 := by
  rw [bt_get h, ← UInt8.toNat_inj]
  show ((s[i].toNat : Nat) : Int) = 10 ↔ s[i].toNat = 10
  omega
theorem ext_take (s : ByteArray) (k : Nat) : (s.extract 0 k).data.toList = s.data.toList.take k := by simp
theorem count_line (s : ByteArray) : ∀ i, i ≤ s.size → 1 + Lib.countByte (s.extract 0 i).data.toList 10 = (lineAt s i).1
  | 0, _ => by simp [lineAt, Lib.countByte]
  | i + 1, h => by
    have ih := count_line s i (by omega)
    rw [ext_take] at ih ⊢
    have e : s.data.toList.take (i + 1) = s.data.toList.take i ++ [s[i]] := by
      rw [List.take_succ_eq_append_getElem (by simp; omega)]; rfl
    unfold Lib.countByte at ih ⊢
    rw [e, List.count_append, lineAt]
    by_cases h10 : bt s i = 10
    · rw [if_pos h10, (bt_10 (by omega)).1 h10]
      simp only [List.count_cons, List.count_nil, beq_self_eq_true, if_true]
      omega
    · rw [if_neg h10]
      have : ¬ s[i] = 10 := fun e => h10 ((bt_10 (by omega)).2 e)
      simp only [List.count_cons, List.count_nil, beq_iff_eq, this, if_false]
      omega
theorem last_line (s : ByteArray) (t : ByteArray) : ∀ i, i ≤ s.size → (∀ j, j < i → t.data[j]! = s.data[j]!) → (i : Int) - Lib.lastIdx t 10 i = (lineAt s i).2
  | 0, _, _ => by simp [lineAt, Lib.lastIdx]
  | i + 1, h, ht => by
    have ih := last_line s t i (by omega) (fun j hj => ht j (by omega))
    rw [Lib.lastIdx, lineAt, ht i (by omega)]
    have e : s.data[i]! = s[i] := getElem!_pos s.data i h
    rw [e]
    have e2 : ((s[i].toNat : Nat) : Int) = bt s i := (bt_get h).symm
    rw [e2]
    by_cases h10 : bt s i = 10
    · rw [if_pos h10, if_pos h10]
      simp only
      omega
    · rw [if_neg h10, if_neg h10]
      simp only
      omega
theorem pre_run {A : Option Addr} {c a : Nat} {s : ByteArray} (hc : s.size ≤ c) (ha : a ≤ s.size) : ∀ w, Src w A s → ∃ V, (∀ m, (Instr.slice 22 (.slice A s.size c) none (some (.int .i64 (a : Int))) none).run Tryd.prog (World.drewN w m) = .ok V (w.drewN m)) ∧ (convert 22 9 V).run Tryd.prog w = .ok (.string (s.extract 0 a)) w := by
  intro w hs
  have ht' : Tryd.prog.underlying 22 = some (.slice (Tryd.prog.elem 22)) := by simp [Program.elem, Tryd.underlying22]
  have he : Tryd.prog.elem 22 = 5 := by simp [Program.elem, Tryd.underlying22]
  have h1 : ∀ w, (Instr.slice 22 (.slice A s.size c) none (some (.int .i64 (a : Int))) none).run Tryd.prog w = .ok (sliced A 0 a c 1) w := fun w => by
    rw [run_slice_h w 22 A s.size c ht' .i64 _ (by omega) (by omega), he, size_u8]
    rfl
  refine ⟨_, fun m => h1 _, ?_⟩
  rcases Nat.eq_zero_or_pos a with h0 | h0
  · subst h0
    obtain ⟨A', c', hv⟩ : ∃ A' c', sliced A 0 0 c 1 = .slice A' 0 c' := by
      cases A <;> exact ⟨_, _, rfl⟩
    rw [hv, run_convert_bytes_string w 22 9 5 A' 0 c' Tryd.underlying22 Tryd.underlying5 Tryd.underlying9]
    have : s.extract 0 0 = ⟨#[]⟩ := by apply ByteArray.ext; simp
    rw [this]
    cases A' <;> rfl
  · obtain ⟨b, o, rfl, hl, hb⟩ := hs (by omega)
    have h2 := Lib.run_convert_window w 22 5 9 Tryd.underlying22 Tryd.underlying5 Tryd.underlying9 b o s hb 0 a c (by omega)
    have hv : sliced (some ⟨b, o, none⟩) 0 a c 1 = .slice (some ⟨b, o + 0, none⟩) a c := by
      unfold sliced
      by_cases hc0 : c = 0
      · omega
      · simp [hc0, Addr.add]
    rw [hv, h2, Nat.zero_add]
set_option maxRecDepth 100000 in
set_option maxHeartbeats 2000000 in
theorem line_any (A : Option Addr) (c : Nat) (s : ByteArray) (a : Int) (w : World) (hs : Src w A s) (hc : s.size ≤ c) (hn : s.size ≤ 140737488355328) :
    Calls Tryd.prog 17 #[.slice A s.size c, .int .i64 a] w fun e w' => e = .returned (.tuple #[.int .i64 (lineOf s a).1, .int .i64 (lineOf s a).2]) ∧ w = w' := by
  obtain ⟨R, hR⟩ : ∃ R, R = lineOf s a := ⟨_, rfl⟩
  rw [← hR]
  unfold lineOf at hR
  have hnI : (s.size : Int) ≤ 140737488355328 := by omega
  by_cases h0 : a < 0
  · rw [if_pos (.inl h0)] at hR
    have HR := Lib.hid hR
    clear hR hs
    go_enter Tryd.func17, Tryd.ntmps17
    go_wp2_with fail
    go_ret2
    exact ⟨by rw [HR.out]; rfl, rfl⟩
  · by_cases h1 : (s.size : Int) < a
    · rw [if_pos (.inr h1)] at hR
      have HR := Lib.hid hR
      clear hR hs
      go_enter Tryd.func17, Tryd.ntmps17
      go_wp2_with fail
      go_ret2
      exact ⟨by rw [HR.out]; rfl, rfl⟩
    · rw [if_neg (by omega)] at hR
      obtain ⟨k, rfl⟩ : ∃ k : Nat, a = k := ⟨a.toNat, by omega⟩
      rw [Int.toNat_natCast] at hR
      have hk : k ≤ s.size := by omega
      have hkI : (k : Int) ≤ 140737488355328 := by omega
      have hk0 : (0 : Int) ≤ k := by omega
      obtain ⟨V, v1, v2⟩ := pre_run hc hk w hs
      have v1 := v1 0
      have v1 : (Instr.slice 22 (.slice A s.size c) none (some (.int .i64 (k : Int))) none).run Tryd.prog w = .ok V w := v1
      have H1 := count_line s k hk
      have hxs : (s.extract 0 k).size = k := by rw [ByteArray.size_extract]; omega
      have H2 := last_line s (s.extract 0 k) k hk (fun j hj => by
        rw [getElem!_pos s.data j (by show j < s.size; omega), getElem!_pos (s.extract 0 k).data j (by show j < (s.extract 0 k).size; omega)]
        simp)
      have HC1 := Lib.hid (Tryd.strings_Count_one (s.extract 0 k) 10 w)
      have HC2 := Lib.hid (Tryd.strings_LastIndex_one (s.extract 0 k) ⟨#[10]⟩ rfl (by omega) w)
      have HR1 := Lib.hid (show R.1 = 1 + (Lib.countByte (s.extract 0 k).data.toList 10 : Int) by rw [hR]; simp only; omega)
      have HR2 := Lib.hid (show R.2 = (k : Int) - Lib.lastIndexByte (s.extract 0 k) 10 by rw [hR]; unfold Lib.lastIndexByte; rw [hxs]; exact H2.symm)
      have hcb : (Lib.countByte (s.extract 0 k).data.toList 10 : Int) ≤ 140737488355328 := by
        have := (lineAt_bd s k).2.1
        omega
      have hlb : -1 ≤ Lib.lastIndexByte (s.extract 0 k) 10 ∧ Lib.lastIndexByte (s.extract 0 k) 10 ≤ k := by
        have h2 := lineAt_bd s k
        unfold Lib.lastIndexByte
        rw [hxs]
        rcases Lib.lastIdx_spec (s.extract 0 k) 10 k with ⟨h, _⟩ | ⟨i, hi, h, _⟩
        · omega
        · omega
      obtain ⟨l1, l2⟩ := hlb
      have hcb0 : (0 : Int) ≤ (Lib.countByte (s.extract 0 k).data.toList 10 : Int) := by omega
      change Hid (Calls _ _ _ _ fun e w' => e = .returned (.int .i64 (Lib.lastIndexByte (s.extract 0 k) 10)) ∧ w' = w) at HC2
      have HVC := Lib.hid v2
      obtain ⟨T, hT⟩ : ∃ T, T = s.extract 0 k := ⟨_, rfl⟩
      simp only [← hT] at HC1 HC2 HR1 HR2 hcb l1 l2 hcb0 v2
      generalize (Lib.countByte T.data.toList 10) = N at *
      generalize Lib.lastIndexByte T 10 = M at *
      clear hR hs H1 H2 hxs hT HVC
      go_enter Tryd.func17, Tryd.ntmps17
      go_wp2_with fail
      refine HC1.out.mono ?_
      rintro e w1 ⟨rfl, hw1⟩
      obtain rfl : w = w1 := hw1.symm
      go_wp2_with fail
      refine HC2.out.mono ?_
      rintro e w1 ⟨rfl, hw1⟩
      obtain rfl : w = w1 := hw1.symm
      go_wp2_with fail
      go_ret2
      exact ⟨by rw [HR1.out, HR2.out]; rfl, rfl⟩
set_option maxRecDepth 100000 in
set_option maxHeartbeats 2000000 in
theorem refLine_any (A : Option Addr) (c : Nat) (s : ByteArray) (a : Int) (w : World) (hs : Src w A s) (hn : s.size ≤ 140737488355328) :
    Calls Tryd.prog 18 #[.slice A s.size c, .int .i64 a] w fun e w' => e = .returned (.tuple #[.int .i64 (lineOf s a).1, .int .i64 (lineOf s a).2]) ∧ w = w' := by
  obtain ⟨R, hR⟩ : ∃ R, R = lineOf s a := ⟨_, rfl⟩
  rw [← hR]
  unfold lineOf at hR
  have hnI : (s.size : Int) ≤ 140737488355328 := by omega
  by_cases h0 : a < 0
  · rw [if_pos (.inl h0)] at hR
    have HR := Lib.hid hR
    clear hR hs
    go_enter Tryd.func18, Tryd.ntmps18
    go_wp2_with fail
    go_ret2
    exact ⟨by rw [HR.out]; rfl, rfl⟩
  · by_cases h1 : (s.size : Int) < a
    · rw [if_pos (.inr h1)] at hR
      have HR := Lib.hid hR
      clear hR hs
      go_enter Tryd.func18, Tryd.ntmps18
      go_wp2_with fail
      go_ret2
      exact ⟨by rw [HR.out]; rfl, rfl⟩
    · rw [if_neg (by omega)] at hR
      obtain ⟨k, rfl⟩ : ∃ k : Nat, a = k := ⟨a.toNat, by omega⟩
      rw [Int.toNat_natCast] at hR
      have hk : k ≤ s.size := by omega
      have hkI : (k : Int) ≤ 140737488355328 := by omega
      have hk0 : (0 : Int) ≤ k := by omega
      have HS := Lib.hid hs
      have HR := Lib.hid hR
      clear hs hR
      go_enter Tryd.func18, Tryd.ntmps18
      go_wp2_with fail
      go_loop [6, 7, 8] (fun l c i => ∃ j : Nat, i = .int .i64 j ∧ j ≤ k ∧ l = .int .i64 ((lineAt s j).1 : Nat) ∧ c = .int .i64 ((lineAt s j).2 : Nat)) (fun _ _ i => k - (intOf i).toNat)
      case atStart => exact ⟨0, rfl, Nat.zero_le _, rfl, rfl⟩
      case round =>
        obtain ⟨j, rfl, hjk, rfl, rfl⟩ := hrel
        obtain ⟨b1, b2, b3, b4⟩ := lineAt_bd s j
        have hj0 : (0 : Int) ≤ j := by omega
        by_cases hlt : j < k
        · have hltI : (j : Int) < k := by omega
          have hst : lineAt s (j + 1) = if bt s j = 10 then ((lineAt s j).1 + 1, 1) else ((lineAt s j).1, (lineAt s j).2 + 1) := rfl
          obtain ⟨b, o, rfl, _, _, hce⟩ := HS.out.at (i := j) (by omega)
          have bI1 : ((lineAt s j).1 : Int) ≤ 140737488355329 := by omega
          have bI2 : ((lineAt s j).2 : Int) ≤ 140737488355329 := by omega
          have bI3 : (0 : Int) ≤ ((lineAt s j).1 : Int) := by omega
          have bI4 : (0 : Int) ≤ ((lineAt s j).2 : Int) := by omega
          by_cases h10 : bt s j = 10
          · rw [if_pos h10] at hst
            rw [h10] at hce
            have HST := Lib.hid hst
            clear hst h10
            generalize lineAt s j = L at *
            go_wp2_with fail
            go_round
            case rel => exact ⟨j + 1, by go_num, by omega, by rw [HST.out]; go_num, by rw [HST.out]; rfl⟩
            case measure => simp [intOf]; omega
          · rw [if_neg h10] at hst
            have n10 := ne_b h10
            have HST := Lib.hid hst
            clear hst h10
            generalize lineAt s j = L at *
            generalize bt s j = y at *
            go_wp2_with fail
            go_round
            case rel => exact ⟨j + 1, by go_num, by omega, by rw [HST.out], by rw [HST.out]; go_num⟩
            case measure => simp [intOf]; omega
        · have hltI : ¬ (j : Int) < k := by omega
          obtain rfl : j = k := by omega
          go_wp2_with fail
          go_ret2
          exact ⟨by rw [HR.out]; rfl, rfl⟩
end Go.Proofs.YtlaikgaepaiigaaDoor.K

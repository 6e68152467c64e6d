/- How the reference writes a token. -/
import Derived.Test.YtlaikgaepaiigaaGreatDoorKTokT
import Derived.Test.YtlaikgaepaiigaaGreatDoorKRefA
namespace Go.Proofs.YtlaikgaepaiigaaGreatDoor.K
open Go Go.RowKit
set_option linter.unusedVariables false
set_option linter.unusedSimpArgs false
set_option maxRecDepth 100000 in
set_option maxHeartbeats 4000000 in
theorem refName_any (s : ByteArray) (w : World) (hs : s.size ≤ 16777216) : Calls Tryz.prog 35 #[.string s] w fun e w' => e = .returned (.bool (nameB s)) ∧ w = w' := by
  obtain ⟨R, hR⟩ : ∃ R, R = nameB s := ⟨_, rfl⟩
  rw [← hR]
  unfold nameB at hR
  have hsI : (s.size : Int) ≤ 16777216 := by omega
  rcases Nat.eq_zero_or_pos s.size with h0 | h0
  · have hE := empty_of h0
    have HR := Lib.hid (show R = false by rw [hR, h0]; rfl)
    subst hE
    clear hR h0 hsI
    go_enter Tryz.func35, Tryz.ntmps35
    go_wp2_with fail
    go_ret
    exact ⟨ret_bool HR.out.symm, rfl⟩
  · obtain ⟨e1, e2, e3⟩ := not_empty h0
    have h0I : (0 : Int) < s.size := by omega
    rw [decide_eq_true h0] at hR
    by_cases h32 : 32 < s.size
    · have h32I : (32 : Int) < s.size := by omega
      have HR := Lib.hid (show R = false by rw [hR, decide_eq_false (show ¬ s.size ≤ 32 by omega)]; rfl)
      clear hR
      go_enter Tryz.func35, Tryz.ntmps35
      go_wp2_with fail
      go_ret
      exact ⟨ret_bool HR.out.symm, rfl⟩
    · have h32I : ¬ (32 : Int) < s.size := by omega
      rw [decide_eq_true (show s.size ≤ 32 by omega)] at hR
      have hbr := bt_range s 0
      have HC := Lib.hid (refSmall_any (bt s 0) w)
      have b0 : ∀ h, ((s[0]'h).toNat : Int) = bt s 0 := fun h => bt_nat h
      rcases Bool.eq_false_or_eq_true (smallI (bt s 0)) with hsm | hsm
      · rw [hsm] at HC
        rw [hsm] at hR
        have HR := Lib.hid (show R = allB partI s by rw [hR]; rfl)
        clear hR hsm hbr
        go_enter Tryz.func35, Tryz.ntmps35
        go_wp2_with fail
        refine HC.out.mono ?_
        rintro e wq ⟨rfl, rfl⟩
        clear b0
        go_wp2_with fail
        go_loop [3] (fun i => ∃ k : Nat, i = .int .i64 k ∧ k ≤ s.size ∧ ∀ j, j < k → partI (bt s j) = true) (fun i => s.size - (intOf i).toNat)
        case atStart => exact ⟨0, rfl, Nat.zero_le _, fun j hj => by omega⟩
        case round =>
          obtain ⟨k, rfl, hk, hall⟩ := hrel
          have HALL := Lib.hid hall
          have hk0 : (0 : Int) ≤ k := by omega
          clear hall
          by_cases hlt : k < s.size
          · have hltI : (k : Int) < s.size := by omega
            have hbr := bt_range s k
            have HP := Lib.hid (refPart_any (bt s k) w)
            have bk : ∀ h, ((s[k]'h).toNat : Int) = bt s k := fun h => bt_nat h
            cases hp : partI (bt s k) with
            | true =>
              have HA2 := Lib.hid (show ∀ j, j < k + 1 → partI (bt s j) = true from fun j hj => by
                by_cases e : j = k
                · rw [e]; exact hp
                · exact HALL.out j (by omega))
              rw [hp] at HP
              clear hp hbr
              go_wp2_with fail
              refine HP.out.mono ?_
              rintro e wq ⟨rfl, rfl⟩
              clear bk
              go_wp2_with fail
              go_round
              case rel => exact ⟨k + 1, by go_num, by omega, HA2.out⟩
              case measure => simp [intOf]; omega
            | false =>
              have HF := Lib.hid (allB_bad hlt hp)
              rw [hp] at HP
              clear hp hbr
              go_wp2_with fail
              refine HP.out.mono ?_
              rintro e wq ⟨rfl, rfl⟩
              clear bk
              go_wp2_with fail
              go_ret
              exact ⟨by rw [HR.out, HF.out]; rfl, rfl⟩
          · have hltI : ¬ (k : Int) < s.size := by omega
            have HT := Lib.hid ((allB_iff partI s).2 fun j hj => HALL.out j (by omega))
            go_wp2_with fail
            go_ret
            exact ⟨by rw [HR.out, HT.out]; rfl, rfl⟩
      · rw [hsm] at hR
        have HR := Lib.hid (show R = false by rw [hR]; rfl)
        rw [hsm] at HC
        clear hR hsm hbr
        go_enter Tryz.func35, Tryz.ntmps35
        go_wp2_with fail
        refine HC.out.mono ?_
        rintro e wq ⟨rfl, rfl⟩
        clear b0
        go_wp2_with fail
        go_ret
        exact ⟨ret_bool HR.out.symm, rfl⟩
set_option maxRecDepth 100000 in
set_option maxHeartbeats 4000000 in
theorem refSays_any (s : ByteArray) (w : World) (hs : s.size ≤ 16777216) : Calls Tryz.prog 36 #[.string s] w fun e w' => e = .returned (.bool (saysB s)) ∧ w = w' := by
  obtain ⟨R, hR⟩ : ∃ R, R = saysB s := ⟨_, rfl⟩
  rw [← hR]
  unfold saysB at hR
  have hsI : (s.size : Int) ≤ 16777216 := by omega
  have HR := Lib.hid hR
  clear hR
  go_enter Tryz.func36, Tryz.ntmps36
  go_wp2_with fail
  go_loop [3] (fun i => ∃ k : Nat, i = .int .i64 k ∧ k ≤ s.size ∧ ∀ j, j < k → printI (bt s j) = true) (fun i => s.size - (intOf i).toNat)
  case atStart => exact ⟨0, rfl, Nat.zero_le _, fun j hj => by omega⟩
  case round =>
    obtain ⟨k, rfl, hk, hall⟩ := hrel
    have HALL := Lib.hid hall
    have hk0 : (0 : Int) ≤ k := by omega
    clear hall
    by_cases hlt : k < s.size
    · have hltI : (k : Int) < s.size := by omega
      have bk : ∀ h, ((s[k]'h).toNat : Int) = bt s k := fun h => bt_nat h
      have hbr := bt_range s k
      have hcase : (bt s k < 32) ∨ (¬ bt s k < 32 ∧ 126 < bt s k) ∨ (¬ bt s k < 32 ∧ ¬ 126 < bt s k) := by omega
      rcases hcase with h1 | ⟨h1, h2⟩ | ⟨h1, h2⟩
      · have HF := Lib.hid (allB_bad (P := printI) hlt (by unfold printI; rw [decide_eq_false (show ¬ 32 ≤ bt s k by omega)]; rfl))
        go_wp2_with fail
        go_ret
        exact ⟨by rw [HR.out, HF.out]; rfl, rfl⟩
      · have HF := Lib.hid (allB_bad (P := printI) hlt (by unfold printI; rw [decide_eq_false (show ¬ bt s k ≤ 126 by omega), Bool.and_false]))
        go_wp2_with fail
        go_ret
        exact ⟨by rw [HR.out, HF.out]; rfl, rfl⟩
      · have HA2 := Lib.hid (show ∀ j, j < k + 1 → printI (bt s j) = true from fun j hj => by
          by_cases e : j = k
          · rw [e]; unfold printI; rw [decide_eq_true (show 32 ≤ bt s k by omega), decide_eq_true (show bt s k ≤ 126 by omega)]; rfl
          · exact HALL.out j (by omega))
        go_wp2_with fail
        go_round
        case rel => exact ⟨k + 1, by go_num, by omega, HA2.out⟩
        case measure => simp [intOf]; omega
    · have hltI : ¬ (k : Int) < s.size := by omega
      have HT := Lib.hid ((allB_iff printI s).2 fun j hj => HALL.out j (by omega))
      by_cases h64 : s.size ≤ 64
      · have h64I : (s.size : Int) ≤ 64 := by omega
        go_wp2_with fail
        go_ret
        exact ⟨by rw [HR.out, HT.out, decide_eq_true h64]; simp; try omega, rfl⟩
      · have h64I : ¬ (s.size : Int) ≤ 64 := by omega
        go_wp2_with fail
        go_ret
        exact ⟨by rw [HR.out, HT.out, decide_eq_false h64]; simp; try omega, rfl⟩
theorem marksL_len : marksL.length = 22 := by decide +kernel
def markVal : Array Value := (marksL.map fun l => Value.string ⟨l.toArray⟩).toArray
def MarkLPost (w : World) (e : Ending) (w' : World) : Prop := e = .returned (.slice (some ⟨w.heap.size, 0, none⟩) 22 22) ∧ w' = w.alloc (.cells markVal 9)
set_option maxRecDepth 100000 in
set_option maxHeartbeats 2000000 in
theorem marksL_any (w : World) : Calls Tryz.prog 49 #[] w (MarkLPost w) := by
  go_enter Tryz.func49, Tryz.ntmps49
  go_wp2_with fail
  go_ret
  exact ⟨rfl, rfl⟩
set_option maxRecDepth 100000 in
set_option maxHeartbeats 2000000 in
theorem refIsMark_any (s : ByteArray) (w : World) : Calls Tryz.prog 37 #[.string s] w fun e w' => e = .returned (.bool (isMarkB s.data.toList)) ∧ Below w.heap.size w w' := by
  obtain ⟨R, hR⟩ : ∃ R, R = isMarkB s.data.toList := ⟨_, rfl⟩
  have HR := Lib.hid hR
  rw [← hR]
  clear hR
  go_enter Tryz.func37, Tryz.ntmps37
  go_wp2_with fail
  refine (marksL_any _).mono ?_
  rintro e w1 ⟨rfl, hw1⟩
  obtain ⟨M, hM⟩ : ∃ M, M = w.heap.size := ⟨_, rfl⟩
  have HBM := Lib.hid (show G.Blk w1 M 9 markVal by rw [hw1, hM]; exact G.Blk.new w _ _)
  have HB1 := Lib.hid (show Below w.heap.size w w1 by rw [hw1]; exact G.bl_alloc (Below.refl _ _) _)
  rw [← hM]
  clear hw1 hM
  go_wp2_with fail
  go_loop [4] (fun u => ∃ i : Nat, u = .int .i64 i ∧ i ≤ 22 ∧ ∀ j, j < i → ∀ m, marksL[j]? = some m → m ≠ s.data.toList) (fun u => 22 - (intOf u).toNat)
  case atStart => exact ⟨0, rfl, by omega, fun j hj => by omega⟩
  case round =>
    obtain ⟨i, rfl, hi, hall⟩ := hrel
    have HALL := Lib.hid hall
    have hi0 : (0 : Int) ≤ i := by omega
    clear hall
    by_cases hlt : i < 22
    · have hltI : (i : Int) < 22 := by omega
      have hil : i < marksL.length := by rw [marksL_len]; exact hlt
      obtain ⟨m, hm⟩ : ∃ m, m = marksL[i] := ⟨_, rfl⟩
      have hcell : w1.cell? ⟨M, i, none⟩ = some (.string ⟨m.toArray⟩) := by
        rw [HBM.out.cell i, hm]
        simp [markVal, List.getElem?_eq_getElem hil]
      have HM := Lib.hid (show marksL[i]? = some m by rw [List.getElem?_eq_getElem hil, hm])
      clear hm hil
      by_cases he : m = s.data.toList
      · have HT := Lib.hid (show R = true by
          rw [HR.out]
          unfold isMarkB
          rw [List.contains_iff_mem, ← he]
          exact List.mem_of_getElem? HM.out)
        have hs : (⟨m.toArray⟩ : ByteArray) = s := by
          apply ByteArray.ext
          rw [he]
        rw [hs] at hcell
        clear he hs
        go_wp2_with fail
        go_ret
        exact ⟨ret_bool HT.out.symm, HB1.out⟩
      · have hne : ((⟨m.toArray⟩ : ByteArray).toList == s.toList) = false := by
          rw [ByteArray.toList_eq, ByteArray.toList_eq]
          simpa using he
        have HA2 := Lib.hid (show ∀ j, j < i + 1 → ∀ m, marksL[j]? = some m → m ≠ s.data.toList from fun j hj m' hm' => by
          by_cases e : j = i
          · subst e
            rw [HM.out] at hm'
            cases hm'
            exact he
          · exact HALL.out j (by omega) m' hm')
        obtain ⟨m', hmm⟩ : ∃ m', m' = (⟨m.toArray⟩ : ByteArray) := ⟨_, rfl⟩
        rw [← hmm] at hcell hne
        clear he hmm
        go_wp2_with fail
        go_round
        case rel => exact ⟨i + 1, by go_num, by omega, HA2.out⟩
        case measure => simp [intOf]; omega
    · have hltI : ¬ (i : Int) < 22 := by omega
      have HF := Lib.hid (show R = false by
        rw [HR.out, Bool.eq_false_iff]
        intro h
        unfold isMarkB at h
        rw [List.contains_iff_mem] at h
        obtain ⟨j, hj, e⟩ := List.mem_iff_getElem.1 h
        exact HALL.out j (by rw [marksL_len] at hj; omega) _ (List.getElem?_eq_getElem hj) e)
      go_wp2_with fail
      go_ret
      exact ⟨ret_bool HF.out.symm, HB1.out⟩
def outB (s : ByteArray) (i : Nat) : ByteArray := ⟨(34 :: quoteL (s.data.toList.take i)).toArray⟩
theorem outB_size (s : ByteArray) (i : Nat) (h : s.size ≤ 65536) : (outB s i).size ≤ 131073 := by
  unfold outB
  show (List.toArray _).size ≤ _
  rw [List.size_toArray, List.length_cons, quoteL_length]
  have h1 := cntE_le (s.data.toList.take i)
  have h2 : (s.data.toList.take i).length ≤ s.size := by rw [List.length_take]; simp; omega
  omega
theorem app_b (a b : List UInt8) : (⟨a.toArray⟩ : ByteArray) ++ ⟨b.toArray⟩ = ⟨(a ++ b).toArray⟩ := ByteArray.mk_append_mk _ _
theorem ext_one (s : ByteArray) (i : Nat) (h : i < s.size) : s.extract i (i + 1) = ⟨#[s[i]]⟩ := by
  have a := extract_snoc (s := s) (p := i) (k := 0) h
  apply ByteArray.ext
  apply Array.toList_inj.1
  have e : (s.extract i (i + 0)).data.toList = [] := by simp
  rw [e] at a
  simpa using a
theorem out_plain {s : ByteArray} {i : Nat} (h : i < s.size) (hn : escB s[i] = false) : outB s i ++ s.extract i (i + 1) = outB s (i + 1) := by
  rw [ext_one s i h]
  unfold outB
  rw [take_snoc_b s h, quoteL_snoc]
  unfold esc1
  rw [hn]
  exact app_b _ [s[i]]
theorem out_esc {s : ByteArray} {i : Nat} (h : i < s.size) (hn : escB s[i] = true) : outB s i ++ ⟨#[92]⟩ ++ s.extract i (i + 1) = outB s (i + 1) := by
  rw [ext_one s i h]
  unfold outB
  rw [take_snoc_b s h, quoteL_snoc]
  unfold esc1
  rw [hn]
  have a1 := app_b (34 :: quoteL (s.data.toList.take i)) [92]
  have a2 := app_b ((34 :: quoteL (s.data.toList.take i)) ++ [92]) [s[i]]
  exact (congrArg (fun x : ByteArray => x ++ (⟨[s[i]].toArray⟩ : ByteArray)) a1).trans (a2.trans (by simp))
theorem out_end (s : ByteArray) : outB s s.size ++ ⟨#[34]⟩ = quotedB s := by
  unfold outB quotedB quoteB
  rw [List.take_of_length_le (by simp)]
  have a1 := app_b (34 :: quoteL s.data.toList) [34]
  have a2 := app_b [34] (quoteL s.data.toList)
  have a3 := app_b ([34] ++ quoteL s.data.toList) [34]
  exact a1.trans (((congrArg (fun x : ByteArray => x ++ (⟨[34].toArray⟩ : ByteArray)) a2).trans a3).trans (by simp)).symm
set_option maxRecDepth 100000 in
set_option maxHeartbeats 4000000 in
theorem quoted_any (s : ByteArray) (w : World) (hs : s.size ≤ 65536) : Calls Tryz.prog 22 #[.string s] w fun e w' => e = .returned (.string (quotedB s)) ∧ w = w' := by
  have HS := Lib.hid hs
  have hsI : (s.size : Int) ≤ 65536 := by omega
  clear hs
  go_enter Tryz.func22, Tryz.ntmps22
  go_wp2_with fail
  go_loop [3, 4] (fun o u => ∃ i : Nat, u = .int .i64 i ∧ i ≤ s.size ∧ o = .string (outB s i)) (fun _ u => s.size - (intOf u).toNat)
  case atStart => exact ⟨0, rfl, Nat.zero_le _, rfl⟩
  case round =>
    obtain ⟨i, rfl, hi, rfl⟩ := hrel
    have hi0 : (0 : Int) ≤ i := by omega
    have hos := outB_size s i HS.out
    by_cases hlt : i < s.size
    · have hltI : (i : Int) < s.size := by omega
      have he := escB_iff s[i]
      have hop := out_plain (i := i) hlt
      have hoe := out_esc (i := i) hlt
      have hes : (s.extract i (i + 1)).size = 1 := by rw [ByteArray.size_extract]; omega
      have hsl : ∀ W : World, (Instr.slice 9 (.string s) (some (.int .i64 (i : Int))) (some (.int .i64 ((i : Int) + 1))) none).run Tryz.prog W = .ok (.string (s.extract i (i + 1))) W := fun W => by
        rw [run_slice_string (P := Tryz.prog) W 9 s .i64 .i64 _ _ Tryz.underlying9 (by omega) (by omega) (by omega)]
        rfl
      obtain ⟨O, hO⟩ : ∃ O, O = outB s i := ⟨_, rfl⟩
      obtain ⟨X, hX⟩ : ∃ X, X = s.extract i (i + 1) := ⟨_, rfl⟩
      rw [← hO] at hos hop hoe ⊢
      rw [← hX] at hop hoe hes hsl
      have hadd1 : ∀ W : World, (Op.stringOp .add O ⟨#[92]⟩).run Tryz.prog W = .ok (.string (O ++ ⟨#[92]⟩)) W := fun W => run_string_add W _ _ (by omega) (by decide)
      have hadd2 : ∀ W : World, (Op.stringOp .add (O ++ ⟨#[92]⟩) X).run Tryz.prog W = .ok (.string (O ++ ⟨#[92]⟩ ++ X)) W := fun W => run_string_add W _ _ (by rw [ByteArray.size_append]; show ((O.size + 1 : Nat) : Int) ≤ _; omega) (by omega)
      have hadd3 : ∀ W : World, (Op.stringOp .add O X).run Tryz.prog W = .ok (.string (O ++ X)) W := fun W => run_string_add W _ _ (by omega) (by omega)
      have bi : ∀ h, ((s[i]'h).toNat : Int) = bt s i := fun h => bt_nat h
      rw [bi hlt] at he
      have hcase : bt s i = 34 ∨ ((bt s i == 34) = false ∧ bt s i = 92) ∨ ((bt s i == 34) = false ∧ (bt s i == 92) = false) := by
        by_cases e1 : bt s i = 34
        · exact .inl e1
        · by_cases e2 : bt s i = 92
          · exact .inr (.inl ⟨ne_b e1, e2⟩)
          · exact .inr (.inr ⟨ne_b e1, ne_b e2⟩)
      rcases hcase with h1 | ⟨h1, h2⟩ | ⟨h1, h2⟩
      · have HE := Lib.hid (hoe (he.2 (.inl h1)))
        rw [h1] at bi
        clear he hop hoe hO hX hes h1
        go_wp2_with fail
        go_round
        case rel => exact ⟨i + 1, by go_num, by omega, by rw [← HE.out]⟩
        case measure => simp [intOf]; omega
      · have HE := Lib.hid (hoe (he.2 (.inr h2)))
        rw [h2] at bi h1
        clear he hop hoe hO hX hes h2 h1
        go_wp2_with fail
        go_round
        case rel => exact ⟨i + 1, by go_num, by omega, by rw [← HE.out]⟩
        case measure => simp [intOf]; omega
      · have hef : escB s[i] = false := by
          cases hz : escB s[i] with
          | false => rfl
          | true =>
            rcases he.1 hz with e | e
            · rw [e] at h1; cases h1
            · rw [e] at h2; cases h2
        have HE := Lib.hid (hop hef)
        generalize bt s i = y at bi h1 h2
        clear he hop hoe hO hX hes hef
        go_wp2_with fail
        go_round
        case rel => exact ⟨i + 1, by go_num, by omega, by rw [← HE.out]⟩
        case measure => simp [intOf]; omega
    · have hltI : ¬ (i : Int) < s.size := by omega
      obtain rfl : i = s.size := by omega
      have HE := Lib.hid (out_end s)
      have hadd : ∀ W : World, (Op.stringOp .add (outB s s.size) ⟨#[34]⟩).run Tryz.prog W = .ok (.string (outB s s.size ++ ⟨#[34]⟩)) W := fun W => run_string_add W _ _ (by omega) (by decide)
      go_wp2_with fail
      go_ret
      exact ⟨by rw [← HE.out]; rfl, rfl⟩
end Go.Proofs.YtlaikgaepaiigaaGreatDoor.K

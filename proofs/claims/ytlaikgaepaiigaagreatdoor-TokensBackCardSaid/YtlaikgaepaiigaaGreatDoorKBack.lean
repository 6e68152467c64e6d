/- A token that is written, behind a gap and before a blank or the end, is cut as itself. Plain Lean. -/
import Derived.Test.YtlaikgaepaiigaaGreatDoorKStand
namespace Go.Proofs.YtlaikgaepaiigaaGreatDoor.K
open Go Go.RowKit
set_option linter.unusedVariables false
set_option linter.unusedSimpArgs false
theorem while_to {P : Int → Bool} {s : ByteArray} {q : Nat} (hs : ¬ (q < s.size ∧ P (bt s q) = true)) : ∀ (n p : Nat), q - p = n → p ≤ q → (∀ i, p ≤ i → i < q → i < s.size ∧ P (bt s i) = true) → whileOf P s p = q
  | 0, p, hn, hp, _ => by
    obtain rfl : p = q := by omega
    exact while_stop hs
  | n + 1, p, hn, hp, h => by
    obtain ⟨h1, h2⟩ := h p (Nat.le_refl _) (by omega)
    rw [while_step h1 h2]
    exact while_to hs n (p + 1) (by omega) (by omega) (fun i a b => h i (by omega) b)
def mk (l : List UInt8) : ByteArray := ⟨l.toArray⟩
theorem mk_size (l : List UInt8) : (mk l).size = l.length := rfl
theorem mk_list (l : List UInt8) : (mk l).data.toList = l := by simp [mk]
theorem bt_mk (l : List UInt8) (i : Nat) : bt (mk l) i = ((l.getD i 0).toNat : Int) := by
  by_cases h : i < (mk l).size
  · have h2 : i < l.length := h
    have e : (mk l)[i] = l.getD i 0 := by
      rw [List.getD_eq_getElem?_getD, List.getElem?_eq_getElem h2]
      rfl
    rw [bt_get h]
    exact congrArg (fun c : UInt8 => (c.toNat : Int)) e
  · have h2 : l.length ≤ i := by rw [mk_size] at h; omega
    unfold bt
    rw [dif_neg h, List.getD_eq_getElem?_getD, List.getElem?_eq_none h2]
    rfl
theorem getD_mid {P U R : List UInt8} {i : Nat} (h : i < U.length) : (P ++ (U ++ R)).getD (P.length + i) 0 = U.getD i 0 := by
  simp only [List.getD_eq_getElem?_getD]
  rw [List.getElem?_append_right (by omega), show P.length + i - P.length = i by omega, List.getElem?_append_left h]
theorem getD_end (P U R : List UInt8) : (P ++ (U ++ R)).getD (P.length + U.length) 0 = R.getD 0 0 := by
  simp only [List.getD_eq_getElem?_getD]
  rw [List.getElem?_append_right (by omega), show P.length + U.length - P.length = U.length by omega, List.getElem?_append_right (by omega), Nat.sub_self]
theorem ext_mid (P U R : List UInt8) : (mk (P ++ (U ++ R))).extract P.length (P.length + U.length) = mk U := by
  apply ba_ext
  rw [Lib.extract_data, mk_list, mk_list, List.drop_left, show P.length + U.length - P.length = U.length by omega, List.take_left]
/-- Behind it stands a blank, or nothing. -/
def Cl (R : List UInt8) : Prop := R = [] ∨ blankI (R.getD 0 0).toNat = true
theorem cl_stop {Pd : Int → Bool} (hPd : ∀ c, blankI c = true → Pd c = false) {P U R : List UInt8} (h : Cl R) : ¬ (P.length + U.length < (mk (P ++ (U ++ R))).size ∧ Pd (bt (mk (P ++ (U ++ R))) (P.length + U.length)) = true) := by
  rintro ⟨h1, h2⟩
  rw [bt_mk, getD_end] at h2
  rcases h with rfl | h
  · rw [mk_size] at h1; simp at h1
  · rw [hPd _ h] at h2; cases h2
theorem blank_part (c : Int) (h : blankI c = true) : partI c = false := by
  rcases class_cases c with ⟨_, _, e⟩ | ⟨e, _⟩ | ⟨e, _⟩ | ⟨e, _⟩ | ⟨e, _⟩ | ⟨e, _⟩
  · exact e
  all_goals (rw [h] at e; cases e)
theorem blank_digit (c : Int) (h : blankI c = true) : digitI c = false := by
  have := blank_part c h
  unfold partI at this
  simp only [Bool.or_eq_false_iff] at this
  exact this.2
theorem small_class {c : Int} (h : smallI c = true) : classI c = 2 ∧ blankI c = false ∧ c ≠ 47 := by
  rcases class_cases c with ⟨_, _, e⟩ | ⟨e, _, e2, _⟩ | ⟨_, e, _⟩ | ⟨_, e, _⟩ | ⟨_, e, _⟩ | ⟨_, e, _⟩
  · unfold partI at e; rw [h] at e; cases e
  · exact ⟨e2, e, by rintro rfl; revert h; decide⟩
  all_goals (rw [h] at e; cases e)
theorem digit_class {c : Int} (h : digitI c = true) : classI c = 4 ∧ blankI c = false ∧ c ≠ 47 := by
  have h1 : 48 ≤ c ∧ c ≤ 57 := by simpa [digitI] using h
  rcases class_cases c with ⟨_, _, e⟩ | ⟨_, e, _⟩ | ⟨_, _, e, _⟩ | ⟨e, _, _, _, e2, _⟩ | ⟨_, _, _, e, _⟩ | ⟨_, _, _, e, _⟩
  · unfold partI at e; rw [h] at e; simp at e
  · simp [smallI] at e; omega
  · simp [greatI] at e; omega
  · exact ⟨e2, e, by omega⟩
  all_goals (rw [h] at e; cases e)
/-- What is cut at a place. -/
def CutsAt (s : ByteArray) (p : Nat) (t : Tk) (q : Nat) : Prop := p < s.size ∧ blankI (bt s p) = false ∧ remB s p = false ∧ tokAt s p = .ok t q
theorem at_name {P U R : List UInt8} (hU : nameB (mk U) = true) (hR : Cl R) : CutsAt (mk (P ++ (U ++ R))) P.length ⟨1, mk U, 0, P.length⟩ (P.length + U.length) := by
  unfold nameB at hU
  simp only [Bool.and_eq_true, decide_eq_true_eq] at hU
  obtain ⟨⟨⟨h1, h2⟩, h3⟩, h4⟩ := hU
  rw [allB_iff] at h4
  rw [mk_size] at h1 h2 h4
  have hb : ∀ i, i < U.length → bt (mk (P ++ (U ++ R))) (P.length + i) = bt (mk U) i := fun i hi => by rw [bt_mk, bt_mk, getD_mid hi]
  have hb0 := hb 0 h1
  rw [Nat.add_zero] at hb0
  obtain ⟨c1, c2, c3⟩ := small_class h3
  have hsz : (mk (P ++ (U ++ R))).size = P.length + (U.length + R.length) := by rw [mk_size]; simp
  refine ⟨by omega, by rw [hb0]; exact c2, not_rem (by rw [hb0]; exact c3), ?_⟩
  unfold tokAt
  rw [hb0, if_pos c1]
  unfold nameAt
  have hw : whileOf partI (mk (P ++ (U ++ R))) P.length = P.length + U.length := while_to (cl_stop blank_part hR) _ _ rfl (by omega) (fun i a b => by
    have := h4 (i - P.length) (by omega)
    rw [← hb _ (by omega), show P.length + (i - P.length) = i by omega] at this
    exact ⟨by omega, this⟩)
  simp only
  rw [hw, if_neg (by omega), ext_mid]
/-! ### Numbers -/
theorem dec_facts (u : Nat) : (∀ c ∈ Lib.decDigits u, 48 ≤ c.toNat ∧ c.toNat ≤ 57) ∧ valL 0 (Lib.decDigits u) = u ∧ Lib.decDigits u ≠ [] ∧ (10 ≤ u → (Lib.decDigits u).getD 0 0 ≠ 48) ∧ (1 ≤ u → (Lib.decDigits u).getD 0 0 ≠ 48) := by
  induction u using Nat.strongRecOn with
  | _ u ih =>
    rw [Lib.decDigits]
    by_cases h : u < 10
    · rw [dif_pos h]
      have e : (UInt8.ofNat (48 + u)).toNat = 48 + u := by rw [UInt8.toNat_ofNat']; omega
      refine ⟨fun c hc => ?_, ?_, by simp, fun h2 => by omega, fun h2 h3 => ?_⟩
      · simp only [List.mem_singleton] at hc
        subst hc
        omega
      · show 0 * 10 + ((UInt8.ofNat (48 + u)).toNat - 48) = u
        omega
      · have h4 : UInt8.ofNat (48 + u) = 48 := h3
        have h5 : (UInt8.ofNat (48 + u)).toNat = 48 := by rw [h4]; rfl
        omega
    · rw [dif_neg h]
      obtain ⟨i1, i2, i3, i4, i5⟩ := ih (u / 10) (by omega)
      have e : (UInt8.ofNat (48 + u % 10)).toNat = 48 + u % 10 := by rw [UInt8.toNat_ofNat']; omega
      have hd : (Lib.decDigits (u / 10) ++ [UInt8.ofNat (48 + u % 10)]).getD 0 0 = (Lib.decDigits (u / 10)).getD 0 0 := by
        have : 0 < (Lib.decDigits (u / 10)).length := List.length_pos_iff.2 i3
        simp only [List.getD_eq_getElem?_getD]
        rw [List.getElem?_append_left this]
      refine ⟨fun c hc => ?_, ?_, by simp, fun h2 => by rw [hd]; exact i5 (by omega), fun h2 => by rw [hd]; exact i5 (by omega)⟩
      · rcases List.mem_append.1 hc with hc | hc
        · exact i1 c hc
        · simp only [List.mem_singleton] at hc
          subst hc
          omega
      · rw [valL_snoc, i2, e]
        omega
theorem at_num {P R : List UInt8} (n : Nat) (hn : n ≤ 9223372036854775807) (hR : Cl R) : CutsAt (mk (P ++ (Lib.decDigits n ++ R))) P.length ⟨2, empB, n, P.length⟩ (P.length + (Lib.decDigits n).length) := by
  obtain ⟨d1, d2, d3, _, d5⟩ := dec_facts n
  have hzero : n = 0 → Lib.decDigits n = [48] := by
    rintro rfl
    rw [Lib.decDigits, dif_pos (by decide)]
    rfl
  obtain ⟨U, hU⟩ : ∃ U, U = Lib.decDigits n := ⟨_, rfl⟩
  rw [← hU] at d1 d2 d3 d5 hzero ⊢
  clear hU
  have hl : 0 < U.length := List.length_pos_iff.2 d3
  have hb : ∀ i, i < U.length → bt (mk (P ++ (U ++ R))) (P.length + i) = bt (mk U) i := fun i hi => by rw [bt_mk, bt_mk, getD_mid hi]
  have hdig : ∀ i, i < U.length → digitI (bt (mk U) i) = true := fun i hi => by
    rw [bt_mk, List.getD_eq_getElem?_getD, List.getElem?_eq_getElem hi]
    have := d1 U[i] (List.getElem_mem hi)
    simp only [digitI, Option.getD_some, Bool.and_eq_true, decide_eq_true_eq]
    omega
  have hb0 := hb 0 hl
  rw [Nat.add_zero] at hb0
  obtain ⟨c1, c2, c3⟩ := digit_class (hdig 0 hl)
  have hsz : (mk (P ++ (U ++ R))).size = P.length + (U.length + R.length) := by rw [mk_size]; simp
  refine ⟨by omega, by rw [hb0]; exact c2, not_rem (by rw [hb0]; exact c3), ?_⟩
  unfold tokAt
  rw [hb0, if_neg (by rw [c1]; decide), if_pos c1]
  have hw : whileOf digitI (mk (P ++ (U ++ R))) P.length = P.length + U.length := while_to (cl_stop blank_digit hR) _ _ rfl (by omega) (fun i a b => by
    have := hdig (i - P.length) (by omega)
    rw [← hb _ (by omega), show P.length + (i - P.length) = i by omega] at this
    exact ⟨by omega, this⟩)
  have hdt : digTo (mk (P ++ (U ++ R))) P.length = P.length + U.length := by
    unfold digTo
    split
    · rename_i h48
      rw [hb0, bt_mk] at h48
      have h0 : n = 0 := by
        by_cases h1 : 1 ≤ n
        · exfalso
          apply d5 h1
          rw [← UInt8.toNat_inj]
          show (U.getD 0 0).toNat = 48
          omega
        · omega
      rw [hzero h0]
      rfl
    · exact hw
  have hnum : numOf (mk (P ++ (U ++ R))) P.length U.length = n := by
    rw [← val_num (p := P.length) U.length (by omega), ext_mid, mk_list]
    exact d2
  unfold numberAt
  simp only
  rw [hdt, show P.length + U.length - P.length = U.length by omega, hnum, if_neg (by omega), if_neg (cl_stop blank_part hR)]
/-! ### Marks -/
theorem at_mark {P U R : List UInt8} (hU : marksL.contains U = true) (hR : Cl R) : CutsAt (mk (P ++ (U ++ R))) P.length ⟨4, mk U, 0, P.length⟩ (P.length + U.length) := by
  have hmem : U ∈ marksL := by simpa using hU
  have hall : ∀ V ∈ marksL, (V.length = 1 ∨ V.length = 2) ∧ classI (V.getD 0 0).toNat = 0 ∧ blankI (V.getD 0 0).toNat = false ∧ (V.length = 2 → V.getD 0 0 ≠ 47) := by decide
  have hone : ∀ V ∈ marksL, V.length = 1 → ∀ b ∈ ([9, 10, 13, 32] : List UInt8), marksL.contains (V ++ [b]) = false := by decide
  obtain ⟨h1, h2, h3, h4⟩ := hall U hmem
  have hl : 0 < U.length := by omega
  have hb : ∀ i, i < U.length → bt (mk (P ++ (U ++ R))) (P.length + i) = bt (mk U) i := fun i hi => by rw [bt_mk, bt_mk, getD_mid hi]
  have hb0 := hb 0 hl
  rw [Nat.add_zero, bt_mk U] at hb0
  have hsz : (mk (P ++ (U ++ R))).size = P.length + (U.length + R.length) := by rw [mk_size]; simp
  have hbl : R ≠ [] → ∃ b r, R = b :: r ∧ b ∈ ([9, 10, 13, 32] : List UInt8) := by
    intro hne
    cases R with
    | nil => exact absurd rfl hne
    | cons b r =>
      refine ⟨b, r, rfl, ?_⟩
      rcases hR with h | h
      · cases h
      · have h5 : blankI (b.toNat : Int) = true := h
        simp only [blankI, Bool.or_eq_true, beq_iff_eq] at h5
        have : b.toNat = 9 ∨ b.toNat = 10 ∨ b.toNat = 13 ∨ b.toNat = 32 := by omega
        simp only [List.mem_cons, List.not_mem_nil, or_false]
        rcases this with h | h | h | h
        · left; rw [← UInt8.toNat_inj]; exact h
        · right; left; rw [← UInt8.toNat_inj]; exact h
        · right; right; left; rw [← UInt8.toNat_inj]; exact h
        · right; right; right; rw [← UInt8.toNat_inj]; exact h
  have hnr : remB (mk (P ++ (U ++ R))) P.length = false := by
    by_cases h47 : bt (mk (P ++ (U ++ R))) P.length = 47
    · have hU1 : U.length = 1 := by
        rcases h1 with h | h
        · exact h
        · exfalso
          apply h4 h
          rw [hb0] at h47
          rw [← UInt8.toNat_inj]
          show (U.getD 0 0).toNat = 47
          omega
      by_cases hne : R = []
      · subst hne
        unfold remB
        rw [hsz, hU1, decide_eq_false (by simp)]
        simp
      · obtain ⟨b, r, rfl, hm⟩ := hbl hne
        have h8 : bt (mk (P ++ (U ++ b :: r))) (P.length + 1) = (b.toNat : Int) := by
          rw [← hU1, bt_mk, getD_end]; rfl
        unfold remB
        rw [h8]
        have : ((b.toNat : Int) == 47) = false := by
          simp only [List.mem_cons, List.not_mem_nil, or_false] at hm
          rcases hm with rfl | rfl | rfl | rfl <;> decide
        rw [this, Bool.and_false]
    · exact not_rem h47
  have hml : markLen (mk (P ++ (U ++ R))) P.length = U.length := by
    unfold markLen
    rcases h1 with h1 | h1
    · have hno : ¬ (P.length + 2 ≤ (mk (P ++ (U ++ R))).size ∧ marksL.contains ((mk (P ++ (U ++ R))).extract P.length (P.length + 2)).data.toList = true) := by
        rintro ⟨a, b⟩
        by_cases hne : R = []
        · subst hne
          rw [hsz] at a
          simp at a
          omega
        · obtain ⟨c, r, rfl, hm⟩ := hbl hne
          have e : P ++ (U ++ c :: r) = P ++ ((U ++ [c]) ++ r) := by simp
          have e2 : P.length + 2 = P.length + (U ++ [c]).length := by simp; omega
          rw [e, e2, ext_mid, mk_list, hone U hmem h1 c hm] at b
          cases b
      rw [if_neg hno]
      have e2 : P.length + 1 = P.length + U.length := by omega
      rw [e2, ext_mid, mk_list, if_pos ⟨by omega, hU⟩, h1]
    · have e2 : P.length + 2 = P.length + U.length := by omega
      rw [e2, ext_mid, mk_list, if_pos ⟨by omega, hU⟩, h1]
  refine ⟨by omega, by rw [hb0]; exact h3, hnr, ?_⟩
  unfold tokAt
  rw [hb0, if_neg (by rw [h2]; decide), if_neg (by rw [h2]; decide), if_neg (by rw [h2]; decide)]
  unfold markAt
  rw [hml, if_neg (by omega), ext_mid]
end Go.Proofs.YtlaikgaepaiigaaGreatDoor.K

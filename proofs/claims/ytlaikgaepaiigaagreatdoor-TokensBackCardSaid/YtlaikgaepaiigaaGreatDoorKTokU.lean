/- The reference's May and Text. -/
import Derived.Test.YtlaikgaepaiigaaGreatDoorKTokR
namespace Go.Proofs.YtlaikgaepaiigaaGreatDoor.K
open Go Go.RowKit
set_option linter.unusedVariables false
set_option linter.unusedSimpArgs false
def mayB (t : Tk) : Bool :=
  if t.at_ < 0 ∨ (t.kind ≠ 2 ∧ t.num ≠ 0) then false
  else if t.kind = 1 then nameB t.text
  else if t.kind = 2 then decide (0 ≤ t.num) && decide (t.text.size = 0)
  else if t.kind = 3 then saysB t.text
  else if t.kind = 4 then isMarkB t.text.data.toList
  else decide (t.kind = 0) && decide (t.text.size = 0)
theorem textOf_may (t : Tk) : textOf t = if mayB t = true then (if t.kind = 2 then itoaB t.num else if t.kind = 3 then quotedB t.text else t.text) else empB := by
  unfold textOf mayB
  by_cases h0 : t.at_ < 0 ∨ (t.kind ≠ 2 ∧ t.num ≠ 0)
  · rw [if_pos h0, if_pos h0]; rfl
  · rw [if_neg h0, if_neg h0]
    by_cases k1 : t.kind = 1
    · rw [if_pos k1, if_pos k1, if_neg (show ¬ t.kind = 2 by omega), if_neg (show ¬ t.kind = 3 by omega)]
    · rw [if_neg k1, if_neg k1]
      by_cases k2 : t.kind = 2
      · rw [if_neg (show ¬ t.kind = 4 by omega), if_pos k2, if_pos k2, if_pos k2]
        by_cases h : 0 ≤ t.num ∧ t.text.size = 0
        · rw [if_pos h, decide_eq_true h.1, decide_eq_true h.2]; rfl
        · rw [if_neg h]
          by_cases h1 : 0 ≤ t.num
          · rw [decide_eq_true h1, decide_eq_false (fun h2 => h ⟨h1, h2⟩)]; rfl
          · rw [decide_eq_false h1]; rfl
      · rw [if_neg k2]
        by_cases k3 : t.kind = 3
        · rw [if_neg (show ¬ t.kind = 4 by omega), if_neg k2, if_pos k3, if_pos k3, if_neg k2, if_pos k3]
        · rw [if_neg k3]
          by_cases k4 : t.kind = 4
          · simp only [if_pos k4, if_neg k2, if_neg k3]
          · rw [if_neg k4, if_neg k2, if_neg k3, if_neg k4, if_neg k2, if_neg k3]
            by_cases h : t.kind = 0 ∧ t.text.size = 0
            · rw [decide_eq_true h.1, decide_eq_true h.2]
              exact (empty_of h.2).symm
            · by_cases h1 : t.kind = 0
              · rw [decide_eq_true h1, decide_eq_false (fun h2 => h ⟨h1, h2⟩)]; rfl
              · rw [decide_eq_false h1]; rfl
def BoolPost (r : Bool) (w : World) (e : Ending) (w' : World) : Prop := e = .returned (.bool r) ∧ Below w.heap.size w w'
set_option maxRecDepth 100000 in
set_option maxHeartbeats 8000000 in
theorem May_any (t : Tk) (w : World) (hx : t.text.size ≤ 16777216) :
    Calls Tryz.prog 21 #[t.val] w (BoolPost (mayB t) w) := by
  obtain ⟨k, x, n, a⟩ := t
  simp only at hx
  obtain ⟨R, hR⟩ : ∃ R, R = mayB ⟨k, x, n, a⟩ := ⟨_, rfl⟩
  unfold Tk.val
  rw [← hR]
  unfold mayB at hR
  simp only at hR
  obtain ⟨w1, hw1⟩ : ∃ w1, w1 = w.alloc (.cells #[.int .i8 k, .string x, .int .i64 n, .int .i64 a] 24) := ⟨_, rfl⟩
  obtain ⟨T, hT⟩ : ∃ T, T = w.heap.size := ⟨_, rfl⟩
  have HB1 := Lib.hid (show Below w.heap.size w w1 by rw [hw1]; exact G.bl_alloc (Below.refl _ _) _)
  have HBT := Lib.hid (show G.Blk w1 T 24 #[.int .i8 k, .string x, .int .i64 n, .int .i64 a] by rw [hw1, hT]; exact G.Blk.new w _ _)
  have HW := Lib.hid hw1
  have HT := Lib.hid hT
  have z0 := HBT.out.cell 0
  have z1 := HBT.out.cell 1
  have z2 := HBT.out.cell 2
  have z3 := HBT.out.cell 3
  simp at z0 z1 z2 z3
  clear hw1 hT
  unfold BoolPost
  go_enter Tryz.func21, Tryz.ntmps21
  go_upto_region 1 with (fail)
  rw [← HW.out, ← HT.out]
  by_cases ha : a < 0
  · rw [if_pos (.inl ha)] at hR
    have HR := Lib.hid hR
    clear hR
    go_wp2_with fail
    go_ret
    exact ⟨by rw [HR.out]; rfl, HB1.out⟩
  · by_cases hkn : k ≠ 2 ∧ n ≠ 0
    · rw [if_pos (.inr hkn)] at hR
      have HR := Lib.hid hR
      obtain ⟨hk, hn⟩ := hkn
      have hk2 := ne_b2 hk
      have hn2 := ne_b2 hn
      clear hR
      go_wp2_with fail
      go_ret
      exact ⟨by rw [HR.out]; rfl, HB1.out⟩
    · rw [if_neg (fun h => h.elim ha hkn)] at hR
      have HR := Lib.hid hR
      clear hR
      have hcase : (k = 1 ∧ n = 0) ∨ (k = 4 ∧ n = 0) ∨ k = 2 ∨ (k = 3 ∧ n = 0) ∨ (k = 0 ∧ n = 0) ∨ (k ≠ 1 ∧ k ≠ 4 ∧ k ≠ 2 ∧ k ≠ 3 ∧ k ≠ 0 ∧ n = 0) := by
        by_cases e2 : k = 2
        · exact .inr (.inr (.inl e2))
        · have en : n = 0 := by
            by_cases e : n = 0
            · exact e
            · exact absurd ⟨e2, e⟩ hkn
          omega
      clear hkn
      rcases hcase with ⟨rfl, rfl⟩ | ⟨rfl, rfl⟩ | rfl | ⟨rfl, rfl⟩ | ⟨rfl, rfl⟩ | ⟨k1, k4, k2, k3, k0, rfl⟩
      · have HN := Lib.hid (refName_any x w1 hx)
        have HR2 := Lib.hid (HR.out.trans (if_pos rfl))
        go_wp2_with fail
        refine HN.out.mono ?_
        rintro e wq ⟨rfl, rfl⟩
        rw [← HR2.out]
        go_wp2_with fail
        go_ret
        exact ⟨rfl, HB1.out⟩
      · have HN := Lib.hid (refIsMark_any x w1)
        have HR2 := Lib.hid (HR.out.trans ((if_neg (by decide)).trans ((if_neg (by decide)).trans ((if_neg (by decide)).trans (if_pos rfl)))))
        go_wp2_with fail
        refine HN.out.mono ?_
        rintro e w2 ⟨rfl, hb2⟩
        have HB2 := Lib.hid (G.bl_trans HB1.out hb2)
        rw [← HR2.out]
        clear hb2
        go_wp2_with fail
        go_ret
        exact ⟨rfl, HB2.out⟩
      · have HR2 := Lib.hid (HR.out.trans ((if_neg (by decide)).trans (if_pos rfl)))
        by_cases hn0 : 0 ≤ n
        · rcases Nat.eq_zero_or_pos x.size with hx0 | hx0
          · have HR3 := Lib.hid (show R = true by rw [HR2.out, decide_eq_true hn0, decide_eq_true hx0]; rfl)
            have he := empty_of hx0
            subst he
            clear hx hx0
            go_wp2_with fail
            go_ret
            exact ⟨by rw [HR3.out]; rfl, HB1.out⟩
          · have HR3 := Lib.hid (show R = false by rw [HR2.out, decide_eq_false (show ¬ x.size = 0 by omega), Bool.and_false])
            obtain ⟨e1, e2, e3⟩ := not_empty hx0
            go_wp2_with fail
            go_ret
            exact ⟨by rw [HR3.out]; simp [e1, e2, e3], HB1.out⟩
        · have HR3 := Lib.hid (show R = false by rw [HR2.out, decide_eq_false hn0, Bool.false_and])
          go_wp2_with fail
          go_ret
          exact ⟨by rw [HR3.out]; rfl, HB1.out⟩
      · have HN := Lib.hid (refSays_any x w1 hx)
        have HR2 := Lib.hid (HR.out.trans ((if_neg (by decide)).trans ((if_neg (by decide)).trans (if_pos rfl))))
        go_wp2_with fail
        refine HN.out.mono ?_
        rintro e wq ⟨rfl, rfl⟩
        rw [← HR2.out]
        go_wp2_with fail
        go_ret
        exact ⟨rfl, HB1.out⟩
      · have HR2 := Lib.hid (HR.out.trans ((if_neg (by decide)).trans ((if_neg (by decide)).trans ((if_neg (by decide)).trans (if_neg (by decide))))))
        rcases Nat.eq_zero_or_pos x.size with hx0 | hx0
        · have HR3 := Lib.hid (show R = true by rw [HR2.out, decide_eq_true hx0]; rfl)
          have he := empty_of hx0
          subst he
          clear hx hx0
          go_wp2_with fail
          go_ret
          exact ⟨by rw [HR3.out]; rfl, HB1.out⟩
        · have HR3 := Lib.hid (show R = false by rw [HR2.out, decide_eq_false (show ¬ x.size = 0 by omega), Bool.and_false])
          obtain ⟨e1, e2, e3⟩ := not_empty hx0
          go_wp2_with fail
          go_ret
          exact ⟨by rw [HR3.out]; simp [e1, e2, e3], HB1.out⟩
      · have HR2 := Lib.hid (HR.out.trans ((if_neg k1).trans ((if_neg k2).trans ((if_neg k3).trans (if_neg k4)))))
        have HR3 := Lib.hid (show R = false by rw [HR2.out, decide_eq_false k0, Bool.false_and])
        have k1' := ne_b k1
        have k2' := ne_b k2
        have k3' := ne_b k3
        have k4' := ne_b k4
        have k0' := ne_b k0
        go_wp2_with fail
        go_ret
        exact ⟨by rw [HR3.out]; rfl, HB1.out⟩
set_option maxRecDepth 100000 in
set_option maxHeartbeats 8000000 in
theorem refTextOf_any (t : Tk) (w : World) (hF : FmtIn w) (hx : t.text.size ≤ 16777216) (h0 : -9223372036854775808 ≤ t.num) (h1 : t.num ≤ 9223372036854775807) :
    Calls Tryz.prog 8 #[t.val] w (StrPost (textOf t) w) := by
  have hm := textOf_may t
  have HM := Lib.hid (fun W => May_any t W hx)
  have h64 : mayB t = true → t.kind = 3 → t.text.size ≤ 65536 := by
    intro hm hk
    unfold mayB at hm
    split at hm
    · cases hm
    · simp only [if_neg (show ¬ t.kind = 1 by omega), if_neg (show ¬ t.kind = 2 by omega), if_pos hk] at hm
      unfold saysB at hm
      rw [Bool.and_eq_true, decide_eq_true_eq] at hm
      omega
  obtain ⟨k, x, n, a⟩ := t
  simp only at hx h0 h1 hm h64
  obtain ⟨R, hR⟩ : ∃ R, R = textOf ⟨k, x, n, a⟩ := ⟨_, rfl⟩
  obtain ⟨b, hb⟩ : ∃ b, b = mayB ⟨k, x, n, a⟩ := ⟨_, rfl⟩
  rw [← hR] at hm ⊢
  rw [← hb] at hm HM h64
  have HR := Lib.hid hm
  unfold Tk.val at HM ⊢
  clear hm hR hb
  obtain ⟨w1, hw1⟩ : ∃ w1, w1 = w.alloc (.cells #[.int .i8 k, .string x, .int .i64 n, .int .i64 a] 24) := ⟨_, rfl⟩
  obtain ⟨T, hT⟩ : ∃ T, T = w.heap.size := ⟨_, rfl⟩
  have HB1 := Lib.hid (show Below w.heap.size w w1 by rw [hw1]; exact G.bl_alloc (Below.refl _ _) _)
  have HBT := Lib.hid (show G.Blk w1 T 24 #[.int .i8 k, .string x, .int .i64 n, .int .i64 a] by rw [hw1, hT]; exact G.Blk.new w _ _)
  have HF := Lib.hid (hF.below HB1.out)
  have HW := Lib.hid hw1
  have HT := Lib.hid hT
  have z0 := HBT.out.cell 0
  have z1 := HBT.out.cell 1
  have z2 := HBT.out.cell 2
  have z3 := HBT.out.cell 3
  simp at z0 z1 z2 z3
  clear hF hw1 hT
  unfold StrPost
  go_enter Tryz.func8, Tryz.ntmps8
  go_upto_region 1 with (fail)
  rw [← HW.out, ← HT.out]
  go_wp2_with fail
  refine (HM.out w1).mono ?_
  rintro e w2 he
  unfold BoolPost at he
  obtain ⟨rfl, hb2⟩ := he
  have HB2 := Lib.hid (G.bl_trans HB1.out hb2)
  have HF2 := Lib.hid (HF.out.below hb2)
  have HBT2 := Lib.hid (HBT.out.below hb2 HBT.out.lt)
  clear hb2 z0 z1 z2 z3
  have z0 := HBT2.out.cell 0
  have z1 := HBT2.out.cell 1
  have z2 := HBT2.out.cell 2
  simp at z0 z1 z2
  cases b with
  | false =>
    have HR2 := Lib.hid (HR.out.trans (if_neg (by decide)))
    go_wp2_with fail
    go_ret
    exact ⟨by rw [HR2.out]; rfl, HB2.out⟩
  | true =>
    have HR2 := Lib.hid (HR.out.trans (if_pos rfl))
    by_cases k2 : k = 2
    · have HR3 := Lib.hid (HR2.out.trans (if_pos k2))
      have HC := Lib.hid (HF2.out n w2 h0 h1 (Below.refl _ _))
      subst k2
      clear h64
      go_wp2_with fail
      refine HC.out.mono ?_
      rintro e w3 ⟨rfl, hb3⟩
      have HB3 := Lib.hid (G.bl_trans HB2.out hb3)
      clear hb3
      go_wp2_with fail
      go_ret
      exact ⟨by rw [HR3.out]; rfl, HB3.out⟩
    · have HR3 := Lib.hid (HR2.out.trans (if_neg k2))
      have k2' := ne_b k2
      by_cases k3 : k = 3
      · have HR4 := Lib.hid (HR3.out.trans (if_pos k3))
        have HQ := Lib.hid (quoted_any x w2 (h64 rfl k3))
        subst k3
        clear h64 k2 k2'
        go_wp2_with fail
        refine HQ.out.mono ?_
        rintro e wq ⟨rfl, rfl⟩
        go_wp2_with fail
        go_ret
        exact ⟨by rw [HR4.out]; rfl, HB2.out⟩
      · have HR4 := Lib.hid (HR3.out.trans (if_neg k3))
        have k3' := ne_b k3
        clear h64
        go_wp2_with fail
        go_ret
        exact ⟨by rw [HR4.out]; rfl, HB2.out⟩
end Go.Proofs.YtlaikgaepaiigaaGreatDoor.K

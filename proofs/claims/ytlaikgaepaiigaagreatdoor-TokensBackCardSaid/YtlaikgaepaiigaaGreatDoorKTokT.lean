/- How a token is written; the contract of tokens.Text. -/
import Derived.Test.YtlaikgaepaiigaaGreatDoorKTok
namespace Go.Proofs.YtlaikgaepaiigaaGreatDoor.K
open Go Go.RowKit
set_option linter.unusedVariables false
set_option linter.unusedSimpArgs false
def quotedB (s : ByteArray) : ByteArray := (⟨#[34]⟩ : ByteArray) ++ quoteB s ++ ⟨#[34]⟩
def itoaB (n : Int) : ByteArray := ⟨(Lib.itoa n).toArray⟩
/-- P8.3 -/
def textOf (t : Tk) : ByteArray :=
  if t.at_ < 0 ∨ (t.kind ≠ 2 ∧ t.num ≠ 0) then empB
  else if t.kind = 1 then (if nameB t.text = true then t.text else empB)
  else if t.kind = 4 then (if isMarkB t.text.data.toList = true then t.text else empB)
  else if t.kind = 2 then (if 0 ≤ t.num ∧ t.text.size = 0 then itoaB t.num else empB)
  else if t.kind = 3 then (if saysB t.text = true then quotedB t.text else empB)
  else empB
def FmtIn (w : World) : Prop := ∀ (n : Int) (W : World), -9223372036854775808 ≤ n → n ≤ 9223372036854775807 → Below w.heap.size w W →
  Calls Tryz.prog 17 #[.int .i64 n, .int .i64 10] W fun e w' => e = .returned (.string (itoaB n)) ∧ Below W.heap.size W w'
theorem FmtIn.below {w w' : World} (h : FmtIn w) (hb : Below w.heap.size w w') : FmtIn w' := fun n W h0 h1 hb2 => h n W h0 h1 (hb.trans (hb2.mono hb.size))
def StrPost (r : ByteArray) (w : World) (e : Ending) (w' : World) : Prop := e = .returned (.string r) ∧ Below w.heap.size w w'
theorem rdv_new (W : World) : G.RdV (W.alloc (.cells #[.string ⟨#[92]⟩, .string ⟨#[92, 92]⟩, .string ⟨#[34]⟩, .string ⟨#[92, 34]⟩] 9)) W.heap.size 0 oldnew :=
  (G.Blk.new W 9 #[.string ⟨#[92]⟩, .string ⟨#[92, 92]⟩, .string ⟨#[34]⟩, .string ⟨#[92, 34]⟩]).rdV
set_option maxRecDepth 100000 in
set_option maxHeartbeats 8000000 in
theorem Text_any (t : Tk) (w : World) (hL : LibIn w) (hF : FmtIn w) (hx : t.text.size ≤ 16777216) (h0 : -9223372036854775808 ≤ t.num) (h1 : t.num ≤ 9223372036854775807) :
    Calls Tryz.prog 7 #[t.val] w (StrPost (textOf t) w) := by
  obtain ⟨k, x, n, a⟩ := t
  simp only at hx h0 h1
  obtain ⟨R, hR⟩ : ∃ R, R = textOf ⟨k, x, n, a⟩ := ⟨_, rfl⟩
  unfold Tk.val
  rw [← hR]
  unfold textOf at hR
  simp only at hR
  obtain ⟨w1, hw1⟩ : ∃ w1, w1 = w.alloc (.cells #[.int .i8 k, .string x, .int .i64 n, .int .i64 a] 24) := ⟨_, rfl⟩
  obtain ⟨T, hT⟩ : ∃ T, T = w.heap.size := ⟨_, rfl⟩
  have HB1 := Lib.hid (show Below w.heap.size w w1 by rw [hw1]; exact G.bl_alloc (Below.refl _ _) _)
  have HBT := Lib.hid (show G.Blk w1 T 24 #[.int .i8 k, .string x, .int .i64 n, .int .i64 a] by rw [hw1, hT]; exact G.Blk.new w _ _)
  have HL := Lib.hid (hL.below HB1.out)
  have HF := Lib.hid (hF.below HB1.out)
  have HW := Lib.hid hw1
  have HT := Lib.hid hT
  have z0 := HBT.out.cell 0
  have z1 := HBT.out.cell 1
  have z2 := HBT.out.cell 2
  have z3 := HBT.out.cell 3
  simp at z0 z1 z2 z3
  clear hL hF hw1 hT
  unfold StrPost
  have hzl := HBT.out.lt
  go_enter Tryz.func7, Tryz.ntmps7
  go_upto_region 1 with (fail)
  rw [← HW.out, ← HT.out]
  by_cases ha : a < 0
  · rw [if_pos (.inl ha)] at hR
    have HR := Lib.hid hR
    clear hR
    go_wp2_with fail
    go_ret
    exact ⟨by rw [HR.out]; rfl, HB1.out⟩
  · by_cases hkn : k ≠ 2 ∧ n ≠ 0
    · rw [if_pos (.inr hkn)] at hR
      have HR := Lib.hid hR
      obtain ⟨hk, hn⟩ := hkn
      have hk2 := ne_b2 hk
      have hn2 := ne_b2 hn
      clear hR
      go_wp2_with fail
      go_ret
      exact ⟨by rw [HR.out]; rfl, HB1.out⟩
    · rw [if_neg (fun h => h.elim ha hkn)] at hR
      have HR := Lib.hid hR
      clear hR
      have hcase : (k = 1 ∧ n = 0) ∨ (k = 4 ∧ n = 0) ∨ k = 2 ∨ (k = 3 ∧ n = 0) ∨ (k ≠ 1 ∧ k ≠ 4 ∧ k ≠ 2 ∧ k ≠ 3 ∧ n = 0) := by
        by_cases e2 : k = 2
        · exact .inr (.inr (.inl e2))
        · have en : n = 0 := by
            by_cases e : n = 0
            · exact e
            · exact absurd ⟨e2, e⟩ hkn
          omega
      clear hkn
      rcases hcase with ⟨rfl, rfl⟩ | ⟨rfl, rfl⟩ | rfl | ⟨rfl, rfl⟩ | ⟨k1, k4, k2, k3, rfl⟩
      · have HN := Lib.hid (isName_any x w1 hx)
        have HR2 := Lib.hid (HR.out.trans (if_pos rfl))
        cases hv : nameB x with
        | true =>
          rw [hv] at HN HR2
          clear hv
          go_wp2_with fail
          refine HN.out.mono ?_
          rintro e wq ⟨rfl, rfl⟩
          go_wp2_with fail
          go_ret
          exact ⟨by rw [HR2.out]; rfl, HB1.out⟩
        | false =>
          rw [hv] at HN HR2
          clear hv
          go_wp2_with fail
          refine HN.out.mono ?_
          rintro e wq ⟨rfl, rfl⟩
          go_wp2_with fail
          go_ret
          exact ⟨by rw [HR2.out]; rfl, HB1.out⟩
      · have HN := Lib.hid (isMark_big x w1 HL.out hx)
        have HR2 := Lib.hid (HR.out.trans ((if_neg (by decide)).trans (if_pos rfl)))
        cases hv : isMarkB x.data.toList with
        | true =>
          rw [hv] at HN HR2
          clear hv
          go_wp2_with fail
          refine HN.out.mono ?_
          rintro e wq ⟨rfl, rfl⟩
          go_wp2_with fail
          go_ret
          exact ⟨by rw [HR2.out]; rfl, HB1.out⟩
        | false =>
          rw [hv] at HN HR2
          clear hv
          go_wp2_with fail
          refine HN.out.mono ?_
          rintro e wq ⟨rfl, rfl⟩
          go_wp2_with fail
          go_ret
          exact ⟨by rw [HR2.out]; rfl, HB1.out⟩
      · have HR2 := Lib.hid (HR.out.trans ((if_neg (by decide)).trans ((if_neg (by decide)).trans (if_pos rfl))))
        by_cases hn0 : 0 ≤ n
        · rcases Nat.eq_zero_or_pos x.size with hx0 | hx0
          · have HR3 := Lib.hid (HR2.out.trans (if_pos ⟨hn0, hx0⟩))
            have HC := Lib.hid (HF.out n w1 h0 h1 (Below.refl _ _))
            have he := empty_of hx0
            subst he
            clear hx hx0
            go_wp2_with fail
            refine HC.out.mono ?_
            rintro e w2 ⟨rfl, hb2⟩
            have HB2 := Lib.hid (G.bl_trans HB1.out hb2)
            clear hb2
            go_wp2_with fail
            go_ret
            exact ⟨by rw [HR3.out]; rfl, HB2.out⟩
          · have HR3 := Lib.hid (HR2.out.trans (if_neg (fun h => by omega)))
            obtain ⟨e1, e2, e3⟩ := not_empty hx0
            go_wp2_with fail
            go_ret
            exact ⟨by rw [HR3.out]; rfl, HB1.out⟩
        · have HR3 := Lib.hid (HR2.out.trans (if_neg (fun h => hn0 h.1)))
          go_wp2_with fail
          go_ret
          exact ⟨by rw [HR3.out]; rfl, HB1.out⟩
      · have HN := Lib.hid (says_any x w1 hx)
        have HR2 := Lib.hid (HR.out.trans ((if_neg (by decide)).trans ((if_neg (by decide)).trans ((if_neg (by decide)).trans (if_pos rfl)))))
        cases hv : saysB x with
        | true =>
          rw [hv] at HN HR2
          have hx64 : x.size ≤ 64 := by
            unfold saysB at hv
            rw [Bool.and_eq_true, decide_eq_true_eq] at hv
            exact hv.2
          clear hv
          go_wp2_with fail
          refine HN.out.mono ?_
          rintro e wq ⟨rfl, rfl⟩
          have HK := Lib.hid (fun W (h : Below w1.heap.size w1 W) => show W.cell? ⟨T, 1, none⟩ = some (.string x) from (h.cell (p := ⟨T, 1, none⟩) hzl).trans z1)
          have HX := Lib.hid (show x.size ≤ 65536 by omega)
          obtain ⟨Y, hY⟩ : ∃ Y, Y = quoteB x := ⟨_, rfl⟩
          have hYs : Y.size ≤ 131072 := by
            rw [hY]
            have := cntE_le x.data.toList
            show (quoteL x.data.toList).toArray.size ≤ _
            rw [List.size_toArray, quoteL_length]
            simp at this ⊢
            omega
          have HREPL := Lib.hid (fun (r aa cap : Nat) (W : World) h1 h2 h3 => show Calls Tryz.prog 20 #[.pointer (some ⟨r, 0, none⟩), .string x] W fun e w' => e = .returned (.string Y) ∧ Upd r W w' by rw [hY]; exact replace_any r aa cap x W h1 h2 h3 HX.out)
          have HR3 := Lib.hid (show R = (⟨#[34]⟩ : ByteArray) ++ Y ++ ⟨#[34]⟩ by rw [HR2.out, hY]; rfl)
          have hadd1 : ∀ W : World, (Op.stringOp .add ⟨#[34]⟩ Y).run Tryz.prog W = .ok (.string ((⟨#[34]⟩ : ByteArray) ++ Y)) W := fun W => run_string_add W _ _ (by decide) (by omega)
          have hadd2 : ∀ W : World, (Op.stringOp .add ((⟨#[34]⟩ : ByteArray) ++ Y) ⟨#[34]⟩).run Tryz.prog W = .ok (.string ((⟨#[34]⟩ : ByteArray) ++ Y ++ ⟨#[34]⟩)) W := fun W => run_string_add W _ _ (by rw [ByteArray.size_append]; show ((1 + Y.size : Nat) : Int) ≤ _; omega) (by decide)
          clear hx hx64 z0 z2 z3 hY
          go_wp2_with fail
          go_region_held3 (fun W => W.cell? ⟨T, 1, none⟩ = some (.string x)) (first | go_keep | exact HK.out _ (by assumption)) (first
            | (go_at_call 19; refine (newRep_any w1.heap.size 4 _ (rdv_new w1.drew)).mono ?_; rintro e w2 he; unfold NewPost at he; obtain ⟨r, aa, cap, rfl, hBr, hRa, hrw, har, hb⟩ := he; have hBW := G.bl_trans (G.bl_alloc ((Below.refl w1.heap.size w1).drew) _) hb; have HBr := Lib.hid hBr; have HRa := Lib.hid hRa; have HAR := Lib.hid har; have HRW := Lib.hid (show w1.heap.size ≤ r by simp at hrw; omega); clear hBr hRa hrw har hb)
            | (go_at_call 20; refine (HREPL.out r aa cap _ HBr.out HRa.out HAR.out).mono ?_; rintro e w3 ⟨rfl, hu⟩; have hBW3 : Below w1.heap.size w1 w3 := hBW.trans (hu.1.mono HRW.out); clear hu))
          go_wp2_with fail
          go_ret
          exact ⟨by rw [HR3.out]; rfl, G.bl_trans HB1.out (by assumption)⟩
        | false =>
          rw [hv] at HN HR2
          clear hv
          go_wp2_with fail
          refine HN.out.mono ?_
          rintro e wq ⟨rfl, rfl⟩
          go_wp2_with fail
          go_ret
          exact ⟨by rw [HR2.out]; rfl, HB1.out⟩
      · have HR2 := Lib.hid (HR.out.trans ((if_neg k1).trans ((if_neg k4).trans ((if_neg k2).trans (if_neg k3)))))
        have k1' := ne_b k1
        have k2' := ne_b k2
        have k3' := ne_b k3
        have k4' := ne_b k4
        go_wp2_with fail
        go_ret
        exact ⟨by rw [HR2.out]; rfl, HB1.out⟩
end Go.Proofs.YtlaikgaepaiigaaGreatDoor.K

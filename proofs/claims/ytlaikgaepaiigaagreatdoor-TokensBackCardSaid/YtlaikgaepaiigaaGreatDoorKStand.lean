/- A token that was cut stands in its source as it is written. Plain Lean. -/
import Derived.Test.YtlaikgaepaiigaaGreatDoorKTokU
import Derived.Test.YtlaikgaepaiigaaGreatDoorKCut
namespace Go.Proofs.YtlaikgaepaiigaaGreatDoor.K
open Go Go.RowKit
set_option linter.unusedVariables false
set_option linter.unusedSimpArgs false
theorem size_ext (s : ByteArray) {p q : Nat} (h : p ≤ q) (hq : q ≤ s.size) : (s.extract p q).size = q - p := by rw [ByteArray.size_extract]; omega
theorem get_ext (s : ByteArray) {p q i : Nat} (hq : q ≤ s.size) (hi : i < q - p) (h1 : i < (s.extract p q).size) : (s.extract p q)[i] = s[p + i]'(by omega) := by
  have h2 : (s.extract p q).data.toList = (s.data.toList.drop p).take (q - p) := Lib.extract_data s p q
  show (s.extract p q).data[i] = s.data[p + i]'(show p + i < s.size by omega)
  have e1 : (s.extract p q).data[i]'h1 = (s.extract p q).data.toList[i]'(by rw [Array.length_toList]; exact h1) := rfl
  rw [e1]
  simp only [h2, List.getElem_take, List.getElem_drop]
  rfl
theorem bt_ext (s : ByteArray) {p q i : Nat} (hq : q ≤ s.size) (hi : i < q - p) : bt (s.extract p q) i = bt s (p + i) := by
  have h1 : i < (s.extract p q).size := by rw [size_ext s (by omega) hq]; exact hi
  rw [bt_get h1, bt_get (show p + i < s.size by omega), get_ext s hq hi h1]
theorem ba_ext {a b : ByteArray} (h : a.data.toList = b.data.toList) : a = b := by
  apply ByteArray.ext
  exact Array.toList_inj.1 h
/-! ### Numbers are written as they stood -/
theorem dec_lead (s : ByteArray) (p : Nat) : ∀ k, p + (k + 1) ≤ s.size → (∀ i, p ≤ i → i < p + (k + 1) → digitI (bt s i) = true) → (k = 0 ∨ bt s p ≠ 48) →
    Lib.decDigits (numOf s p (k + 1)) = (s.extract p (p + (k + 1))).data.toList ∧ (bt s p ≠ 48 → 0 < numOf s p (k + 1)) := by
  intro k
  have dig : ∀ i, digitI (bt s i) = true → 48 ≤ bt s i ∧ bt s i ≤ 57 := fun i h => by simpa [digitI] using h
  induction k with
  | zero =>
    intro hq hd _
    have h0 := dig p (hd p (by omega) (by omega))
    have hg := bt_get (show p < s.size by omega)
    have hn : numOf s p 1 = (bt s p - 48).toNat := by simp [numOf]
    refine ⟨?_, fun h => by rw [hn]; omega⟩
    rw [show p + (0 + 1) = p + 0 + 1 from rfl, extract_snoc (k := 0) (by omega), show (s.extract p (p + 0)).data.toList = [] from by simp, List.nil_append]
    show Lib.decDigits (numOf s p 1) = _
    rw [hn, Lib.decDigits, dif_pos (by omega)]
    have : UInt8.ofNat (48 + (bt s p - 48).toNat) = s[p + 0] := by
      rw [← UInt8.toNat_inj, UInt8.toNat_ofNat']
      show _ = s[p].toNat
      have := UInt8.toNat_lt s[p]
      omega
    rw [this]
  | succ k ih =>
    intro hq hd hl
    have hl2 : bt s p ≠ 48 := hl.resolve_left (by omega)
    obtain ⟨h1, h2⟩ := ih (by omega) (fun i a b => hd i a (by omega)) (.inr hl2)
    have h3 := h2 hl2
    have h0 := dig (p + (k + 1)) (hd _ (by omega) (by omega))
    have hg := bt_get (show p + (k + 1) < s.size by omega)
    have hn : numOf s p (k + 1 + 1) = 10 * numOf s p (k + 1) + (bt s (p + (k + 1)) - 48).toNat := rfl
    refine ⟨?_, fun _ => by rw [hn]; omega⟩
    rw [extract_snoc (k := k + 1) (by omega), ← h1, hn, Lib.decDigits, dif_neg (by omega), show (10 * numOf s p (k + 1) + (bt s (p + (k + 1)) - 48).toNat) / 10 = numOf s p (k + 1) by omega,
      show (10 * numOf s p (k + 1) + (bt s (p + (k + 1)) - 48).toNat) % 10 = (bt s (p + (k + 1)) - 48).toNat by omega]
    have : UInt8.ofNat (48 + (bt s (p + (k + 1)) - 48).toNat) = s[p + (k + 1)] := by
      rw [← UInt8.toNat_inj, UInt8.toNat_ofNat']
      have := UInt8.toNat_lt s[p + (k + 1)]
      omega
    rw [this]
/-! ### Texts -/
theorem textGo_says (s : ByteArray) (p : Nat) (fr : Nat) : ∀ (f q : Nat) (out r : List UInt8) (q' : Nat), textGo s fr f q out = (some r, q') → p + 1 ≤ q → q ≤ s.size →
    (s.extract (p + 1) q).data.toList = quoteL out → (∀ c ∈ out, 32 ≤ c.toNat ∧ c.toNat ≤ 126) → 
    q < q' ∧ q' ≤ s.size ∧ (s.extract (p + 1) q').data.toList = quoteL r ++ [34] ∧ (∀ c ∈ r, 32 ≤ c.toNat ∧ c.toNat ≤ 126) ∧ r.length ≤ 64
  | 0, q, out, r, q', h, _, _, _, _ => by simp [textGo] at h
  | f + 1, q, out, r, q', h, h1, h2, h3, h4 => by
    rw [textGo] at h
    split at h
    · simp at h
    · rename_i h0
      have hq : q < s.size := by omega
      have hs : (s.extract (p + 1) (q + 1)).data.toList = quoteL out ++ [s[q]] := by
        have := extract_snoc (s := s) (p := p + 1) (k := q - (p + 1)) (by omega)
        simp only [show p + 1 + (q - (p + 1) + 1) = q + 1 by omega, show p + 1 + (q - (p + 1)) = q by omega] at this
        rw [this, h3]
      have hg := bt_get hq
      split at h
      · rename_i h5
        split at h
        · simp at h
        · simp only [Prod.mk.injEq, Option.some.injEq] at h
          obtain ⟨rfl, rfl⟩ := h
          have e34 : s[q] = 34 := by rw [← UInt8.toNat_inj]; show s[q].toNat = 34; omega
          refine ⟨by omega, by omega, by rw [hs, e34], h4, by omega⟩
      · rename_i h5
        split at h
        · rename_i h6
          split at h
          · rename_i h7
            have hg2 := bt_get h7.1
            have e92 : s[q] = 92 := by rw [← UInt8.toNat_inj]; show s[q].toNat = 92; omega
            have eo : UInt8.ofNat (bt s (q + 1)).toNat = s[q + 1] := by
              rw [← UInt8.toNat_inj, UInt8.toNat_ofNat']
              have := UInt8.toNat_lt s[q + 1]
              omega
            rw [eo] at h
            have hs2 : (s.extract (p + 1) (q + 2)).data.toList = quoteL (out ++ [s[q + 1]]) := by
              have := extract_snoc (s := s) (p := p + 1) (k := q + 1 - (p + 1)) (by omega)
              simp only [show p + 1 + (q + 1 - (p + 1) + 1) = q + 2 by omega, show p + 1 + (q + 1 - (p + 1)) = q + 1 by omega] at this
              rw [this, hs, quoteL_snoc, e92]
              have hesc : escB s[q + 1] = true := by
                rcases h7.2 with e | e
                · have : s[q + 1] = 34 := by rw [← UInt8.toNat_inj]; show s[q + 1].toNat = 34; omega
                  rw [this]; decide
                · have : s[q + 1] = 92 := by rw [← UInt8.toNat_inj]; show s[q + 1].toNat = 92; omega
                  rw [this]; decide
              unfold esc1
              rw [hesc]
              simp
            obtain ⟨a, b, c, d, e⟩ := textGo_says s p fr f (q + 2) _ r q' h (by omega) (by omega) hs2 (by
              intro c hc
              rcases List.mem_append.1 hc with hc | hc
              · exact h4 c hc
              · simp only [List.mem_singleton] at hc
                subst hc
                rcases h7.2 with e | e <;> omega)
            exact ⟨by omega, b, c, d, e⟩
          · simp at h
        · rename_i h6
          split at h
          · simp at h
          · rename_i h7
            have eo : UInt8.ofNat (bt s q).toNat = s[q] := by
              rw [← UInt8.toNat_inj, UInt8.toNat_ofNat']
              have := UInt8.toNat_lt s[q]
              omega
            rw [eo] at h
            have hs2 : (s.extract (p + 1) (q + 1)).data.toList = quoteL (out ++ [s[q]]) := by
              rw [hs, quoteL_snoc]
              have hesc : escB s[q] = false := by
                unfold escB
                have e1 : (s[q] == 34) = false := by
                  rw [beq_eq_false_iff_ne]; intro e
                  rw [e] at hg; exact h5 hg
                have e2 : (s[q] == 92) = false := by
                  rw [beq_eq_false_iff_ne]; intro e
                  rw [e] at hg; exact h6 hg
                rw [e1, e2]; rfl
              unfold esc1
              rw [hesc]
              rfl
            obtain ⟨a, b, c, d, e⟩ := textGo_says s p fr f (q + 1) _ r q' h (by omega) (by omega) hs2 (by
              intro c hc
              rcases List.mem_append.1 hc with hc | hc
              · exact h4 c hc
              · simp only [List.mem_singleton] at hc
                subst hc
                omega)
            exact ⟨by omega, b, c, d, e⟩
def TkOk (t : Tk) : Prop := t.text.size ≤ 16777216 ∧ -9223372036854775808 ≤ t.num ∧ t.num ≤ 9223372036854775807 ∧ 0 ≤ t.at_ ∧ t.at_ ≤ 16777216
/-- A token that was cut is written as it stood. -/
theorem tok_stands {s : ByteArray} {p q : Nat} {t : Tk} (hs : s.size ≤ 65536) (hp : p < s.size) (hb : blankI (bt s p) = false) (h : tokAt s p = .ok t q) :
    t.at_ = (p : Int) ∧ p < q ∧ q ≤ s.size ∧ TkOk t ∧ textOf t = s.extract p q := by
  unfold tokAt at h
  split at h
  · rename_i hc
    unfold nameAt at h
    simp only at h
    split at h
    · simp at h
    · rename_i h32
      simp only [OneR.ok.injEq] at h
      obtain ⟨rfl, rfl⟩ := h
      have hsm : smallI (bt s p) = true := by
        rcases class_cases (bt s p) with ⟨_, e, _⟩ | ⟨_, e1, e, _⟩ | ⟨_, _, _, e, _⟩ | ⟨_, _, _, _, e, _⟩ | ⟨_, _, _, _, _, e, _⟩ | ⟨_, _, _, _, _, e, _⟩
        · omega
        · exact e1
        all_goals omega
      have hpt : partI (bt s p) = true := by unfold partI; rw [hsm]; rfl
      have hst := while_step hp hpt
      have hbd := while_bd partI s (p + 1)
      have hq : whileOf partI s p ≤ s.size := (while_bd partI s p).2 (by omega)
      have hsz := size_ext s (while_bd partI s p).1 hq
      refine ⟨rfl, by omega, hq, ⟨by simp only [hsz]; omega, by simp, by simp, by simp, by simp only; omega⟩, ?_⟩
      have hn : nameB (s.extract p (whileOf partI s p)) = true := by
        unfold nameB
        rw [hsz, bt_ext s hq (by omega), Nat.add_zero, hsm, decide_eq_true (by omega), decide_eq_true (by omega)]
        simp only [Bool.true_and]
        rw [allB_iff]
        intro k hk
        rw [hsz] at hk
        rw [bt_ext s hq hk]
        exact (while_all (s.size - p) p (p + k) (by omega) (by show p + k < whileOf partI s p; omega)).2
      unfold textOf
      simp only
      rw [if_neg (by omega), if_pos trivial, if_pos hn]
  · split at h
    · rename_i hc1 hc
      have hd : digitI (bt s p) = true := by
        rcases class_cases (bt s p) with ⟨_, e, _⟩ | ⟨_, _, e, _⟩ | ⟨_, _, _, e, _⟩ | ⟨_, _, _, e1, e, _⟩ | ⟨_, _, _, _, _, e, _⟩ | ⟨_, _, _, _, _, e, _⟩
        · omega
        · omega
        · omega
        · exact e1
        all_goals omega
      obtain ⟨h1, h2, h3⟩ := digTo_bd hp hd
      unfold numberAt at h
      simp only at h
      split at h
      · simp at h
      · split at h
        · simp at h
        · rename_i hn hpt
          simp only [OneR.ok.injEq] at h
          obtain ⟨rfl, rfl⟩ := h
          refine ⟨rfl, h1, h2, ⟨by simp only [show empB.size = 0 from rfl]; omega, by simp only; omega, by simp only; omega, by simp, by simp only; omega⟩, ?_⟩
          unfold textOf
          simp only
          rw [if_neg (by omega), if_neg (by omega), if_neg (by omega), if_pos trivial, if_pos ⟨by omega, rfl⟩]
          unfold itoaB
          rw [Lib.itoa_nonneg]
          apply ba_ext
          simp only
          obtain ⟨k, hk⟩ : ∃ k, digTo s p = p + (k + 1) := ⟨digTo s p - p - 1, by omega⟩
          rw [hk] at h2 h3 ⊢
          rw [show p + (k + 1) - p = k + 1 by omega]
          refine (dec_lead s p k h2 h3 ?_).1
          unfold digTo at hk
          split at hk
          · left; omega
          · right; assumption
    · split at h
      · rename_i hc1 hc2 hc
        have h34 : bt s p = 34 := by
          rcases class_cases (bt s p) with ⟨_, e, _⟩ | ⟨_, _, e, _⟩ | ⟨_, _, _, e, _⟩ | ⟨_, _, _, _, e, _⟩ | ⟨_, _, _, _, e1, e, _⟩ | ⟨_, _, _, _, _, e, _⟩
          · omega
          · omega
          · omega
          · omega
          · exact e1
          · omega
        unfold textAt at h
        split at h
        · simp at h
        · rename_i out q2 hgo
          simp only [OneR.ok.injEq] at h
          obtain ⟨rfl, rfl⟩ := h
          obtain ⟨a, b, c, d, e⟩ := textGo_says s p p _ _ _ _ _ hgo (Nat.le_refl _) (by omega) (by simp [quoteL]) (by simp)
          refine ⟨rfl, by omega, b, ⟨by simp only [show (⟨out.toArray⟩ : ByteArray).size = out.length from rfl]; omega, by simp, by simp, by simp, by simp only; omega⟩, ?_⟩
          have hsy : saysB ⟨out.toArray⟩ = true := by
            unfold saysB
            rw [Bool.and_eq_true, decide_eq_true_eq, allB_iff]
            have hsz : (⟨out.toArray⟩ : ByteArray).size = out.length := rfl
            refine ⟨fun k hk => ?_, by omega⟩
            rw [bt_get hk]
            have := d ((⟨out.toArray⟩ : ByteArray)[k]) (by
              show out.toArray[k] ∈ out
              simp)
            simp only [printI, Bool.and_eq_true, decide_eq_true_eq]
            omega
          unfold textOf
          simp only
          rw [if_neg (by omega), if_neg (by omega), if_neg (by omega), if_neg (by omega), if_pos trivial, if_pos hsy]
          apply ba_ext
          unfold quotedB quoteB
          have hh : (s.extract p q2).data.toList = s[p] :: (s.extract (p + 1) q2).data.toList := by
            rw [Lib.extract_data, Lib.extract_data]
            have hpl : p < s.data.toList.length := by rw [Array.length_toList]; exact hp
            rw [List.drop_eq_getElem_cons hpl, show q2 - p = (q2 - (p + 1)) + 1 by omega, List.take_succ_cons]
            rfl
          rw [hh, c]
          have e34 : s[p] = 34 := by
            have := bt_get hp
            rw [← UInt8.toNat_inj]; show s[p].toNat = 34; omega
          rw [e34]
          simp
      · unfold markAt at h
        split at h
        · simp at h
        · rename_i hm
          simp only [OneR.ok.injEq] at h
          obtain ⟨rfl, rfl⟩ := h
          have hl : p + markLen s p ≤ s.size ∧ marksL.contains (s.extract p (p + markLen s p)).data.toList = true := by
            unfold markLen at hm ⊢
            split
            · rename_i h; exact h
            · split
              · rename_i h; exact h
              · rename_i h1 h2; rw [if_neg h1, if_neg h2] at hm; omega
          have hsz := size_ext s (show p ≤ p + markLen s p by omega) hl.1
          have hml : markLen s p ≤ 2 := by unfold markLen; split; omega; split <;> omega
          refine ⟨rfl, by omega, hl.1, ⟨by simp only [hsz]; omega, by simp, by simp, by simp, by simp only; omega⟩, ?_⟩
          unfold textOf
          simp only
          rw [if_neg (by omega), if_neg (by omega), if_pos trivial, if_pos (show isMarkB _ = true from hl.2)]
/-! ### What stands between tokens -/
inductive Gap (s : ByteArray) : Nat → Nat → Prop
  | nil (b : Nat) : Gap s b b
  | blank {b a : Nat} : b < s.size → blankI (bt s b) = true → Gap s (b + 1) a → Gap s b a
  | rem {b a : Nat} : b < s.size → blankI (bt s b) = false → remB s b = true → Gap s (whileOf notNl s b) a → Gap s b a
theorem Gap.le {s : ByteArray} {b a : Nat} (h : Gap s b a) : b ≤ a := by
  induction h with
  | nil b => exact Nat.le_refl _
  | blank h1 h2 _ ih => omega
  | @rem b a h1 h2 h3 _ ih =>
    have := (while_bd notNl s b).1
    omega
theorem rem_run {s : ByteArray} {b : Nat} (h : remB s b = true) : b + 1 < s.size ∧ bt s b = 47 ∧ bt s (b + 1) = 47 ∧ b + 2 ≤ whileOf notNl s b := by
  unfold remB at h
  simp only [Bool.and_eq_true, beq_iff_eq, decide_eq_true_eq] at h
  obtain ⟨⟨h1, h2⟩, h3⟩ := h
  have e1 := while_step (P := notNl) (s := s) (p := b) (by omega) (by rw [h1]; decide)
  have e2 := while_step (P := notNl) (s := s) (p := b + 1) (by omega) (by rw [h3]; decide)
  have := (while_bd notNl s (b + 1 + 1)).1
  exact ⟨h2, h1, h3, by omega⟩
theorem while_ext (P : Int → Bool) (s : ByteArray) {c a : Nat} (hc : c ≤ a) (ha : a ≤ s.size) : ∀ (n b : Nat), a - b ≤ n → c ≤ b → whileOf P s b ≤ a → whileOf P (s.extract c a) (b - c) + c = whileOf P s b
  | n, b, hn, hb, hw => by
    have hsz := size_ext s hc ha
    have h0 := (while_bd P s b).1
    by_cases h1 : b < s.size ∧ P (bt s b) = true
    · have h2 := while_step h1.1 h1.2
      have h3 := (while_bd P s (b + 1)).1
      have hi : b - c < a - c := by omega
      have e : bt (s.extract c a) (b - c) = bt s b := by rw [bt_ext s ha hi, show c + (b - c) = b by omega]
      rw [while_step (s := s.extract c a) (p := b - c) (by omega) (by rw [e]; exact h1.2), h2]
      cases n with
      | zero => omega
      | succ n =>
        have := while_ext P s hc ha n (b + 1) (by omega) (by omega) (by omega)
        rw [show b - c + 1 = b + 1 - c by omega]
        exact this
    · rw [while_stop h1]
      have hst : ¬ (b - c < (s.extract c a).size ∧ P (bt (s.extract c a) (b - c)) = true) := by
        rintro ⟨h4, h5⟩
        rw [hsz] at h4
        rw [bt_ext s ha h4, show c + (b - c) = b by omega] at h5
        exact h1 ⟨by omega, h5⟩
      rw [while_stop hst]
      omega
theorem gap_cut {s : ByteArray} {b a : Nat} (h : Gap s b a) (ha : a ≤ s.size) {c : Nat} : ∀ f, c ≤ b → a - b < f → cutF (s.extract c a) f (b - c) = .ok [endTk (s.extract c a)] := by
  induction h with
  | nil b =>
    intro f hc _
    have hsz := size_ext s hc ha
    exact cf_end (by omega)
  | @blank b a h1 h2 h3 ih =>
    intro f hc hf
    have hle := h3.le
    have hsz := size_ext s (show c ≤ a by omega) ha
    obtain ⟨f, rfl⟩ : ∃ g, f = g + 1 := ⟨f - 1, by omega⟩
    have e : bt (s.extract c a) (b - c) = bt s b := by rw [bt_ext s ha (by omega), show c + (b - c) = b by omega]
    rw [cf_blank (by omega) (by rw [e]; exact h2)]
    have := ih ha f (by omega) (by omega)
    rw [show b - c + 1 = b + 1 - c by omega]
    exact this
  | @rem b a h1 h2 h3 h4 ih =>
    intro f hc hf
    have hle := h4.le
    obtain ⟨r1, r2, r3, r4⟩ := rem_run h3
    have hsz := size_ext s (show c ≤ a by omega) ha
    obtain ⟨f, rfl⟩ : ∃ g, f = g + 1 := ⟨f - 1, by omega⟩
    have e : bt (s.extract c a) (b - c) = bt s b := by rw [bt_ext s ha (by omega), show c + (b - c) = b by omega]
    have e2 : bt (s.extract c a) (b - c + 1) = bt s (b + 1) := by rw [bt_ext s ha (by omega), show c + (b - c + 1) = b + 1 by omega]
    have er : remB (s.extract c a) (b - c) = true := by
      unfold remB
      rw [e, e2, r2, r3, hsz, decide_eq_true (by omega)]
      rfl
    rw [cf_rem (by omega) (by rw [e]; exact h2) er]
    have hw := while_ext notNl s (show c ≤ a by omega) ha (a - b) b (Nat.le_refl _) hc hle
    have := ih ha f (by omega) (by omega)
    rw [show whileOf notNl (s.extract c a) (b - c) = whileOf notNl s b - c by omega]
    exact this
theorem gap_cutOf {s : ByteArray} {b a : Nat} (h : Gap s b a) (ha : a ≤ s.size) : cutOf (s.extract b a) = .ok [endTk (s.extract b a)] := by
  have hsz := size_ext s h.le ha
  have := gap_cut h ha (c := b) ((s.extract b a).size + 1) (Nat.le_refl _) (by omega)
  rw [Nat.sub_self] at this
  exact this
/-! ### Tokens stand -/
/-- The tokens behind a place: each stands, the last is the end. -/
inductive Stands (s : ByteArray) : Nat → List Tk → Prop
  | last {b : Nat} : b ≤ s.size → Gap s b s.size → Stands s b [endTk s]
  | tok {b a q : Nat} {t : Tk} {l : List Tk} : Gap s b a → t.at_ = (a : Int) → a < q → q ≤ s.size → TkOk t → textOf t = s.extract a q → Stands s q l → Stands s b (t :: l)
theorem Stands.blank {s : ByteArray} {b : Nat} {l : List Tk} (h1 : b < s.size) (h2 : blankI (bt s b) = true) (h : Stands s (b + 1) l) : Stands s b l := by
  cases h with
  | last h3 h4 => exact .last (by omega) (.blank h1 h2 h4)
  | tok h3 h4 h5 h6 h7 h8 h9 => exact .tok (.blank h1 h2 h3) h4 h5 h6 h7 h8 h9
theorem Stands.rem {s : ByteArray} {b : Nat} {l : List Tk} (h1 : b < s.size) (h2 : blankI (bt s b) = false) (h3 : remB s b = true) (h : Stands s (whileOf notNl s b) l) : Stands s b l := by
  cases h with
  | last h4 h5 => exact .last (by omega) (.rem h1 h2 h3 h5)
  | tok h4 h5 h6 h7 h8 h9 h10 => exact .tok (.rem h1 h2 h3 h4) h5 h6 h7 h8 h9 h10
theorem cutF_stands {s : ByteArray} (hs : s.size ≤ 65536) : ∀ (f p : Nat) (l : List Tk), p ≤ s.size → s.size - p < f → cutF s f p = .ok l → Stands s p l
  | 0, p, l, _, h, _ => by omega
  | f + 1, p, l, hp, hf, h => by
    by_cases h0 : s.size ≤ p
    · rw [cf_end h0] at h
      simp only [CutR.ok.injEq] at h
      subst h
      have : p = s.size := by omega
      subst this
      exact .last (Nat.le_refl _) (.nil _)
    · cases hb : blankI (bt s p) with
      | true =>
        rw [cf_blank h0 hb] at h
        exact .blank (by omega) hb (cutF_stands hs f (p + 1) l (by omega) (by omega) h)
      | false =>
        cases hr : remB s p with
        | true =>
          rw [cf_rem h0 hb hr] at h
          obtain ⟨r1, r2, r3, r4⟩ := rem_run hr
          have := (while_bd notNl s p).2 hp
          exact .rem (by omega) hb hr (cutF_stands hs f _ l this (by omega) h)
        | false =>
          cases ht : tokAt s p with
          | bad q => rw [cf_bad h0 hb hr ht] at h; cases h
          | ok t q =>
            rw [cf_ok h0 hb hr ht] at h
            obtain ⟨a1, a2, a3, a4, a5⟩ := tok_stands hs (by omega) hb ht
            cases hc : cutF s f q with
            | bad z => rw [hc] at h; cases h
            | ok l2 =>
              rw [hc] at h
              simp only [CutR.cons, CutR.ok.injEq] at h
              subst h
              exact .tok (.nil _) a1 a2 a3 a4 a5 (cutF_stands hs f q l2 a3 (by omega) hc)
/-- What is so of the token at a place. -/
theorem Stands.step {s : ByteArray} {b : Nat} {t : Tk} {l : List Tk} (hs : s.size ≤ 65536) (h : Stands s b (t :: l)) :
    ∃ a q : Nat, Gap s b a ∧ t.at_ = (a : Int) ∧ a ≤ q ∧ q ≤ s.size ∧ TkOk t ∧ textOf t = s.extract a q ∧ (a = q ↔ l = []) ∧ (l ≠ [] → Stands s q l) ∧ (l = [] → t = endTk s) := by
  cases h with
  | last h1 h2 =>
    refine ⟨s.size, s.size, h2, rfl, Nat.le_refl _, Nat.le_refl _, ⟨by simp only [endTk, show empB.size = 0 from rfl]; omega, by simp [endTk], by simp [endTk], by simp [endTk], by simp only [endTk]; omega⟩, ?_, ⟨fun _ => rfl, fun _ => rfl⟩, fun h => absurd rfl h, fun _ => rfl⟩
    rw [show s.extract s.size s.size = empB from ba_ext (by simp [empB])]
    unfold textOf endTk
    simp
  | tok h1 h2 h3 h4 h5 h6 h7 =>
    rename_i a q
    have hne : l ≠ [] := by cases h7 <;> simp
    exact ⟨a, q, h1, h2, by omega, h4, h5, h6, ⟨fun e => by omega, fun e => absurd e hne⟩, fun _ => h7, fun e => absurd e hne⟩
theorem cut_stands {s : ByteArray} {l : List Tk} (hs : s.size ≤ 65536) (h : cutOf s = .ok l) : Stands s 0 l := cutF_stands hs _ 0 l (Nat.zero_le _) (by omega) h
end Go.Proofs.YtlaikgaepaiigaaGreatDoor.K

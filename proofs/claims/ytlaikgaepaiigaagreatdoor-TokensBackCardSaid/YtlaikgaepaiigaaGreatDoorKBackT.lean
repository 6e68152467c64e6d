/- A text that is written is cut as itself; every token that is written. Plain Lean. -/
import Derived.Test.YtlaikgaepaiigaaGreatDoorKBack
namespace Go.Proofs.YtlaikgaepaiigaaGreatDoor.K
open Go Go.RowKit
set_option linter.unusedVariables false
set_option linter.unusedSimpArgs false
theorem of_nat (c : UInt8) : UInt8.ofNat ((c.toNat : Int)).toNat = c := by
  rw [Int.toNat_natCast, ← UInt8.toNat_inj, UInt8.toNat_ofNat']
  have := UInt8.toNat_lt c
  omega
/-- From a place on these bytes stand. -/
def StandsAt (s : ByteArray) (q : Nat) (L : List UInt8) : Prop := ∀ i, i < L.length → q + i < s.size ∧ bt s (q + i) = ((L.getD i 0).toNat : Int)
theorem StandsAt.tail {s : ByteArray} {q : Nat} {c : UInt8} {L : List UInt8} (h : StandsAt s q (c :: L)) : StandsAt s (q + 1) L := fun i hi => by
  have := h (i + 1) (by simp; omega)
  rw [show q + 1 + i = q + (i + 1) by omega]
  simpa using this
theorem StandsAt.head {s : ByteArray} {q : Nat} {c : UInt8} {L : List UInt8} (h : StandsAt s q (c :: L)) : q < s.size ∧ bt s q = (c.toNat : Int) := by
  have := h 0 (by simp)
  simpa using this
theorem textGo_quote (s : ByteArray) (fr : Nat) : ∀ (T : List UInt8) (q : Nat) (out : List UInt8) (f : Nat), StandsAt s q (quoteL T ++ [34]) → (∀ c ∈ T, 32 ≤ c.toNat ∧ c.toNat ≤ 126) → out.length + T.length ≤ 64 → (quoteL T).length < f →
    textGo s fr f q out = (some (out ++ T), q + (quoteL T).length + 1)
  | [], q, out, f, hs, _, hl, hf => by
    obtain ⟨f, rfl⟩ : ∃ g, f = g + 1 := ⟨f - 1, by omega⟩
    obtain ⟨h1, h2⟩ := StandsAt.head (c := 34) (L := []) hs
    have h3 : bt s q = 34 := h2
    rw [textGo, if_neg (by omega), if_pos h3, if_neg (by simp at hl; omega)]
    simp [quoteL]
  | c :: T, q, out, f, hs, hp, hl, hf => by
    have hq : quoteL (c :: T) = esc1 c ++ quoteL T := by simp [quoteL]
    rw [hq] at hs hf ⊢
    obtain ⟨hc1, hc2⟩ := hp c (by simp)
    have hp2 : ∀ d ∈ T, 32 ≤ d.toNat ∧ d.toNat ≤ 126 := fun d hd => hp d (List.mem_cons_of_mem _ hd)
    simp only [List.length_cons] at hl
    cases he : escB c with
    | true =>
      have e1 : esc1 c = [92, c] := by unfold esc1; rw [he]; rfl
      rw [e1] at hs hf ⊢
      have hs1 : StandsAt s q (92 :: c :: (quoteL T ++ [34])) := hs
      obtain ⟨a1, a2⟩ := hs1.head
      obtain ⟨b1, b2⟩ := hs1.tail.head
      have a3 : bt s q = 92 := a2
      have b3 : bt s (q + 1) = 34 ∨ bt s (q + 1) = 92 := by
        unfold escB at he
        simp only [Bool.or_eq_true, beq_iff_eq] at he
        rcases he with rfl | rfl
        · left; exact b2
        · right; exact b2
      simp only [List.length_append, List.length_cons, List.length_nil] at hf
      obtain ⟨f, rfl⟩ : ∃ g, f = g + 1 := ⟨f - 1, by omega⟩
      rw [textGo, if_neg (by omega), if_neg (by omega), if_pos a3, if_pos ⟨b1, b3⟩, b2, of_nat, textGo_quote s fr T (q + 2) (out ++ [c]) f hs1.tail.tail hp2 (by simp; omega) (by omega)]
      simp
      omega
    | false =>
      have e1 : esc1 c = [c] := by unfold esc1; rw [he]; rfl
      rw [e1] at hs hf ⊢
      have hs1 : StandsAt s q (c :: (quoteL T ++ [34])) := hs
      obtain ⟨a1, a2⟩ := hs1.head
      unfold escB at he
      simp only [Bool.or_eq_false_iff, beq_eq_false_iff_ne] at he
      have n34 : ¬ bt s q = 34 := fun e => he.1 (by rw [← UInt8.toNat_inj]; show c.toNat = 34; omega)
      have n92 : ¬ bt s q = 92 := fun e => he.2 (by rw [← UInt8.toNat_inj]; show c.toNat = 92; omega)
      simp only [List.length_append, List.length_cons, List.length_nil] at hf
      obtain ⟨f, rfl⟩ : ∃ g, f = g + 1 := ⟨f - 1, by omega⟩
      rw [textGo, if_neg (by omega), if_neg n34, if_neg n92, if_neg (by omega), a2, of_nat, textGo_quote s fr T (q + 1) (out ++ [c]) f hs1.tail hp2 (by simp; omega) (by omega)]
      simp
      omega
theorem at_text {P T R : List UInt8} (hT : saysB (mk T) = true) : CutsAt (mk (P ++ ((34 :: (quoteL T ++ [34])) ++ R))) P.length ⟨3, mk T, 0, P.length⟩ (P.length + (34 :: (quoteL T ++ [34])).length) := by
  unfold saysB at hT
  simp only [Bool.and_eq_true, decide_eq_true_eq] at hT
  obtain ⟨h1, h2⟩ := hT
  rw [allB_iff] at h1
  rw [mk_size] at h1 h2
  obtain ⟨U, hU⟩ : ∃ U, U = 34 :: (quoteL T ++ [34]) := ⟨_, rfl⟩
  rw [← hU]
  have hsz : (mk (P ++ (U ++ R))).size = P.length + (U.length + R.length) := by rw [mk_size]; simp
  have hst : StandsAt (mk (P ++ (U ++ R))) P.length U := fun i hi => ⟨by omega, by rw [bt_mk, getD_mid hi]⟩
  have hul : U.length = (quoteL T).length + 2 := by rw [hU]; simp
  have hst2 : StandsAt (mk (P ++ (U ++ R))) P.length (34 :: (quoteL T ++ [34])) := by rw [← hU]; exact hst
  obtain ⟨a1, a2⟩ := hst2.head
  have a3 : bt (mk (P ++ (U ++ R))) P.length = 34 := a2
  have hpr : ∀ c ∈ T, 32 ≤ c.toNat ∧ c.toNat ≤ 126 := fun c hc => by
    obtain ⟨i, hi, rfl⟩ := List.mem_iff_getElem.1 hc
    have := h1 i hi
    rw [bt_mk, List.getD_eq_getElem?_getD, List.getElem?_eq_getElem hi] at this
    simp only [printI, Option.getD_some, Bool.and_eq_true, decide_eq_true_eq] at this
    omega
  have hgo := textGo_quote (mk (P ++ (U ++ R))) P.length T (P.length + 1) [] ((mk (P ++ (U ++ R))).size - P.length) hst2.tail hpr (by simp; exact h2) (by omega)
  refine ⟨a1, by rw [a3]; decide, not_rem (by rw [a3]; decide), ?_⟩
  unfold tokAt
  rw [a3, if_neg (by decide), if_neg (by decide), if_pos (by decide)]
  unfold textAt
  rw [hgo]
  simp only [List.nil_append]
  rw [show P.length + 1 + (quoteL T).length + 1 = P.length + U.length by omega]
  rfl
/-- What a token says, wherever it stands. -/
def atPlace (t : Tk) (p : Nat) : Tk := ⟨t.kind, t.text, t.num, p⟩
theorem at_any {t : Tk} {P R : List UInt8} (hn : t.num ≤ 9223372036854775807) (ht : 0 < (textOf t).size) (hR : Cl R) :
    CutsAt (mk (P ++ ((textOf t).data.toList ++ R))) P.length (atPlace t P.length) (P.length + (textOf t).data.toList.length) := by
  have hmk : ∀ b : ByteArray, mk b.data.toList = b := fun b => ba_ext (mk_list _)
  have hz : empB.size = 0 := rfl
  obtain ⟨k, x, n, a⟩ := t
  unfold atPlace
  unfold textOf at ht ⊢
  simp only at ht ⊢ hn
  by_cases h0 : a < 0 ∨ (k ≠ 2 ∧ n ≠ 0)
  · rw [if_pos h0, hz] at ht; omega
  · rw [if_neg h0] at ht ⊢
    by_cases k1 : k = 1
    · rw [if_pos k1] at ht ⊢
      have hn0 : n = 0 := by
        by_cases e : n = 0
        · exact e
        · exact absurd (.inr ⟨by omega, e⟩) h0
      cases hx : nameB x with
      | false => rw [hx, if_neg (by decide), hz] at ht; omega
      | true =>
        rw [if_pos rfl, k1, hn0]
        have := at_name (P := P) (U := x.data.toList) (R := R) (by rw [hmk]; exact hx) hR
        rw [hmk] at this
        exact this
    · rw [if_neg k1] at ht ⊢
      by_cases k4 : k = 4
      · rw [if_pos k4] at ht ⊢
        have hn0 : n = 0 := by
          by_cases e : n = 0
          · exact e
          · exact absurd (.inr ⟨by omega, e⟩) h0
        cases hx : isMarkB x.data.toList with
        | false => rw [hx, if_neg (by decide), hz] at ht; omega
        | true =>
          rw [if_pos rfl, k4, hn0]
          have := at_mark (P := P) (U := x.data.toList) (R := R) hx hR
          rw [hmk] at this
          exact this
      · rw [if_neg k4] at ht ⊢
        by_cases k2 : k = 2
        · rw [if_pos k2] at ht ⊢
          by_cases hx : 0 ≤ n ∧ x.size = 0
          · rw [if_pos hx, k2]
            obtain ⟨m, rfl⟩ : ∃ m : Nat, n = m := ⟨n.toNat, by omega⟩
            unfold itoaB
            rw [Lib.itoa_nonneg, show x = empB from empty_of hx.2]
            exact at_num m (by omega) hR
          · rw [if_neg hx, hz] at ht; omega
        · rw [if_neg k2] at ht ⊢
          by_cases k3 : k = 3
          · rw [if_pos k3] at ht ⊢
            have hn0 : n = 0 := by
              by_cases e : n = 0
              · exact e
              · exact absurd (.inr ⟨by omega, e⟩) h0
            cases hx : saysB x with
            | false => rw [hx, if_neg (by decide), hz] at ht; omega
            | true =>
              rw [if_pos rfl, k3, hn0]
              have e : (quotedB x).data.toList = 34 :: (quoteL x.data.toList ++ [34]) := by
                unfold quotedB quoteB
                simp
              have := at_text (P := P) (T := x.data.toList) (R := R) (by rw [hmk]; exact hx)
              rw [hmk] at this
              rw [e]
              exact this
          · rw [if_neg k3, hz] at ht; omega
end Go.Proofs.YtlaikgaepaiigaaGreatDoor.K

/- Bytes that are read whole are what is put; the errors of reading. Plain Lean. -/
import Derived.Test.YtfldicaaaadgaaaDoorCBoth
namespace Go.Proofs.YtfldicaaaadgaaaDoor.Code
open Go Go.RowKit
set_option linter.unusedVariables false
set_option linter.unusedSimpArgs false
theorem drop_getD {zs : List Int} {k : Nat} (h : k < zs.length) : zs.drop k = zs.getD k 0 :: zs.drop (k + 1) := by
  rw [List.drop_eq_getElem_cons h, List.getD_eq_getElem?_getD, List.getElem?_eq_getElem h]
  rfl
theorem readAt_right {zs : List Int} (hz : IsBytes zs) {k : Nat} (hk : k < zs.length) (h : (readAt zs (k : Int)).2 = 0) :
    RightI (readAt zs (k : Int)).1 ∧ (readAt zs (k : Int)).1.at_ = k ∧ zs.drop k = encOf (readAt zs (k : Int)).1 ++ zs.drop (k + (encOf (readAt zs (k : Int)).1).length) := by
  have hn : ¬ ((k : Int) < 0 ∨ (zs.length : Int) ≤ k) := by omega
  obtain ⟨o0, o1⟩ := hz k
  have b1 := hz (k + 1)
  have b2 := hz (k + 2)
  have b3 := hz (k + 3)
  have b4 := hz (k + 4)
  unfold readAt at h ⊢
  rw [if_neg hn] at h ⊢
  simp only [Int.toNat_natCast] at h ⊢
  obtain ⟨op, hop⟩ : ∃ op, op = zs.getD k 0 := ⟨_, rfl⟩
  rw [← hop] at h o0 o1 ⊢
  have hd := drop_getD hk
  rw [← hop] at hd
  rcases kind_or op o0 o1 with hkk | hkk | hkk | hkk | hkk
  · rw [if_pos (by omega)] at h
    simp at h
  · rw [if_neg (by omega)] at h ⊢
    by_cases hw : (zs.length : Int) - k - 1 < width (kindOf op)
    · rw [if_pos hw] at h; simp at h
    · rw [if_neg hw, if_neg (by omega), if_neg (by omega), if_neg (by omega)]
      refine ⟨.inl ⟨hkk, rfl, rfl, rfl⟩, rfl, ?_⟩
      simp only [encOf, opBytes, hkk]
      rw [hd]
      rfl
  · rw [if_neg (by omega)] at h ⊢
    by_cases hw : (zs.length : Int) - k - 1 < width (kindOf op)
    · rw [if_pos hw] at h; simp at h
    · rw [hkk] at hw
      simp only [width] at hw
      rw [if_neg (by rw [hkk]; exact hw), if_pos hkk]
      refine ⟨.inr (.inl ⟨hkk, b1, rfl, rfl⟩), rfl, ?_⟩
      simp only [encOf, opBytes, hkk]
      rw [hd, drop_getD (show k + 1 < zs.length by simp at hw; omega)]
      rfl
  · rw [if_neg (by omega)] at h ⊢
    by_cases hw : (zs.length : Int) - k - 1 < width (kindOf op)
    · rw [if_pos hw] at h; simp at h
    · rw [hkk] at hw
      simp only [width] at hw
      rw [if_neg (by rw [hkk]; exact hw), if_neg (by omega), if_pos hkk]
      refine ⟨.inr (.inr (.inl ⟨hkk, ⟨by simp only; omega, by simp only; omega⟩, rfl, rfl⟩)), rfl, ?_⟩
      simp only [encOf, opBytes, hkk]
      have e1 : (zs.getD (k + 1) 0 * 256 + zs.getD (k + 2) 0) / 256 = zs.getD (k + 1) 0 := by omega
      have e2 : (zs.getD (k + 1) 0 * 256 + zs.getD (k + 2) 0) % 256 = zs.getD (k + 2) 0 := by omega
      rw [hd, drop_getD (show k + 1 < zs.length by simp at hw; omega), drop_getD (show k + 1 + 1 < zs.length by simp at hw; omega), e1, e2]
      rfl
  · rw [if_neg (by omega)] at h ⊢
    by_cases hw : (zs.length : Int) - k - 1 < width (kindOf op)
    · rw [if_pos hw] at h; simp at h
    · rw [hkk] at hw
      simp only [width] at hw
      rw [if_neg (by rw [hkk]; exact hw), if_neg (by omega), if_neg (by omega), if_pos hkk]
      refine ⟨.inr (.inr (.inr ⟨hkk, b1, b2, ⟨by simp only; omega, by simp only; omega⟩⟩)), rfl, ?_⟩
      simp only [encOf, opBytes, hkk]
      have e1 : (zs.getD (k + 3) 0 * 256 + zs.getD (k + 4) 0) / 256 = zs.getD (k + 3) 0 := by omega
      have e2 : (zs.getD (k + 3) 0 * 256 + zs.getD (k + 4) 0) % 256 = zs.getD (k + 4) 0 := by omega
      rw [hd, drop_getD (show k + 1 < zs.length by simp at hw; omega), drop_getD (show k + 1 + 1 < zs.length by simp at hw; omega), drop_getD (show k + 1 + 1 + 1 < zs.length by simp at hw; omega), drop_getD (show k + 1 + 1 + 1 + 1 < zs.length by simp at hw; omega), e1, e2]
      rfl
theorem allGo_ok {zs : List Int} (hz : IsBytes zs) (hl : zs.length ≤ 65535) : ∀ (f k : Nat) (acc : List Ins), zs.length - k < f → k ≤ zs.length → (allGo zs f (k : Int) acc).2.1 = 0 →
    ∃ suf, allGo zs f (k : Int) acc = (acc ++ suf, 0, 0) ∧ PutOk (k : Int) suf ∧ bytesOf suf = zs.drop k ∧ ∀ x ∈ suf, 0 ≤ x.op ∧ x.op < 256
  | 0, k, acc, h, _, _ => by omega
  | f + 1, k, acc, hf, hk, h => by
    by_cases hlt : k < zs.length
    · by_cases he : (readAt zs (k : Int)).2 = 0
      · obtain ⟨r1, r2, r3⟩ := readAt_right hz hlt he
        have ho := readAt_op_range hz hlt he
        obtain ⟨q1, q2, q3, _⟩ := readAt_ok hlt he
        rw [allGo_step hlt he] at h ⊢
        obtain ⟨x, hx⟩ : ∃ x, x = (readAt zs (k : Int)).1 := ⟨_, rfl⟩
        rw [← hx] at r1 r2 r3 ho h q1 ⊢
        have hlen := r1.len.1
        have hsz : (k : Int) + sizeOf x.op = ((k + (encOf x).length : Nat) : Int) := by omega
        have hpos : 1 ≤ (encOf x).length := by simp [encOf]
        rw [← q1] at q3
        rw [hsz] at h ⊢
        obtain ⟨suf, h1, h2, h3, h4⟩ := allGo_ok hz hl f (k + (encOf x).length) (acc ++ [x]) (by omega) (by omega) h
        refine ⟨x :: suf, by rw [h1, List.append_assoc]; rfl, ⟨r2, r1, by omega, by rw [hsz]; exact h2⟩, ?_, fun y hy => ?_⟩
        · rw [r3, ← h3]
          simp [bytesOf]
        · rcases List.mem_cons.1 hy with rfl | hy
          · exact ho
          · exact h4 y hy
      · rw [allGo_err hlt he] at h
        exact absurd h he
    · rw [allGo_end hlt]
      refine ⟨[], by simp, trivial, ?_, fun y hy => by cases hy⟩
      rw [List.drop_eq_nil_of_le (by omega)]
      rfl
theorem readAt_err {zs : List Int} {k : Nat} (hk : k < zs.length) (h : (readAt zs (k : Int)).2 ≠ 0) : (readAt zs (k : Int)).2 = 40 ∨ (readAt zs (k : Int)).2 = 41 := by
  have hn : ¬ ((k : Int) < 0 ∨ (zs.length : Int) ≤ k) := by omega
  unfold readAt at h ⊢
  rw [if_neg hn] at h ⊢
  simp only [Int.toNat_natCast] at h ⊢
  by_cases c1 : kindOf (zs.getD k 0) < 0
  · rw [if_pos c1]; exact .inl rfl
  · rw [if_neg c1] at h ⊢
    by_cases c2 : (zs.length : Int) - k - 1 < width (kindOf (zs.getD k 0))
    · rw [if_pos c2]; exact .inr rfl
    · rw [if_neg c2] at h
      exfalso
      apply h
      repeat' split
      all_goals rfl
theorem allGo_bad {zs : List Int} : ∀ (f k : Nat) (acc : List Ins), (allGo zs f (k : Int) acc).2.1 ≠ 0 → ∃ (p : Nat) (e : Int), allGo zs f (k : Int) acc = ([], e, (p : Int)) ∧ p < zs.length ∧ (e = 40 ∨ e = 41)
  | 0, k, acc, h => absurd rfl h
  | f + 1, k, acc, h => by
    by_cases hlt : k < zs.length
    · by_cases he : (readAt zs (k : Int)).2 = 0
      · obtain ⟨q1, q2, q3, _⟩ := readAt_ok hlt he
        rw [allGo_step hlt he] at h ⊢
        rw [← q1] at q2 q3
        obtain ⟨m, hm⟩ := Int.eq_ofNat_of_zero_le (show 0 ≤ sizeOf (readAt zs (k : Int)).1.op by omega)
        rw [hm] at h ⊢
        have e : (k : Int) + (m : Int) = ((k + m : Nat) : Int) := by omega
        rw [e] at h ⊢
        exact allGo_bad f (k + m) _ h
      · rw [allGo_err hlt he]
        exact ⟨k, _, rfl, hlt, readAt_err hlt he⟩
    · rw [allGo_end hlt] at h
      exact absurd rfl h
/-- What reading all comes to. -/
theorem allOf_cases {zs : List Int} (hz : IsBytes zs) (hl : zs.length ≤ 65535) : (∃ (p : Nat) (e : Int), allOf zs = ([], e, (p : Int)) ∧ p < zs.length ∧ (e = 40 ∨ e = 41)) ∨ ∃ l, allOf zs = (l, 0, 0) ∧ PutOk 0 l ∧ bytesOf l = zs ∧ ∀ x ∈ l, 0 ≤ x.op ∧ x.op < 256 := by
  by_cases h : (allOf zs).2.1 = 0
  · right
    obtain ⟨suf, h1, h2, h3, h4⟩ := allGo_ok hz hl (zs.length + 1) 0 [] (by omega) (Nat.zero_le _) h
    exact ⟨suf, h1, h2, h3, h4⟩
  · left
    exact allGo_bad (zs.length + 1) 0 [] h
theorem PutOk.nth : ∀ {l : List Ins} {p : Int} {i : Nat}, PutOk p l → (h : i < l.length) → l[i].at_ = p + ((bytesOf (l.take i)).length : Int) ∧ RightI l[i]
  | x :: l, p, 0, h, _ => ⟨by simp [bytesOf]; exact h.1, h.2.1⟩
  | x :: l, p, i + 1, h, hi => by
    obtain ⟨ha, hx, hs, hl⟩ := h
    have hlen := hx.len.1
    obtain ⟨h1, h2⟩ := PutOk.nth hl (i := i) (by simpa using hi)
    refine ⟨?_, h2⟩
    have e : bytesOf ((x :: l).take (i + 1)) = encOf x ++ bytesOf (l.take i) := by simp [bytesOf]
    rw [e, List.length_append]
    have hi3 : i < l.length := by simpa using hi
    show (l[i]'hi3).at_ = _
    rw [h1]
    omega
theorem bytes_split (l : List Ins) {i : Nat} (h : i < l.length) : bytesOf l = bytesOf (l.take i) ++ (encOf l[i] ++ bytesOf (l.drop (i + 1))) := by
  have e : l = l.take i ++ (l[i] :: l.drop (i + 1)) := by rw [← List.drop_eq_getElem_cons h, List.take_append_drop]
  have hb : ∀ a b : List Ins, bytesOf (a ++ b) = bytesOf a ++ bytesOf b := fun a b => by simp [bytesOf]
  conv => lhs; rw [e]
  rw [hb]
  congr 1
theorem bytes_take {l : List Ins} {i : Nat} (h : i < l.length) : (bytesOf (l.take (i + 1))).length = (bytesOf (l.take i)).length + (encOf l[i]).length := by
  have hb : ∀ a b : List Ins, bytesOf (a ++ b) = bytesOf a ++ bytesOf b := fun a b => by simp [bytesOf]
  have h1 : bytesOf [l[i]] = encOf l[i] := by simp [bytesOf]
  rw [List.take_succ_eq_append_getElem h, hb, List.length_append, h1]
end Go.Proofs.YtfldicaaaadgaaaDoor.Code

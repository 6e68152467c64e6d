/- A text between quotes: what is escaped. Plain Lean, no program in sight. -/
import Derived.Test.YtlaikgaepaiigaaGreatDoorKText
import Derived.Laws.CopyOwn
import Derived.Lib.Bytealg
namespace Go.Proofs.YtlaikgaepaiigaaGreatDoor.K
open Go Go.RowKit
set_option linter.unusedVariables false
set_option linter.unusedSimpArgs false
def escB (c : UInt8) : Bool := c == 34 || c == 92
def esc1 (c : UInt8) : List UInt8 := if escB c then [92, c] else [c]
def quoteL (l : List UInt8) : List UInt8 := l.flatMap esc1
def cntE (l : List UInt8) : Nat := l.countP escB
def quoteB (s : ByteArray) : ByteArray := ⟨(quoteL s.data.toList).toArray⟩
theorem quoteL_app (a b : List UInt8) : quoteL (a ++ b) = quoteL a ++ quoteL b := by simp [quoteL]
theorem quoteL_snoc (l : List UInt8) (c : UInt8) : quoteL (l ++ [c]) = quoteL l ++ esc1 c := by simp [quoteL]
theorem quoteL_length (l : List UInt8) : (quoteL l).length = l.length + cntE l := by
  induction l with
  | nil => rfl
  | cons c l ih =>
    have h1 : quoteL (c :: l) = esc1 c ++ quoteL l := by simp [quoteL]
    have h2 : cntE (c :: l) = cntE l + if escB c then 1 else 0 := by simp [cntE, List.countP_cons]
    rw [h1, h2, List.length_append, ih]
    unfold esc1
    cases escB c <;> simp <;> omega
theorem quoteL_none {l : List UInt8} (h : cntE l = 0) : quoteL l = l := by
  induction l with
  | nil => rfl
  | cons c l ih =>
    have h2 : cntE (c :: l) = cntE l + if escB c then 1 else 0 := by simp [cntE, List.countP_cons]
    have h1 : quoteL (c :: l) = esc1 c ++ quoteL l := by simp [quoteL]
    cases hc : escB c with
    | true => rw [h2, hc] at h; simp at h
    | false =>
      rw [h2, hc] at h
      rw [h1, ih (by simpa using h)]
      unfold esc1
      rw [hc]
      rfl
theorem cntE_two (l : List UInt8) : cntE l = Lib.countByte l 34 + Lib.countByte l 92 := by
  unfold cntE Lib.countByte
  induction l with
  | nil => rfl
  | cons c l ih =>
    rw [List.countP_cons, List.count_cons, List.count_cons, ih]
    by_cases h1 : c = 34
    · subst h1; simp [escB]; omega
    · by_cases h2 : c = 92
      · subst h2; simp [escB]; omega
      · have e1 : (c == 34) = false := by simpa using h1
        have e2 : (c == 92) = false := by simpa using h2
        simp [escB, e1, e2]
theorem cntE_snoc (l : List UInt8) (c : UInt8) : cntE (l ++ [c]) = cntE l + if escB c then 1 else 0 := by
  unfold cntE
  rw [List.countP_append]
  simp [List.countP_cons]
theorem cntE_le (l : List UInt8) : cntE l ≤ l.length := List.countP_le_length
theorem take_snoc_b (s : ByteArray) {i : Nat} (h : i < s.size) : s.data.toList.take (i + 1) = s.data.toList.take i ++ [s[i]] := by
  rw [List.take_succ_eq_append_getElem (by simp; omega)]; rfl
/-- The text that is being made, behind i bytes. -/
def bufL (s : ByteArray) (N i : Nat) : List Value := u8L (quoteL (s.data.toList.take i)) ++ List.replicate (N - (quoteL (s.data.toList.take i)).length) (.int .u8 0)
theorem u8L_length (l : List UInt8) : (u8L l).length = l.length := by simp [u8L]
theorem bufL_length {s : ByteArray} {N i : Nat} (h : (quoteL (s.data.toList.take i)).length ≤ N) : (bufL s N i).length = N := by
  unfold bufL
  rw [List.length_append, u8L_length, List.length_replicate]
  omega
theorem quote_le (s : ByteArray) (i : Nat) : (quoteL (s.data.toList.take i)).length ≤ (quoteL s.data.toList).length := by
  have h : s.data.toList = s.data.toList.take i ++ s.data.toList.drop i := (List.take_append_drop i _).symm
  have h2 : quoteL s.data.toList = quoteL (s.data.toList.take i) ++ quoteL (s.data.toList.drop i) := by
    rw [← quoteL_app, ← h]
  rw [h2, List.length_append]
  omega
theorem bufL_plain {s : ByteArray} {N i : Nat} (h : i < s.size) (hn : escB s[i] = false) (hN : (quoteL (s.data.toList.take (i + 1))).length ≤ N) :
    (bufL s N i).set (quoteL (s.data.toList.take i)).length (.int .u8 (s[i].toNat : Int)) = bufL s N (i + 1) := by
  have e : quoteL (s.data.toList.take (i + 1)) = quoteL (s.data.toList.take i) ++ [s[i]] := by
    rw [take_snoc_b s h, quoteL_snoc]
    unfold esc1
    rw [hn]
    rfl
  rw [e, List.length_append] at hN
  unfold bufL
  rw [e]
  generalize quoteL (s.data.toList.take i) = Q at *
  simp only [List.length_cons, List.length_nil] at hN
  rw [List.set_append_right _ _ (by rw [u8L_length]; exact Nat.le_refl _), u8L_length, Nat.sub_self, List.length_append]
  obtain ⟨m, hm⟩ : ∃ m, N - Q.length = m + 1 := ⟨N - Q.length - 1, by omega⟩
  rw [hm, show N - (Q.length + [s[i]].length) = m by simp; omega]
  simp [u8L, List.replicate_succ]
theorem bufL_esc {s : ByteArray} {N i : Nat} (h : i < s.size) (hn : escB s[i] = true) (hN : (quoteL (s.data.toList.take (i + 1))).length ≤ N) :
    splice (bufL s N i) (quoteL (s.data.toList.take i)).length [.int .u8 92, .int .u8 (s[i].toNat : Int)] = bufL s N (i + 1) := by
  have e : quoteL (s.data.toList.take (i + 1)) = quoteL (s.data.toList.take i) ++ [92, s[i]] := by
    rw [take_snoc_b s h, quoteL_snoc]
    unfold esc1
    rw [hn]
    rfl
  rw [e, List.length_append] at hN
  unfold bufL splice
  rw [e]
  generalize quoteL (s.data.toList.take i) = Q at *
  simp only [List.length_cons, List.length_nil] at hN
  have hl : (u8L Q).length = Q.length := u8L_length Q
  rw [List.take_left' hl, List.drop_append, hl, List.drop_eq_nil_of_le (by rw [hl]; omega), List.nil_append, List.length_append]
  obtain ⟨m, hm⟩ : ∃ m, N - Q.length = m + 2 := ⟨N - Q.length - 2, by omega⟩
  rw [hm, show N - (Q.length + [92, s[i]].length) = m by simp; omega]
  have : Q.length + [Value.int .u8 92, Value.int .u8 (s[i].toNat : Int)].length - Q.length = 2 := by simp
  rw [this]
  simp [u8L, List.replicate_succ]
theorem bufL_zero (s : ByteArray) (N : Nat) : bufL s N 0 = List.replicate N (.int .u8 0) := by simp [bufL, quoteL, u8L]
theorem bufL_full {s : ByteArray} {N : Nat} (h : (quoteL s.data.toList).length = N) : bufL s N s.size = u8L (quoteL s.data.toList) := by
  unfold bufL
  rw [List.take_of_length_le (by simp), h, Nat.sub_self]
  simp
theorem escB_iff (c : UInt8) : escB c = true ↔ (c.toNat : Int) = 34 ∨ (c.toNat : Int) = 92 := by
  unfold escB
  rw [Bool.or_eq_true, beq_iff_eq, beq_iff_eq, ← UInt8.toNat_inj, ← UInt8.toNat_inj]
  show c.toNat = 34 ∨ c.toNat = 92 ↔ _
  omega
end Go.Proofs.YtlaikgaepaiigaaGreatDoor.K

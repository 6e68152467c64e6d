/- A text cut at a byte; numbers in the base ten. Plain Lean. -/
import Derived.Lib.SplitLaws
import Derived.Lib.Split
import Derived.Lib.AtoiAll
import Derived.Lib.SlTrimSet
namespace Go.Proofs.YtfldicaaaadgaaaGreatDoor.Code
open Go
set_option linter.unusedVariables false
set_option linter.unusedSimpArgs false
/-- What stands between the bytes c. -/
def splitC (c : UInt8) : List UInt8 → List (List UInt8)
  | [] => [[]]
  | b :: l => if b = c then [] :: splitC c l else (b :: (splitC c l).headD []) :: (splitC c l).tail
theorem splitC_pos (c : UInt8) (s : List UInt8) : 0 < (splitC c s).length := by
  cases s with
  | nil => simp [splitC]
  | cons b l => unfold splitC; split <;> simp
theorem index_cons (b c : UInt8) (l : List UInt8) : Lib.index (b :: l) [c] = if c = b then 0 else if Lib.index l [c] = -1 then -1 else Lib.index l [c] + 1 := by
  rw [Lib.index]
  simp [List.isPrefixOf]
theorem split_one (c : UInt8) : ∀ s, Lib.splitK [c] 0 (Lib.count s [c]) s = splitC c s
  | [] => by
    have h : Lib.index [] [c] = -1 := rfl
    rw [Lib.count_miss h]
    rfl
  | b :: l => by
    by_cases h : b = c
    · subst h
      rw [Lib.count_cons_eq, Nat.add_comm, Lib.splitK, index_cons, if_pos rfl, splitC, if_pos rfl, ← split_one b l]
      rfl
    · have h2 : ¬ c = b := fun e => h e.symm
      rw [Lib.count_cons_ne b c l h, splitC, if_neg h, ← split_one c l]
      cases hk : Lib.count l [c] with
      | zero => rfl
      | succ k =>
        have hi : ¬ Lib.index l [c] = -1 := fun e => by rw [Lib.count_miss e] at hk; cases hk
        have hg := Lib.index_ge l [c]
        rw [Lib.splitK, Lib.splitK, index_cons, if_neg h2, if_neg hi]
        obtain ⟨i, he⟩ := Int.eq_ofNat_of_zero_le (show 0 ≤ Lib.index l [c] by omega)
        rw [he]
        have e1 : ¬ (((i : Int) + 1 == -1) = true) := by simp; omega
        have e2 : ¬ (((i : Int) == -1) = true) := by simp
        have e3 : ((i : Int) + 1).toNat = i + 1 := by omega
        rw [if_neg e1, if_neg e2, e3]
        simp [Nat.add_assoc]
theorem split_bytes (c : UInt8) (s : ByteArray) : (Lib.splitB ⟨#[c]⟩ 0 (Lib.countB s ⟨#[c]⟩) s).map (·.data.toList) = splitC c s.data.toList := by
  rw [Lib.splitB_data]
  exact split_one c s.data.toList
theorem strs_of {l : List ByteArray} {m : List (List UInt8)} (h : l.map (·.data.toList) = m) : l.map Value.string = m.map fun p => Value.string ⟨p.toArray⟩ := by
  subst h
  rw [List.map_map]
  exact List.map_congr_left fun b _ => by simp
/-- The cells of the pieces. -/
def strsL (l : List (List UInt8)) : List Value := l.map fun p => Value.string ⟨p.toArray⟩
theorem split_cells (c : UInt8) (s : ByteArray) : (Lib.splitB ⟨#[c]⟩ 0 (Lib.countB s ⟨#[c]⟩) s).map Value.string = strsL (splitC c s.data.toList) := strs_of (split_bytes c s)
theorem split_count (c : UInt8) (s : ByteArray) : Lib.countB s ⟨#[c]⟩ + 1 = (splitC c s.data.toList).length := by
  rw [← split_bytes, List.length_map, Lib.splitB_all ⟨#[c]⟩ (Nat.le_refl 1) 0 _ s rfl]
theorem splitC_len (c : UInt8) : ∀ s, (splitC c s).length ≤ s.length + 1
  | [] => by simp [splitC]
  | b :: l => by
    have := splitC_len c l
    unfold splitC
    split <;> simp <;> omega
theorem splitC_mem (c : UInt8) : ∀ (s p : List UInt8), p ∈ splitC c s → p.length ≤ s.length
  | [], p, h => by simp [splitC] at h; subst h; simp
  | b :: l, p, h => by
    have ih := splitC_mem c l
    have hp := splitC_pos c l
    unfold splitC at h
    split at h
    · rcases List.mem_cons.1 h with rfl | h
      · simp
      · have := ih p h; simp; omega
    · rcases List.mem_cons.1 h with rfl | h
      · have := ih ((splitC c l).headD []) (by cases hc : splitC c l with | nil => rw [hc] at hp; simp at hp | cons a t => simp)
        simp only [List.length_cons]
        omega
      · have := ih p (List.mem_of_mem_tail h); simp; omega
/-! ### Numbers -/
def isDig (c : UInt8) : Bool := decide (48 ≤ c.toNat ∧ c.toNat ≤ 57)
def valL (acc : Nat) (l : List UInt8) : Nat := l.foldl (fun a c => a * 10 + (c.toNat - 48)) acc
theorem valL_nil (acc : Nat) : valL acc [] = acc := List.foldl_nil
theorem valL_cons (acc : Nat) (c : UInt8) (r : List UInt8) : valL acc (c :: r) = valL (acc * 10 + (c.toNat - 48)) r := List.foldl_cons ..
theorem valL_ge : ∀ (l : List UInt8) (acc : Nat), acc ≤ valL acc l
  | [], acc => Nat.le_refl _
  | c :: r, acc => by
    have := valL_ge r (acc * 10 + (c.toNat - 48))
    rw [valL_cons]
    exact Nat.le_trans (by omega) this
theorem valL_snoc (l : List UInt8) (acc : Nat) (c : UInt8) : valL acc (l ++ [c]) = valL acc l * 10 + (c.toNat - 48) := by
  induction l generalizing acc with
  | nil => rw [List.nil_append, valL_cons, valL_nil, valL_nil]
  | cons b l ih => rw [List.cons_append, valL_cons, ih, valL_cons]
/-- A number: digits, no nought ahead, up to 2^63 - 1. -/
def most63 : Nat := 9223372036854775807
def badNum (s : List UInt8) : Bool := s == [] || !(s.all isDig) || (decide (1 < s.length) && s.headD 0 == 48) || decide (most63 < valL 0 s)
def numL (s : List UInt8) : Option Int := if badNum s = true then none else some (valL 0 s)
theorem numL_bd {s : List UInt8} {n : Int} (h : numL s = some n) : 0 ≤ n ∧ n ≤ 9223372036854775807 := by
  unfold numL at h
  cases hb : badNum s with
  | true => rw [hb, if_pos rfl] at h; cases h
  | false =>
    rw [hb, if_neg (by decide)] at h
    unfold badNum at hb
    simp only [Bool.or_eq_false_iff] at hb
    have hb2 : ¬ most63 < valL 0 s := of_decide_eq_false hb.2
    have hb3 : most63 = 9223372036854775807 := rfl
    simp only [Option.some.injEq] at h
    rw [hb3] at hb2
    omega
theorem parse_val : ∀ (l : List UInt8) (acc : Nat), l.all isDig = true → acc < 18446744073709551616 → Lib.parseUint10 acc l = if valL acc l < 18446744073709551616 then .ok (valL acc l) else .range
  | [], acc, _, h => by rw [Lib.parseUint10, valL_nil, if_pos h]
  | c :: r, acc, hd, h => by
    rw [List.all_cons, Bool.and_eq_true] at hd
    obtain ⟨h1, h2⟩ := hd
    have h3 : 48 ≤ c.toNat ∧ c.toNat ≤ 57 := of_decide_eq_true h1
    have hg := valL_ge r (acc * 10 + (c.toNat - 48))
    rw [Lib.parseUint10, if_pos h3, valL_cons]
    by_cases h4 : 1844674407370955162 ≤ acc
    · rw [if_pos h4, if_neg (by omega)]
    · rw [if_neg h4]
      by_cases h5 : 18446744073709551616 ≤ acc * 10 + (c.toNat - 48)
      · rw [if_pos h5, if_neg (by omega)]
      · rw [if_neg h5]
        exact parse_val r _ h2 (by omega)
theorem atoi_val {s : List UInt8} (h0 : s ≠ []) (hd : s.all isDig = true) : Lib.atoiAll s = if valL 0 s ≤ 9223372036854775807 then .ok (valL 0 s : Int) else .range := by
  cases s with
  | nil => exact absurd rfl h0
  | cons c r =>
    have h1 := hd
    rw [List.all_cons, Bool.and_eq_true] at h1
    have h3 : 48 ≤ c.toNat ∧ c.toNat ≤ 57 := of_decide_eq_true h1.1
    have hm : Lib.parseMag (c :: r) = if valL 0 (c :: r) < 18446744073709551616 then .ok (valL 0 (c :: r)) else .range := by
      unfold Lib.parseMag
      rw [if_neg (by simp)]
      exact parse_val (c :: r) 0 hd (by omega)
    unfold Lib.atoiAll
    simp only
    rw [if_neg (by omega), hm]
    by_cases h4 : valL 0 (c :: r) < 18446744073709551616
    · rw [if_pos h4]
      simp only
      by_cases h5 : valL 0 (c :: r) ≤ 9223372036854775807
      · rw [if_neg (by omega), if_neg (by omega), if_neg (by omega), if_pos h5]
      · rw [if_pos (by omega), if_neg h5]
    · rw [if_neg h4, if_neg (by omega)]
def digsL : List UInt8 := [48, 49, 50, 51, 52, 53, 54, 55, 56, 57]
theorem digs_is (c : UInt8) : digsL.contains c = isDig c := by
  unfold digsL isDig
  rw [Bool.eq_iff_iff, List.contains_iff_mem, decide_eq_true_eq]
  simp only [List.mem_cons, List.not_mem_nil, or_false, ← UInt8.toNat_inj]
  show c.toNat = 48 ∨ c.toNat = 49 ∨ c.toNat = 50 ∨ c.toNat = 51 ∨ c.toNat = 52 ∨ c.toNat = 53 ∨ c.toNat = 54 ∨ c.toNat = 55 ∨ c.toNat = 56 ∨ c.toNat = 57 ↔ _
  omega
theorem trim_digs (s : List UInt8) : Lib.trimS s digsL = [] ↔ s.all isDig = true := by
  have hp : (fun c => digsL.contains c) = isDig := funext digs_is
  unfold Lib.trimS Lib.trimLeftS Lib.trimRightS
  show List.dropWhile (fun c => digsL.contains c) (List.dropWhile (fun c => digsL.contains c) s.reverse).reverse = [] ↔ _
  rw [hp]
  constructor
  · intro h
    have h1 : ∀ x ∈ (List.dropWhile isDig s.reverse).reverse, isDig x = true := by
      intro x hx
      by_cases hne : isDig x = true
      · exact hne
      · exfalso
        have : ∀ (l : List UInt8), x ∈ l → List.dropWhile isDig l ≠ [] := by
          intro l
          induction l with
          | nil => intro h; cases h
          | cons b l ih =>
            intro hm
            rw [List.dropWhile_cons]
            split
            · rcases List.mem_cons.1 hm with rfl | hm
              · rename_i hb; exact absurd hb hne
              · exact ih hm
            · simp
        exact this _ hx h
    have h2 : List.dropWhile isDig s.reverse = [] := by
      cases hc : List.dropWhile isDig s.reverse with
      | nil => rfl
      | cons a t =>
        exfalso
        have h3 := List.head_dropWhile_not (p := isDig) (l := s.reverse) (by rw [hc]; simp)
        have h4 : isDig a = false := by simpa [hc] using h3
        have h5 := h1 a (by rw [hc]; simp)
        rw [h4] at h5
        cases h5
    rw [List.all_eq_true]
    intro x hx
    have : ∀ (l : List UInt8), List.dropWhile isDig l = [] → ∀ y ∈ l, isDig y = true := by
      intro l
      induction l with
      | nil => intro _ y hy; cases hy
      | cons b l ih =>
        intro hd y hy
        rw [List.dropWhile_cons] at hd
        split at hd
        · rcases List.mem_cons.1 hy with rfl | hy
          · assumption
          · exact ih hd y hy
        · cases hd
    exact this _ h2 x (by simpa using hx)
  · intro h
    rw [List.all_eq_true] at h
    have : ∀ (l : List UInt8), (∀ y ∈ l, isDig y = true) → List.dropWhile isDig l = [] := by
      intro l
      induction l with
      | nil => intro _; rfl
      | cons b l ih =>
        intro hd
        rw [List.dropWhile_cons, if_pos (hd b (by simp))]
        exact ih fun y hy => hd y (by simp [hy])
    rw [this s.reverse (fun y hy => h y (by simpa using hy))]
    rfl
end Go.Proofs.YtfldicaaaadgaaaGreatDoor.Code

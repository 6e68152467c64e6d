/- Sources as bytes, tokens: where names, numbers, texts, marks end; the tokens of a source, or its first fault. In plain Lean, no program in sight. -/
import Derived.WalkKit
import Derived.Lib.SlBytesRow
import Derived.Test.YtlaikgaepaiigaaGreatDoorWords
namespace Go.Proofs.YtlaikgaepaiigaaGreatDoor.K
open Go Go.RowKit
set_option linter.unusedVariables false
set_option linter.unusedSimpArgs false
theorem ret_int {k : IntKind} {a b : Int} (h : a = b) : Ending.returned (.int k a) = .returned (.int k b) := by rw [h]
theorem ret_bool {a b : Bool} (h : a = b) : Ending.returned (.bool a) = .returned (.bool b) := by rw [h]
theorem ne_b {a b : Int} (h : ¬ a = b) : (a == b) = false := by simpa using h
theorem ne_b2 {a b : Int} (h : ¬ a = b) : (a != b) = true := by simpa using h
/-- The byte at a place. -/
def bt (s : ByteArray) (i : Nat) : Int := if h : i < s.size then (s[i].toNat : Int) else 0
theorem bt_range (s : ByteArray) (i : Nat) : 0 ≤ bt s i ∧ bt s i ≤ 255 := by
  unfold bt
  split
  · have := UInt8.toNat_lt s[i]; omega
  · omega
/-- A slice that holds a source. -/
def Src (w : World) (A : Option Addr) (s : ByteArray) : Prop := 0 < s.size → ∃ b o, A = some ⟨b, o, none⟩ ∧ b < w.heap.size ∧ Lib.Bytes w b o s
theorem Src.below {w w' : World} {A : Option Addr} {s : ByteArray} (h : Src w A s) (hb : Below w.heap.size w w') : Src w' A s := fun h0 => by
  obtain ⟨b, o, e, hl, hs⟩ := h h0
  exact ⟨b, o, e, Nat.lt_of_lt_of_le hl hb.size, fun i hi => (hb.cell (p := ⟨b, o + i, none⟩) hl).trans (hs i hi)⟩
theorem Src.at {w : World} {A : Option Addr} {s : ByteArray} (h : Src w A s) {i : Nat} (hi : i < s.size) : ∃ b o, A = some ⟨b, o, none⟩ ∧ b < w.heap.size ∧ Lib.Bytes w b o s ∧ w.cell? ⟨b, o + i, none⟩ = some (.int .u8 (bt s i)) := by
  obtain ⟨b, o, e, hl, hs⟩ := h (by omega)
  refine ⟨b, o, e, hl, hs, ?_⟩
  rw [hs i hi]
  unfold bt
  rw [dif_pos hi]
/-! ### Classes -/
def blankI (c : Int) : Bool := c == 9 || c == 10 || c == 13 || c == 32
def smallI (c : Int) : Bool := decide (97 ≤ c) && decide (c ≤ 122)
def greatI (c : Int) : Bool := decide (65 ≤ c) && decide (c ≤ 90) || c == 95
def digitI (c : Int) : Bool := decide (48 ≤ c) && decide (c ≤ 57)
def classI (c : Int) : Int := if blankI c then 1 else if smallI c then 2 else if greatI c then 3 else if digitI c then 4 else if c == 34 then 5 else 0
def partI (c : Int) : Bool := smallI c || greatI c || digitI c
theorem class_cases (c : Int) : (blankI c = true ∧ classI c = 1 ∧ partI c = false) ∨ (blankI c = false ∧ smallI c = true ∧ classI c = 2 ∧ partI c = true) ∨ (blankI c = false ∧ smallI c = false ∧ greatI c = true ∧ classI c = 3 ∧ partI c = true) ∨
    (blankI c = false ∧ smallI c = false ∧ greatI c = false ∧ digitI c = true ∧ classI c = 4 ∧ partI c = true) ∨ (blankI c = false ∧ smallI c = false ∧ greatI c = false ∧ digitI c = false ∧ c = 34 ∧ classI c = 5 ∧ partI c = false) ∨
    (blankI c = false ∧ smallI c = false ∧ greatI c = false ∧ digitI c = false ∧ (c == 34) = false ∧ classI c = 0 ∧ partI c = false) := by
  have hb : blankI c = true → smallI c = false ∧ greatI c = false ∧ digitI c = false := by
    intro h
    simp only [blankI, Bool.or_eq_true, beq_iff_eq] at h
    rcases h with ((rfl | rfl) | rfl) | rfl <;> decide
  cases h1 : blankI c with
  | true =>
    obtain ⟨a, b, d⟩ := hb h1
    left
    simp [classI, partI, h1, a, b, d]
  | false =>
    cases h2 : smallI c with
    | true => right; left; simp [classI, partI, h1, h2]
    | false =>
      cases h3 : greatI c with
      | true => right; right; left; simp [classI, partI, h1, h2, h3]
      | false =>
        cases h4 : digitI c with
        | true => right; right; right; left; simp [classI, partI, h1, h2, h3, h4]
        | false =>
          cases h5 : c == 34 with
          | true => right; right; right; right; left; simp only [beq_iff_eq] at h5; subst h5; simp [classI, partI, h1, h2, h3, h4]
          | false => right; right; right; right; right; simp [classI, partI, h1, h2, h3, h4, h5]
/-! ### As far as bytes are such -/
def runTo (P : Int → Bool) (s : ByteArray) : Nat → Nat → Nat
  | 0, p => p
  | f + 1, p => if p < s.size ∧ P (bt s p) = true then runTo P s f (p + 1) else p
def whileOf (P : Int → Bool) (s : ByteArray) (p : Nat) : Nat := runTo P s (s.size - p) p
theorem runTo_bd (P : Int → Bool) (s : ByteArray) : ∀ f p, p ≤ runTo P s f p ∧ (p ≤ s.size → runTo P s f p ≤ s.size)
  | 0, p => by simp [runTo]
  | f + 1, p => by
    rw [runTo]
    split
    · have := runTo_bd P s f (p + 1)
      omega
    · omega
theorem while_bd (P : Int → Bool) (s : ByteArray) (p : Nat) : p ≤ whileOf P s p ∧ (p ≤ s.size → whileOf P s p ≤ s.size) := runTo_bd P s _ p
theorem while_step {P : Int → Bool} {s : ByteArray} {p : Nat} (h : p < s.size) (hp : P (bt s p) = true) : whileOf P s p = whileOf P s (p + 1) := by
  unfold whileOf
  rw [show s.size - p = (s.size - (p + 1)) + 1 by omega, runTo, if_pos ⟨h, hp⟩]
theorem while_stop {P : Int → Bool} {s : ByteArray} {p : Nat} (h : ¬ (p < s.size ∧ P (bt s p) = true)) : whileOf P s p = p := by
  unfold whileOf
  cases hf : s.size - p with
  | zero => rfl
  | succ f => rw [runTo, if_neg h]
theorem while_all {P : Int → Bool} {s : ByteArray} : ∀ (f p i : Nat), p ≤ i → i < runTo P s f p → i < s.size ∧ P (bt s i) = true
  | 0, p, i, h1, h2 => by simp [runTo] at h2; omega
  | f + 1, p, i, h1, h2 => by
    rw [runTo] at h2
    split at h2
    · rename_i h
      by_cases e : i = p
      · subst e; exact h
      · exact while_all f (p + 1) i (by omega) h2
    · omega
/-! ### Tokens -/
structure Tk where
  kind : Int
  text : ByteArray
  num : Int
  at_ : Int
  deriving DecidableEq
def Tk.cells (t : Tk) : List Value := [.int .i8 t.kind, .string t.text, .int .i64 t.num, .int .i64 t.at_]
def Tk.val (t : Tk) : Value := .agg #[.int .i8 t.kind, .string t.text, .int .i64 t.num, .int .i64 t.at_]
inductive OneR where
  | bad (q : Nat)
  | ok (t : Tk) (q : Nat)
def empB : ByteArray := ⟨#[]⟩
/-- The number that digits say. -/
def numOf (s : ByteArray) (p : Nat) : Nat → Nat
  | 0 => 0
  | k + 1 => 10 * numOf s p k + (bt s (p + k) - 48).toNat
def digTo (s : ByteArray) (p : Nat) : Nat := if bt s p = 48 then p + 1 else whileOf digitI s p
def numberAt (s : ByteArray) (p : Nat) : OneR :=
  let q := digTo s p
  let n := numOf s p (q - p)
  if 9223372036854775807 < n then .bad p else if q < s.size ∧ partI (bt s q) = true then .bad q else .ok ⟨2, empB, n, p⟩ q
/-- What a text says, from a place on: what has been said so far. -/
def textGo (s : ByteArray) (from_ : Nat) : Nat → Nat → List UInt8 → Option (List UInt8) × Nat
  | 0, _, _ => (none, from_)
  | f + 1, p, out =>
    if s.size ≤ p ∨ bt s p = 10 then (none, from_)
    else if bt s p = 34 then (if 64 < out.length then (none, from_) else (some out, p + 1))
    else if bt s p = 92 then (if p + 1 < s.size ∧ (bt s (p + 1) = 34 ∨ bt s (p + 1) = 92) then textGo s from_ f (p + 2) (out ++ [UInt8.ofNat (bt s (p + 1)).toNat]) else (none, p))
    else if bt s p < 32 ∨ 126 < bt s p then (none, p)
    else textGo s from_ f (p + 1) (out ++ [UInt8.ofNat (bt s p).toNat])
def textAt (s : ByteArray) (p : Nat) : OneR :=
  match textGo s p (s.size - p) (p + 1) [] with
  | (none, q) => .bad q
  | (some out, q) => .ok ⟨3, ⟨out.toArray⟩, 0, p⟩ q
def nameAt (s : ByteArray) (p : Nat) : OneR := let q := whileOf partI s p; if 32 < q - p then .bad p else .ok ⟨1, s.extract p q, 0, p⟩ q
def marks2 : List (List UInt8) := [[61, 61], [33, 61], [60, 61], [62, 61], [38, 38], [124, 124]]
def marks1 : List (List UInt8) := [[123], [125], [40], [41], [59], [44], [46], [61], [33], [60], [62], [43], [45], [42], [47], [37]]
def marksL : List (List UInt8) := marks2 ++ marks1
def markLen (s : ByteArray) (p : Nat) : Nat := if p + 2 ≤ s.size ∧ marksL.contains (s.extract p (p + 2)).data.toList = true then 2 else if p + 1 ≤ s.size ∧ marksL.contains (s.extract p (p + 1)).data.toList = true then 1 else 0
def markAt (s : ByteArray) (p : Nat) : OneR := if markLen s p = 0 then .bad p else .ok ⟨4, s.extract p (p + markLen s p), 0, p⟩ (p + markLen s p)
def remB (s : ByteArray) (p : Nat) : Bool := bt s p == 47 && decide (p + 1 < s.size) && bt s (p + 1) == 47
def notNl (c : Int) : Bool := c != 10
/-- The token at a place where no blank and no remark stands. -/
def tokAt (s : ByteArray) (p : Nat) : OneR := if classI (bt s p) = 2 then nameAt s p else if classI (bt s p) = 4 then numberAt s p else if classI (bt s p) = 5 then textAt s p else markAt s p
inductive CutR where
  | bad (q : Nat)
  | ok (l : List Tk)
def CutR.cons (t : Tk) : CutR → CutR
  | .bad q => .bad q
  | .ok l => .ok (t :: l)
def CutR.pre (a : List Tk) : CutR → CutR
  | .bad q => .bad q
  | .ok l => .ok (a ++ l)
def endTk (s : ByteArray) : Tk := ⟨0, empB, 0, s.size⟩
def cutF (s : ByteArray) : Nat → Nat → CutR
  | 0, _ => .ok [endTk s]
  | f + 1, p =>
    if s.size ≤ p then .ok [endTk s]
    else if blankI (bt s p) then cutF s f (p + 1)
    else if remB s p then cutF s f (whileOf notNl s p)
    else match tokAt s p with
      | .bad q => .bad q
      | .ok t q => (cutF s f q).cons t
def cutOf (s : ByteArray) : CutR := cutF s (s.size + 1) 0
end Go.Proofs.YtlaikgaepaiigaaGreatDoor.K

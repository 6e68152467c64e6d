/- The contract of the reference's pass. -/
import Derived.Test.YtlaikgaepaiigaaGreatDoorKRefI
import Derived.Test.YtlaikgaepaiigaaGreatDoorKCut
import Derived.Deep.LoopGhost
import Derived.Handy
namespace Go.Proofs.YtlaikgaepaiigaaGreatDoor.K
open Go Go.RowKit
set_option linter.unusedVariables false
set_option linter.unusedSimpArgs false
theorem src_upd {A : Option Addr} {s : ByteArray} {w w' : World} {g : Nat} (h : Src w A s) (hA : 0 < s.size → ∀ b o, A = some ⟨b, o, none⟩ → b < g) (hu : Below g w w') : Src w' A s := fun h0 => by
  obtain ⟨b, o, e, hl, hs⟩ := h h0
  exact ⟨b, o, e, Nat.lt_of_lt_of_le hl hu.size, fun i hi => (hu.cell (p := ⟨b, o + i, none⟩) (hA h0 b o e)).trans (hs i hi)⟩
theorem isAt_rem {s : ByteArray} {q : Nat} (h : q < s.size) : isAt s q ⟨#[47, 47]⟩ = remB s q := by
  unfold isAt remB
  by_cases h1 : q + 1 < s.size
  · rw [decide_eq_true (show q + (⟨#[47, 47]⟩ : ByteArray).size ≤ s.size from h1), decide_eq_true h1]
    have e : (s.extract q (q + 2)).data.toList = [s[q], s[q + 1]] := by
      have a := extract_snoc (s := s) (p := q) (k := 1) h1
      have b := extract_snoc (s := s) (p := q) (k := 0) h
      rw [a, b]
      simp
    have e2 : ((s.extract q (q + 2)).toList == (⟨#[47, 47]⟩ : ByteArray).toList) = ([s[q], s[q + 1]] == [47, 47]) := by
      rw [ByteArray.toList_eq, ByteArray.toList_eq, e]
    show (true && ((s.extract q (q + 2)).toList == _)) = _
    rw [e2, bt_get h, bt_get h1]
    have k1 : (s[q] == 47) = (((s[q].toNat : Nat) : Int) == 47) := by
      rw [Bool.eq_iff_iff, beq_iff_eq, beq_iff_eq, ← UInt8.toNat_inj]
      show s[q].toNat = 47 ↔ _
      omega
    have k2 : (s[q + 1] == 47) = (((s[q + 1].toNat : Nat) : Int) == 47) := by
      rw [Bool.eq_iff_iff, beq_iff_eq, beq_iff_eq, ← UInt8.toNat_inj]
      show s[q + 1].toNat = 47 ↔ _
      omega
    simp [List.cons_beq_cons, k1, k2]
  · rw [decide_eq_false (show ¬ q + (⟨#[47, 47]⟩ : ByteArray).size ≤ s.size from h1), decide_eq_false h1]
    simp
theorem same' {P : Program} {f : FuncId} {a : Array Value} {W : World} {r : Ending} (h : Calls P f a W fun e w' => e = r ∧ W = w') : Calls P f a W fun e w' => e = r ∧ w' = W := h.mono fun _ _ ⟨a, b⟩ => ⟨a, b.symm⟩
theorem cut_next {s : ByteArray} {q q' : Nat} (h : q ≤ q') (hq : q < s.size) (hs : ∀ f, cutF s (f + 1) q = cutF s f q') (h1 : q < q') (P : Nat) (hP : ∀ f, s.size + 1 ≤ f + P → ∃ f', s.size + 1 ≤ f' + q ∧ cutF s f P = cutF s f' q) :
    ∀ f, s.size + 1 ≤ f + P → ∃ f', s.size + 1 ≤ f' + q' ∧ cutF s f P = cutF s f' q' := fun f hf => by
  obtain ⟨f', h2, h3⟩ := hP f hf
  obtain ⟨k, rfl⟩ : ∃ k, f' = k + 1 := ⟨f' - 1, by omega⟩
  exact ⟨k, by omega, h3.trans (hs k)⟩
end Go.Proofs.YtlaikgaepaiigaaGreatDoor.K

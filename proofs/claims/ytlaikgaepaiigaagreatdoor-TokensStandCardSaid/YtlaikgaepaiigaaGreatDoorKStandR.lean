/- A window of a source; where a fault stands. -/
import Derived.Test.YtlaikgaepaiigaaGreatDoorKStand
import Derived.Test.YtlaikgaepaiigaaGreatDoorKCopy
namespace Go.Proofs.YtlaikgaepaiigaaGreatDoor.K
open Go Go.RowKit
set_option linter.unusedVariables false
set_option linter.unusedSimpArgs false
theorem textGo_bad {s : ByteArray} {p : Nat} (hp : p < s.size) : ∀ (f q : Nat) (out : List UInt8) (q' : Nat), textGo s p f q out = (none, q') → q' < s.size
  | 0, q, out, q', h => by simp [textGo] at h; omega
  | f + 1, q, out, q', h => by
    rw [textGo] at h
    split at h
    · simp at h; omega
    · rename_i h0
      split at h
      · split at h
        · simp at h; omega
        · simp at h
      · split at h
        · split at h
          · exact textGo_bad hp f (q + 2) _ q' h
          · simp at h; omega
        · split at h
          · simp at h; omega
          · exact textGo_bad hp f (q + 1) _ q' h
theorem tok_bad {s : ByteArray} {p q : Nat} (hp : p < s.size) (h : tokAt s p = .bad q) : q < s.size := by
  unfold tokAt at h
  split at h
  · unfold nameAt at h
    simp only at h
    split at h
    · simp only [OneR.bad.injEq] at h; omega
    · cases h
  · split at h
    · unfold numberAt at h
      simp only at h
      split at h
      · simp only [OneR.bad.injEq] at h; omega
      · split at h
        · simp only [OneR.bad.injEq] at h; omega
        · cases h
    · split at h
      · unfold textAt at h
        split at h
        · rename_i q2 hgo
          simp only [OneR.bad.injEq] at h
          have := textGo_bad hp _ _ _ _ hgo
          omega
        · cases h
      · unfold markAt at h
        split at h
        · simp only [OneR.bad.injEq] at h; omega
        · cases h
theorem cutF_bad {s : ByteArray} : ∀ (f p q : Nat), cutF s f p = .bad q → q < s.size
  | 0, p, q, h => by cases h
  | f + 1, p, q, h => by
    by_cases h0 : s.size ≤ p
    · rw [cf_end h0] at h; cases h
    · cases hb : blankI (bt s p) with
      | true => rw [cf_blank h0 hb] at h; exact cutF_bad f _ q h
      | false =>
        cases hr : remB s p with
        | true => rw [cf_rem h0 hb hr] at h; exact cutF_bad f _ q h
        | false =>
          cases ht : tokAt s p with
          | bad q2 =>
            rw [cf_bad h0 hb hr ht] at h
            simp only [CutR.bad.injEq] at h
            subst h
            exact tok_bad (by omega) ht
          | ok t q2 =>
            rw [cf_ok h0 hb hr ht] at h
            cases hc : cutF s f q2 with
            | bad z =>
              rw [hc] at h
              simp only [CutR.cons, CutR.bad.injEq] at h
              subst h
              exact cutF_bad f _ _ hc
            | ok l => rw [hc] at h; cases h
theorem bOf_win (zs : List Int) (a q : Nat) (h1 : a ≤ q) (h2 : q ≤ zs.length) : bOf ((zs.drop a).take (q - a)) = (bOf zs).extract a q := by
  apply ba_ext
  rw [Lib.extract_data]
  unfold bOf
  simp [List.map_take, List.map_drop]
theorem isBytes_win {zs : List Int} (h : IsBytes zs) (a k : Nat) : IsBytes ((zs.drop a).take k) := by
  intro i
  by_cases hi : i < ((zs.drop a).take k).length
  · have e : ((zs.drop a).take k).getD i 0 = zs.getD (a + i) 0 := by
      have hl : a + i < zs.length := by simp at hi; omega
      simp only [List.getD_eq_getElem?_getD, List.getElem?_eq_getElem hi, List.getElem?_eq_getElem hl, Option.getD_some, List.getElem_take, List.getElem_drop]
    rw [e]
    exact h (a + i)
  · rw [List.getD_eq_getElem?_getD, List.getElem?_eq_none (by omega)]
    simp
theorem win_run (A : Option Addr) (c n a q : Nat) (hc : n ≤ c) (hA : A = none → c = 0) (h1 : a ≤ q) (h2 : q ≤ n) :
    ∃ A' c', (∀ W, (Instr.slice 32 (.slice A n c) (some (.int .i64 (a : Int))) (some (.int .i64 (q : Int))) none).run Tryz.prog W = .ok (.slice A' (q - a) c') W) ∧ (A' = none → c' = 0) ∧ q - a ≤ c' ∧
      ∀ W (zs : List Int), zs.length = n → G.RdS W A 1 n (zs.map (Value.int .u8)) → G.RdS W A' 1 (q - a) (((zs.drop a).take (q - a)).map (Value.int .u8)) := by
  have ht' : Tryz.prog.underlying 32 = some (.slice (Tryz.prog.elem 32)) := by simp [Program.elem, Tryz.underlying32]
  have he : Tryz.prog.elem 32 = 5 := by simp [Program.elem, Tryz.underlying32]
  have hrun : ∀ W, (Instr.slice 32 (.slice A n c) (some (.int .i64 (a : Int))) (some (.int .i64 (q : Int))) none).run Tryz.prog W = .ok (sliced A a q c 1) W := fun W => by
    rw [run_slice_lh W 32 _ _ _ ht' .i64 .i64 _ _ (by omega) (by omega) (by omega), he, size_u8]
    rfl
  have hlen : ∀ zs : List Int, zs.length = n → (((zs.drop a).take (q - a)).map (Value.int .u8)).length = (q - a) * 1 := fun zs hz => by simp; omega
  cases A with
  | none =>
    obtain rfl := hA rfl
    obtain rfl : n = 0 := by omega
    obtain rfl : q = 0 := by omega
    obtain rfl : a = 0 := by omega
    exact ⟨none, 0, fun W => by rw [hrun]; rfl, fun _ => rfl, Nat.le_refl _, fun W zs hz _ => ⟨hlen zs hz, fun h => by omega⟩⟩
  | some ad =>
    by_cases hca : c = a
    · subst hca
      obtain rfl : q = c := by omega
      refine ⟨some ad, 0, fun W => ?_, (fun h => by cases h), by omega, fun W zs hz _ => ⟨hlen zs hz, fun h => by omega⟩⟩
      rw [hrun]
      simp [sliced]
    · refine ⟨some (ad.add a), c - a, fun W => ?_, (fun h => by cases h), by omega, fun W zs hz hr => ⟨hlen zs hz, fun h => ?_⟩⟩
      · rw [hrun]
        have : (c == a) = false := by simpa using hca
        simp [sliced, hca]
      · obtain ⟨b, o, e, hl, hx⟩ := hr.2 (by omega)
        simp only [Option.some.injEq] at e
        subst e
        refine ⟨b, o + a, by simp [Addr.add], hl, fun i hi => ?_⟩
        have hi2 : i < q - a := by simp at hi; omega
        have h3 := hx (a + i) (by simp; omega)
        rw [Nat.add_assoc]
        rw [h3]
        simp only [List.getD_eq_getElem?_getD, List.getElem?_map, List.getElem?_take, List.getElem?_drop, if_pos hi2]
theorem win_conv (A' : Option Addr) (c' k : Nat) (ys : List Int) (hk : ys.length = k) (hc : k ≤ c') (hy : IsBytes ys) (W : World) (hr : G.RdS W A' 1 k (ys.map (Value.int .u8))) :
    (convert 32 9 (.slice A' k c')).run Tryz.prog W = .ok (.string (bOf ys)) W := by
  subst hk
  rcases Nat.eq_zero_or_pos ys.length with h0 | h0
  · obtain rfl := List.eq_nil_of_length_eq_zero h0
    exact conv0
  · have hs : Src W A' (bOf ys) := src_of_rd (by rw [zOf_bOf hy, bOf_size]; exact hr)
    obtain ⟨b, o, rfl, hl, hb⟩ := hs (by rw [bOf_size]; exact h0)
    have h2 := Lib.run_convert_window W 32 5 9 Tryz.underlying32 Tryz.underlying5 Tryz.underlying9 b o (bOf ys) hb 0 ys.length c' (by rw [bOf_size]; omega)
    rw [Nat.add_zero] at h2
    have e : (bOf ys).extract 0 (0 + ys.length) = bOf ys := by
      apply ba_ext
      rw [Lib.extract_data]
      simp [bOf]
      rw [List.take_of_length_le (by simp)]
    first | (rw [e] at h2; exact h2) | (rw [Nat.zero_add] at e; rw [e] at h2; exact h2) | exact h2
end Go.Proofs.YtlaikgaepaiigaaGreatDoor.K

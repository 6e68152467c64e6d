/- Tokens that are written with gaps between are cut as themselves. Plain Lean. -/
import Derived.Test.YtlaikgaepaiigaaGreatDoorKBackT
namespace Go.Proofs.YtlaikgaepaiigaaGreatDoor.K
open Go Go.RowKit
set_option linter.unusedVariables false
set_option linter.unusedSimpArgs false
def gapB (c : UInt8) : UInt8 := ([9, 10, 13, 32] : List UInt8).getD (c.toNat % 4) 0
def remL (b : List UInt8) : List UInt8 := if b.length % 3 = 1 then 47 :: 47 :: (b.filter (fun c => c != 10) ++ [10]) else []
def gapL (b : List UInt8) : List UInt8 := 32 :: (b.map gapB ++ remL b)
theorem gapB_blank (c : UInt8) : blankI ((gapB c).toNat : Int) = true := by
  unfold gapB
  have h : c.toNat % 4 < 4 := Nat.mod_lt _ (by decide)
  generalize c.toNat % 4 = k at h
  have : k = 0 ∨ k = 1 ∨ k = 2 ∨ k = 3 := by omega
  rcases this with rfl | rfl | rfl | rfl <;> decide
theorem StandsAt.app {s : ByteArray} {q : Nat} {L M : List UInt8} (h : StandsAt s q (L ++ M)) : StandsAt s q L ∧ StandsAt s (q + L.length) M := by
  refine ⟨fun i hi => ?_, fun i hi => ?_⟩
  · have := h i (by simp; omega)
    rw [List.getD_eq_getElem?_getD, List.getElem?_append_left hi, ← List.getD_eq_getElem?_getD] at this
    exact this
  · have := h (L.length + i) (by simp; omega)
    rw [List.getD_eq_getElem?_getD, List.getElem?_append_right (by omega), show L.length + i - L.length = i by omega, ← List.getD_eq_getElem?_getD, ← Nat.add_assoc] at this
    exact this
theorem gap_blanks {s : ByteArray} {e : Nat} : ∀ (L : List UInt8) (q : Nat), StandsAt s q L → (∀ c ∈ L, blankI (c.toNat : Int) = true) → Gap s (q + L.length) e → Gap s q e
  | [], q, _, _, h => h
  | c :: L, q, hs, hb, h => by
    obtain ⟨h1, h2⟩ := hs.head
    refine .blank h1 (by rw [h2]; exact hb c (by simp)) (gap_blanks L (q + 1) hs.tail (fun d hd => hb d (List.mem_cons_of_mem _ hd)) ?_)
    rw [show q + 1 + L.length = q + (c :: L).length by simp; omega]
    exact h
theorem gap_rem {s : ByteArray} {q : Nat} {B : List UInt8} (hs : StandsAt s q (47 :: 47 :: (B ++ [10]))) (hB : ∀ c ∈ B, c ≠ 10) : Gap s q (q + (47 :: 47 :: (B ++ [10])).length) := by
  obtain ⟨a1, a2⟩ := hs.head
  obtain ⟨b1, b2⟩ := hs.tail.head
  have a3 : bt s q = 47 := a2
  have b3 : bt s (q + 1) = 47 := b2
  obtain ⟨c1, c2⟩ := hs.tail.tail.app
  obtain ⟨d1, d2⟩ := c2.head
  have d3 : bt s (q + 1 + 1 + B.length) = 10 := d2
  have hw : whileOf notNl s q = q + 2 + B.length := while_to (P := notNl) (by rw [show q + 2 + B.length = q + 1 + 1 + B.length by omega, d3]; rintro ⟨_, h⟩; revert h; decide) _ _ rfl (by omega) (fun i h1 h2 => by
    by_cases e0 : i = q
    · subst e0; exact ⟨a1, by rw [a3]; decide⟩
    · by_cases e1 : i = q + 1
      · subst e1; exact ⟨b1, by rw [b3]; decide⟩
      · obtain ⟨x1, x2⟩ := c1 (i - (q + 1 + 1)) (by omega)
        rw [show q + 1 + 1 + (i - (q + 1 + 1)) = i by omega] at x1 x2
        refine ⟨x1, ?_⟩
        have hlt : i - (q + 1 + 1) < B.length := by omega
        have hne := hB B[i - (q + 1 + 1)] (List.getElem_mem hlt)
        rw [List.getD_eq_getElem?_getD, List.getElem?_eq_getElem hlt] at x2
        unfold notNl
        rw [bne_iff_ne]
        intro e
        apply hne
        rw [← UInt8.toNat_inj]
        simp only [Option.getD_some] at x2
        show _ = 10
        omega)
  refine .rem a1 (by rw [a3]; decide) (by unfold remB; rw [a3, b3, decide_eq_true b1]; rfl) ?_
  rw [hw]
  refine .blank (by omega) (by rw [show q + 2 + B.length = q + 1 + 1 + B.length by omega, d3]; decide) ?_
  rw [show q + (47 :: 47 :: (B ++ [10])).length = q + 2 + B.length + 1 by simp; omega]
  exact .nil _
theorem gap_of {s : ByteArray} {q : Nat} {b : List UInt8} (hs : StandsAt s q (gapL b)) : Gap s q (q + (gapL b).length) := by
  unfold gapL at hs ⊢
  obtain ⟨h1, h2⟩ := hs.head
  obtain ⟨t1, t2⟩ := hs.tail.app
  have h3 : bt s q = 32 := h2
  refine .blank h1 (by rw [h3]; decide) (gap_blanks _ _ t1 (fun c hc => by
    obtain ⟨d, _, rfl⟩ := List.mem_map.1 hc
    exact gapB_blank d) ?_)
  have e : q + (32 :: (b.map gapB ++ remL b)).length = q + 1 + (b.map gapB).length + (remL b).length := by simp; omega
  rw [e]
  unfold remL at t2 ⊢
  split
  · rename_i hm
    rw [if_pos hm] at t2
    exact gap_rem t2 (fun c hc => by
      have := (List.mem_filter.1 hc).2
      simpa using this)
  · exact .nil _
theorem gap_one {s : ByteArray} {q : Nat} (hs : StandsAt s q [32]) : Gap s q (q + 1) := by
  obtain ⟨h1, h2⟩ := hs.head
  have h3 : bt s q = 32 := h2
  exact .blank h1 (by rw [h3]; decide) (.nil _)
/-- Blanks, or a remark; a blank first. -/
def IsGap (g : List UInt8) : Prop := g = [32] ∨ ∃ b, g = gapL b
theorem isGap_gap {g : List UInt8} (h : IsGap g) {s : ByteArray} {q : Nat} (hs : StandsAt s q g) : Gap s q (q + g.length) := by
  rcases h with rfl | ⟨b, rfl⟩
  · exact gap_one hs
  · exact gap_of hs
theorem isGap_cl {g : List UInt8} (h : IsGap g) (R : List UInt8) : Cl (g ++ R) := by
  right
  rcases h with rfl | ⟨b, rfl⟩ <;> rfl
/-! ### Cut from a place on -/
theorem cutF_fuel {s : ByteArray} (hs : s.size ≤ 65536) : ∀ (f g p : Nat), s.size - p < f → s.size - p < g → cutF s f p = cutF s g p
  | 0, g, p, h, _ => by omega
  | f + 1, 0, p, _, h => by omega
  | f + 1, g + 1, p, h1, h2 => by
    by_cases h0 : s.size ≤ p
    · rw [cf_end h0, cf_end h0]
    · cases hb : blankI (bt s p) with
      | true => rw [cf_blank h0 hb, cf_blank h0 hb]; exact cutF_fuel hs f g (p + 1) (by omega) (by omega)
      | false =>
        cases hr : remB s p with
        | true =>
          obtain ⟨_, _, _, r4⟩ := rem_run hr
          rw [cf_rem h0 hb hr, cf_rem h0 hb hr]
          exact cutF_fuel hs f g _ (by omega) (by omega)
        | false =>
          cases ht : tokAt s p with
          | bad q => rw [cf_bad h0 hb hr ht, cf_bad h0 hb hr ht]
          | ok t q =>
            obtain ⟨_, a2, _⟩ := tok_stands hs (by omega) hb ht
            rw [cf_ok h0 hb hr ht, cf_ok h0 hb hr ht, cutF_fuel hs f g q (by omega) (by omega)]
def cutA (s : ByteArray) (p : Nat) : CutR := cutF s (s.size - p + 1) p
theorem cutA_gap {s : ByteArray} (hs : s.size ≤ 65536) {b a : Nat} (h : Gap s b a) : cutA s b = cutA s a := by
  induction h with
  | nil b => rfl
  | @blank b a h1 h2 h3 ih =>
    rw [← ih]
    unfold cutA
    rw [cf_blank (by omega) h2]
    exact cutF_fuel hs _ _ _ (by omega) (by omega)
  | @rem b a h1 h2 h3 h4 ih =>
    rw [← ih]
    obtain ⟨_, _, _, r4⟩ := rem_run h3
    unfold cutA
    rw [cf_rem (by omega) h2 h3]
    exact cutF_fuel hs _ _ _ (by omega) (by omega)
theorem cutA_tok {s : ByteArray} (hs : s.size ≤ 65536) {p q : Nat} {t : Tk} (h : CutsAt s p t q) : cutA s p = (cutA s q).cons t := by
  obtain ⟨h1, h2, h3, h4⟩ := h
  obtain ⟨_, a2, _⟩ := tok_stands hs h1 h2 h4
  unfold cutA
  rw [cf_ok (by omega) h2 h3 h4, cutF_fuel hs _ (s.size - q + 1) _ (by omega) (by omega)]
/-- What has been written so far is cut as these tokens, whatever follows behind a blank. -/
def Bk (src : List UInt8) (want : List Tk) : Prop := ∀ R, Cl R → (src ++ R).length ≤ 65536 → cutA (mk (src ++ R)) 0 = (cutA (mk (src ++ R)) src.length).pre want
theorem bk_nil : Bk [] [] := fun R _ _ => by rw [pre_nil]; rfl
theorem bk_tok {src g : List UInt8} {want : List Tk} {t : Tk} (h : Bk src want) (hg : IsGap g) (hn : t.num ≤ 9223372036854775807) (ht : 0 < (textOf t).size) :
    Bk (src ++ g ++ (textOf t).data.toList) (want ++ [atPlace t (src ++ g).length]) := by
  intro R hR hl
  obtain ⟨U, hU⟩ : ∃ U, U = (textOf t).data.toList := ⟨_, rfl⟩
  have ha := at_any (P := src ++ g) (R := R) hn ht hR
  rw [← hU] at hl ha ⊢
  have e1 : src ++ g ++ U ++ R = src ++ (g ++ (U ++ R)) := by simp
  have e2 : (src ++ g) ++ (U ++ R) = src ++ (g ++ (U ++ R)) := by simp
  rw [e2] at ha
  rw [e1] at hl ⊢
  have hsz : (mk (src ++ (g ++ (U ++ R)))).size ≤ 65536 := by rw [mk_size]; exact hl
  have hst : StandsAt (mk (src ++ (g ++ (U ++ R)))) src.length g := fun i hi => ⟨by rw [mk_size]; simp; omega, by rw [bt_mk, getD_mid hi]⟩
  rw [h (g ++ (U ++ R)) (isGap_cl hg _) hl, cutA_gap hsz (isGap_gap hg hst), show src.length + g.length = (src ++ g).length by simp, cutA_tok hsz ha, pre_cons, show (src ++ g).length + U.length = (src ++ g ++ U).length by simp [Nat.add_assoc]]
theorem bk_end {src : List UInt8} {want : List Tk} (h : Bk src want) (hl : src.length ≤ 65536) : resOf (mk src) = (want ++ [⟨0, empB, 0, src.length⟩], 0, 0) := by
  have h1 := h [] (.inl rfl) (by simpa using hl)
  rw [List.append_nil] at h1
  have h2 : cutA (mk src) src.length = .ok [endTk (mk src)] := cf_end (by rw [mk_size]; exact Nat.le_refl _)
  rw [h2] at h1
  refine resOf_ok (by rw [mk_size]; exact hl) ?_
  unfold cutOf
  exact h1
end Go.Proofs.YtlaikgaepaiigaaGreatDoor.K

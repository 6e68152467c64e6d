/- An argument that is a list of rows of bytes, opened. -/
import Derived.Test.YtlaikgaepaiigaaGreatDoorKOpenT
import Derived.Test.YtlaikgaepaiigaaGreatDoorKGap
import Derived.Deep.Matrix
namespace Go.Proofs.YtlaikgaepaiigaaGreatDoor.K
open Go Go.RowKit Go.ChangeShapes Go.WideShapes Go.Deep
set_option linter.unusedVariables false
set_option linter.unusedSimpArgs false
/-- The row of bytes at a place of a list of rows. -/
def RowAt (w : World) (b off i : Nat) (bs : List UInt8) : Prop := ∃ Ai ci, w.cell? ⟨b, off + i, none⟩ = some (.slice Ai bs.length ci) ∧ b < w.heap.size ∧ G.RdS w Ai 1 bs.length (u8L bs)
theorem RowAt.below {w w' : World} {b off i : Nat} {bs : List UInt8} (h : RowAt w b off i bs) (hb : Below w.heap.size w w') : RowAt w' b off i bs := by
  obtain ⟨Ai, ci, h1, h2, h3⟩ := h
  exact ⟨Ai, ci, (hb.cell (p := ⟨b, off + i, none⟩) h2).trans h1, Nat.lt_of_lt_of_le h2 hb.size, h3.below hb⟩
set_option maxRecDepth 100000 in
theorem open_rows {H : Type} {enc : TypeId × Value → H} {w : World} {d : DataW H} {ps : List MemPlace} {v : Value} {base : Nat} (hval : Value.okWide Tryz.prog w .any base 30 v)
    (h : DataW.Trod enc Tryz.prog w 0 (fun _ => true) true 30 v d ps) :
    ∃ A n c, v = .slice A n c ∧ (0 < n → ∃ b off, A = some ⟨b, off, none⟩ ∧ ∃ row : Nat → List UInt8, ∀ i, i < n → RowAt w b off i (row i)) := by
  obtain ⟨a0, len0, cap0, rfl⟩ := okWide_slice Tryz.underlying30 hval
  obtain ⟨fuel, hf⟩ := h
  rcases open_int_rows Tryz.underlying30 Tryz.underlying32 Tryz.underlying5 (by kernel_rfl) (by kernel_rfl) hf with ⟨hcs, hx⟩ | ⟨a, len, cap, A, L, C, Z, hcs, _, hl, hm, hx, hi⟩
  · simp [Value.cells] at hcs
    obtain ⟨rfl, rfl, rfl⟩ := hcs
    exact ⟨none, 0, 0, rfl, fun h => by omega⟩
  · simp [Value.cells] at hcs
    obtain ⟨rfl, rfl, rfl⟩ := hcs
    refine ⟨some a, len0, cap0, rfl, fun h0 => ?_⟩
    have h00 := (hi 0 (by omega)).1
    obtain ⟨b, off, rfl⟩ := G.plain_addr h00 (by omega)
    refine ⟨b, off, rfl, fun i => ((Z i).take (L i)).map fun z => UInt8.ofNat z.toNat, fun i hil => ?_⟩
    obtain ⟨c1, c2, c3, c4, c5, c6, c7⟩ := hi i (by omega)
    have hzl : (((Z i).take (L i)).map fun z => UInt8.ofNat z.toNat).length = L i := by simp; omega
    rw [Addr.add_lit] at c1
    refine ⟨A i, C i, by rw [hzl]; exact c1, World.block_lt_of_cell? _ _ c1, by unfold u8L; simp, fun hpos => ?_⟩
    rw [hzl] at hpos
    cases hA : A i with
    | none => have := c6 hA; omega
    | some a' =>
      obtain ⟨_, hcell⟩ := c7 a' hA
      obtain ⟨b2, off2, spot⟩ := a'
      have hspot : spot = none := by simpa [Addr.add] using World.cell?_spot (hcell 0 (by omega))
      subst hspot
      have hz0 := hcell 0 (by omega)
      rw [Addr.add_lit] at hz0
      refine ⟨b2, off2, rfl, World.block_lt_of_cell? _ _ hz0, fun j hj => ?_⟩
      have hj' : j < L i := by unfold u8L at hj; rw [List.length_map, hzl] at hj; exact hj
      have hjz : j < (Z i).length := by omega
      have h := hcell j (by omega)
      rw [Addr.add_lit] at h
      rw [h]
      have hb := bounds_u8 (c5 _ (List.getElem_mem hjz))
      unfold u8L
      simp only [List.getD_eq_getElem?_getD, List.getElem?_map, List.getElem?_take, if_pos hj', List.getElem?_eq_getElem hjz, Option.map_some, Option.getD_some]
      rw [UInt8.toNat_ofNat']
      have e : (((Z i)[j].toNat % 2 ^ 8 : Nat) : Int) = (Z i)[j] := by omega
      rw [e]
theorem gapL_len (bs : List UInt8) : (gapL bs).length ≤ 2 * bs.length + 4 := by
  unfold gapL remL
  have h1 := List.length_filter_le (fun c : UInt8 => c != 10) bs
  split <;> simp <;> omega
theorem gap_any (A : Option Addr) (n c i : Nat) (w : World) (hn : n ≤ 16777216) (hi : i ≤ 16777216) (hrow : i < n → ∃ b off bs, A = some ⟨b, off, none⟩ ∧ RowAt w b off i bs) :
    ∃ g, IsGap g ∧ g.length ≤ 2004 ∧ Calls Tryz.prog 11 #[.slice A n c, .int .i64 i] w (GapPost g w) := by
  by_cases h : i < n
  · obtain ⟨b, off, bs, rfl, Ai, ci, h1, h2, h3⟩ := hrow h
    by_cases hb : 1000 < bs.length
    · exact ⟨[32], .inl rfl, by simp, gap_big b off n c i Ai bs.length ci w h hn h1 h2 hb⟩
    · exact ⟨gapL bs, .inr ⟨bs, rfl⟩, by have := gapL_len bs; omega, gap_in b off n c i Ai ci bs w h hn h1 h2 (by omega) h3⟩
  · exact ⟨[32], .inl rfl, by simp, gap_out A n c i w (by omega) hi⟩
end Go.Proofs.YtlaikgaepaiigaaGreatDoor.K

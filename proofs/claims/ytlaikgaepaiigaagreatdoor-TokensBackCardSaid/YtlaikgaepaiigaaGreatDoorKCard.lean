/- What a settled world that the cards speak of gives the walks: strings.Contains in all worlds behind it, strconv.ErrRange's cell; sources opened. -/
import Derived.Test.YtlaikgaepaiigaaGreatDoorCards
import Derived.Test.YtlaikgaepaiigaaGreatDoorTie
import Derived.Test.YtlaikgaepaiigaaGreatDoorKBytes
import Derived.ProofKit
import Derived.OpenShut
import Derived.Deep.DeepHandedRow
import Derived.Deep.DeepWitnessRowRef
import Derived.Stop.LaidErr
import Derived.Lay
import Derived.WalkSmall
namespace Go.Proofs.YtlaikgaepaiigaaGreatDoor.K
open Go.ChangeShapes Go.WideShapes Go.ChangeAt Go.RowKit
set_option linter.unusedVariables false
set_option linter.unusedSimpArgs false
theorem own : ownKnob Tryz.prog.godebug = none := by kernel_rfl
theorem laidOut : laidOutB Tryz.prog = true := by kernel_rfl
theorem cells5 : Tryz.prog.cellsOf 5 = 1 := by kernel_rfl
theorem star : "*" ++ "errors.errorString" = "*errors.errorString" := by decide
theorem rowErr (u : TypeId) (h : Tryz.prog.typeName? 3 u = some "*errors.errorString") : u = 152 :=
  typeName_ptr_named (nm := "errors.errorString") (by rw [star]; kernel_rfl) (by kernel_rfl) (by decide) u (by rw [star]; exact h)
theorem gErr : Tryz.prog.globalNamed "strconv.ErrRange" = some 3 := by kernel_rfl
theorem gErrType : (Tryz.prog.globals[3]?).map (·.type) = some 74 := by kernel_rfl
theorem cellsErr : Tryz.prog.cellsOf 154 = 1 := by kernel_rfl
theorem cellsStr : Tryz.prog.cellsOf 9 = 1 := by kernel_rfl
set_option maxRecDepth 100000 in
theorem lib_in {W : World} (hsh : W.ShapedOpen Tryz.prog) (h : laidMet Tryz.prog [("math/bits.deBruijn32tab", Rows.laid_math_bits_deBruijn32tab), ("math/bits.deBruijn64tab", Rows.laid_math_bits_deBruijn64tab), ("internal/strconv.uint64pow10", Rows.laid_internal_strconv_uint64pow10), ("strconv.ErrRange", Rows.laid_strconv_ErrRange), ("strconv.ErrSyntax", Rows.laid_strconv_ErrSyntax)] W) : LibIn W := by
  refine ⟨fun s sub W' hs hb => (Tryz.strings_Contains_shaped s sub W' (hsh.keptBut (hb.frame (fun _ => False)) (fun _ h => h.elim)) hs).mono fun e w' ⟨he, hw⟩ => ⟨he, hw.symm⟩, ?_⟩
  obtain ⟨a, s, hv, _, _, _⟩ := laid_sentinel h.tail.tail.tail gErr gErrType Tryz.underlying74 rowErr Tryz.underlying152 Tryz.underlying154 rfl rfl Tryz.underlying9 cellsErr cellsStr
  refine ⟨.iface 152 (.pointer (some a)), ?_, .inr ⟨_, _, rfl⟩⟩
  simpa using World.var?_cell gErr hv 0
set_option maxRecDepth 100000 in
/-- A []byte argument, opened. -/
theorem open_src {H : Type} {enc : TypeId × Value → H} {W : World} {base : Nat} {v : Value} {d : DataW H} {p : List MemPlace} (hv : Value.okWide Tryz.prog W .any base 32 v)
    (h0 : DataW.Trod enc Tryz.prog W 0 (fun _ => true) true 32 v d p) (hlt : ∀ x ∈ p, x.block < W.heap.size) :
    ∃ A c zs, v = .slice A zs.length c ∧ zs.length ≤ c ∧ zs.length ≤ maxLen ∧ IsBytes zs ∧ G.RdS W A 1 zs.length (zs.map (Value.int .u8)) ∧ (A = none → c = 0) := by
  obtain ⟨a0, len, cap, rfl⟩ := okWide_slice Tryz.underlying32 hv
  obtain ⟨fuel, hf⟩ := h0
  rcases open_ints Tryz.underlying32 Tryz.underlying5 cells5 hf with ⟨hcs, hx⟩ | ⟨a, len', cap', zs, hcs, _, hl, hm, hz, hx, hcell, hwz⟩
  · simp [Value.cells] at hcs
    obtain ⟨rfl, rfl, rfl⟩ := hcs
    exact ⟨none, 0, [], rfl, Nat.le_refl _, by simp [maxLen], fun j => by simp, G.RdS.nil _, fun _ => rfl⟩
  · simp [Value.cells] at hcs
    obtain ⟨rfl, rfl, rfl⟩ := hcs
    simp only [Prod.mk.injEq] at hx
    obtain ⟨rfl, rfl⟩ := hx
    simp only [if_true] at hz
    have hzl : (zs.take len).length = len := by rw [List.length_take]; omega
    refine ⟨some a, cap, zs.take len, by rw [hzl], by rw [hzl]; exact hl, by rw [hzl]; omega, fun j => ?_, ⟨by simp, fun hpos => ?_⟩, fun h => by cases h⟩
    · rw [List.getD_eq_getElem?_getD, List.getElem?_take]
      split
      · rename_i hj
        have hj2 : j < zs.length := by omega
        have := bounds_u8 (hwz _ (List.getElem_mem hj2))
        rw [List.getElem?_eq_getElem hj2]
        simp only [Option.getD_some]
        omega
      · simp
    · rw [hzl] at hpos
      obtain ⟨b, off, spot⟩ := a
      have hspot : spot = none := by simpa [Addr.add] using World.cell?_spot (hcell 0 (by omega))
      subst hspot
      have hbW : b < W.heap.size := hlt (.cell b off) (MemPlace.mem_row.2 ⟨0, by omega, by simp⟩)
      refine ⟨b, off, rfl, hbW, fun j hj => ?_⟩
      have hj' : j < len := by rw [List.length_map, hzl] at hj; exact hj
      have h := hcell j (by omega)
      rw [Addr.add_lit] at h
      rw [h]
      show some (Value.int .u8 (zs.getD j 0)) = some (((zs.take len).map (Value.int .u8))[j]?.getD undef)
      rw [List.getElem?_map, List.getElem?_take, if_pos hj', List.getElem?_eq_getElem (by omega : j < zs.length)]
      simp [List.getD_eq_getElem?_getD, List.getElem?_eq_getElem (show j < zs.length by omega)]
end Go.Proofs.YtlaikgaepaiigaaGreatDoor.K

/- What a settled world that the cards of Parse speak of gives the walks: the library's answers; arguments opened. -/
import Derived.Test.YtfldicaaaadgaaaGreatDoorCards
import Derived.Test.YtfldicaaaadgaaaGreatDoorTie
import Derived.Test.YtfldicaaaadgaaaGreatDoorCOwn
import Derived.ProofKit
import Derived.OpenShut
import Derived.Deep.DeepHandedRow
import Derived.Deep.DeepWitnessRowRef
import Derived.Stop.LaidErr
import Derived.Lib.LaidTab
import Derived.Lib.SmallJoins
import Derived.Lay
import Derived.WalkSmall
namespace Go.Proofs.YtfldicaaaadgaaaGreatDoor.Code
open Go.ChangeShapes Go.WideShapes Go.ChangeAt Go.RowKit
set_option linter.unusedVariables false
set_option linter.unusedSimpArgs false
theorem ownP : ownKnob Tryz.prog.godebug = none := by kernel_rfl
theorem laidOutP : laidOutB Tryz.prog = true := by kernel_rfl
theorem cells5 : Tryz.prog.cellsOf 5 = 1 := by kernel_rfl
theorem cells3 : Tryz.prog.cellsOf 3 = 1 := by kernel_rfl
theorem star : "*" ++ "errors.errorString" = "*errors.errorString" := by decide
theorem rowErr (u : TypeId) (h : Tryz.prog.typeName? 3 u = some "*errors.errorString") : u = 204 :=
  typeName_ptr_named (nm := "errors.errorString") (by rw [star]; kernel_rfl) (by kernel_rfl) (by decide) u (by rw [star]; exact h)
theorem gErr : Tryz.prog.globalNamed "strconv.ErrRange" = some 5 := by kernel_rfl
theorem gErrType : (Tryz.prog.globals[5]?).map (·.type) = some 84 := by kernel_rfl
theorem cellsErr : Tryz.prog.cellsOf 206 = 1 := by kernel_rfl
theorem cellsStr : Tryz.prog.cellsOf 9 = 1 := by kernel_rfl
theorem gTabP : Tryz.prog.globalNamed "internal/strconv.uint64pow10" = some 1 := by kernel_rfl
theorem gTabTypeP : (Tryz.prog.globals[1]?).map (·.type) = some 184 := by kernel_rfl
theorem cellsTab : Tryz.prog.cellsOf 184 = 20 := by kernel_rfl
theorem cellsU64 : Tryz.prog.cellsOf 108 = 1 := by kernel_rfl
theorem pow10_dataP {H : Type} : (Rows.laid_internal_strconv_uint64pow10 : DataW H) = Lib.tabData .u64 Lib.pow10Tab := rfl
abbrev laidP : List (String × DataW Unit) := [("math/bits.deBruijn32tab", Rows.laid_math_bits_deBruijn32tab), ("math/bits.deBruijn64tab", Rows.laid_math_bits_deBruijn64tab), ("internal/strconv.uint64pow10", Rows.laid_internal_strconv_uint64pow10), ("unicode/utf8.acceptRanges", Rows.laid_unicode_utf8_acceptRanges), ("strconv.ErrRange", Rows.laid_strconv_ErrRange), ("strconv.ErrSyntax", Rows.laid_strconv_ErrSyntax), ("unicode/utf8.first", Rows.laid_unicode_utf8_first)]
set_option maxRecDepth 100000 in
theorem libP_in {W : World} (hsh : W.ShapedOpen Tryz.prog) (h : laidMet Tryz.prog laidP W) : LibP W := by
  obtain ⟨a, s, hv, _, _, _⟩ := laid_sentinel h.tail.tail.tail.tail gErr gErrType Tryz.underlying84 rowErr Tryz.underlying204 Tryz.underlying206 rfl rfl Tryz.underlying9 cellsErr cellsStr
  refine libP_of hsh (ev := .iface 204 (.pointer (some a))) ?_ (.inr ⟨_, _, rfl⟩)
  simpa using World.var?_cell gErr hv 0
theorem pow10_atP {W : World} (h : laidMet Tryz.prog laidP W) : Lib.TabIs Tryz.prog W "internal/strconv.uint64pow10" .u64 Lib.pow10Tab := by
  obtain ⟨ps, ⟨g1, t1, c1, f1, p1, q1, _, _, _, _, hl, _⟩, _⟩ := h
  obtain ⟨g2, t2, c2, f2, p2, q2, _, _, _, _, hl2, _⟩ := hl
  obtain ⟨g', t', cs, fuel, p, q, hg', ht', hvar, hd, _, _⟩ := hl2
  obtain rfl := Option.some.inj (gTabP.symm.trans hg')
  obtain rfl := Option.some.inj (gTabTypeP.symm.trans ht')
  rw [pow10_dataP] at hd
  unfold Lib.TabIs
  rw [hvar, ← Lib.cells_of_tab Tryz.underlying184 Tryz.underlying108 cellsU64 cellsTab hd]
theorem grow_belowP (w : World) (k : Nat) (os : Array Obj) : Below w.heap.size w (Sort.grow (w.drewN k) os) :=
  ⟨rfl, rfl, rfl, by simp [Sort.grow], fun i hi => by
    show (w.heap ++ os)[i]? = _
    rw [Array.getElem?_append, if_pos hi]⟩
theorem var_belowP {P : Program} {B g : Nat} {W W' : World} {n : String} {cs : Array Value} (h : Below B W W') (hg : P.globalNamed n = some g) (hgB : g < B) (hv : W.var? P n = some cs) : W'.var? P n = some cs := by
  unfold World.var? at hv ⊢
  rw [hg] at hv ⊢
  simp only [Option.bind_some] at hv ⊢
  rw [h.block g hgB]
  exact hv
theorem itoa_inP {w : World} (h : Lib.TabIs Tryz.prog w "internal/strconv.uint64pow10" .u64 Lib.pow10Tab) : ItoaIn w := by
  intro n W h0 h1 hb
  have hlt : 1 < w.heap.size := by
    unfold Lib.TabIs World.var? at h
    rw [gTabP] at h
    simp only [Option.bind_some] at h
    rcases Nat.lt_or_ge 1 w.heap.size with e | e
    · exact e
    · rw [Array.getElem?_eq_none e] at h
      simp at h
  refine (Tryz.strconv_Itoa n (by omega) (by omega) W (var_belowP hb gTabP hlt h)).mono ?_
  rintro e w' ⟨rfl, k, os, rfl⟩
  exact ⟨rfl, grow_belowP _ _ _⟩
set_option maxRecDepth 100000 in
/-- A []byte argument, opened. -/
theorem open_bytes {H : Type} {enc : TypeId × Value → H} {W : World} {base : Nat} {v : Value} {d : DataW H} {p : List MemPlace} (hv : Value.okWide Tryz.prog W .any base 58 v)
    (h0 : DataW.Trod enc Tryz.prog W 0 (fun _ => true) true 58 v d p) (hlt : ∀ x ∈ p, x.block < W.heap.size) :
    ∃ A c zs, v = .slice A zs.length c ∧ zs.length ≤ c ∧ zs.length ≤ maxLen ∧ IsBytes zs ∧ G.RdS W A 1 zs.length (u8s zs) ∧ (A = none → c = 0) := by
  obtain ⟨a0, len, cap, rfl⟩ := okWide_slice Tryz.underlying58 hv
  obtain ⟨fuel, hf⟩ := h0
  rcases open_ints Tryz.underlying58 Tryz.underlying5 cells5 hf with ⟨hcs, hx⟩ | ⟨a, len', cap', zs, hcs, _, hl, hm, hz, hx, hcell, hwz⟩
  · simp [Value.cells] at hcs
    obtain ⟨rfl, rfl, rfl⟩ := hcs
    exact ⟨none, 0, [], rfl, Nat.le_refl _, by simp [maxLen], fun j => by simp, G.RdS.nil _, fun _ => rfl⟩
  · simp [Value.cells] at hcs
    obtain ⟨rfl, rfl, rfl⟩ := hcs
    simp only [Prod.mk.injEq] at hx
    obtain ⟨rfl, rfl⟩ := hx
    simp only [if_true] at hz
    have hzl : (zs.take len).length = len := by rw [List.length_take]; omega
    refine ⟨some a, cap, zs.take len, by rw [hzl], by rw [hzl]; exact hl, by rw [hzl]; omega, fun j => ?_, ⟨by simp [u8s], fun hpos => ?_⟩, fun h => by cases h⟩
    · rw [List.getD_eq_getElem?_getD, List.getElem?_take]
      split
      · rename_i hj
        have hj2 : j < zs.length := by omega
        have := bounds_u8 (hwz _ (List.getElem_mem hj2))
        rw [List.getElem?_eq_getElem hj2]
        simp only [Option.getD_some]
        omega
      · simp
    · rw [hzl] at hpos
      obtain ⟨b, off, spot⟩ := a
      have hspot : spot = none := by simpa [Addr.add] using World.cell?_spot (hcell 0 (by omega))
      subst hspot
      have hbW : b < W.heap.size := hlt (.cell b off) (MemPlace.mem_row.2 ⟨0, by omega, by simp⟩)
      refine ⟨b, off, rfl, hbW, fun j hj => ?_⟩
      have hj' : j < len := by unfold u8s at hj; rw [List.length_map, hzl] at hj; exact hj
      have h := hcell j (by omega)
      rw [Addr.add_lit] at h
      rw [h]
      show some (Value.int .u8 (zs.getD j 0)) = some (((zs.take len).map (Value.int .u8))[j]?.getD undef)
      rw [List.getElem?_map, List.getElem?_take, if_pos hj', List.getElem?_eq_getElem (by omega : j < zs.length)]
      simp [List.getD_eq_getElem?_getD, List.getElem?_eq_getElem (show j < zs.length by omega)]
set_option maxRecDepth 100000 in
/-- A []int argument, opened. -/
theorem open_i64s {H : Type} {enc : TypeId × Value → H} {W : World} {base : Nat} {v : Value} {d : DataW H} {p : List MemPlace} (hv : Value.okWide Tryz.prog W .any base 88 v)
    (h0 : DataW.Trod enc Tryz.prog W 0 (fun _ => true) true 88 v d p) (hlt : ∀ x ∈ p, x.block < W.heap.size) :
    ∃ A c zs, v = .slice A zs.length c ∧ zs.length ≤ c ∧ zs.length ≤ maxLen ∧ G.RdS W A 1 zs.length (i64s zs) ∧ (A = none → c = 0) := by
  obtain ⟨a0, len, cap, rfl⟩ := okWide_slice Tryz.underlying88 hv
  obtain ⟨fuel, hf⟩ := h0
  rcases open_ints Tryz.underlying88 Tryz.underlying3 cells3 hf with ⟨hcs, hx⟩ | ⟨a, len', cap', zs, hcs, _, hl, hm, hz, hx, hcell, hwz⟩
  · simp [Value.cells] at hcs
    obtain ⟨rfl, rfl, rfl⟩ := hcs
    exact ⟨none, 0, [], rfl, Nat.le_refl _, by simp [maxLen], G.RdS.nil _, fun _ => rfl⟩
  · simp [Value.cells] at hcs
    obtain ⟨rfl, rfl, rfl⟩ := hcs
    simp only [Prod.mk.injEq] at hx
    obtain ⟨rfl, rfl⟩ := hx
    simp only [if_true] at hz
    have hzl : (zs.take len).length = len := by rw [List.length_take]; omega
    refine ⟨some a, cap, zs.take len, by rw [hzl], by rw [hzl]; exact hl, by rw [hzl]; omega, ⟨by simp [i64s], fun hpos => ?_⟩, fun h => by cases h⟩
    · rw [hzl] at hpos
      obtain ⟨b, off, spot⟩ := a
      have hspot : spot = none := by simpa [Addr.add] using World.cell?_spot (hcell 0 (by omega))
      subst hspot
      have hbW : b < W.heap.size := hlt (.cell b off) (MemPlace.mem_row.2 ⟨0, by omega, by simp⟩)
      refine ⟨b, off, rfl, hbW, fun j hj => ?_⟩
      have hj' : j < len := by unfold i64s at hj; rw [List.length_map, hzl] at hj; exact hj
      have h := hcell j (by omega)
      rw [Addr.add_lit] at h
      rw [h]
      show some (Value.int .i64 (zs.getD j 0)) = some (((zs.take len).map (Value.int .i64))[j]?.getD undef)
      rw [List.getElem?_map, List.getElem?_take, if_pos hj', List.getElem?_eq_getElem (by omega : j < zs.length)]
      simp [List.getD_eq_getElem?_getD, List.getElem?_eq_getElem (show j < zs.length by omega)]
end Go.Proofs.YtfldicaaaadgaaaGreatDoor.Code

/- What a settled world gives strconv.FormatInt. -/
import Derived.Test.YtlaikgaepaiigaaGreatDoorKCard
import Derived.Test.YtlaikgaepaiigaaGreatDoorKTokT
import Derived.Lib.LaidTab
import Derived.Lib.SmallJoins
namespace Go.Proofs.YtlaikgaepaiigaaGreatDoor.K
open Go.ChangeShapes Go.WideShapes Go.ChangeAt Go.RowKit
set_option linter.unusedVariables false
set_option linter.unusedSimpArgs false
theorem gTab : Tryz.prog.globalNamed "internal/strconv.uint64pow10" = some 0 := by kernel_rfl
theorem gTabType : (Tryz.prog.globals[0]?).map (·.type) = some 91 := by kernel_rfl
theorem cellsTab : Tryz.prog.cellsOf 91 = 20 := by kernel_rfl
theorem cellsU64 : Tryz.prog.cellsOf 80 = 1 := by kernel_rfl
theorem pow10_data {H : Type} : (Rows.laid_internal_strconv_uint64pow10 : DataW H) = Lib.tabData .u64 Lib.pow10Tab := rfl
theorem pow10_at {W : World} (h : laidMet Tryz.prog [("math/bits.deBruijn32tab", Rows.laid_math_bits_deBruijn32tab), ("math/bits.deBruijn64tab", Rows.laid_math_bits_deBruijn64tab), ("internal/strconv.uint64pow10", Rows.laid_internal_strconv_uint64pow10), ("strconv.ErrRange", Rows.laid_strconv_ErrRange), ("strconv.ErrSyntax", Rows.laid_strconv_ErrSyntax)] W) :
    Lib.TabIs Tryz.prog W "internal/strconv.uint64pow10" .u64 Lib.pow10Tab := by
  obtain ⟨ps, ⟨g1, t1, c1, f1, p1, q1, _, _, _, _, hl, _⟩, _⟩ := h
  obtain ⟨g2, t2, c2, f2, p2, q2, _, _, _, _, hl2, _⟩ := hl
  obtain ⟨g', t', cs, fuel, p, q, hg', ht', hvar, hd, _, _⟩ := hl2
  obtain rfl := Option.some.inj (gTab.symm.trans hg')
  obtain rfl := Option.some.inj (gTabType.symm.trans ht')
  rw [pow10_data] at hd
  unfold Lib.TabIs
  rw [hvar, ← Lib.cells_of_tab Tryz.underlying91 Tryz.underlying80 cellsU64 cellsTab hd]
theorem grow_below (w : World) (k : Nat) (os : Array Obj) : Below w.heap.size w (Sort.grow (w.drewN k) os) :=
  ⟨rfl, rfl, rfl, by simp [Sort.grow], fun i hi => by
    show (w.heap ++ os)[i]? = _
    rw [Array.getElem?_append, if_pos hi]⟩
theorem var_below {P : Program} {B g : Nat} {W W' : World} {n : String} {cs : Array Value} (h : Below B W W') (hg : P.globalNamed n = some g) (hgB : g < B) (hv : W.var? P n = some cs) : W'.var? P n = some cs := by
  unfold World.var? at hv ⊢
  rw [hg] at hv ⊢
  simp only [Option.bind_some] at hv ⊢
  rw [h.block g hgB]
  exact hv
theorem fmt_in {w : World} (h : Lib.TabIs Tryz.prog w "internal/strconv.uint64pow10" .u64 Lib.pow10Tab) : FmtIn w := by
  intro n W h0 h1 hb
  have hlt : 0 < w.heap.size := by
    unfold Lib.TabIs World.var? at h
    rw [gTab] at h
    simp only [Option.bind_some] at h
    rcases Nat.lt_or_ge 0 w.heap.size with e | e
    · exact e
    · rw [Array.getElem?_eq_none e] at h
      simp at h
  refine (Tryz.strconv_FormatInt_10 n (by omega) (by omega) W (var_below hb gTab hlt h)).mono ?_
  rintro e w' ⟨rfl, k, os, rfl⟩
  exact ⟨rfl, grow_below _ _ _⟩
set_option maxRecDepth 100000 in
/-- A token as an argument, opened. -/
theorem open_token {H : Type} {enc : TypeId × Value → H} {W : World} {base : Nat} {v : Value} {d : DataW H} {p : List MemPlace} (hv : Value.okWide Tryz.prog W .any base 24 v)
    (h0 : DataW.Trod enc Tryz.prog W 0 (fun _ => true) true 24 v d p) : ∃ t : Tk, v = t.val ∧ t.text.size ≤ maxLen ∧ -9223372036854775808 ≤ t.num ∧ t.num ≤ 9223372036854775807 ∧ -128 ≤ t.kind ∧ t.kind ≤ 127 ∧ -9223372036854775808 ≤ t.at_ ∧ t.at_ ≤ 9223372036854775807 := by
  obtain ⟨c0, c1, c2, c3, y0, y1, y2, y3, m, rfl, rfl, rfl, hy0, hy1, hy2, hy3⟩ := Go.Joins.open_agg4 Tryz.underlying24 (by kernel_rfl) (by kernel_rfl) hv h0
  obtain ⟨a, e0, _, wa⟩ := DataW.trod_int Tryz.underlying22 hy0
  obtain ⟨s, e1, _, ws⟩ := DataW.trod_string Tryz.underlying9 hy1
  obtain ⟨b, e2, _, wb⟩ := DataW.trod_int Tryz.underlying2 hy2
  obtain ⟨c, e3, _, wc⟩ := DataW.trod_int Tryz.underlying3 hy3
  simp at e0 e1 e2 e3
  subst e0 e1 e2 e3
  have ha := bounds_i8 wa
  have hb := bounds_i64 wb
  have hc := bounds_i64 wc
  exact ⟨⟨a, s, b, c⟩, rfl, ws, by simp only; omega, by simp only; omega, by simp only; omega, by simp only; omega, by simp only; omega, by simp only; omega⟩
end Go.Proofs.YtlaikgaepaiigaaGreatDoor.K

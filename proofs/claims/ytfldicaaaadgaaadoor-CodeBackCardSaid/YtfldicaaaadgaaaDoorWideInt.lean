/- A list of its own with marks behind it, the marks looked at, a plain copy: the contracts of tableauref00.WideBytes, SpareBytes, CopyBytes. -/
import Derived.Test.YtfldicaaaadgaaaDoorEqInt
import Derived.OwnWalk
import Derived.Laws.AppendOwnNone
namespace Go.Proofs.YtfldicaaaadgaaaDoor.G
open Go Go.RowKit
set_option linter.unusedVariables false
set_option linter.unusedSimpArgs false
/-- Rows between what is there and what is to come. -/
def mid (F Z : List Value) (k : Nat) : List Value := F.take k ++ Z.drop k
theorem mid_zero (F Z : List Value) : mid F Z 0 = Z := by simp [mid]
theorem mid_full {F Z : List Value} {n : Nat} (hF : F.length = n) (hZ : Z.length = n) : mid F Z n = F := by
  unfold mid
  rw [List.take_of_length_le (by omega), List.drop_eq_nil_of_le (by omega), List.append_nil]
theorem mid_length {F Z : List Value} {n k : Nat} (hF : F.length = n) (hZ : Z.length = n) : (mid F Z k).length = n := by
  unfold mid
  rw [List.length_append, List.length_take, List.length_drop]
  omega
theorem mid_set {F Z : List Value} {n k : Nat} {u : Value} (hF : F.length = n) (hZ : Z.length = n) (hk : k < n) (hu : F[k]? = some u) : (mid F Z k).set k u = mid F Z (k + 1) := by
  unfold mid
  have h1 : (F.take k).length = k := by rw [List.length_take]; omega
  rw [List.set_append_right _ _ (by omega), h1, Nat.sub_self, List.drop_eq_getElem_cons (by omega : k < Z.length), List.set_cons_zero, List.take_add_one, hu]
  simp
theorem own_some {w : World} {base : Nat} {e : TypeId} {size n g cap : Nat} {xs : List Value} (h : w.ownsRow base e size (.slice (some ⟨g, 0, none⟩) n cap) n xs) (j : Nat) (hj : j < n * size) : ∃ y, w.cell? ⟨g, j, none⟩ = some y :=
  ⟨_, (h.cellAt j hj).trans (List.getElem?_eq_getElem (by rw [h.1]; exact hj))⟩
theorem info5 : (Tryd.prog.info? 5).map (fun i => (i.zero, i.size, i.bytes)) = some (some (.int .u8 0), 1, 1) := by kernel_rfl
/-- The mark at a place. -/
def markU8 (i : Nat) : Int := (279 + 7 * (i : Int) + 3) % 256
def marksU8 (n : Nat) : List Int := (List.range 64).map fun j => markU8 (n + j)
def wideU8 (zs : List Int) : List Int := zs ++ marksU8 zs.length
theorem wideU8_length (zs : List Int) : (wideU8 zs).length = zs.length + 64 := by simp [wideU8, marksU8]
theorem wideU8_lo (zs : List Int) {k : Nat} (h : k < zs.length) : (wideU8 zs).getD k 0 = zs.getD k 0 := by
  unfold wideU8
  rw [List.getD_eq_getElem?_getD, List.getD_eq_getElem?_getD, List.getElem?_append_left h]
theorem wideU8_hi (zs : List Int) {k : Nat} (h : zs.length ≤ k) (h2 : k < zs.length + 64) : (wideU8 zs).getD k 0 = markU8 k := by
  unfold wideU8 marksU8
  rw [List.getD_eq_getElem?_getD, List.getElem?_append_right h]
  have h3 : k - zs.length < 64 := by omega
  have h4 : zs.length + (k - zs.length) = k := by omega
  simp [h3, h4]
def WidePost (zs : List Int) (w : World) (e : Ending) (w' : World) : Prop :=
  e = .returned (.slice (some ⟨w.heap.size, 0, none⟩) zs.length (zs.length + 64)) ∧
    w'.ownsRow w.heap.size 5 1 (.slice (some ⟨w.heap.size, 0, none⟩) (zs.length + 64) (zs.length + 64)) (zs.length + 64) ((wideU8 zs).map (Value.int .u8)) ∧ Below w.heap.size w w'
theorem cells_getD {zs : List Int} {k : Nat} {kd : IntKind} (h : k < zs.length) : (zs.map (Value.int kd))[k]? = some (.int kd (zs.getD k 0)) := by
  simp [List.getD_eq_getElem?_getD, List.getElem?_eq_getElem h]
set_option maxHeartbeats 1000000 in
theorem wideBytes_any (A : Option Addr) (c : Nat) (zs : List Int) (w : World) (hx : RdS w A 1 zs.length (zs.map (Value.int .u8))) (hn : zs.length ≤ 1099511627776) :
    Calls Tryd.prog 9 #[.slice A zs.length c] w (WidePost zs w) := by
  obtain ⟨i0, hi, hz0, hz1, hz2⟩ := info_parts info5
  have HX := Lib.hid hx
  obtain ⟨n, hn'⟩ : ∃ n, n = zs.length := ⟨_, rfl⟩
  rw [← hn'] at hn ⊢
  have HN := Lib.hid hn'
  clear hx hn'
  go_enter Tryd.func9, Tryd.ntmps9
  go_wp2_with (refine wpList_make_full _ rfl _ _ 22 rfl w.heap.size 5 i0 _ 1 Tryd.underlying22 hi hz0 hz1 .i64 .i64 _ _ (n + 64) rfl rfl (by simp) (by simp) (by rw [hz2]; omega) (by unfold maxLen; omega) (Nat.le_refl _) ?_; intro w1 ho1 hg1)
  have hb1 : Below w.heap.size w w1 := (Below.refl _ _).grown hg1 (Nat.le_refl _) (by simp)
  have hz : (madeCells (Value.int .u8 0).cells ((n + 64) * 1)).toList = List.replicate (n + 64) (.int .u8 0) := by
    rw [show (Value.int .u8 0).cells = #[.int .u8 0] from rfl, toList_madeCells_one, Nat.mul_one]
  rw [hz] at ho1
  have HO1 := Lib.hid ho1
  clear hz ho1 hg1
  go_wp2
  go_loopw [4] (fun i wr => ∃ k : Nat, k ≤ n + 64 ∧ i = .int .i64 k ∧ Below w.heap.size w wr ∧ wr.ownsRow w.heap.size 5 1 (.slice (some ⟨w.heap.size, 0, none⟩) (n + 64) (n + 64)) (n + 64) (mid ((wideU8 zs).map (Value.int .u8)) (List.replicate (n + 64) (.int .u8 0)) k)) (fun i _ => n + 64 - (intOf i).toNat)
  case atStart => exact ⟨0, Nat.zero_le _, rfl, hb1, by rw [mid_zero]; exact HO1.out⟩
  case round =>
    obtain ⟨k, hk, rfl, hbel, hown⟩ := hrel
    have hF : ((wideU8 zs).map (Value.int .u8)).length = n + 64 := by rw [List.length_map, wideU8_length, HN.out]
    have hZ : (List.replicate (n + 64) (Value.int .u8 0)).length = n + 64 := by simp
    by_cases hlt : k < n + 64
    · have hc0 := own_some hown k (by omega)
      obtain ⟨y, hc0⟩ := hc0
      have hf0 := hown.frozenAt k
      obtain ⟨u, hu⟩ : ∃ u, u = (wideU8 zs).getD k 0 := ⟨_, rfl⟩
      have hst := hown.stored k (.int .u8 u)
      rw [mid_set hF hZ hlt (by rw [cells_getD (by rw [wideU8_length, ← HN.out]; exact hlt), hu])] at hst
      have HST := Lib.hid hst
      have hB := Lib.hid (bl_set hbel (p := ⟨w.heap.size, k, none⟩) (Nat.le_refl _) (.int .u8 u))
      have h0 : (k : Int) < n + 64 := by omega
      have h1 : (0 : Int) ≤ k := by omega
      by_cases hkn : k < n
      · have hu2 : u = zs.getD k 0 := by rw [hu]; exact wideU8_lo zs (by rw [← HN.out]; exact hkn)
        obtain ⟨b, off, hA, hr⟩ := (HX.out.below hbel).2 (by rw [← HN.out]; omega)
        have hc := hr.int (j := k) (by rw [← HN.out]; exact hkn)
        rw [← hu2] at hc
        subst hA
        clear hr hst hu hu2 hown hF hZ
        go_wp2
        go_roundw
        case rel => exact ⟨k + 1, by omega, by go_num, hB.out, HST.out.1⟩
        case measure => simp [intOf]; omega
      · have hu2 : markU8 k = u := by rw [hu]; exact (wideU8_hi zs (by rw [← HN.out]; omega) (by rw [← HN.out]; exact hlt)).symm
        unfold markU8 at hu2
        have HU := Lib.hid hu2
        clear hst hu hu2 hown hF hZ
        go_wp2
        rw [HU.out]
        go_roundw
        case rel => exact ⟨k + 1, by omega, by go_num, hB.out, HST.out.1⟩
        case measure => simp [intOf]; omega
    · have hkn : k = n + 64 := by omega
      have hown' : wr.ownsRow w.heap.size 5 1 (.slice (some ⟨w.heap.size, 0, none⟩) (n + 64) (n + 64)) (n + 64) ((wideU8 zs).map (Value.int .u8)) := by
        rw [hkn, mid_full hF hZ] at hown; exact hown
      have HO := Lib.hid hown'
      have h1 : ¬ (k : Int) < n + 64 := by omega
      clear hown hown' hF hZ
      go_wp2
      go_ret
      exact ⟨by rw [← HN.out]; rfl, by rw [← HN.out]; exact HO.out, hbel⟩
set_option maxHeartbeats 1000000 in
theorem spareBytes_any (g : Nat) (zs : List Int) (w : World) (hr : RdV w g 0 ((wideU8 zs).map (Value.int .u8))) (hn : zs.length ≤ 1099511627776) :
    Calls Tryd.prog 15 #[.slice (some ⟨g, 0, none⟩) zs.length (zs.length + 64)] w fun e w' => e = .returned (.bool true) ∧ w = w' := by
  have HR := Lib.hid hr
  obtain ⟨n, hn'⟩ : ∃ n, n = zs.length := ⟨_, rfl⟩
  rw [← hn'] at hn ⊢
  have HN := Lib.hid hn'
  clear hr hn'
  go_enter Tryd.func15, Tryd.ntmps15
  go_wp2
  go_loop [4] (fun i => ∃ k : Nat, n ≤ k ∧ k ≤ n + 64 ∧ i = .int .i64 k) (fun i => n + 64 - (intOf i).toNat)
  case atStart => exact ⟨n, Nat.le_refl _, by omega, rfl⟩
  case round =>
    obtain ⟨k, hk0, hk, rfl⟩ := hrel
    by_cases hlt : k < n + 64
    · have h0 : (k : Int) < n + 64 := by omega
      have h1 : (0 : Int) ≤ k := by omega
      have hc := HR.out.int (j := k) (by rw [wideU8_length, ← HN.out]; exact hlt)
      rw [wideU8_hi zs (by rw [← HN.out]; exact hk0) (by rw [← HN.out]; exact hlt)] at hc
      rw [Nat.zero_add] at hc
      unfold markU8 at hc
      go_wp2
      go_round
      case rel => exact ⟨k + 1, by omega, by omega, by go_num⟩
      case measure => simp [intOf]; omega
    · have h1 : ¬ (k : Int) < n + 64 := by omega
      go_wp2
      go_ret
      exact ⟨rfl, rfl⟩
def CopyPost (zs : List Int) (w : World) (e : Ending) (w' : World) : Prop :=
  ∃ v, e = .returned v ∧ w'.ownsRow w.heap.size 5 1 v zs.length (zs.map (Value.int .u8)) ∧ Below w.heap.size w w'
theorem ints_one (k : IntKind) (l : List Int) : ∀ u ∈ l.map (Value.int k), u.oneCell' = true := by
  intro u hu
  obtain ⟨z, _, rfl⟩ := List.mem_map.1 hu
  rfl
set_option maxHeartbeats 1000000 in
theorem copyBytes_nil (w : World) : Calls Tryd.prog 17 #[.slice none 0 0] w (CopyPost [] w) := by
  obtain ⟨i0, hi, hz0, hz1, hz2⟩ := info_parts info5
  go_enter Tryd.func17, Tryd.ntmps17
  go_wp2_with (at_builtin; refine wpList_append_own_none rfl _ _ 22 rfl w.heap.size 5 i0 1 Tryd.underlying22 hi (.slice none 0 0) 0 [] rfl (World.ownsRow_nil _ _ _ _) rfl ?_)
  go_ret
  exact ⟨_, rfl, World.ownsRow_nil _ _ _ _, Below.refl _ _⟩
set_option maxHeartbeats 1000000 in
theorem copyBytes_any (b off c : Nat) (zs : List Int) (w : World) (hx : RdV w b off (zs.map (Value.int .u8))) (hn : zs.length ≤ 1099511627776) :
    Calls Tryd.prog 17 #[.slice (some ⟨b, off, none⟩) zs.length c] w (CopyPost zs w) := by
  obtain ⟨i0, hi, hz0, hz1, hz2⟩ := info_parts info5
  have HX := Lib.hid hx
  clear hx
  go_enter Tryd.func17, Tryd.ntmps17
  go_wp2_with (at_builtin; refine wpList_append_own _ rfl _ _ 22 rfl w.heap.size 5 i0 _ 1 1 Tryd.underlying22 hi hz0 hz1 hz2 rfl (by decide) (.slice none 0 0) 0 [] rfl (World.ownsRow_nil _ _ _ _) ⟨b, off, none⟩ zs.length c (zs.map (Value.int .u8)) rfl (by simp) (fun j u hu => (by rw [Addr.add_lit]; have hj := (List.getElem?_eq_some_iff.1 hu).1; rw [HX.out.2 j hj, List.getD_eq_getElem?_getD, hu]; rfl)) (ints_one _ _) (by unfold maxLen; omega) (by omega) (Nat.le_refl _) ?_; intro v' w1 hown1 hg1 _)
  go_ret
  refine ⟨_, rfl, by simpa using hown1, (Below.refl _ _).grown hg1 (Nat.le_refl _) (by simp [Value.ownBlock])⟩
end Go.Proofs.YtfldicaaaadgaaaDoor.G

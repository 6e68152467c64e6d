/- Sources as lists of numbers; a row of bytes of the call's own, with marks behind it. -/
import Derived.Test.YtlaikgaepaiigaaGreatDoorKWorks
import Derived.Test.YtlaikgaepaiigaaGreatDoorWideInt
import Derived.Test.YtlaikgaepaiigaaGreatDoorEqInt
namespace Go.Proofs.YtlaikgaepaiigaaGreatDoor.K
open Go Go.RowKit
set_option linter.unusedVariables false
set_option linter.unusedSimpArgs false
theorem long_no (n : Int) (h : ¬ 16777216 < n) (w : World) : Calls Tryz.prog 6 #[.int .i64 n] w fun e w' => e = .returned (.bool false) ∧ w = w' := by
  go_enter Tryz.func6, Tryz.ntmps6
  go_wp2_with fail
  go_ret
  exact ⟨rfl, rfl⟩
theorem long_yes (n : Int) (h : 16777216 < n) (w : World) : Calls Tryz.prog 6 #[.int .i64 n] w fun e w' => e = .returned (.bool true) ∧ w = w' := by
  go_enter Tryz.func6, Tryz.ntmps6
  go_wp2_with fail
  go_ret
  exact ⟨rfl, rfl⟩
def IsBytes (zs : List Int) : Prop := ∀ i, 0 ≤ zs.getD i 0 ∧ zs.getD i 0 < 256
def zOf (s : ByteArray) : List Int := s.data.toList.map fun c => (c.toNat : Int)
def bOf (zs : List Int) : ByteArray := ⟨(zs.map fun z => UInt8.ofNat z.toNat).toArray⟩
theorem zOf_length (s : ByteArray) : (zOf s).length = s.size := by simp [zOf]
theorem bOf_size (zs : List Int) : (bOf zs).size = zs.length := by simp [bOf, ByteArray.size]
theorem isBytes_mem {zs : List Int} (h : IsBytes zs) : ∀ z ∈ zs, 0 ≤ z ∧ z < 256 := by
  intro z hz
  obtain ⟨i, hi, rfl⟩ := List.mem_iff_getElem.1 hz
  have := h i
  rwa [List.getD_eq_getElem?_getD, List.getElem?_eq_getElem hi] at this
theorem zOf_bOf {zs : List Int} (h : IsBytes zs) : zOf (bOf zs) = zs := by
  unfold zOf bOf
  simp only [List.map_map]
  have : ∀ z ∈ zs, ((fun c : UInt8 => (c.toNat : Int)) ∘ fun z : Int => UInt8.ofNat z.toNat) z = z := by
    intro z hz
    have hb := isBytes_mem h z hz
    simp only [Function.comp, UInt8.toNat_ofNat']
    omega
  rw [List.map_congr_left this]
  simp
theorem zOf_bytes (s : ByteArray) : IsBytes (zOf s) := by
  intro i
  unfold zOf
  rw [List.getD_eq_getElem?_getD, List.getElem?_map]
  cases h : s.data.toList[i]? with
  | none => simp
  | some c =>
    have := UInt8.toNat_lt c
    simp only [Option.map_some, Option.getD_some]
    omega
theorem src_of_rd {w : World} {A : Option Addr} {s : ByteArray} (h : G.RdS w A 1 s.size ((zOf s).map (Value.int .u8))) : Src w A s := fun h0 => by
  obtain ⟨b, o, e, hl, hc⟩ := h.2 h0
  refine ⟨b, o, e, hl, fun i hi => ?_⟩
  rw [hc i (by rw [List.length_map, zOf_length]; exact hi), List.getD_eq_getElem?_getD, List.getElem?_map]
  unfold zOf
  rw [List.getElem?_map, Array.getElem?_toList, Array.getElem?_eq_getElem (show i < s.data.size from hi)]
  rfl
theorem in_rd {w : World} {base g N : Nat} {zs ys : List Int} (h : w.ownsRow base 5 1 (.slice (some ⟨g, 0, none⟩) N N) N ((zs ++ ys).map (Value.int .u8))) : G.RdV w g 0 (zs.map (Value.int .u8)) := by
  rcases h.2 with ⟨hv, _⟩ | ⟨g', cap, cur, hv, hb, hgg, hnc, hc, hcs, ht⟩
  · cases hv
  · simp only [Value.slice.injEq, Option.some.injEq, Addr.mk.injEq, and_true, true_and] at hv
    obtain ⟨rfl, rfl⟩ := hv
    refine ⟨(Array.getElem?_eq_some_iff.1 hgg).1, fun j hj => ?_⟩
    have hj' : j < zs.length := by simpa using hj
    rw [Nat.zero_add, h.cellAt j (by have := h.1; simp at this; omega), List.map_append, List.getElem?_append_left (by simpa using hj'), List.getD_eq_getElem?_getD, List.getElem?_eq_getElem hj]
    rfl
theorem in_rd_all {w : World} {base g N : Nat} {xs : List Value} (h : w.ownsRow base 5 1 (.slice (some ⟨g, 0, none⟩) N N) N xs) : G.RdV w g 0 xs := by
  rcases h.2 with ⟨hv, _⟩ | ⟨g', cap, cur, hv, hb, hgg, hnc, hc, hcs, ht⟩
  · cases hv
  · simp only [Value.slice.injEq, Option.some.injEq, Addr.mk.injEq, and_true, true_and] at hv
    obtain ⟨rfl, rfl⟩ := hv
    refine ⟨(Array.getElem?_eq_some_iff.1 hgg).1, fun j hj => ?_⟩
    rw [Nat.zero_add, h.cellAt j (by have := h.1; omega), List.getD_eq_getElem?_getD, List.getElem?_eq_getElem hj]
    rfl
theorem own_cap {w : World} {base : Nat} {e : TypeId} {size : Nat} {v : Value} {n : Nat} {xs : List Value} (h : w.ownsRow base e size v n xs) : ∃ ao cap, v = .slice ao n cap ∧ n ≤ cap ∧ cap ≤ maxLen := by
  rcases h.2 with ⟨rfl, rfl⟩ | ⟨g, cap, cur, rfl, _, _, hn, hc, _⟩
  · exact ⟨_, _, rfl, Nat.le_refl _, by unfold maxLen; omega⟩
  · exact ⟨_, _, rfl, hn, hc⟩
theorem set_bytes (ys ms : List Int) {j : Nat} (hj : j < ys.length) (u : Int) : ((ys ++ ms).map (Value.int .u8)).set j (.int .u8 u) = ((ys.set j u) ++ ms).map (Value.int .u8) := by
  rw [← List.map_set, List.set_append_left _ _ hj]
theorem bytes_set {ys : List Int} (h : IsBytes ys) (j : Nat) {u : Int} (hu : 0 ≤ u ∧ u < 256) : IsBytes (ys.set j u) := by
  intro i
  rw [List.getD_eq_getElem?_getD, List.getElem?_set]
  split
  · split
    · exact hu
    · simp
  · have := h i
    rwa [List.getD_eq_getElem?_getD] at this
/-- A source in a row of the call's own, marks behind it. -/
theorem src_own {w : World} {base g N : Nat} {ys ms : List Int} (h : w.ownsRow base 5 1 (.slice (some ⟨g, 0, none⟩) N N) N ((ys ++ ms).map (Value.int .u8))) (hb : IsBytes ys) : Src w (some ⟨g, 0, none⟩) (bOf ys) :=
  src_of_rd (by rw [zOf_bOf hb, bOf_size]; exact G.RdS.of_rdV (in_rd h) (by simp))
theorem cutF_len (s : ByteArray) : ∀ (f p : Nat) (l : List Tk), p ≤ s.size → cutF s f p = .ok l → l.length ≤ s.size - p + 1
  | 0, p, l, hp, h => by simp only [cutF, CutR.ok.injEq] at h; subst h; simp
  | f + 1, p, l, hp, h => by
    rw [cutF] at h
    split at h
    · simp only [CutR.ok.injEq] at h; subst h; simp
    · rename_i h0
      split at h
      · have := cutF_len s f (p + 1) l (by omega) h; omega
      · split at h
        · have hb := while_bd notNl s p
          have := cutF_len s f _ l (hb.2 hp) h; omega
        · split at h
          · cases h
          · rename_i t q ht
            have hg := tok_gt (by omega) ht
            cases hc : cutF s f q with
            | bad b => rw [hc] at h; cases h
            | ok l' =>
              rw [hc] at h
              simp only [CutR.cons, CutR.ok.injEq] at h
              subst h
              have := cutF_len s f q l' hg.2.1 hc
              simp only [List.length_cons]
              omega
theorem resOf_len (s : ByteArray) : (resOf s).1.length ≤ 65537 := by
  unfold resOf
  split
  · simp
  · rename_i h
    cases hc : cutOf s with
    | bad q => simp
    | ok l =>
      have := cutF_len s _ 0 l (by omega) hc
      simp only
      omega
end Go.Proofs.YtlaikgaepaiigaaGreatDoor.K

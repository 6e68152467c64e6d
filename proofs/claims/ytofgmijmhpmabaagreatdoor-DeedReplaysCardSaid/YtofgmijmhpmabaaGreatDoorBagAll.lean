/- The whole of a bag: what its lists are, whatever their kinds. What it owns lies from its own block on. Printed by gen_bagall.py. -/
import Derived.Test.YtofgmijmhpmabaaGreatDoorProg
import Derived.Test.YtofgmijmhpmabaaGreatDoorDMem
import Derived.Lib.Hide
import Derived.Deep.QuietTactic
import Derived.BigQuiet
import Derived.OwnWalk
import Derived.Laws.AppendOwnNone
namespace Go.Proofs.YtofgmijmhpmabaaGreatDoor.G
open Go Go.RowKit
set_option linter.unusedVariables false
set_option linter.unusedSimpArgs false
theorem RdV.int {w : World} {b off : Nat} {k : IntKind} {zs : List Int} (h : RdV w b off (zs.map (Value.int k))) {j : Nat} (hj : j < zs.length) : w.cell? ⟨b, off + j, none⟩ = some (.int k (zs.getD j 0)) := by
 rw [h.2 j (by simpa using hj)]
 simp [List.getD_eq_getElem?_getD, List.getElem?_eq_getElem hj]
theorem take_eq_succ {xs ys : List Int} {k : Nat} (h : xs.take k = ys.take k) (hx : k < xs.length) (hy : k < ys.length) (he : xs.getD k 0 = ys.getD k 0) : xs.take (k + 1) = ys.take (k + 1) := by
 simp only [List.getD_eq_getElem?_getD, List.getElem?_eq_getElem hx, List.getElem?_eq_getElem hy, Option.getD_some] at he
 rw [List.take_succ_eq_append_getElem hx, List.take_succ_eq_append_getElem hy, h, he]
theorem ret_bool {a b : Bool} (h : a = b) : Ending.returned (.bool a) = .returned (.bool b) := by rw [h]
end Go.Proofs.YtofgmijmhpmabaaGreatDoor.G
namespace Go.Proofs.YtofgmijmhpmabaaGreatDoor.G
open Go Go.RowKit
set_option linter.unusedVariables false
set_option linter.unusedSimpArgs false
/-- Rows between what is there and what is to come. -/
def mid (F Z : List Value) (k : Nat) : List Value := F.take k ++ Z.drop k
theorem mid_zero (F Z : List Value) : mid F Z 0 = Z := by simp [mid]
theorem mid_full {F Z : List Value} {n : Nat} (hF : F.length = n) (hZ : Z.length = n) : mid F Z n = F := by
 unfold mid
 rw [List.take_of_length_le (by omega), List.drop_eq_nil_of_le (by omega), List.append_nil]
theorem mid_length {F Z : List Value} {n k : Nat} (hF : F.length = n) (hZ : Z.length = n) : (mid F Z k).length = n := by
 unfold mid
 rw [List.length_append, List.length_take, List.length_drop]
 omega
theorem mid_set {F Z : List Value} {n k : Nat} {u : Value} (hF : F.length = n) (hZ : Z.length = n) (hk : k < n) (hu : F[k]? = some u) : (mid F Z k).set k u = mid F Z (k + 1) := by
 unfold mid
 have h1 : (F.take k).length = k := by rw [List.length_take]; omega
 rw [List.set_append_right _ _ (by omega), h1, Nat.sub_self, List.drop_eq_getElem_cons (by omega : k < Z.length), List.set_cons_zero, List.take_add_one, hu]
 simp
theorem own_some {w : World} {base : Nat} {e : TypeId} {size n g cap : Nat} {xs : List Value} (h : w.ownsRow base e size (.slice (some ⟨g, 0, none⟩) n cap) n xs) (j : Nat) (hj : j < n * size) : ∃ y, w.cell? ⟨g, j, none⟩ = some y :=
 ⟨_, (h.cellAt j hj).trans (List.getElem?_eq_getElem (by rw [h.1]; exact hj))⟩
theorem ints_one (k : IntKind) (l : List Int) : ∀ u ∈ l.map (Value.int k), u.oneCell' = true := by
 intro u hu
 obtain ⟨z, _, rfl⟩ := List.mem_map.1 hu
 rfl
end Go.Proofs.YtofgmijmhpmabaaGreatDoor.G
namespace Go.Proofs.YtofgmijmhpmabaaGreatDoor.G
open Go Go.RowKit
set_option linter.unusedVariables false
set_option linter.unusedSimpArgs false
set_option maxHeartbeats 400000 in
theorem eqInts_any (A B : Option Addr) (n m c d : Nat) (xs ys : List Int) (w : World) (hx : RdS w A 1 n (xs.map (Value.int .i64))) (hy : RdS w B 1 m (ys.map (Value.int .i64))) (hn : n ≤ maxLen) (hm : m ≤ maxLen) :
 Calls Tryz.prog 46 #[.slice A n c, .slice B m d] w fun e w' => e = .returned (.bool (decide (xs = ys))) ∧ ∃ k, w' = w.drewN k := by
 have hxl : xs.length = n := by simpa using hx.1
 have hyl : ys.length = m := by simpa using hy.1
 unfold maxLen at hn hm
 by_cases hnm : n = m
 ·subst hnm
  have HX := Lib.hid hx
  have HY := Lib.hid hy
  have HXL := Lib.hid hxl
  have HYL := Lib.hid hyl
  clear hx hy hxl hyl hm
  go_enter Tryz.func46, Tryz.ntmps46
  go_wp2
  go_loopw [5] (fun i wr => ∃ k : Nat, k ≤ n ∧ i = .int .i64 k ∧ xs.take k = ys.take k ∧ ∃ q, wr = w.drewN q) (fun i _ => n - (intOf i).toNat)
  case atStart => exact ⟨0, Nat.zero_le _, rfl, rfl, 0, rfl⟩
  case round =>
   obtain ⟨k, hk, rfl, htk, q, rfl⟩ := hrel
   have HTK := Lib.hid htk
   clear htk
   by_cases hlt : k < n
   ·obtain ⟨b, off, rfl, hb⟩ := HX.out.2 (by omega)
    obtain ⟨b2, off2, rfl, hb2⟩ := HY.out.2 (by omega)
    have hc1 := hb.int (j := k) (by rw [HXL.out]; exact hlt)
    have hc2 := hb2.int (j := k) (by rw [HYL.out]; exact hlt)
    have h0 : (k : Int) < n := by omega
    have h1 : (0 : Int) ≤ k := by omega
    by_cases he : xs.getD k 0 = ys.getD k 0
    ·have hsu := Lib.hid (take_eq_succ HTK.out (by rw [HXL.out]; exact hlt) (by rw [HYL.out]; exact hlt) he)
     rw [← he] at hc2
     clear he hb hb2
     generalize xs.getD k 0 = z at *
     go_wp2
     go_quiet (fail)
     go_wp2
     go_roundw
     case rel => exact ⟨k + 1, by omega, by go_num, hsu.out, _, rfl⟩
     case measure => simp [intOf]; omega
    ·have hne : decide (xs = ys) = false := by
      simp only [decide_eq_false_iff_not]
      rintro rfl
      exact he rfl
     have HNE := Lib.hid hne
     generalize xs.getD k 0 = z at *
     generalize ys.getD k 0 = y at *
     have he1 : (z == y) = false := by simpa using he
     have he2 : (z != y) = true := by simpa using he
     clear he hne hb hb2
     go_wp2
     go_quiet (fail)
     go_wp2
     go_ret
     exact ⟨(ret_bool HNE.out).symm, (by first | exact ⟨_, rfl⟩ | exact ⟨_, World.drewN_drewN ..⟩)⟩
   ·have hd : decide (xs = ys) = true := by
     simp only [decide_eq_true_eq]
     have h2 := HTK.out
     rwa [List.take_of_length_le (by rw [HXL.out]; omega), List.take_of_length_le (by rw [HYL.out]; omega)] at h2
    have HD := Lib.hid hd
    clear hd
    go_wp2
    go_ret
    exact ⟨(ret_bool HD.out).symm, _, rfl⟩
 ·have hd : decide (xs = ys) = false := by
   simp only [decide_eq_false_iff_not]
   rintro rfl
   omega
  have HD := Lib.hid hd
  clear hd hx hy hxl hyl
  have hnm1 : ((n : Int) == m) = false := by simpa using fun h : (n : Int) = m => hnm (by omega)
  have hnm2 : ((n : Int) != m) = true := by simpa using fun h : (n : Int) = m => hnm (by omega)
  go_enter Tryz.func46, Tryz.ntmps46
  go_wp2
  go_ret
  exact ⟨(ret_bool HD.out).symm, 0, rfl⟩
end Go.Proofs.YtofgmijmhpmabaaGreatDoor.G
namespace Go.Proofs.YtofgmijmhpmabaaGreatDoor.G
open Go Go.RowKit
set_option linter.unusedVariables false
set_option linter.unusedSimpArgs false
theorem fam_of {w : World} {base : Nat} {e : TypeId} {sz : Nat} {Ls : List Lst} (h : ∀ i (hi : i < Ls.length), w.ownsRow base e sz (Ls[i]).v (Ls[i]).n (Ls[i]).xs)
 (hd : ∀ i j (hi : i < Ls.length) (hj : j < Ls.length), i ≠ j → (Ls[i]).v.ownBlock = none ∨ (Ls[i]).v.ownBlock ≠ (Ls[j]).v.ownBlock) : Fam w base e sz (Rows0 Ls) := by
 refine ⟨fun r ⟨l, h1, h2, h3, h4⟩ => ?_, fun r ⟨l, h1, h2, h3, h4⟩ r' ⟨l', g1, g2, g3, g4⟩ hne => ?_⟩
 ·obtain ⟨hi, e1⟩ := List.getElem?_eq_some_iff.1 h1
  rw [h2, h3, h4, ← e1]
  exact h _ hi
 ·obtain ⟨hi, e1⟩ := List.getElem?_eq_some_iff.1 h1
  obtain ⟨hj, e2⟩ := List.getElem?_eq_some_iff.1 g1
  rw [h2, g2, ← e1, ← e2]
  exact hd _ _ hi hj hne
/-- Two lists of rows, one's blocks all below the other's. -/
theorem own_sep {w : World} {b1 b2 : Nat} {e : TypeId} {sz : Nat} {v u : Value} {n m : Nat} {xs ys : List Value} {w1 : World} (h1 : w1.ownsRow b1 e sz v n xs) (h2 : w.ownsRow b2 e sz u m ys) (hs : w1.heap.size ≤ b2) : v.ownBlock = none ∨ v.ownBlock ≠ u.ownBlock := by
 cases hv : v.ownBlock with
 | none => exact .inl rfl
 | some g =>
  refine .inr fun hu => ?_
  have l1 := (h1.lt g hv).2
  have l2 := (h2.lt g hu.symm).1
  omega
theorem own_sep' {w : World} {b1 b2 : Nat} {e : TypeId} {sz : Nat} {v u : Value} {n m : Nat} {xs ys : List Value} {w1 : World} (h1 : w1.ownsRow b1 e sz v n xs) (h2 : w.ownsRow b2 e sz u m ys) (hs : w1.heap.size ≤ b2) : u.ownBlock = none ∨ u.ownBlock ≠ v.ownBlock := by
 cases hv : u.ownBlock with
 | none => exact .inl rfl
 | some g =>
  refine .inr fun hu => ?_
  have l1 := (h1.lt g hu.symm).2
  have l2 := (h2.lt g hv).1
  omega
theorem two_fam {w w1 : World} {base b1 b2 : Nat} {e : TypeId} {sz : Nat} {l1 l2 : Lst} (h1 : w1.ownsRow b1 e sz l1.v l1.n l1.xs) (hb : Below w1.heap.size w1 w) (h2 : w.ownsRow b2 e sz l2.v l2.n l2.xs) (hs : w1.heap.size ≤ b2) (hb1 : base ≤ b1) (hb2 : base ≤ b2) :
 Fam w base e sz (Rows0 [l1, l2]) := by
 refine fam_of (fun i hi => ?_) (fun i j hi hj hne => ?_)
 ·match i, hi with
  | 0, _ => exact own_ge (own_below h1 hb) hb1
  | 1, _ => exact own_ge h2 hb2
 ·match i, j, hi, hj, hne with
  | 0, 0, _, _, h => exact absurd rfl h
  | 0, 1, _, _, _ => exact own_sep h1 h2 hs
  | 1, 0, _, _, _ => exact own_sep' h1 h2 hs
  | 1, 1, _, _, h => exact absurd rfl h
/-- Two rows that go on growing, of which the one was made behind the other. -/
theorem two_mk {w1 w : World} {b1 b2 : Nat} {e : TypeId} {v u : Value} {n m : Nat} {xs ys : List Value} (h1 : w1.ownsRow b1 e 1 v n xs) (hk : w.ownsRow b1 e 1 v n xs) (h2 : w.ownsRow b2 e 1 u m ys) (hs : w1.heap.size ≤ b2) (hb : b1 ≤ b2) : Fam w b1 e 1 (Two v n xs u m ys) := by
 refine ⟨fun r hr => ?_, fun r hr r' hr' hne => ?_⟩
 ·rcases hr with rfl | rfl
  ·exact hk
  ·exact own_ge h2 hb
 ·rcases hr with rfl | rfl
  ·rcases hr' with rfl | rfl
   ·exact absurd rfl hne
   ·exact own_sep h1 h2 hs
  ·rcases hr' with rfl | rfl
   ·exact own_sep' h1 h2 hs
   ·exact absurd rfl hne
theorem two_set_r {w w' : World} {base : Nat} {e : TypeId} {v u : Value} {n m : Nat} {xs ys ys' : List Value} (h : Fam w base e 1 (Two v n xs u m ys)) (hown : w'.ownsRow base e 1 u m ys') (hg : w.grownBy w' u.ownBlock) : Fam w' base e 1 (Two v n xs u m ys') := by
 refine (h.over (r := ⟨2, u, m, ys⟩) (.inr rfl) hown hg).sub fun r hr => ?_
 rcases hr with rfl | rfl
 ·exact .inr ⟨.inl rfl, (show (1 : Nat) ≠ 2 by decide)⟩
 ·exact .inl rfl
end Go.Proofs.YtofgmijmhpmabaaGreatDoor.G
namespace Go.Proofs.YtofgmijmhpmabaaGreatDoor.G
open Go Go.RowKit
set_option linter.unusedVariables false
set_option linter.unusedSimpArgs false
structure Touch (ts : List TypeId) (B : Nat) (w w' : World) : Prop where
 below : Below B w w'
 other : ∀ (k : Nat) (cs : Array Value) (t : TypeId) (fr : Nat × Nat), w.heap[k]? = some (Obj.cells cs t fr) → t ∉ ts → w'.heap[k]? = some (Obj.cells cs t fr)
section
variable {ts : List TypeId} {B : Nat} {w w1 w' : World}
theorem Touch.refl (ts : List TypeId) (B : Nat) (w : World) : Touch ts B w w := ⟨Below.refl _ _, fun _ _ _ _ h _ => h⟩
theorem Touch.trans (h : Touch ts B w w1) (k : Touch ts B w1 w') : Touch ts B w w' := ⟨h.below.trans k.below, fun g cs t fr hg ht => k.other g cs t fr (h.other g cs t fr hg ht) ht⟩
theorem Touch.later (h : Touch ts B w w1) (hB : B ≤ w1.heap.size) (hb : Below w1.heap.size w1 w') : Touch ts B w w' :=
 h.trans ⟨hb.mono hB, fun k cs t fr hk _ => (hb.block k (Array.getElem?_eq_some_iff.1 hk).1).trans hk⟩
theorem Touch.of_only {E : TypeId} (h : Only E B w w') (hE : E ∈ ts) : Touch ts B w w' := ⟨h.below, fun k cs t fr hk ht => h.other k cs t fr hk (fun e => ht (e ▸ hE))⟩
theorem Touch.weaken {ts' : List TypeId} (h : Touch ts B w w') (hs : ∀ t ∈ ts, t ∈ ts') : Touch ts' B w w' := ⟨h.below, fun k cs t fr hk ht => h.other k cs t fr hk (fun e => ht (hs t e))⟩
theorem Touch.grown {base : Nat} {e : TypeId} {sz n : Nat} {v : Value} {xs : List Value} (h : Touch ts B w w1) (ho : w1.ownsRow base e sz v n xs) (hg : w1.grownBy w' v.ownBlock) (he : e ∈ ts) (hB : B ≤ base) (hB1 : B ≤ w1.heap.size) : Touch ts B w w' := by
 refine h.trans ⟨(Below.refl _ _).grown hg hB1 fun k hk => Nat.le_trans hB (ho.lt k hk).1, fun k cs t fr hk ht => ?_⟩
 by_cases hrow : some k = v.ownBlock
 ·obtain ⟨c2, h4⟩ := ownsRow.block_e ho hrow.symm
  rw [hk] at h4
  simp only [Option.some.injEq, Obj.cells.injEq] at h4
  exact absurd (h4.2.1 ▸ he) ht
 ·exact (hg.block k (Array.getElem?_eq_some_iff.1 hk).1 hrow).trans hk
theorem Touch.set {g : Nat} {t : TypeId} {cs : Array Value} (h : Touch ts B w w1) (hb : Blk w1 g t cs) (ht : t ∈ ts) (hg : B ≤ g) (i : Nat) (u : Value) : Touch ts B w (w1.setCell ⟨g, i, none⟩ u) := by
 refine h.trans ⟨(Below.refl _ _).setCell (p := ⟨g, i, none⟩) hg u, fun k cs' t' fr hk ht' => ?_⟩
 by_cases hkp : k = g
 ·subst hkp
  unfold Blk at hb
  rw [hk] at hb
  simp only [Option.some.injEq, Obj.cells.injEq] at hb
  exact absurd (hb.2.1 ▸ ht) ht'
 ·exact (Below.heap_setCell w1 ⟨g, i, none⟩ u k hkp).trans hk
theorem Touch.blk (h : Touch ts B w w') {g : Nat} {t : TypeId} {cs : Array Value} (hb : Blk w g t cs) (ht : t ∉ ts) : Blk w' g t cs := h.other g cs t (0, 0) hb ht
theorem Touch.own (h : Touch ts B w w') {base : Nat} {e : TypeId} {sz n : Nat} {v : Value} {xs : List Value} (ho : w.ownsRow base e sz v n xs) (he : e ∉ ts) : w'.ownsRow base e sz v n xs := by
 refine ⟨ho.1, ho.2.imp id fun ⟨g, cap, cur, e1, h2, h3, r⟩ => ⟨g, cap, cur, e1, h2, h.other g cur e (0, 0) h3 he, r⟩⟩
end
/-- A block stands while a row of another element type grows. -/
theorem Blk.far_row {w w' : World} {gb base : Nat} {T e : TypeId} {cs : Array Value} {sz n : Nat} {v : Value} {xs : List Value} (hB : Blk w gb T cs) (ho : w.ownsRow base e sz v n xs) (hg : w.grownBy w' v.ownBlock) (he : e ≠ T) : Blk w' gb T cs := by
 refine hB.same (hg.block gb hB.lt fun hrow => ?_)
 obtain ⟨c2, h4⟩ := ownsRow.block_e ho hrow.symm
 unfold Blk at hB
 rw [hB] at h4
 simp only [Option.some.injEq, Obj.cells.injEq] at h4
 exact he h4.2.1.symm
theorem Blk.alloc {w : World} {g : Nat} {t : TypeId} {cs : Array Value} (h : Blk w g t cs) (o : Obj) : Blk (w.alloc o) g t cs := (Below.heap_alloc w o g h.lt).trans h
theorem row_ne {w : World} {base gb : Nat} {e T : TypeId} {sz n : Nat} {v : Value} {xs : List Value} {cs : Array Value} (ho : w.ownsRow base e sz v n xs) (hB : Blk w gb T cs) (he : e ≠ T) : v.ownBlock = none ∨ v.ownBlock ≠ some gb := by
 cases hv : v.ownBlock with
 | none => exact .inl rfl
 | some g =>
  refine .inr fun hg => ?_
  obtain ⟨c2, h4⟩ := ownsRow.block_e ho hv
  simp only [Option.some.injEq] at hg
  subst hg
  unfold Blk at hB
  rw [hB] at h4
  simp only [Option.some.injEq, Obj.cells.injEq] at h4
  exact he h4.2.1.symm
/-- What adding a list to a bag leaves. -/
def AddPost (T S : TypeId) (base gb i k : Nat) (cs : Array Value) (hdrs : List Value) (v : Value) (w : World) (e : Ending) (w' : World) : Prop :=
 e = .returned (.tuple #[]) ∧ ∃ HA hc, Blk w' gb T (cs.setIfInBounds i (.slice HA (k + 1) hc)) ∧ w'.ownsRow base S 1 (.slice HA (k + 1) hc) (k + 1) (hdrs ++ [v]) ∧ Touch [T, S] base w w'
end Go.Proofs.YtofgmijmhpmabaaGreatDoor.G
namespace Go.Proofs.YtofgmijmhpmabaaGreatDoor.G
open Go Go.RowKit
set_option linter.unusedVariables false
set_option linter.unusedSimpArgs false
/-- The element types of the bag's rows of headers. -/
def kS (i : Nat) : TypeId := [144, 28, 145, 146, 148, 150, 151, 22, 23, 153, 156, 159, 24, 47, 32, 162, 165, 168, 171, 174, 177].getD i 0
def bagTs : List TypeId := [64, 144, 28, 145, 146, 148, 150, 151, 22, 23, 153, 156, 159, 24, 47, 32, 162, 165, 168, 171, 174, 177]
theorem kS_mem : ∀ i, i < 21 → kS i ∈ bagTs := by decide
theorem kS_inj : ∀ i, i < 21 → ∀ j, j < 21 → kS i = kS j → i = j := by decide
theorem kS_bag : ∀ i, i < 21 → kS i ≠ 64 := by decide
/-- One kind in the bag. -/
structure BagK (w : World) (gb : Nat) (cs : Array Value) (i : Nat) (S : TypeId) (vs : List Value) : Prop where
 ex : ∃ HA hc, cs[i]? = some (.slice HA vs.length hc) ∧ w.ownsRow gb S 1 (.slice HA vs.length hc) vs.length vs
 nil : vs = [] → cs[i]? = some (.slice none 0 0)
structure BagAll (w : World) (gb : Nat) (L : Nat → List Value) : Prop where
 ex : ∃ cs : Array Value, Blk w gb 64 cs ∧ cs.size = 21 ∧ ∀ i, i < 21 → BagK w gb cs i (kS i) (L i)
def addK (L : Nat → List Value) (i : Nat) (vs : List Value) : Nat → List Value := fun j => if j = i then L j ++ vs else L j
theorem addK_same (L : Nat → List Value) (i : Nat) (vs : List Value) : addK L i vs i = L i ++ vs := if_pos rfl
theorem addK_other {L : Nat → List Value} {i j : Nat} {vs : List Value} (h : j ≠ i) : addK L i vs j = L j := if_neg h
theorem addK_nil (L : Nat → List Value) (i : Nat) : addK L i [] = L := by
 funext j
 unfold addK
 split <;> simp
theorem addK_addK (L : Nat → List Value) (i : Nat) (us vs : List Value) : addK (addK L i us) i vs = addK L i (us ++ vs) := by
 funext j
 unfold addK
 split <;> simp
theorem BagAll.lt {w : World} {gb : Nat} {L : Nat → List Value} (h : BagAll w gb L) : gb < w.heap.size := by
 obtain ⟨cs, hb, _⟩ := h.ex
 exact hb.lt
theorem BagK.below {w w' : World} {gb i : Nat} {cs : Array Value} {S : TypeId} {vs : List Value} (h : BagK w gb cs i S vs) (hb : Below w.heap.size w w') : BagK w' gb cs i S vs := by
 obtain ⟨HA, hc, h1, h2⟩ := h.ex
 exact ⟨⟨HA, hc, h1, own_below h2 hb⟩, h.nil⟩
theorem BagAll.below {w w' : World} {gb : Nat} {L : Nat → List Value} (h : BagAll w gb L) (hb : Below w.heap.size w w') : BagAll w' gb L := by
 obtain ⟨cs, h1, h2, h3⟩ := h.ex
 exact ⟨cs, h1.below hb h1.lt, h2, fun i hi => (h3 i hi).below hb⟩
/-- An empty bag, just made. -/
theorem BagAll.start (w : World) {cs : Array Value} (hs : cs.size = 21) (hn : ∀ i, i < 21 → cs[i]? = some (.slice none 0 0)) : BagAll (w.alloc (.cells cs 64)) w.heap.size (fun _ => []) :=
 ⟨cs, Blk.new _ _ _, hs, fun i hi => ⟨⟨none, 0, hn i hi, World.ownsRow_nil _ _ _ _⟩, fun _ => hn i hi⟩⟩
/-- What AddPost says of a bag. -/
theorem BagAll.add {w w' : World} {gb i hc : Nat} {HA : Option Addr} {L : Nat → List Value} {cs : Array Value} {v : Value} {e : Ending} (hi : i < 21) (hB : Blk w gb 64 cs) (hs : cs.size = 21) (hK : ∀ j, j < 21 → BagK w gb cs j (kS j) (L j))
 (h : AddPost 64 (kS i) gb gb i (L i).length cs (L i) v w e w') : e = .returned (.tuple #[]) ∧ Touch bagTs gb w w' ∧ BagAll w' gb (addK L i [v]) := by
 obtain ⟨he, HA', hc', h1, h2, h3⟩ := h
 refine ⟨he, h3.weaken (fun t ht => ?_), _, h1, by simp [hs], fun j hj => ?_⟩
 ·simp only [List.mem_cons, List.mem_nil_iff, or_false] at ht
  rcases ht with rfl | rfl
  ·exact List.mem_cons_self
  ·exact kS_mem i hi
 by_cases hji : j = i
 ·subst hji
  rw [addK_same]
  refine ⟨⟨HA', hc', ?_, ?_⟩, fun h => by simp at h⟩
  ·rw [Array.getElem?_setIfInBounds_self, if_pos (by omega), List.length_append]
   rfl
  ·rw [List.length_append]
   exact h2
 ·rw [addK_other hji]
  have hc : (cs.setIfInBounds i (.slice HA' ((L i).length + 1) hc'))[j]? = cs[j]? := Array.getElem?_setIfInBounds_ne (fun e => hji e.symm)
  obtain ⟨HA2, hc2, g1, g2⟩ := (hK j hj).ex
  refine ⟨⟨HA2, hc2, hc.trans g1, h3.own g2 ?_⟩, fun h => hc.trans ((hK j hj).nil h)⟩
  simp only [List.mem_cons, List.mem_nil_iff, or_false, not_or]
  exact ⟨kS_bag j hj, fun e => hji (kS_inj j hj i hi e)⟩
/-- What a call that adds leaves. -/
def BagPost (gb : Nat) (L : Nat → List Value) (w : World) (e : Ending) (w' : World) : Prop := e = .returned (.tuple #[]) ∧ Touch bagTs gb w w' ∧ BagAll w' gb L
end Go.Proofs.YtofgmijmhpmabaaGreatDoor.G
namespace Go.Proofs.YtofgmijmhpmabaaGreatDoor.G
open Go Go.RowKit
set_option linter.unusedVariables false
set_option linter.unusedSimpArgs false
set_option maxHeartbeats 400000 in
theorem num_any (n i : Nat) (w : World) (hn : n ≤ 1024) (hi : i ≤ 2199023255552) : Calls Tryz.prog 98 #[.int .i64 n, .int .i64 i] w fun e w' => e = .returned (.int .i64 (1048576 * (n : Int) + (i : Int) + 1)) ∧ w = w' := by
 go_enter Tryz.func98, Tryz.ntmps98
 go_wp2
 go_ret
 exact ⟨rfl, rfl⟩
theorem num_still (n i : Nat) (w : World) (hn : n ≤ 1024) (hi : i ≤ 2199023255552) : Calls Tryz.prog 98 #[.int .i64 n, .int .i64 i] w fun e w' => e = .returned (.int .i64 (1048576 * (n : Int) + (i : Int) + 1)) ∧ w' = w :=
 (num_any n i w hn hi).mono fun _ _ h => ⟨h.1, h.2.symm⟩
end Go.Proofs.YtofgmijmhpmabaaGreatDoor.G
namespace Go.Proofs.YtofgmijmhpmabaaGreatDoor.G
open Go Go.RowKit
set_option linter.unusedVariables false
set_option linter.unusedSimpArgs false
theorem mks_congr {mk mk' : Nat → Nat → List Value} {t : Nat} : ∀ {n : Nat}, (∀ j, j < n → mk t j = mk' t j) → mks mk t n = mks mk' t n
 | 0, _ => rfl
 | n + 1, h => by rw [mks_succ, mks_succ, mks_congr (n := n) (fun j hj => h j (by omega)), h n (by omega)]
def upd (mk : Nat → Nat → List Value) (n i : Nat) (v : List Value) : Nat → Nat → List Value := fun a b => if a = n ∧ b = i then v else mk a b
theorem upd_same (mk : Nat → Nat → List Value) (n i : Nat) (v : List Value) : upd mk n i v n i = v := if_pos ⟨rfl, rfl⟩
theorem upd_other {mk : Nat → Nat → List Value} {n i a b : Nat} {v : List Value} (h : ¬ (a = n ∧ b = i)) : upd mk n i v a b = mk a b := if_neg h
theorem upd_len {mk : Nat → Nat → List Value} {sz : Nat} (h : ∀ n i, (mk n i).length = sz) (n i : Nat) {v : List Value} (hv : v.length = sz) : ∀ a b, (upd mk n i v a b).length = sz := fun a b => by
 unfold upd
 split
 ·exact hv
 ·exact h a b
section
variable {w w' : World} {base : Nat} {e : TypeId} {sz : Nat} {Ls : List Lst} {mk : Nat → Nat → List Value}
theorem p1_upd {n i : Nat} {u : List Value} (h : Fam w base e sz (P1 Ls mk sz n i)) : Fam w base e sz (P1 Ls (upd mk n i u) sz n i) := by
 refine h.sub fun r ⟨l, h1, h2, h3, h4⟩ => ⟨l, h1, h2, h3, ?_⟩
 rw [h4]
 by_cases c1 : r.tag < n
 ·rw [if_pos c1, if_pos c1]
  exact mks_congr fun j hj => upd_other (mk := mk) (n := n) (i := i) (a := r.tag) (b := j) (v := u) (by omega)
 ·rw [if_neg c1, if_neg c1]
  by_cases c2 : r.tag = n
  ·rw [if_pos c2, if_pos c2, mks_congr (mk := upd mk n i u) (mk' := mk) (t := n) (n := i) fun j hj => upd_other (mk := mk) (n := n) (i := i) (a := n) (b := j) (v := u) (by omega)]
  ·rw [if_neg c2, if_neg c2]
theorem p2_upd {os ms : List Value} {n m : Nat} {l : Lst} {v : Value} {u : List Value} (h : Fam w base e sz (P2in Ls mk os ms n v m)) (hl : Ls[n]? = some l) (hms : ms.length ≤ n) (hos : os.length ≤ n ∨ l.n + 1 ≤ m) (hm : l.n ≤ m) :
 Fam w base e sz (P2in Ls (upd mk n m u) os ms n v m) := by
 have key : ∀ t k, (t = n → k ≤ m) → mks (upd mk n m u) t k = mks mk t k := fun t k hk => mks_congr fun j hj => upd_other (fun ⟨a, b⟩ => by have := hk a; omega)
 refine h.sub fun r hr => ?_
 rcases hr with ⟨l', h1, h2⟩ | rfl
 ·refine .inl ⟨l', h1, ?_⟩
  have hll : r.tag = n → l' = l := fun ht => by
   rw [ht] at h1
   exact Option.some.inj (h1.symm.trans hl)
  rcases h2 with ⟨a, b, c⟩ | ⟨a, b, c⟩ | ⟨a, b, c⟩
  ·exact .inl ⟨a, b, by rw [c, key _ _ (fun ht => by rw [hll ht]; exact hm)]⟩
  ·refine .inr (.inl ⟨a, b, ?_⟩)
   rw [c, key _ _ (fun ht => ?_)]
   have h5 := (List.getElem?_eq_some_iff.1 a).1
   rw [hll ht]
   omega
  ·refine .inr (.inr ⟨a, b, ?_⟩)
   rw [c, key _ _ (fun ht => ?_)]
   have h5 := (List.getElem?_eq_some_iff.1 a).1
   omega
 ·refine .inr ?_
  rw [key n m (fun _ => Nat.le_refl _)]
end
/-! ### What the marks read as -/
def numI (n i : Nat) : Int := 1048576 * (n : Int) + (i : Int) + 1
def Mk1 (w : World) (I : TypeId) (mk : Nat → Nat → List Value) (t j : Nat) : Prop := ∃ g, mk t j = [.slice (some ⟨g, 0, none⟩) 1 1] ∧ Blk w g I #[.int .i64 (numI t j)]
structure MkI (w : World) (I : TypeId) (mk : Nat → Nat → List Value) (D : Nat → Nat → Prop) : Prop where
 len : ∀ t j, (mk t j).length = 1
 at_ : ∀ t j, D t j → Mk1 w I mk t j
theorem MkI.start (w : World) (I : TypeId) {D : Nat → Nat → Prop} (h : ∀ t j, ¬ D t j) : MkI w I (fun _ _ => [undef]) D := ⟨fun _ _ => rfl, fun t j hd => absurd hd (h t j)⟩
theorem MkI.sub {w : World} {I : TypeId} {mk : Nat → Nat → List Value} {D D' : Nat → Nat → Prop} (h : MkI w I mk D) (hs : ∀ t j, D' t j → D t j) : MkI w I mk D' := ⟨h.len, fun t j hd => h.at_ t j (hs t j hd)⟩
theorem MkI.kept {w w' : World} {I : TypeId} {mk : Nat → Nat → List Value} {D : Nat → Nat → Prop} (h : MkI w I mk D) (hk : ∀ g cs, Blk w g I cs → Blk w' g I cs) : MkI w' I mk D :=
 ⟨h.len, fun t j hd => by obtain ⟨g, e, hb⟩ := h.at_ t j hd; exact ⟨g, e, hk _ _ hb⟩⟩
theorem MkI.put {w : World} {I : TypeId} {mk : Nat → Nat → List Value} {D D' : Nat → Nat → Prop} {n i g : Nat} (h : MkI w I mk D) (hb : Blk w g I #[.int .i64 (numI n i)]) (hD : ∀ t j, D' t j → (t = n ∧ j = i) ∨ D t j) :
 MkI w I (upd mk n i [.slice (some ⟨g, 0, none⟩) 1 1]) D' := by
 refine ⟨upd_len h.len n i rfl, fun t j hd => ?_⟩
 by_cases hc : t = n ∧ j = i
 ·obtain ⟨rfl, rfl⟩ := hc
  exact ⟨g, upd_same .., hb⟩
 ·obtain ⟨g', e, hb'⟩ := h.at_ t j ((hD t j hd).resolve_left hc)
  exact ⟨g', (upd_other hc).trans e, hb'⟩
end Go.Proofs.YtofgmijmhpmabaaGreatDoor.G

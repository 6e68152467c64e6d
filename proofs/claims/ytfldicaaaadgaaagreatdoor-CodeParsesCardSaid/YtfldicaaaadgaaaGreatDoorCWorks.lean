/- The contract of the law's works(): code is read, written, told. -/
import Derived.Test.YtfldicaaaadgaaaGreatDoorCText
namespace Go.Proofs.YtfldicaaaadgaaaGreatDoor.Code
open Go.RowKit
set_option linter.unusedVariables false
set_option linter.unusedSimpArgs false
theorem rdI_new (X : World) (l : List Int) (k : IntKind) (t : TypeId) (n : Nat) (hn : n = X.heap.size) : RdI (X.alloc (.cells (l.map (Value.int k)).toArray t)) k n 0 l := by
  subst hn
  refine ⟨by simp, fun j hj => ?_⟩
  rw [Nat.zero_add, cell_of_row _ _ j _ t (0, 0) (heap_alloc_new X _)]
  simp [List.getD_eq_getElem?_getD, List.getElem?_eq_getElem hj]
theorem rdV_new (X : World) (l : List Value) (t : TypeId) (n : Nat) (hn : n = X.heap.size) : RdV (X.alloc (.cells l.toArray t)) n 0 l := by
  subst hn
  refine ⟨by simp, fun j hj => ?_⟩
  rw [Nat.zero_add, cell_of_row _ _ j _ t (0, 0) (heap_alloc_new X _)]
  simp [List.getD_eq_getElem?_getD, List.getElem?_eq_getElem hj]
theorem own_rdV {w : World} {base : Nat} {t : TypeId} {size : Nat} {v : Value} {n : Nat} {xs : List Value} (h : w.ownsRow base t size v n xs) (hn : 0 < n) :
    ∃ g cap, v = .slice (some ⟨g, 0, none⟩) n cap ∧ RdV w g 0 xs ∧ cap ≤ maxLen ∧ n ≤ cap := by
  rcases h.2 with ⟨rfl, rfl⟩ | ⟨g, cap, cur, rfl, hb, hgg, hnc, hc, hcs, ht⟩
  · omega
  · refine ⟨g, cap, rfl, ⟨(Array.getElem?_eq_some_iff.1 hgg).1, fun j hj => ?_⟩, hc, hnc⟩
    have h1 := h.1
    rw [Nat.zero_add, Lib.cell_of_heap hgg]
    have h2 : (cur.toList.take (n * size))[j]? = some (xs.getD j undef) := by rw [ht, List.getD_eq_getElem?_getD, List.getElem?_eq_getElem hj]; rfl
    rw [List.getElem?_take] at h2
    split at h2
    · simpa using h2
    · cases h2
def wBytes : List Int := [4, 1, 10, 34]
def wList : List Ins := [⟨0, 4, 1, 0, 0⟩, ⟨2, 10, 0, 0, 0⟩, ⟨3, 34, 0, 0, 0⟩]
def wPut : List Ins := [⟨0, 1, 515, 0, 0⟩, ⟨3, 34, 0, 0, 0⟩]
theorem wBytes_is : IsBytes wBytes := by
  intro j
  rcases j with _ | _ | _ | _ | j <;> simp [wBytes]
theorem w_read : readAt wBytes 2 = (⟨2, 10, 0, 0, 0⟩, 0) := by decide +kernel
theorem w_all : allOf wBytes = (wList, 0, 0) := by decide +kernel
theorem right0 (p op : Int) (h : kindOf op = 0) : RightI ⟨p, op, 0, 0, 0⟩ := .inl ⟨h, rfl, rfl, rfl⟩
theorem w_putok : PutOk 0 wPut := by
  refine ⟨rfl, .inr (.inr (.inl ⟨by decide +kernel, by decide, rfl, rfl⟩)), by decide +kernel, ?_, right0 _ _ (by decide +kernel), by decide +kernel, trivial⟩
  decide +kernel
theorem w_listok : PutOk 0 wList := by
  refine ⟨rfl, .inr (.inl ⟨by decide +kernel, by decide, rfl, rfl⟩), by decide +kernel, ?_, right0 _ _ (by decide +kernel), by decide +kernel, ?_, right0 _ _ (by decide +kernel), by decide +kernel, trivial⟩
  · decide +kernel
  · decide +kernel
theorem w_bytes : bytesOf wPut = [1, 2, 3, 34] := by decide +kernel
theorem w_text : textOf wList = [48, 32, 108, 111, 97, 100, 32, 49, 10, 50, 32, 97, 100, 100, 10, 51, 32, 115, 116, 111, 112, 10] := by
  simp only [textOf, wList, rowText, List.flatMap_cons, List.flatMap_nil, opsText]
  decide +kernel
set_option maxRecDepth 100000 in
set_option maxHeartbeats 4000000 in
theorem works_any (w : World) (hit : ItoaIn w) : Calls Tryz.prog 4 #[] w fun e w' => e = .returned (.bool true) ∧ Below w.heap.size w w' := by
  have HIT := Lib.hid hit
  clear hit
  have HR := Lib.hid (fun b cap W (h : 4 ≤ cap) (h2 : cap ≤ 9223372036854775807) hr => Read_any b 0 cap wBytes 2 W h2 h hr wBytes_is)
  have HA := Lib.hid (fun b cap W (h : 4 ≤ cap) (h2 : cap ≤ 9223372036854775807) hr => All_any b 0 cap wBytes W h2 (by decide) h hr wBytes_is)
  have HP := Lib.hid (fun b cap W hr => Put_ok b 0 cap wPut W (by decide) hr w_putok)
  go_enter Tryz.func4, Tryz.ntmps4
  go_wp2_with fail
  have h1 := HR.out w.heap.size 4 (w.alloc (.cells #[.int .u8 4, .int .u8 1, .int .u8 10, .int .u8 34] 5)) (by omega) (by omega) (rdI_new w wBytes .u8 5 _ rfl)
  simp only [w_read, Ins.val] at h1
  refine h1.mono ?_
  rintro e w1 ⟨rfl, hb1⟩
  have hB1 := Lib.hid (Bl.tr (Bl.al (Below.refl _ w) _) hb1)
  have hs1 : w.heap.size ≤ w1.heap.size := hB1.out.size
  clear h1 hb1
  go_wp2_with fail
  have h2 := HA.out (w1.heap.size + 1) 4 ((w1.alloc (.cells #[.int .i64 2, .int .u8 10, .int .i64 0, .int .i64 0, .int .i64 0] 55)).alloc (.cells #[.int .u8 4, .int .u8 1, .int .u8 10, .int .u8 34] 5)) (by omega) (by omega) (rdI_new _ wBytes .u8 5 _ (by simp))
  refine h2.mono ?_
  rintro e w2 ⟨v2, he, ho2, hb2⟩
  rw [w_all] at he ho2
  subst he
  obtain ⟨g2, cap2, hv2, hrd2, hc2, hn2⟩ := own_rdV ho2 (by decide)
  have hv2' : v2 = .slice (some ⟨g2, 0, none⟩) 3 cap2 := hv2
  subst hv2'
  clear hv2
  have hB2 := Lib.hid (Bl.tr (Bl.al (Bl.al hB1.out _) _) hb2)
  have hs2 : w.heap.size ≤ w2.heap.size := hB2.out.size
  have HRD2 := Lib.hid hrd2
  clear h2 hb2 ho2 hrd2
  go_wp2_with fail
  have h3 := HP.out w2.heap.size 2 (w2.alloc (.cells #[.int .i64 0, .int .u8 1, .int .i64 515, .int .i64 0, .int .i64 0, .int .i64 3, .int .u8 34, .int .i64 0, .int .i64 0, .int .i64 0] 55)) (rdV_new w2 (flat wPut) 55 _ rfl)
  refine h3.mono ?_
  rintro e w3 ⟨v3, he, ho3, hb3⟩
  subst he
  rw [w_bytes] at ho3
  obtain ⟨g3, cap3, hv3, hrd3, hc3, hn3⟩ := own_rdV ho3 (by decide)
  have hv3' : v3 = .slice (some ⟨g3, 0, none⟩) 4 cap3 := hv3
  subst hv3'
  have hB23 := Bl.tr (Bl.al (Below.refl _ w2) _) hb3
  have hB3 := Lib.hid (Bl.tr hB2.out hB23)
  have hrd2' := HRD2.out.below hB23
  have HRD3 := Lib.hid hrd2'
  have a1 : w3.cell? ⟨g2, 5, none⟩ = some (.int .i64 2) := by have := hrd2'.2 5 (by decide); rwa [Nat.zero_add] at this
  have a2 : w3.cell? ⟨g2, 5 + 1, none⟩ = some (.int .u8 10) := by have := hrd2'.2 6 (by decide); rwa [Nat.zero_add] at this
  have a3 : w3.cell? ⟨g3, 1, none⟩ = some (.int .u8 2) := by have := hrd3.2 1 (by decide); rwa [Nat.zero_add] at this
  have a4 : w3.cell? ⟨g3, 2, none⟩ = some (.int .u8 3) := by have := hrd3.2 2 (by decide); rwa [Nat.zero_add] at this
  have hT := Text_ok g2 0 cap2 wList w3 (by decide) hrd2' w_listok (fun n W h0 h1 hb => HIT.out n W h0 h1 (Bl.tr hB3.out hb))
  rw [w_text] at hT
  have HT := Lib.hid hT
  clear h3 hb3 ho3 hrd3 hv3 hB23 hrd2' hT
  go_wp2_with (go_at_call 13; refine (HT.out).mono ?_; rintro e w4 ⟨rfl, hb4⟩)
  go_ret
  exact ⟨rfl, Bl.tr hB3.out hb4⟩
end Go.Proofs.YtfldicaaaadgaaaGreatDoor.Code

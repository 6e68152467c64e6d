/- The contract of (tree.kind).kids. -/
import Derived.Test.YtamienmbpdbnnaaTKRows
namespace Go.Proofs.Ytamienmbpdbnnaa.T
open Go Go.RowKit
set_option linter.unusedVariables false
set_option linter.unusedSimpArgs false
def KKPost (w : World) (r : KRow) (A0 : Option Addr) (L0 : Nat) (k : Int) (e : Ending) (w' : World) : Prop :=
  ∃ A L C, e = .returned (.tuple #[.slice A L C, .bool (mayB r k)]) ∧ Below w.heap.size w w' ∧ L ≤ C ∧ C ≤ 3 ∧ (mayB r k = true → (ownsOf r k).length = L ∧ ∀ W, G.RdS W A0 1 L0 (ints r.own) → G.RdS W A 1 L (ints (ownsOf r k)))
theorem rdS_take {w : World} {A : Option Addr} {L q : Nat} {own : List Int} (h : G.RdS w A 1 L (ints own)) (hq : q ≤ L) : G.RdS w A 1 q (ints (own.take q)) := by
  have hl : own.length = L := by have := h.1; simpa [ints] using this
  refine ⟨by simp [ints]; omega, fun h0 => ?_⟩
  obtain ⟨b, off, e, hr⟩ := h.2 (by omega)
  refine ⟨b, off, e, hr.1, fun j hj => ?_⟩
  have hj' : j < q := by simp [ints] at hj; omega
  rw [hr.2 j (by simp [ints]; omega)]
  simp [ints, List.getD_eq_getElem?_getD, List.getElem?_take, hj']
theorem rdS_tail {w : World} {b off L : Nat} {own : List Int} (h : G.RdS w (some ⟨b, off, none⟩) 1 (L + 1) (ints own)) : G.RdS w (some ⟨b, off + 1, none⟩) 1 L (ints own.tail) := by
  have hl : own.length = L + 1 := by have := h.1; simpa [ints] using this
  refine ⟨by simp [ints]; omega, fun h0 => ?_⟩
  obtain ⟨b', off', e, hr⟩ := h.2 (by omega)
  simp only [Option.some.injEq, Addr.mk.injEq, and_true] at e
  obtain ⟨rfl, rfl⟩ := e
  refine ⟨b, off + 1, rfl, hr.1, fun j hj => ?_⟩
  have hj' : j < L := by simp [ints] at hj; omega
  have h1 := hr.2 (j + 1) (by simp [ints]; omega)
  rw [show off + (j + 1) = off + 1 + j by omega] at h1
  rw [h1]
  simp [ints, List.getD_eq_getElem?_getD, List.getElem?_tail]
theorem ret_ib {A : Option Addr} {L C : Nat} {a b : Bool} (h : a = b) : Ending.returned (.tuple #[.slice A L C, .bool a]) = .returned (.tuple #[.slice A L C, .bool b]) := by rw [h]
set_option maxRecDepth 100000 in
set_option maxHeartbeats 2000000 in
theorem kkids_any (fv : Value) (r : KRow) (A : Option Addr) (L C : Nat) (k : Int) (w : World) (hl : r.own.length = L) (hC : L ≤ C) (hC3 : C ≤ 3) (hr : G.RdS w A 1 L (ints r.own)) :
    Calls Try.prog 38 #[.agg #[fv, .int .i64 r.most, .slice A L C, .int .i64 r.least, .bool r.more, .int .i64 r.rest], .int .i64 k] w (KKPost w r A L k) := by
  have HR := Lib.hid hr
  have HL := Lib.hid hl
  have hmay : mayB r k = if k < 0 then false else if r.more then true else !(decide ((r.own.length : Int) < k) || decide (k < r.least)) := rfl
  have hown : ownsOf r k = if r.more then [] else if r.least = 1 ∧ r.own.length = 2 ∧ k = 1 then r.own.tail else r.own.take k.toNat := rfl
  have HM := Lib.hid hmay
  have HO := Lib.hid hown
  obtain ⟨M, hM⟩ : ∃ M, M = mayB r k := ⟨_, rfl⟩
  obtain ⟨O, hO⟩ : ∃ O, O = ownsOf r k := ⟨_, rfl⟩
  unfold KKPost
  rw [← hM] at HM ⊢
  rw [← hO] at HO ⊢
  obtain ⟨tk, most, own, least, more, rest⟩ := r
  simp only at HR HL HM HO ⊢
  clear hr hl hmay hown hM hO
  by_cases h0 : k < 0
  · have HX := Lib.hid (show M = false by rw [HM.out, if_pos h0])
    go_enter Try.func38, Try.ntmps38
    go_wp2
    go_ret2
    exact ⟨none, 0, 0, ret_ib HX.out.symm, G.bl_alloc (Below.refl _ _) _, Nat.le_refl _, by omega, fun h => by rw [HX.out] at h; cases h⟩
  · cases more with
    | true =>
      have HX := Lib.hid (show M = true by rw [HM.out, if_neg h0]; rfl)
      have HY := Lib.hid (show O = [] by rw [HO.out]; rfl)
      go_enter Try.func38, Try.ntmps38
      go_wp2
      go_ret2
      exact ⟨none, 0, 0, ret_ib HX.out.symm, G.bl_alloc (Below.refl _ _) _, Nat.le_refl _, by omega, fun _ => by rw [HY.out]; exact ⟨rfl, fun _ _ => G.RdS.nil _⟩⟩
    | false =>
      by_cases h1 : (L : Int) < k
      · have HX := Lib.hid (show M = false by rw [HM.out, if_neg h0, HL.out]; simp [h1])
        go_enter Try.func38, Try.ntmps38
        go_wp2
        go_ret2
        exact ⟨none, 0, 0, ret_ib HX.out.symm, G.bl_alloc (Below.refl _ _) _, Nat.le_refl _, by omega, fun h => by rw [HX.out] at h; cases h⟩
      · by_cases h2 : k < least
        · have HX := Lib.hid (show M = false by rw [HM.out, if_neg h0, HL.out]; simp [h2])
          go_enter Try.func38, Try.ntmps38
          go_wp2
          go_ret2
          exact ⟨none, 0, 0, ret_ib HX.out.symm, G.bl_alloc (Below.refl _ _) _, Nat.le_refl _, by omega, fun h => by rw [HX.out] at h; cases h⟩
        · have HX := Lib.hid (show M = true by rw [HM.out, if_neg h0, HL.out]; simp [h1, h2])
          obtain ⟨q, rfl⟩ : ∃ q : Nat, k = q := ⟨k.toNat, by omega⟩
          have hqL : q ≤ L := by omega
          by_cases hsp : least = 1 ∧ L = 2 ∧ q = 1
          · obtain ⟨rfl, rfl, rfl⟩ := hsp
            have HY := Lib.hid (show O = own.tail by rw [HO.out, if_neg (by simp), if_pos ⟨rfl, HL.out, rfl⟩])
            obtain ⟨b, off, hA, _⟩ := HR.out.2 (by omega)
            subst hA
            clear h0 h1 h2
            have hcc : ¬ C = 1 := by omega
            go_enter Try.func38, Try.ntmps38
            go_wp2
            go_ret2
            refine ⟨some ⟨b, off + 1, none⟩, 1, C - 1, ?_, G.bl_alloc (Below.refl _ _) _, by omega, by omega, fun _ => by rw [HY.out]; exact ⟨by rw [List.length_tail, HL.out], fun W h => rdS_tail (L := 1) h⟩⟩
            exact ret_ib HX.out.symm
          · have HY := Lib.hid (show O = own.take q by
              rw [HO.out, if_neg (by simp), if_neg (fun h => hsp ⟨h.1, by rw [← HL.out]; exact h.2.1, by omega⟩)]
              simp)
            have h3 : (0 : Int) ≤ q := by omega
            by_cases e1 : least = 1
            · by_cases e2 : L = 2
              · have e3 : ((q : Int) == 1) = false := by simpa using fun e : (q : Int) = 1 => hsp ⟨e1, e2, by omega⟩
                subst e1 e2
                clear hsp
                go_enter Try.func38, Try.ntmps38
                go_wp2
                go_ret2
                exact ⟨A, q, C, ret_ib HX.out.symm, G.bl_alloc (Below.refl _ _) _, by omega, hC3, fun _ => by rw [HY.out]; exact ⟨by rw [List.length_take, HL.out]; omega, fun W h => rdS_take h hqL⟩⟩
              · have e3 : ((L : Int) == 2) = false := by simpa using fun e : (L : Int) = 2 => e2 (by omega)
                subst e1
                clear hsp e2
                go_enter Try.func38, Try.ntmps38
                go_wp2
                go_ret2
                exact ⟨A, q, C, ret_ib HX.out.symm, G.bl_alloc (Below.refl _ _) _, by omega, hC3, fun _ => by rw [HY.out]; exact ⟨by rw [List.length_take, HL.out]; omega, fun W h => rdS_take h hqL⟩⟩
            · have e3 := ne_b e1
              clear hsp e1
              go_enter Try.func38, Try.ntmps38
              go_wp2
              go_ret2
              exact ⟨A, q, C, ret_ib HX.out.symm, G.bl_alloc (Below.refl _ _) _, by omega, hC3, fun _ => by rw [HY.out]; exact ⟨by rw [List.length_take, HL.out]; omega, fun W h => rdS_take h hqL⟩⟩
end Go.Proofs.Ytamienmbpdbnnaa.T

/- The contracts of the reference's numbers, right, digits. -/
import Derived.Test.YtfldicaaaadgaaaGreatDoorCRefC
import Derived.Test.YtfldicaaaadgaaaGreatDoorCPutAny
import Derived.Lib.ItoaMem
namespace Go.Proofs.YtfldicaaaadgaaaGreatDoor.Code
open Go.RowKit
set_option linter.unusedVariables false
set_option linter.unusedSimpArgs false
set_option maxHeartbeats 400000 in
theorem refNumbers_any (x : Ins) (w : World) : Calls Tryz.prog 59 #[x.val] w (NumPost w [x.a, x.b, x.c]) := by
  obtain ⟨xa, xo, a, b, c⟩ := x
  unfold Ins.val
  go_enter Tryz.func59, Tryz.ntmps59
  go_wp2
  go_ret
  exact ⟨_, rfl, own_new _ [.int .i64 a, .int .i64 b, .int .i64 c] 3 _ _ (by simp) (by simp) (by simp [maxLen]), by repeat (first | (with_reducible apply Bl.al) | (with_reducible exact Below.refl _ _))⟩
/-- The greatest number at a place of a kind. -/
def mostOf (k : Int) (j : Nat) : Int := if j < (widthsOf k).length then (if (widthsOf k).getD j 0 = 2 then 65535 else 255) else 0
def numAt (x : Ins) (j : Nat) : Int := [x.a, x.b, x.c].getD j 0
theorem right_iff (x : Ins) (k : Int) (hk : kindOf x.op = k) (hk4 : k = 0 ∨ k = 1 ∨ k = 2 ∨ k = 3) : RightI x ↔ ∀ j, j < 3 → 0 ≤ numAt x j ∧ numAt x j ≤ mostOf k j := by
  have e : (∀ j, j < 3 → 0 ≤ numAt x j ∧ numAt x j ≤ mostOf k j) ↔ (0 ≤ x.a ∧ x.a ≤ mostOf k 0) ∧ (0 ≤ x.b ∧ x.b ≤ mostOf k 1) ∧ (0 ≤ x.c ∧ x.c ≤ mostOf k 2) := by
    refine ⟨fun h => ⟨h 0 (by omega), h 1 (by omega), h 2 (by omega)⟩, fun h j hj => ?_⟩
    have : j = 0 ∨ j = 1 ∨ j = 2 := by omega
    rcases this with rfl | rfl | rfl
    · exact h.1
    · exact h.2.1
    · exact h.2.2
  rw [e]
  unfold RightI
  rw [hk]
  rcases hk4 with rfl | rfl | rfl | rfl <;> simp [mostOf, widthsOf] <;> omega
theorem most_cases (k : Int) (hk4 : k = 0 ∨ k = 1 ∨ k = 2 ∨ k = 3) (j : Nat) (hj : j < (widthsOf k).length) : ((widthsOf k).getD j 0 = 2 ∧ mostOf k j = 65535) ∨ (((widthsOf k).getD j 0 == 2) = false ∧ mostOf k j = 255) := by
  unfold mostOf
  rw [if_pos hj]
  by_cases h : (widthsOf k).getD j 0 = 2
  · exact .inl ⟨h, if_pos h⟩
  · exact .inr ⟨by simpa using h, if_neg h⟩
theorem most_none (k : Int) (j : Nat) (h : ¬ j < (widthsOf k).length) : mostOf k j = 0 := if_neg h
set_option maxRecDepth 100000 in
set_option maxHeartbeats 4000000 in
theorem right_any (x : Ins) (k : Int) (w : World) (hop : 0 ≤ x.op ∧ x.op < 256) (hk : kindOf x.op = k) (hk4 : k = 0 ∨ k = 1 ∨ k = 2 ∨ k = 3) :
    Calls Tryz.prog 57 #[x.val] w fun e w' => e = .returned (.bool (decide (RightI x))) ∧ Below w.heap.size w w' := by
  have HRI := Lib.hid (right_iff x k hk hk4)
  have HW := Lib.hid (wd_some x.op hop.1 hop.2 k hk (by omega))
  have HMC := Lib.hid (most_cases k hk4)
  have HM0 := Lib.hid (fun j => most_none k j)
  have HN := Lib.hid (fun W => refNumbers_any x W)
  obtain ⟨D, hD⟩ : ∃ D, D = decide (RightI x) := ⟨_, rfl⟩
  rw [← hD]
  have HD := Lib.hid hD
  have HNA := Lib.hid (show ∀ j, [x.a, x.b, x.c].getD j 0 = numAt x j from fun _ => rfl)
  obtain ⟨ws, hws⟩ : ∃ ws, ws = widthsOf k := ⟨_, rfl⟩
  rw [← hws] at HW HMC HM0
  obtain ⟨na, hna⟩ : ∃ na, na = numAt x := ⟨_, rfl⟩
  rw [← hna] at HRI HNA
  clear hk hk4 hop hD hws hna
  obtain ⟨xa, xo, a, b, c⟩ := x
  simp only [Ins.val] at HW HN HNA ⊢
  unfold NumPost at HN
  go_enter Tryz.func57, Tryz.ntmps57
  go_wp2_with (first
    | (go_at_call 55; refine (HW.out _).mono ?_; rintro e w1 ⟨v, rfl, ho1, hb1⟩; obtain ⟨av, cv, hv⟩ := own_shape ho1; subst hv; have hz1' := hb1.size; simp only [World.size_alloc] at hz1'; have hC1 := (bcell hb1).1; have e0 := hC1 w.heap.size 0 (by simp); have e1 := hC1 w.heap.size 1 (by simp); have e2 := hC1 w.heap.size 2 (by simp); have e3 := hC1 w.heap.size 3 (by simp); have e4 := hC1 w.heap.size 4 (by simp); clear hC1; simp only [World.cell?_alloc_at, List.getElem?_toArray] at e0 e1 e2 e3 e4; have HO1 := Lib.hid ho1; have HB1 := Lib.hid (Bl.tr (Bl.al (Below.refl _ w) _) hb1); clear ho1 hb1)
    | (go_at_call 59; refine (HN.out _).mono ?_; rintro e w2 ⟨v2, rfl, ho2, hb2⟩; obtain ⟨av2, cv2, hv2⟩ := own_shape ho2; subst hv2; have HO2 := Lib.hid ho2; have HOW := Lib.hid (Bl.own HO1.out hb2); have HB2 := Lib.hid (Bl.tr HB1.out hb2); clear ho2 hb2))
  go_loop [6] (fun i => ∃ j : Nat, j ≤ 3 ∧ i = .int .i64 j ∧ ∀ i, i < j → 0 ≤ na i ∧ na i ≤ mostOf k i) (fun i => 3 - (intOf i).toNat)
  case atStart => exact ⟨0, by omega, rfl, fun i hi => by omega⟩
  case round =>
    obtain ⟨j, hj, rfl, hall⟩ := hrel
    have HALL := Lib.hid hall
    clear hall
    have h0j : (0 : Int) ≤ j := by omega
    by_cases hj3 : j < 3
    · have h3 : (j : Int) < 3 := by omega
      refine G.own_use HO2.out (by simp) ?_
      intro g2 hg2
      subst hg2
      have hc2 := i64s_cell HO2.out (j := j) (by simpa using hj3)
      rw [HNA.out] at hc2
      obtain ⟨v, hv⟩ : ∃ v, v = na j := ⟨_, rfl⟩
      rw [← hv] at hc2
      have HV := Lib.hid hv
      clear hv
      have hbad : (v < 0 ∨ mostOf k j < v) → D = false := fun h => by
        rw [HD.out]
        simp only [decide_eq_false_iff_not, HRI.out]
        intro hh
        have := hh j hj3
        rw [← HV.out] at this
        omega
      have HBAD := Lib.hid hbad
      have hok : ¬ (v < 0 ∨ mostOf k j < v) → ∀ i, i < j + 1 → 0 ≤ na i ∧ na i ≤ mostOf k i := fun h i hi => by
        by_cases e : i = j
        · subst e; rw [← HV.out]; omega
        · exact HALL.out i (by omega)
      have HOK := Lib.hid hok
      clear hbad hok
      have hwz := HO1.out.1
      by_cases hjw : j < ws.length
      · have hjw1 : (j : Int) < ws.length := by omega
        refine G.own_use HOW.out (by omega) ?_
        intro g1 hg1
        subst hg1
        have hc1 := i64s_cell HOW.out hjw
        rcases HMC.out j hjw with ⟨m1, m2⟩ | ⟨m1, m2⟩
        · rw [m1] at hc1
          rw [m2] at HBAD HOK
          clear m1 m2
          by_cases hv0 : v < 0
          · have hd := Lib.hid (HBAD.out (.inl hv0))
            go_wp2
            go_ret
            exact ⟨G.ret_bool hd.out.symm, HB2.out⟩
          · by_cases hvm : 65535 < v
            · have hd := Lib.hid (HBAD.out (.inr hvm))
              go_wp2
              go_ret
              exact ⟨G.ret_bool hd.out.symm, HB2.out⟩
            · have hd := Lib.hid (HOK.out (by omega))
              go_wp2
              go_round
              case rel => exact ⟨j + 1, by omega, by go_num, hd.out⟩
              case measure => simp [intOf]; omega
        · obtain ⟨wj, hwj⟩ : ∃ wj, wj = ws.getD j 0 := ⟨_, rfl⟩
          rw [← hwj] at hc1 m1
          rw [m2] at HBAD HOK
          clear m2 hwj
          by_cases hv0 : v < 0
          · have hd := Lib.hid (HBAD.out (.inl hv0))
            go_wp2
            go_ret
            exact ⟨G.ret_bool hd.out.symm, HB2.out⟩
          · by_cases hvm : 255 < v
            · have hd := Lib.hid (HBAD.out (.inr hvm))
              go_wp2
              go_ret
              exact ⟨G.ret_bool hd.out.symm, HB2.out⟩
            · have hd := Lib.hid (HOK.out (by omega))
              go_wp2
              go_round
              case rel => exact ⟨j + 1, by omega, by go_num, hd.out⟩
              case measure => simp [intOf]; omega
      · have hjw1 : ¬ (j : Int) < ws.length := by omega
        have m2 := HM0.out j hjw
        rw [m2] at HBAD HOK
        clear m2
        by_cases hv0 : v < 0
        · have hd := Lib.hid (HBAD.out (.inl hv0))
          go_wp2
          go_ret
          exact ⟨G.ret_bool hd.out.symm, HB2.out⟩
        · by_cases hvm : 0 < v
          · have hd := Lib.hid (HBAD.out (.inr hvm))
            go_wp2
            go_ret
            exact ⟨G.ret_bool hd.out.symm, HB2.out⟩
          · have hd := Lib.hid (HOK.out (by omega))
            go_wp2
            go_round
            case rel => exact ⟨j + 1, by omega, by go_num, hd.out⟩
            case measure => simp [intOf]; omega
    · have h3 : ¬ (j : Int) < 3 := by omega
      have hd : D = true := by
        rw [HD.out]
        simp only [decide_eq_true_eq, HRI.out]
        intro i hi
        exact HALL.out i (by omega)
      have HDT := Lib.hid hd
      clear hd
      go_wp2
      go_ret
      exact ⟨G.ret_bool HDT.out.symm, HB2.out⟩
/-! ### Decimal digits -/
theorem encode_digit (d : Int) (h0 : 48 ≤ d) (h1 : d ≤ 57) : Utf8.encode d = ⟨#[UInt8.ofNat d.toNat]⟩ := by
  have : d = 48 ∨ d = 49 ∨ d = 50 ∨ d = 51 ∨ d = 52 ∨ d = 53 ∨ d = 54 ∨ d = 55 ∨ d = 56 ∨ d = 57 := by omega
  rcases this with rfl | rfl | rfl | rfl | rfl | rfl | rfl | rfl | rfl | rfl <;> rfl
theorem digits_big {m : Nat} (h : 10 ≤ m) (s : List UInt8) : Lib.decDigits (m / 10) ++ (UInt8.ofNat (48 + m % 10) :: s) = Lib.decDigits m ++ s := by
  rw [Lib.decDigits.eq_def m, dif_neg (by omega), List.append_assoc]
  rfl
theorem digits_small {m : Nat} (h : m < 10) : Lib.decDigits m = [UInt8.ofNat (48 + m)] := by rw [Lib.decDigits.eq_def, dif_pos h]
theorem bytes_app (a : UInt8) (s : List UInt8) : (⟨#[a]⟩ : ByteArray) ++ ⟨s.toArray⟩ = ⟨(a :: s).toArray⟩ := by
  apply ByteArray.ext
  simp [ByteArray.data_append]
end Go.Proofs.YtfldicaaaadgaaaGreatDoor.Code

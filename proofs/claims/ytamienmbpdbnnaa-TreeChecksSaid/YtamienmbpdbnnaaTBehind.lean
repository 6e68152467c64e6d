/- The contracts of tree.Behind and of the reference's. -/
import Derived.Test.YtamienmbpdbnnaaTRank
import Derived.Test.YtamienmbpdbnnaaTDepth
import Derived.Test.YtamienmbpdbnnaaOpenS
import Derived.Handy
namespace Go.Proofs.Ytamienmbpdbnnaa.T
open Go Go.RowKit
set_option linter.unusedVariables false
set_option linter.unusedSimpArgs false
theorem nd_at {w : World} {b off k : Nat} {l : List Nd} {x : Nd} (h : G.RdV w b off (flat l)) (hk : k < l.length) (hx : l.getD k zeroNd = x) :
    w.cell? ⟨b, off + k * 7, none⟩ = some (.int .i8 x.op) ∧ w.cell? ⟨b, off + k * 7 + 1, none⟩ = some (.int .i8 x.kind) ∧ w.cell? ⟨b, off + k * 7 + 2, none⟩ = some (.int .i64 x.n) ∧ w.cell? ⟨b, off + k * 7 + 3, none⟩ = some (.int .i64 x.m) ∧
      w.cell? ⟨b, off + k * 7 + 4, none⟩ = some (.string x.text) ∧ w.cell? ⟨b, off + k * 7 + 5, none⟩ = some (.int .i64 x.at_) ∧ w.cell? ⟨b, off + k * 7 + 6, none⟩ = some (.int .i64 x.kids) := by
  have key : ∀ j, j < 7 → w.cell? ⟨b, off + k * 7 + j, none⟩ = some (x.cells.getD j undef) := fun j hj => by
    have h1 := h.2 (k * 7 + j) (by rw [flat_length]; omega)
    have h2 : (flat l).getD (k * 7 + j) undef = (Nd.cells (l.getD k zeroNd)).getD j undef := G.flat_getD Nd.cells 7 (fun _ => rfl) zeroNd l k j hk hj
    rw [h2, hx] at h1
    rw [Nat.add_assoc]
    exact h1
  exact ⟨key 0 (by omega), key 1 (by omega), key 2 (by omega), key 3 (by omega), key 4 (by omega), key 5 (by omega), key 6 (by omega)⟩
theorem drop_nd {t : List Nd} {p : Nat} (h : p < t.length) : t.drop p = t.getD p zeroNd :: t.drop (p + 1) := by
  rw [List.drop_eq_getElem_cons h, List.getD_eq_getElem?_getD, List.getElem?_eq_getElem h]
  rfl
theorem need_yes {t : List Nd} {p c : Nat} (h : p < t.length) (hk : 0 ≤ (t.getD p zeroNd).kids) : need (c + 1) (t.drop p) = need (c + (t.getD p zeroNd).kids.toNat) (t.drop (p + 1)) := by
  rw [drop_nd h, need, if_pos hk]
theorem need_neg {t : List Nd} {p c : Nat} (h : p < t.length) (hk : (t.getD p zeroNd).kids < 0) : need (c + 1) (t.drop p) = none := by
  rw [drop_nd h, need, if_neg (by omega)]
theorem need_big {t : List Nd} {p c : Nat} (h : p < t.length) (hk : (t.length : Int) < (t.getD p zeroNd).kids) : need (c + 1) (t.drop p) = none := by
  rw [need_yes h (by omega)]
  cases hn : need (c + (t.getD p zeroNd).kids.toNat) (t.drop (p + 1)) with
  | none => rfl
  | some r =>
    have := need_len _ _ _ hn
    rw [List.length_drop] at this
    omega
theorem need_out {t : List Nd} {p c : Nat} (h : t.length ≤ p) : need (c + 1) (t.drop p) = none := by
  rw [List.drop_eq_nil_of_le h]; rfl
theorem behind_in {t : List Nd} {a : Nat} (h : a < t.length) : behindOf t (a : Int) = match need 1 (t.drop a) with | none => -1 | some r => (t.length : Int) - r.length := by
  unfold behindOf
  rw [if_neg (by omega)]
  rfl
theorem behind_none {t : List Nd} {a : Nat} (h : a < t.length) (hn : need 1 (t.drop a) = none) : behindOf t (a : Int) = -1 := by rw [behind_in h, hn]
theorem behind_some {t : List Nd} {a p : Nat} (h : a < t.length) (hp : p ≤ t.length) (hn : need 1 (t.drop a) = some (t.drop p)) : behindOf t (a : Int) = p := by
  rw [behind_in h, hn]
  simp only [List.length_drop]
  omega
theorem behind_out {t : List Nd} {a : Int} (h : a < 0 ∨ (t.length : Int) ≤ a) : behindOf t a = -1 := by unfold behindOf; rw [if_pos h]
set_option maxRecDepth 100000 in
set_option maxHeartbeats 2000000 in
theorem behind_any (A : Option Addr) (n cap : Nat) (t : List Nd) (a : Int) (w : World) (hn : t.length = n) (hm : n ≤ 16777216) (hr : G.RdS w A 7 n (flat t)) :
    Calls Try.prog 22 #[.slice A n cap, .int .i64 a] w fun e w' => e = .returned (.int .i64 (behindOf t a)) ∧ w = w' := by
  have HN := Lib.hid hn
  have HR := Lib.hid hr
  clear hr
  by_cases h0 : a < 0
  · have HB := Lib.hid (behind_out (t := t) (.inl h0))
    clear hn
    go_enter Try.func22, Try.ntmps22
    go_wp2
    go_ret
    exact ⟨ret_int HB.out.symm, rfl⟩
  · by_cases h1 : (n : Int) ≤ a
    · have HB := Lib.hid (behind_out (t := t) (.inr (by rw [hn]; exact h1)))
      clear hn
      go_enter Try.func22, Try.ntmps22
      go_wp2
      go_ret
      exact ⟨ret_int HB.out.symm, rfl⟩
    · obtain ⟨i, rfl⟩ : ∃ i : Nat, a = i := ⟨a.toNat, by omega⟩
      have hi : i < n := by omega
      have h2 : (i : Int) < n := by omega
      have h3 : ¬ (i : Int) < 0 := by omega
      obtain ⟨R, hR⟩ : ∃ R, R = behindOf t (i : Int) := ⟨_, rfl⟩
      rw [← hR]
      have HR2 := Lib.hid hR
      clear hR hn h0 h1
      go_enter Try.func22, Try.ntmps22
      go_wp2
      go_loop [1, 5] (fun u v => ∃ p c : Nat, i ≤ p ∧ p ≤ n ∧ u = .int .i64 p ∧ v = .int .i64 c ∧ c ≤ 1 + (p - i) * 16777216 ∧ need 1 (t.drop i) = need c (t.drop p)) (fun u _ => n - (intOf u).toNat)
      case atStart => exact ⟨i, 1, Nat.le_refl _, by omega, rfl, rfl, by omega, rfl⟩
      case round =>
        obtain ⟨p, c, hip, hp, rfl, rfl, hc, hne⟩ := hrel
        have HNE := Lib.hid hne
        clear hne
        have hcb : (c : Int) ≤ 281474976710657 := by
          have : (p - i) * 16777216 ≤ 16777216 * 16777216 := Nat.mul_le_mul_right _ (by omega)
          omega
        have HC := Lib.hid hc
        clear hc
        cases c with
        | zero =>
          have HB := Lib.hid (behind_some (by rw [HN.out]; exact hi) (by rw [HN.out]; exact hp) (by rw [HNE.out, need]))
          go_wp2
          go_ret
          exact ⟨ret_int (by rw [HR2.out, HB.out]), rfl⟩
        | succ c =>
          have h5 : (0 : Int) < ((c + 1 : Nat) : Int) := by omega
          have h50 : (0 : Int) < (c : Int) + 1 := by omega
          by_cases hpn : p < n
          · have h6 : (p : Int) < n := by omega
            have h60 : ¬ (n : Int) ≤ p := by omega
            obtain ⟨b, off, hA, hr⟩ := HR.out.2 (by omega)
            subst hA
            obtain ⟨x, hx⟩ : ∃ x, x = t.getD p zeroNd := ⟨_, rfl⟩
            have hck := (nd_at hr (by rw [HN.out]; exact hpn) hx.symm).2.2.2.2.2.2
            have HYES := Lib.hid (fun hk => HNE.out.trans (need_yes (c := c) (t := t) (p := p) (by rw [HN.out]; exact hpn) hk))
            have HNEG := Lib.hid (fun hk => behind_none (t := t) (a := i) (by rw [HN.out]; exact hi) (HNE.out.trans (need_neg (c := c) (p := p) (by rw [HN.out]; exact hpn) hk)))
            have HBIG := Lib.hid (fun hk => behind_none (t := t) (a := i) (by rw [HN.out]; exact hi) (HNE.out.trans (need_big (c := c) (p := p) (by rw [HN.out]; exact hpn) hk)))
            rw [← hx] at HYES HNEG HBIG
            obtain ⟨xo, xk, xn, xm, xt, xa, k⟩ := x
            simp only at hck HYES HNEG HBIG
            clear hr hx
            by_cases hk0 : k < 0
            · have HB := Lib.hid (HNEG.out hk0)
              go_wp2
              go_ret
              exact ⟨ret_int (by rw [HR2.out, HB.out]), rfl⟩
            · by_cases hkn : (n : Int) < k
              · have HB := Lib.hid (HBIG.out (by rw [HN.out]; exact hkn))
                go_wp2
                go_ret
                exact ⟨ret_int (by rw [HR2.out, HB.out]), rfl⟩
              · obtain ⟨q, rfl⟩ : ∃ q : Nat, k = q := ⟨k.toNat, by omega⟩
                have HB := Lib.hid (HYES.out (by omega))
                go_wp2
                go_round
                case rel => exact ⟨p + 1, c + q, by omega, by omega, by go_num, by go_num, by
                    have := HC.out
                    have e : (p + 1 - i) * 16777216 = (p - i) * 16777216 + 16777216 := by rw [show p + 1 - i = (p - i) + 1 by omega, Nat.succ_mul]
                    omega, HB.out⟩
                case measure => simp [intOf]; omega
          · have h6 : (n : Int) ≤ p := by omega
            have HB := Lib.hid (behind_none (t := t) (a := i) (by rw [HN.out]; exact hi) (HNE.out.trans (need_out (c := c) (p := p) (by rw [HN.out]; omega))))
            go_wp2
            go_ret
            exact ⟨ret_int (by rw [HR2.out, HB.out]), rfl⟩
set_option maxRecDepth 100000 in
set_option maxHeartbeats 2000000 in
theorem refBehind_any (A : Option Addr) (n cap : Nat) (t : List Nd) (a : Int) (w : World) (hn : t.length = n) (hm : n ≤ 16777216) (hr : G.RdS w A 7 n (flat t)) :
    Calls Try.prog 36 #[.slice A n cap, .int .i64 a] w fun e w' => e = .returned (.int .i64 (behindOf t a)) ∧ w = w' := by
  have HN := Lib.hid hn
  have HR := Lib.hid hr
  clear hr
  by_cases h0 : a < 0
  · have HB := Lib.hid (behind_out (t := t) (.inl h0))
    clear hn
    go_enter Try.func36, Try.ntmps36
    go_wp2
    go_ret
    exact ⟨ret_int HB.out.symm, rfl⟩
  · by_cases h1 : (n : Int) ≤ a
    · have HB := Lib.hid (behind_out (t := t) (.inr (by rw [hn]; exact h1)))
      clear hn
      go_enter Try.func36, Try.ntmps36
      go_wp2
      go_rounds 1
      go_ret
      exact ⟨ret_int HB.out.symm, rfl⟩
    · obtain ⟨i, rfl⟩ : ∃ i : Nat, a = i := ⟨a.toNat, by omega⟩
      have hi : i < n := by omega
      have h2 : (i : Int) < n := by omega
      have h3 : ¬ (i : Int) < 0 := by omega
      obtain ⟨R, hR⟩ : ∃ R, R = behindOf t (i : Int) := ⟨_, rfl⟩
      rw [← hR]
      have HR2 := Lib.hid hR
      clear hR hn h0 h1
      go_enter Try.func36, Try.ntmps36
      go_wp2
      go_loop [1, 5] (fun u v => ∃ p c : Nat, i ≤ p ∧ p ≤ n ∧ u = .int .i64 p ∧ v = .int .i64 c ∧ c ≤ 1 + (p - i) * 16777216 ∧ need 1 (t.drop i) = need c (t.drop p)) (fun u _ => n - (intOf u).toNat)
      case atStart => exact ⟨i, 1, Nat.le_refl _, by omega, rfl, rfl, by omega, rfl⟩
      case round =>
        obtain ⟨p, c, hip, hp, rfl, rfl, hc, hne⟩ := hrel
        have HNE := Lib.hid hne
        clear hne
        have hcb : (c : Int) ≤ 281474976710657 := by
          have : (p - i) * 16777216 ≤ 16777216 * 16777216 := Nat.mul_le_mul_right _ (by omega)
          omega
        have HC := Lib.hid hc
        clear hc
        cases c with
        | zero =>
          have HB := Lib.hid (behind_some (by rw [HN.out]; exact hi) (by rw [HN.out]; exact hp) (by rw [HNE.out, need]))
          go_wp2
          go_ret
          exact ⟨ret_int (by rw [HR2.out, HB.out]), rfl⟩
        | succ c =>
          have h5 : (0 : Int) < ((c + 1 : Nat) : Int) := by omega
          have h50 : (0 : Int) < (c : Int) + 1 := by omega
          by_cases hpn : p < n
          · have h6 : (p : Int) < n := by omega
            have h60 : ¬ (n : Int) ≤ p := by omega
            obtain ⟨b, off, hA, hr⟩ := HR.out.2 (by omega)
            subst hA
            obtain ⟨x, hx⟩ : ∃ x, x = t.getD p zeroNd := ⟨_, rfl⟩
            have hck := (nd_at hr (by rw [HN.out]; exact hpn) hx.symm).2.2.2.2.2.2
            have HYES := Lib.hid (fun hk => HNE.out.trans (need_yes (c := c) (t := t) (p := p) (by rw [HN.out]; exact hpn) hk))
            have HNEG := Lib.hid (fun hk => behind_none (t := t) (a := i) (by rw [HN.out]; exact hi) (HNE.out.trans (need_neg (c := c) (p := p) (by rw [HN.out]; exact hpn) hk)))
            have HBIG := Lib.hid (fun hk => behind_none (t := t) (a := i) (by rw [HN.out]; exact hi) (HNE.out.trans (need_big (c := c) (p := p) (by rw [HN.out]; exact hpn) hk)))
            rw [← hx] at HYES HNEG HBIG
            obtain ⟨xo, xk, xn, xm, xt, xa, k⟩ := x
            simp only at hck HYES HNEG HBIG
            clear hr hx
            by_cases hk0 : k < 0
            · have HB := Lib.hid (HNEG.out hk0)
              go_wp2
              go_ret
              exact ⟨ret_int (by rw [HR2.out, HB.out]), rfl⟩
            · by_cases hkn : (n : Int) < k
              · have HB := Lib.hid (HBIG.out (by rw [HN.out]; exact hkn))
                go_wp2
                go_ret
                exact ⟨ret_int (by rw [HR2.out, HB.out]), rfl⟩
              · obtain ⟨q, rfl⟩ : ∃ q : Nat, k = q := ⟨k.toNat, by omega⟩
                have HB := Lib.hid (HYES.out (by omega))
                go_wp2
                go_round
                case rel => exact ⟨p + 1, c + q, by omega, by omega, by go_num, by go_num, by
                    have := HC.out
                    have e : (p + 1 - i) * 16777216 = (p - i) * 16777216 + 16777216 := by rw [show p + 1 - i = (p - i) + 1 by omega, Nat.succ_mul]
                    omega, HB.out⟩
                case measure => simp [intOf]; omega
          · have h6 : (n : Int) ≤ p := by omega
            have HB := Lib.hid (behind_none (t := t) (a := i) (by rw [HN.out]; exact hi) (HNE.out.trans (need_out (c := c) (p := p) (by rw [HN.out]; omega))))
            go_wp2
            go_ret
            exact ⟨ret_int (by rw [HR2.out, HB.out]), rfl⟩
end Go.Proofs.Ytamienmbpdbnnaa.T

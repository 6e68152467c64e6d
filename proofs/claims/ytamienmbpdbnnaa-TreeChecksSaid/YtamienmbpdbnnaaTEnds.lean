/- The contracts of tree.ends and of both Kids. -/
import Derived.Test.YtamienmbpdbnnaaTBehind
import Derived.OwnWalk
namespace Go.Proofs.Ytamienmbpdbnnaa.T
open Go Go.RowKit
set_option linter.unusedVariables false
set_option linter.unusedSimpArgs false
theorem infoInt : (Try.prog.info? 3).map (fun i => (i.zero, i.size, i.bytes)) = some (some (.int .i64 0), 1, 8) := by kernel_rfl
def ints (l : List Int) : List Value := l.map (Value.int .i64)
theorem ints_cell {w : World} {base g c n j : Nat} {zs : List Int} (h : w.ownsRow base 3 1 (.slice (some ⟨g, 0, none⟩) n c) n (ints zs)) (hj : j < zs.length) : w.cell? ⟨g, j, none⟩ = some (.int .i64 (zs.getD j 0)) :=
  G.own_cell h (by simp [ints, List.getD_eq_getElem?_getD, List.getElem?_eq_getElem hj])
theorem ints_set (zs : List Int) (m : Nat) (u : Int) : (ints zs).set m (.int .i64 u) = ints (zs.set m u) := by simp [ints, List.map_set]
theorem need_add : ∀ (l : List Nd) (c d : Nat), need (c + d) l = (need c l).bind (need d) := by
  intro l
  induction l with
  | nil =>
    intro c d
    cases c with
    | zero => simp [need]
    | succ c => rw [show c + 1 + d = (c + d) + 1 by omega]; rfl
  | cons x l ih =>
    intro c d
    cases c with
    | zero => rw [Nat.zero_add, need]; rfl
    | succ c =>
      rw [show c + 1 + d = (c + d) + 1 by omega, need, need]
      split
      · rw [show c + d + x.kids.toNat = (c + x.kids.toNat) + d by omega, ih]
      · rfl
theorem need_drop : ∀ (l : List Nd) (c : Nat) (r : List Nd), need c l = some r → r = l.drop (l.length - r.length) := by
  intro l
  induction l with
  | nil =>
    intro c r h
    cases c with
    | zero => rw [need] at h; obtain rfl := Option.some.inj h; rfl
    | succ c => simp [need] at h
  | cons x l ih =>
    intro c r h
    cases c with
    | zero => rw [need] at h; obtain rfl := Option.some.inj h; simp
    | succ c =>
      rw [need] at h
      split at h
      · have h1 := ih _ r h
        have h2 := need_len _ _ _ h
        rw [List.length_cons, show l.length + 1 - r.length = (l.length - r.length) + 1 by omega, List.drop_succ_cons]
        exact h1
      · cases h
/-- The place behind so many trees. -/
def skipTo (t : List Nd) (p c : Nat) : Int := match need c (t.drop p) with | none => -1 | some r => (t.length : Int) - r.length
theorem skip_zero {t : List Nd} {p : Nat} (h : p ≤ t.length) : skipTo t p 0 = p := by
  unfold skipTo
  rw [need]
  simp only [List.length_drop]
  omega
theorem skip_bd (t : List Nd) (p c : Nat) : -1 ≤ skipTo t p c ∧ skipTo t p c ≤ t.length := by
  unfold skipTo
  split
  · omega
  · rename_i r h
    have := need_len _ _ _ h
    rw [List.length_drop] at this
    omega
theorem skip_ge {t : List Nd} {p q : Nat} (hp : p ≤ t.length) (h : 0 ≤ skipTo t p q) : (p : Int) ≤ skipTo t p q := by
  unfold skipTo at h ⊢
  cases hq : need q (t.drop p) with
  | none => rw [hq] at h; simp at h
  | some r =>
    have := need_len _ _ _ hq
    rw [List.length_drop] at this
    simp only
    omega
theorem skip_neg {t : List Nd} {p q c : Nat} (h : skipTo t p q < 0) (hq : q ≤ c) : skipTo t p c = -1 := by
  have hn : need q (t.drop p) = none := by
    unfold skipTo at h
    cases hq : need q (t.drop p) with
    | none => rfl
    | some r =>
      rw [hq] at h
      have := need_len _ _ _ hq
      rw [List.length_drop] at this
      simp only at h
      omega
  unfold skipTo
  rw [show c = q + (c - q) by omega, need_add, hn]
  rfl
theorem skip_step {t : List Nd} {p q : Nat} (h : 0 ≤ skipTo t p q) : skipTo t p (q + 1) = behindOf t (skipTo t p q) := by
  unfold skipTo at h ⊢
  rw [need_add]
  cases hq : need q (t.drop p) with
  | none => rw [hq] at h; simp at h
  | some r =>
    have h1 := need_drop _ _ _ hq
    have h2 := need_len _ _ _ hq
    rw [List.length_drop] at h1 h2
    rw [List.drop_drop] at h1
    simp only [Option.bind_some]
    rcases Nat.eq_zero_or_pos r.length with h0 | h0
    · have hr : r = [] := List.eq_nil_of_length_eq_zero h0
      rw [hr, behind_out (.inr (by simp))]
      rfl
    · have hp : (t.length : Int) - r.length = ((t.length - r.length : Nat) : Int) := by omega
      rw [hp, behind_in (by omega)]
      have e : t.drop (t.length - r.length) = r := by
        rw [h1, List.length_drop]
        congr 1
        have h3 : r.length = t.length - (p + (t.length - p - r.length)) := by rw [← List.length_drop, ← h1]
        omega
      rw [e]
      cases need 1 r <;> rfl
theorem behind_skip {t : List Nd} {i : Nat} (h : i < t.length) (hk : 0 ≤ (t.getD i zeroNd).kids) : behindOf t (i : Int) = skipTo t (i + 1) (t.getD i zeroNd).kids.toNat := by
  rw [behind_in h, need_yes h hk, Nat.zero_add]
  rfl
theorem behind_bad {t : List Nd} {i : Nat} (h : i < t.length) (hk : (t.getD i zeroNd).kids < 0 ∨ (t.length : Int) < (t.getD i zeroNd).kids) : behindOf t (i : Int) = -1 :=
  behind_none h (hk.elim (fun hk => need_neg h hk) (fun hk => need_big h hk))
def endsOf (t : List Nd) : List Int := (List.range t.length).map fun i : Nat => behindOf t (i : Int)
theorem endsOf_length (t : List Nd) : (endsOf t).length = t.length := by simp [endsOf]
theorem endsOf_get (t : List Nd) {i : Nat} (h : i < t.length) : (endsOf t).getD i 0 = behindOf t (i : Int) := by
  simp [endsOf, List.getD_eq_getElem?_getD, h]
def EndsPost (t : List Nd) (n : Nat) (w : World) (e : Ending) (w' : World) : Prop :=
  e = .returned (.slice (some ⟨w.heap.size, 0, none⟩) n n) ∧ w'.ownsRow w.heap.size 3 1 (.slice (some ⟨w.heap.size, 0, none⟩) n n) n (ints (endsOf t)) ∧ Below w.heap.size w w'
theorem made_ints (n : Nat) : ∃ zs : List Int, zs.length = n ∧ (madeCells (Value.int .i64 0).cells (n * 1)).toList = ints zs := by
  refine ⟨List.replicate n 0, by simp, ?_⟩
  rw [Nat.mul_one]
  apply List.ext_getElem?
  intro j
  rw [Array.getElem?_toList]
  by_cases h : j < n <;> simp [madeCells, Value.cells, ints, h, Nat.mod_one]
set_option maxRecDepth 100000 in
set_option maxHeartbeats 4000000 in
theorem ends_any (A : Option Addr) (n cap : Nat) (t : List Nd) (w : World) (hn : t.length = n) (hm : n ≤ 16777216) (hr : G.RdS w A 7 n (flat t)) :
    Calls Try.prog 29 #[.slice A n cap] w (EndsPost t n w) := by
  obtain ⟨i0, hi, hz0, hz1, hz2⟩ := info_parts infoInt
  have HN := Lib.hid hn
  have HR := Lib.hid hr
  clear hr hn
  go_enter Try.func29, Try.ntmps29
  go_wp2_with (refine wpList_make_full _ rfl _ _ 35 rfl w.heap.size 3 i0 _ 1 Try.underlying35 hi hz0 hz1 .i64 .i64 _ _ n rfl rfl rfl rfl (by rw [hz2]; omega) (by unfold maxLen; omega) (Nat.le_refl _) ?_; intro w1 ho1 hg1)
  obtain ⟨zs0, hzl, hze⟩ := made_ints n
  rw [hze] at ho1
  have hb1 : Below w.heap.size w w1 := (Below.refl _ _).grown hg1 (Nat.le_refl _) (by simp)
  obtain ⟨g, hg⟩ : ∃ g, g = w.heap.size := ⟨_, rfl⟩
  rw [← hg] at ho1 ⊢
  have HG := Lib.hid hg
  clear hze hg1 hg
  go_wp2
  go_loopw [4] (fun i wr => ∃ (m : Nat) (z : Int) (zs : List Int), m ≤ n ∧ i = .int .i64 z ∧ z = m - 1 ∧ zs.length = n ∧ Below w.heap.size w wr ∧ wr.ownsRow g 3 1 (.slice (some ⟨g, 0, none⟩) n n) n (ints zs) ∧ ∀ j, m ≤ j → j < n → zs.getD j 0 = behindOf t (j : Int)) (fun i _ => (intOf i + 1).toNat)
  case atStart => exact ⟨n, _, zs0, Nat.le_refl _, rfl, by omega, hzl, hb1, ho1, fun j h1 h2 => by omega⟩
  case round =>
    obtain ⟨m, z, zs, hmn, rfl, hz, hzs, hbel, hown, hall⟩ := hrel
    have HALL := Lib.hid hall
    have HOWN := Lib.hid hown
    have HZS := Lib.hid hzs
    clear hall hown hzs
    cases m with
    | zero =>
      have HE := Lib.hid (show zs = endsOf t from List.ext_getElem? (fun j => by
        by_cases h : j < n
        · have h1 := HALL.out j (Nat.zero_le _) h
          rw [← endsOf_get t (by rw [HN.out]; exact h)] at h1
          rw [List.getD_eq_getElem?_getD, List.getD_eq_getElem?_getD, List.getElem?_eq_getElem (by rw [HZS.out]; exact h), List.getElem?_eq_getElem (by rw [endsOf_length, HN.out]; exact h)] at h1
          rw [List.getElem?_eq_getElem (by rw [HZS.out]; exact h), List.getElem?_eq_getElem (by rw [endsOf_length, HN.out]; exact h)]
          exact congrArg some h1
        · rw [List.getElem?_eq_none (by rw [HZS.out]; omega), List.getElem?_eq_none (by rw [endsOf_length, HN.out]; omega)]))
      have hneg : ¬ (0 : Int) ≤ z := by omega
      clear hz
      go_wp2
      go_ret
      unfold EndsPost
      rw [← HE.out, ← HG.out]
      exact ⟨rfl, HOWN.out, by rw [HG.out]; exact hbel⟩
    | succ m =>
      obtain rfl : z = (m : Int) := by omega
      have h0 : (0 : Int) ≤ m := by omega
      have hmn1 : m < n := by omega
      obtain ⟨b, off, hA, hr⟩ := (HR.out.below hbel).2 (by omega)
      subst hA
      obtain ⟨x, hx⟩ : ∃ x, x = t.getD m zeroNd := ⟨_, rfl⟩
      have hck := (nd_at hr (by rw [HN.out]; exact hmn1) hx.symm).2.2.2.2.2.2
      have hBS := fun hk => behind_skip (t := t) (i := m) (by rw [HN.out]; exact hmn1) hk
      have hBB := fun hk => behind_bad (t := t) (i := m) (by rw [HN.out]; exact hmn1) hk
      rw [← hx] at hBS hBB
      have HBS := Lib.hid hBS
      have HBB := Lib.hid hBB
      have hfz := HOWN.out.frozenAt m
      have HST := Lib.hid (fun u => ints_set zs m u ▸ (HOWN.out.stored m (.int .i64 u)).1)
      have hgc := ints_cell HOWN.out (j := m) (by rw [HZS.out]; exact hmn1)
      have hgw : g < wr.heap.size := World.block_lt_of_cell? _ _ hgc
      have HFIN := Lib.hid (show ∀ u, u = behindOf t (m : Int) → ∀ j, m ≤ j → j < n → (zs.set m u).getD j 0 = behindOf t (j : Int) from fun u hu j h1 h2 => by
        rw [List.getD_eq_getElem?_getD, List.getElem?_set]
        by_cases e : m = j
        · subst e
          rw [if_pos rfl, if_pos (by rw [HZS.out]; exact h2)]
          exact hu
        · rw [if_neg e, ← List.getD_eq_getElem?_getD]
          exact HALL.out j (by omega) h2)
      obtain ⟨xo, xk, xn, xm, xt, xa, k⟩ := x
      simp only at hck HBS HBB
      clear hr hx hBS hBB hz
      by_cases hbad : k < 0 ∨ (n : Int) < k
      · have HV := Lib.hid (HBB.out (by rw [HN.out]; exact hbad))
        by_cases hk0 : k < 0
        · have hk1 : ¬ (0 : Int) < k := by omega
          clear hbad
          go_wp2
          go_rounds 1
          go_wp2
          go_roundw
          case rel => exact ⟨m, _, zs.set m (-1), by omega, rfl, rfl, by rw [List.length_set]; exact HZS.out, G.bl_set (p := ⟨g, m, none⟩) hbel (by rw [HG.out]; exact Nat.le_refl _) _, HST.out (-1), HFIN.out _ HV.out.symm⟩
          case measure => simp [intOf]
        · have hk1 : (n : Int) < k := by omega
          have hk2 : (0 : Int) < k := by omega
          clear hbad
          go_wp2
          go_rounds 1
          go_wp2
          go_roundw
          case rel => exact ⟨m, _, zs.set m (-1), by omega, rfl, rfl, by rw [List.length_set]; exact HZS.out, G.bl_set (p := ⟨g, m, none⟩) hbel (by rw [HG.out]; exact Nat.le_refl _) _, HST.out (-1), HFIN.out _ HV.out.symm⟩
          case measure => simp [intOf]
      · obtain ⟨K, rfl⟩ : ∃ K : Nat, k = K := ⟨k.toNat, by omega⟩
        have hk0 : ¬ (K : Int) < 0 := by omega
        have hk1 : ¬ (n : Int) < K := by omega
        have HV := Lib.hid (show behindOf t (m : Int) = skipTo t (m + 1) K from by have := HBS.out (by omega); simpa using this)
        have HS0 := Lib.hid (skip_zero (t := t) (p := m + 1) (by rw [HN.out]; omega))
        have HSB := Lib.hid (show ∀ q, -1 ≤ skipTo t (m + 1) q ∧ skipTo t (m + 1) q ≤ n from fun q => by have := skip_bd t (m + 1) q; rw [HN.out] at this; exact this)
        have HSN := Lib.hid (fun q (h : skipTo t (m + 1) q < 0) => skip_neg (c := K) h)
        have HSS := Lib.hid (fun q (h : 0 ≤ skipTo t (m + 1) q) => skip_step (t := t) (p := m + 1) (q := q) h)
        have HSO := Lib.hid (fun a (h : (n : Int) ≤ a) => behind_out (t := t) (a := a) (.inr (by rw [HN.out]; exact h)))
        have HSG := Lib.hid (fun q (h : 0 ≤ skipTo t (m + 1) q) => skip_ge (t := t) (p := m + 1) (q := q) (by rw [HN.out]; omega) h)
        obtain ⟨sk, hsk⟩ : ∃ sk, sk = skipTo t (m + 1) := ⟨_, rfl⟩
        rw [← hsk] at HV HS0 HSB HSN HSS HSG
        clear hbad hsk
        go_wp2
        go_loop [5, 6] (fun a u => ∃ q : Nat, q ≤ K ∧ u = .int .i64 q ∧ a = .int .i64 (sk q)) (fun _ u => K - (intOf u).toNat)
        case atStart => exact ⟨0, Nat.zero_le _, rfl, by rw [HS0.out]; go_num⟩
        case round =>
          obtain ⟨q, hq, rfl, rfl⟩ := hrel
          obtain ⟨hb0, hb1⟩ := HSB.out q
          have h0q : (0 : Int) ≤ q := by omega
          by_cases hqK : q < K
          · have hqK1 : (q : Int) < K := by omega
            by_cases hs0 : sk q < 0
            · have hs1 : ¬ (0 : Int) ≤ sk q := by omega
              have HW := Lib.hid (show sk q = behindOf t (m : Int) by rw [HV.out, HSN.out q hs0 (by omega)]; omega)
              go_wp2
              go_roundw
              case rel => exact ⟨m, _, zs.set m (sk q), by omega, rfl, rfl, by rw [List.length_set]; exact HZS.out, G.bl_set (p := ⟨g, m, none⟩) hbel (by rw [HG.out]; exact Nat.le_refl _) _, HST.out _, HFIN.out _ HW.out⟩
              case measure => simp [intOf]
            · have hs1 : (0 : Int) ≤ sk q := by omega
              by_cases hsn : (n : Int) ≤ sk q
              · have h1 := HSS.out q hs1
                rw [HSO.out _ hsn] at h1
                have HW := Lib.hid (show (-1 : Int) = behindOf t (m : Int) by rw [HV.out, HSN.out (q + 1) (by omega) (by omega)])
                clear h1
                go_wp2
                go_roundw
                case rel => exact ⟨m, _, zs.set m (-1), by omega, rfl, rfl, by rw [List.length_set]; exact HZS.out, G.bl_set (p := ⟨g, m, none⟩) hbel (by rw [HG.out]; exact Nat.le_refl _) _, HST.out _, HFIN.out _ HW.out⟩
                case measure => simp [intOf]
              · have hge := HSG.out q hs1
                have hst := HSS.out q hs1
                obtain ⟨j, hj⟩ : ∃ j : Nat, j = (sk q).toNat := ⟨_, rfl⟩
                have hjs : sk q = (j : Int) := by omega
                have hjm : m + 1 ≤ j := by omega
                have hjn : j < n := by omega
                have hjc := ints_cell HOWN.out (j := j) (by rw [HZS.out]; exact hjn)
                rw [HALL.out j hjm hjn, ← hjs, ← hst] at hjc
                rw [hjs] at hs1 hsn ⊢
                have hj0 : (0 : Int) ≤ j := by omega
                clear hst hj hge
                have HJS := Lib.hid hjs
                clear hjs hs0 hb0 hb1
                go_wp2
                go_round
                case rel => exact ⟨q + 1, by omega, by go_num, rfl⟩
                case measure => simp [intOf]; omega
          · have hqK1 : ¬ (q : Int) < K := by omega
            obtain rfl : q = K := by omega
            have HW := Lib.hid (show sk q = behindOf t (m : Int) from HV.out.symm)
            go_wp2
            go_roundw
            case rel => exact ⟨m, _, zs.set m (sk q), by omega, rfl, rfl, by rw [List.length_set]; exact HZS.out, G.bl_set (p := ⟨g, m, none⟩) hbel (by rw [HG.out]; exact Nat.le_refl _) _, HST.out _, HFIN.out _ HW.out⟩
            case measure => simp [intOf]
end Go.Proofs.Ytamienmbpdbnnaa.T

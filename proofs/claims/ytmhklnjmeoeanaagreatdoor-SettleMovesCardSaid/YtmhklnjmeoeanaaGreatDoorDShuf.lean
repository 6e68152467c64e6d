/- The contract of deed.shuffle. -/
import Derived.Test.YtmhklnjmeoeanaaGreatDoorDCheckW
import Derived.Test.YtmhklnjmeoeanaaGreatDoorEqInts
import Derived.Test.YtmhklnjmeoeanaaGreatDoorDRow
import Derived.Test.YtmhklnjmeoeanaaGreatDoorDTurn
import Derived.OwnWalk
namespace Go.Proofs.YtmhklnjmeoeanaaGreatDoor.D
open Go Go.RowKit
set_option linter.unusedVariables false
set_option linter.unusedSimpArgs false
def orderB (l : List Int) (n : Nat) : Bool := decide (IsOrder l n)
def risesB (l : List Int) : Bool := decide (Rises l)
theorem order_yes {l : List Int} {n : Nat} (h : IsOrder l n) : orderB l n = true := decide_eq_true h
theorem order_no {l : List Int} {n : Nat} (h : ¬ IsOrder l n) : orderB l n = false := decide_eq_false h
theorem rises_yes {l : List Int} (h : Rises l) : risesB l = true := decide_eq_true h
theorem rises_no {l : List Int} (h : ¬ Rises l) : risesB l = false := decide_eq_false h
theorem rises_iff {l : List Int} : Rises l ↔ ∀ i, i < l.length → l.getD i 0 = (i : Int) := by
  constructor
  · intro h i hi
    have h2 : i < ((List.range l.length).map Int.ofNat).length := by simpa using hi
    have e : l.getD i 0 = ((List.range l.length).map Int.ofNat).getD i 0 := congrArg (fun m : List Int => m.getD i 0) h
    rw [e, getD_lt h2, List.getElem_map, List.getElem_range]
    rfl
  · intro h
    refine ext_getD 0 (by simp) fun i hi => ?_
    rw [h i hi, getD_lt (l := (List.range l.length).map Int.ofNat) (by simpa using hi), List.getElem_map, List.getElem_range]
    rfl
def BoolPost (b : Bool) (w : World) (e : Ending) (w' : World) : Prop := e = .returned (.bool b) ∧ Below w.heap.size w w'
set_option maxRecDepth 100000 in
set_option maxHeartbeats 2000000 in
theorem rises_any (A : Option Addr) (n c : Nat) (l : List Int) (w : World) (hn : l.length = n) (hm : n ≤ 33554432) (hr : G.RdS w A 1 n (i64s l)) :
    Calls Tryz.prog 165 #[.slice A n c] w fun e w' => e = .returned (.bool (risesB l)) ∧ w = w' := by
  have HN := Lib.hid hn
  have HR := Lib.hid hr
  clear hn hr
  go_enter Tryz.func165, Tryz.ntmps165
  go_wp2_with fail
  go_loop [7] (fun i => ∃ k : Nat, k ≤ n ∧ i = .int .i64 k ∧ ∀ j, j < k → l.getD j 0 = (j : Int)) (fun i => n - (intOf i).toNat)
  case atStart => exact ⟨0, Nat.zero_le _, rfl, fun j hj => by omega⟩
  case round =>
    obtain ⟨k, hk, rfl, hall⟩ := hrel
    have HALL := Lib.hid hall
    have hk0 : (0 : Int) ≤ k := by omega
    clear hall
    by_cases hlt : k < n
    · have hkI : (k : Int) < n := by omega
      obtain ⟨b, off, rfl, hrd⟩ := HR.out.2 (by omega)
      have hc := i64_at hrd (k := k) (by rw [HN.out]; exact hlt)
      obtain ⟨z, hz⟩ : ∃ z, z = l.getD k 0 := ⟨_, rfl⟩
      rw [← hz] at hc
      have HZ := Lib.hid hz
      clear hrd hz
      by_cases he : (k : Int) = z
      · have HA := Lib.hid (show ∀ j, j < k + 1 → l.getD j 0 = (j : Int) from fun j hj => by
          by_cases e : j = k
          · subst e
            rw [← HZ.out, he]
          · exact HALL.out j (by omega))
        have heb : ((k : Int) != z) = false := by rw [he]; simp
        clear he
        go_wp2_with fail
        go_round
        case rel => exact ⟨k + 1, by omega, by go_num, HA.out⟩
        case measure => simp [intOf]; omega
      · have HB := Lib.hid (rises_no (l := l) (fun h => he (by rw [HZ.out]; exact (rises_iff.1 h k (by rw [HN.out]; exact hlt)).symm)))
        have heb : ((k : Int) != z) = true := by rw [bne_iff_ne]; exact he
        clear he
        go_wp2_with fail
        go_ret
        exact ⟨(ret_bool HB.out).symm, rfl⟩
    · have hkI : ¬ (k : Int) < n := by omega
      have HB := Lib.hid (rises_yes (l := l) (rises_iff.2 fun i hi => HALL.out i (by rw [HN.out] at hi; omega)))
      go_wp2_with fail
      go_ret
      exact ⟨(ret_bool HB.out).symm, rfl⟩
set_option maxRecDepth 100000 in
set_option maxHeartbeats 4000000 in
theorem isOrder_any (A : Option Addr) (n c m : Nat) (l : List Int) (w : World) (hn : l.length = n) (hm : n ≤ 33554432) (hr : G.RdS w A 1 n (i64s l)) (h256 : m ≤ 256) :
    Calls Tryz.prog 164 #[.slice A n c, .int .i64 (m : Int)] w (BoolPost (orderB l m) w) := by
  have HN := Lib.hid hn
  have HR := Lib.hid hr
  clear hn hr
  by_cases h1 : n = m
  · subst h1
    have hmI : ¬ (256 : Int) < n := by omega
    have hb : ((n : Int) != n) = false := by simp
    have HST0 := Lib.hid (show StI w (w.alloc (.cells Tryz.zeroCells98 98)) n [] from ⟨by rw [stood_nil]; exact G.Blk.new _ _ _, List.nodup_nil, (fun c hc => by cases hc), Bl.al (Below.refl _ _) _⟩)
    go_enter Tryz.func164, Tryz.ntmps164
    go_wp2_with fail
    go_loopw [18] (fun i wr => ∃ k : Nat, k ≤ n ∧ i = .int .i64 k ∧ StI w wr n (l.take k)) (fun i _ => n - (intOf i).toNat)
    case atStart => exact ⟨0, Nat.zero_le _, rfl, HST0.out⟩
    case round =>
      obtain ⟨k, hk, rfl, hst⟩ := hrel
      have HST := Lib.hid hst
      have hk0 : (0 : Int) ≤ k := by omega
      clear hst
      by_cases hlt : k < n
      · have hkI : (k : Int) < n := by omega
        obtain ⟨b, off, rfl, hrd⟩ := (HR.out.below HST.out.bl).2 (by omega)
        have hc := i64_at hrd (k := k) (by rw [HN.out]; exact hlt)
        obtain ⟨z, hz⟩ : ∃ z, z = l.getD k 0 := ⟨_, rfl⟩
        rw [← hz] at hc
        have HZ := Lib.hid hz
        have hbs := World.block_lt_of_cell? _ _ hc
        have HTN := Lib.hid (show l.take (k + 1) = l.take k ++ [z] by rw [take_next (by rw [HN.out]; exact hlt), ← hz])
        have HMEM := Lib.hid (show z ∈ l by rw [hz]; exact mem_getD (by rw [HN.out]; exact hlt))
        clear hrd hz
        by_cases c1 : 0 ≤ z
        · obtain ⟨zn, rfl⟩ := Int.eq_ofNat_of_zero_le c1
          by_cases c2 : zn < n
          · have c2I : ((zn : Nat) : Int) < n := by omega
            have hsc := (HST.out.blk.cell zn).trans (stood_at (by omega))
            have hsf := HST.out.blk.frozen zn
            have hsl := HST.out.blk.lt
            have hc6 : ((zn : Nat) : Int) < 256 := by omega
            by_cases c3 : ((zn : Nat) : Int) ∈ l.take k
            · rw [decide_eq_true c3] at hsc
              have HB := Lib.hid (order_no (l := l) (n := n) (fun h => by
                have h1 := h.2.2.sublist (List.take_sublist (k + 1) l)
                rw [HTN.out, List.nodup_append] at h1
                exact h1.2.2 _ c3 _ (by simp) rfl))
              clear c3
              go_wp2_with fail
              go_ret
              exact ⟨(ret_bool HB.out).symm, HST.out.bl⟩
            · rw [decide_eq_false c3] at hsc
              have HNX := Lib.hid (HST.out.put (by omega) c2 c3)
              clear c3
              go_wp2_with fail
              go_roundw
              case rel => exact ⟨k + 1, by omega, by go_num, by rw [HTN.out]; exact HNX.out⟩
              case measure => simp [intOf]; omega
          · have c2I : ¬ ((zn : Nat) : Int) < n := by omega
            have HB := Lib.hid (order_no (l := l) (n := n) (fun h => by have := (h.2.1 _ HMEM.out).2; omega))
            go_wp2_with fail
            go_ret
            exact ⟨(ret_bool HB.out).symm, HST.out.bl⟩
        · have HB := Lib.hid (order_no (l := l) (n := n) (fun h => by have := (h.2.1 _ HMEM.out).1; omega))
          go_wp2_with fail
          go_ret
          exact ⟨(ret_bool HB.out).symm, HST.out.bl⟩
      · have hkI : ¬ (k : Int) < n := by omega
        have HB := Lib.hid (order_yes (l := l) (n := n) ⟨HN.out, by
          have h := HST.out.rng
          rw [List.take_of_length_le (by rw [HN.out]; omega)] at h
          exact h, by
          have h := HST.out.nd
          rw [List.take_of_length_le (by rw [HN.out]; omega)] at h
          exact h⟩)
        go_wp2_with fail
        go_ret
        exact ⟨(ret_bool HB.out).symm, HST.out.bl⟩
  · have hb : ((n : Int) != m) = true := by rw [bne_iff_ne]; omega
    have HB := Lib.hid (order_no (l := l) (n := m) (fun h => h1 (by rw [← HN.out]; exact h.1)))
    go_enter Tryz.func164, Tryz.ntmps164
    go_wp2_with fail
    go_ret
    exact ⟨(ret_bool HB.out).symm, Below.refl _ _⟩
end Go.Proofs.YtmhklnjmeoeanaaGreatDoor.D
namespace Go.Proofs.YtmhklnjmeoeanaaGreatDoor.D
open Go Go.RowKit
set_option linter.unusedVariables false
set_option linter.unusedSimpArgs false
theorem may_zone {s : St} (h : May s) (i : Nat) : (s.zones.getD i []).length ≤ 256 := by
  by_cases hi : i < s.zones.length
  · have h1 := (List.sublist_flatten_of_mem (mem_getD (d := ([] : List Int)) hi)).length_le
    have h2 := h.all
    have h3 := h.m256
    omega
  · rw [List.getD_eq_getElem?_getD, List.getElem?_eq_none (by omega)]
    simp
def fwdP (order Z : List Int) (n j : Nat) : List Int := (shufF order Z).take j ++ List.replicate (n - j) 0
def bwdP (order Z : List Int) (n j : Nat) : List Int := (List.range n).map fun p => if Int.ofNat p ∈ order.take j then Z.getD (order.idxOf (Int.ofNat p)) 0 else 0
theorem fwd_length {order Z : List Int} {n j : Nat} (ho : order.length = n) (hj : j ≤ n) : (fwdP order Z n j).length = n := by
  unfold fwdP
  rw [List.length_append, List.length_take, shufF_length, List.length_replicate]
  omega
theorem bwd_length {order Z : List Int} {n j : Nat} : (bwdP order Z n j).length = n := by simp [bwdP]
theorem fwd_zero {order Z : List Int} {n : Nat} : fwdP order Z n 0 = List.replicate n 0 := by simp [fwdP]
theorem bwd_zero {order Z : List Int} {n : Nat} : bwdP order Z n 0 = List.replicate n 0 := by
  refine ext_getD 0 (by simp [bwdP]) fun i hi => ?_
  have hi2 : i < n := by simpa [bwdP] using hi
  rw [getD_lt hi, getD_lt (by simpa using hi2)]
  simp [bwdP]
theorem fwd_step {order Z : List Int} {n j : Nat} (ho : order.length = n) (hj : j < n) : (fwdP order Z n j).set j (Z.getD (order.getD j 0).toNat 0) = fwdP order Z n (j + 1) := by
  have h1 : ((shufF order Z).take j).length = j := by rw [List.length_take, shufF_length]; omega
  unfold fwdP
  rw [List.set_append_right _ _ (by omega), h1, Nat.sub_self, take_next (by rw [shufF_length]; omega), shufF_at (by omega)]
  have h2 : n - j = (n - (j + 1)) + 1 := by omega
  rw [h2, List.replicate_succ, List.set_cons_zero, List.append_assoc]
  rfl
theorem bwd_step {order Z : List Int} {n j : Nat} (ho : IsOrder order n) (hj : j < n) : (bwdP order Z n j).set (order.getD j 0).toNat (Z.getD j 0) = bwdP order Z n (j + 1) := by
  have hol := ho.1
  obtain ⟨h0, h1⟩ := ho.2.1 _ (mem_getD (d := 0) (show j < order.length by omega))
  refine ext_getD 0 (by simp [bwdP]) fun p hp => ?_
  have hp2 : p < n := by simpa [bwdP] using hp
  have hat : ∀ q, (bwdP order Z n q).getD p 0 = if Int.ofNat p ∈ order.take q then Z.getD (order.idxOf (Int.ofNat p)) 0 else 0 := fun q => by
    rw [getD_lt (by simpa [bwdP] using hp2)]
    simp [bwdP]
  rw [hat, take_next (by omega)]
  by_cases hpq : (order.getD j 0).toNat = p
  · have e : Int.ofNat p = order.getD j 0 := by show (p : Int) = _; omega
    rw [hpq, getD_set_eq (by simpa [bwdP] using hp2), if_pos (by rw [e]; simp), e, order_idx ho hj]
  · rw [getD_set_ne hpq, hat]
    have e : Int.ofNat p ≠ order.getD j 0 := by show (p : Int) ≠ _; omega
    by_cases hm : Int.ofNat p ∈ order.take j
    · rw [if_pos hm, if_pos (List.mem_append_left _ hm)]
    · rw [if_neg hm, if_neg (fun h => (List.mem_append.1 h).elim hm fun h => e (List.mem_singleton.1 h))]
theorem fwd_end {order Z : List Int} {n : Nat} (ho : order.length = n) : fwdP order Z n n = shufF order Z := by
  unfold fwdP
  rw [Nat.sub_self, List.take_of_length_le (by rw [shufF_length]; omega)]
  simp
theorem bwd_end {order Z : List Int} {n : Nat} (ho : IsOrder order n) : bwdP order Z n n = shufB order Z := by
  have hol := ho.1
  unfold bwdP shufB
  rw [hol]
  refine List.map_congr_left fun p hp => ?_
  rw [List.take_of_length_le (by omega), if_pos (by rw [show Int.ofNat p = (p : Int) from rfl]; exact order_mem ho (List.mem_range.1 hp))]
theorem shuffleS_no {s : St} {z : Int} {order : List Int} {back : Bool} (h : ¬ (Within z s.zones.length ∧ IsOrder order (zone s z).length ∧ ¬ Rises order)) : shuffleS s z order back = none := if_neg h
theorem shuffleS_yes {s : St} {z : Nat} {order Z : List Int} {back : Bool} (h1 : z < s.zones.length) (hZ : Z = s.zones.getD z []) (h2 : IsOrder order Z.length) (h3 : ¬ Rises order) : shuffleS s z order back = some { s with zones := s.zones.set z (if back then shufB order Z else shufF order Z) } := by
  unfold shuffleS zone
  rw [Int.toNat_natCast, ← hZ, if_pos ⟨⟨by omega, by omega⟩, h2, h3⟩]
theorem i64s_set (l : List Int) (i : Nat) (v : Int) : (i64s l).set i (.int .i64 v) = i64s (l.set i v) := by simp [i64s, List.map_set]
theorem infoInt : (Tryz.prog.info? 3).map (fun i => (i.zero, i.size, i.bytes)) = some (some (.int .i64 0), 1, 8) := by kernel_rfl
set_option maxRecDepth 100000 in
set_option maxHeartbeats 8000000 in
theorem shuffle_any (g base : Nat) (x : SV) (s : St) (w : World) (hs : StAt w g base x s) (hm : May s) (z : Int) (A : Option Addr) (c : Nat) (order : List Int) (back : Bool) (hr : G.RdS w A 1 order.length (i64s order)) (hl : order.length ≤ 33554432) :
    Calls Tryz.prog 133 #[.pointer (some ⟨g, 0, none⟩), .int .i64 z, .slice A order.length c, .bool back] w (StepPost s (shuffleS s z order back) g base w) := by
  obtain ⟨i0, hi0, hz0, hz1, hz2⟩ := info_parts infoInt
  have HS := Lib.hid hs
  have HMAY := Lib.hid hm
  have hnz : s.zones.length ≤ 16 := by have h1 := hm.zn; have h2 := hm.n4; omega
  obtain ⟨c0, c1, c2, c3, c4, c5, c6⟩ := hs.cells
  have hlt := hs.blk.lt
  obtain ⟨n, hn⟩ : ∃ n, n = s.zones.length := ⟨_, rfl⟩
  obtain ⟨ol, hol⟩ : ∃ ol, ol = order.length := ⟨_, rfl⟩
  rw [← hn] at hnz c2
  rw [← hol] at hl hr ⊢
  have HN := Lib.hid hn
  have HOL := Lib.hid hol
  have HR := Lib.hid hr
  clear hs hn hol hr hm c0 c1 c3 c4 c5 c6
  by_cases h1 : 0 ≤ z
  · obtain ⟨zi, rfl⟩ := Int.eq_ofNat_of_zero_le h1
    by_cases h2 : zi < n
    · have h2I : ((zi : Nat) : Int) < n := by omega
      have hzi : zi < s.zones.length := by rw [← HN.out]; exact h2
      obtain ⟨gz, ra, rk, hza, hgz, hrv, hrc, hrf, hrr⟩ := HS.out.row hzi
      rw [hza] at c2
      have HZA := Lib.hid hza
      have HRV := Lib.hid hrv
      have hzl := may_zone HMAY.out zi
      obtain ⟨Z, hZ⟩ : ∃ Z, Z = s.zones.getD zi [] := ⟨_, rfl⟩
      rw [← hZ] at hrc hrr hzl
      obtain ⟨zl, hzl'⟩ : ∃ zl, zl = Z.length := ⟨_, rfl⟩
      rw [← hzl'] at hrc hzl
      have HZZ := Lib.hid hZ
      have HZL := Lib.hid hzl'
      have hgzl := World.block_lt_of_cell? _ _ hrc
      have HRR := Lib.hid hrr
      have HIO := Lib.hid (fun W hW => isOrder_any A ol c zl order W HOL.out.symm hl (HR.out.below hW) hzl)
      have HRI := Lib.hid (fun W hW => rises_any A ol c order W HOL.out.symm hl (HR.out.below hW))
      have HC2 := Lib.hid c2
      have HRC := Lib.hid hrc
      clear hza hrv hZ hzl' hrr hrf
      by_cases h3 : IsOrder order zl
      · have b3 := order_yes h3
        rw [b3] at HIO
        have H3 := Lib.hid h3
        obtain rfl : ol = zl := by rw [HOL.out]; exact h3.1
        clear h3 b3
        by_cases h4 : Rises order
        · have b4 := rises_yes h4
          have HO := Lib.hid (shuffleS_no (s := s) (z := zi) (order := order) (back := back) (fun h => h.2.2 h4))
          rw [b4] at HRI
          clear h4 b4
          go_enter Tryz.func133, Tryz.ntmps133
          go_wp2_with fail
          refine (HIO.out _ (Below.refl _ _)).mono ?_
          rintro e w1 ⟨rfl, hb1⟩
          have HB1 := Lib.hid hb1
          clear hb1
          go_wp2_with fail
          refine (HRI.out _ HB1.out).mono ?_
          rintro e w2 ⟨rfl, rfl⟩
          go_wp2_with fail
          go_ret
          exact stepP_no HO.out (Bk.of HB1.out (by have h8 := HS.out.ge; have h9 := HS.out.blk.lt; omega))
        · have b4 := rises_no h4
          rw [b4] at HRI
          have H4 := Lib.hid h4
          clear h4 b4
          go_enter Tryz.func133, Tryz.ntmps133
          go_wp2_with fail
          refine (HIO.out _ (Below.refl _ _)).mono ?_
          rintro e w1 ⟨rfl, hb1⟩
          have HB1 := Lib.hid hb1
          have HS1 := Lib.hid (HS.out.below hb1)
          have c2' := (hb1.cell (p := ⟨g, 2, none⟩) hlt).trans HC2.out
          have hrc' := (hb1.cell (p := ⟨gz, zi, none⟩) hgzl).trans HRC.out
          clear hb1 c2 hrc
          go_wp2_with fail
          refine (HRI.out _ HB1.out).mono ?_
          rintro e w2 ⟨rfl, rfl⟩
          go_wp2_with (refine wpList_make_full _ rfl _ _ 35 rfl w1.heap.size 3 i0 _ 1 Tryz.underlying35 hi0 hz0 hz1 .i64 .i64 _ _ ol rfl rfl rfl rfl (by rw [hz2]; omega) (by unfold maxLen; omega) (Nat.le_refl _) ?_; intro w2 ho2 hg2)
          have HC2' := Lib.hid c2'
          have HB2 := Lib.hid (show Below w1.heap.size w1 w2 from (Below.refl _ _).grown hg2 (Nat.le_refl _) (by simp))
          have hz : (madeCells (Value.int .i64 0).cells (ol * 1)).toList = List.replicate ol (.int .i64 0) := by
            rw [show (Value.int .i64 0).cells = #[.int .i64 0] from rfl, toList_madeCells_one, Nat.mul_one]
          rw [hz] at ho2
          have HO2 := Lib.hid ho2
          have hol1 : 1 ≤ ol := by
            rcases Nat.eq_zero_or_pos ol with h0 | h0
            · refine absurd ?_ H4.out
              have h9 := HOL.out
              obtain rfl : order = [] := List.eq_nil_of_length_eq_zero (by omega)
              rfl
            · exact h0
          clear hz ho2 hg2 c2' hrc'
          go_wp2_with fail
          cases back
          · --[F
            have HZ0 := Lib.hid (show w2.ownsRow w1.heap.size 3 1 (.slice (some ⟨w1.heap.size, 0, none⟩) ol ol) ol (i64s (fwdP order Z ol 0)) by rw [fwd_zero, i64s, List.map_replicate]; exact HO2.out)
            go_loopw [53] (fun i wr => ∃ j : Nat, j ≤ ol ∧ i = .int .i64 j ∧ Below w1.heap.size w1 wr ∧ wr.ownsRow w1.heap.size 3 1 (.slice (some ⟨w1.heap.size, 0, none⟩) ol ol) ol (i64s (fwdP order Z ol j))) (fun i _ => ol - (intOf i).toNat)
            case atStart => exact ⟨0, Nat.zero_le _, rfl, HB2.out, HZ0.out⟩
            case round =>
              obtain ⟨j, hj, rfl, hbw, hown⟩ := hrel
              have HBW := Lib.hid hbw
              have HOW := Lib.hid hown
              have hj0 : (0 : Int) ≤ j := by omega
              clear hbw hown
              by_cases hlt : j < ol
              · have hjI : (j : Int) < ol := by omega
                obtain ⟨bo, oo, rfl, hrd⟩ := (HR.out.below (Bl.tr HB1.out HBW.out)).2 (by omega)
                have hco := i64_at hrd (k := j) (by rw [← HOL.out]; exact hlt)
                obtain ⟨o0, o1⟩ := H3.out.2.1 _ (mem_getD (d := 0) (show j < order.length by rw [← HOL.out]; exact hlt))
                obtain ⟨on, hon⟩ := Int.eq_ofNat_of_zero_le o0
                rw [hon] at hco o1
                have hon2 : on < ol := by omega
                have honI : ((on : Nat) : Int) < ol := by omega
                have HON := Lib.hid (show (order.getD j 0).toNat = on by rw [hon]; rfl)
                have hbol := World.block_lt_of_cell? _ _ hco
                obtain ⟨gr, hra, hcells⟩ := HRR.out (by have h9 := HZL.out; rw [← h9]; omega)
                subst hra
                have hcz := ((Bl.tr HB1.out HBW.out).cell (p := ⟨gr, on, none⟩) (World.block_lt_of_cell? _ _ (hcells on (by have h9 := HZL.out; rw [← h9]; omega)))).trans (hcells on (by have h9 := HZL.out; rw [← h9]; omega))
                have hgrl := World.block_lt_of_cell? _ _ hcz
                obtain ⟨v, hv⟩ : ∃ v, v = Z.getD on 0 := ⟨_, rfl⟩
                rw [← hv] at hcz
                have HV := Lib.hid hv
                obtain ⟨y, hy⟩ := G.own_some HOW.out j (by omega)
                have hfy := HOW.out.frozenAt j
                have hst := HOW.out.stored j (.int .i64 v)
                have hfs : (fwdP order Z ol j).set j v = fwdP order Z ol (j + 1) := by
                  rw [hv, ← HON.out]
                  exact fwd_step HOL.out.symm hlt
                rw [i64s_set, hfs] at hst
                clear hfs
                have HST := Lib.hid hst
                have HBN := Lib.hid (Bl.sc HBW.out (p := ⟨w1.heap.size, j, none⟩) (Nat.le_refl _) (.int .i64 v))
                clear hrd hcells hon hv hst o0 o1
                go_wp2_with fail
                go_roundw
                case rel => exact ⟨j + 1, by omega, by go_num, HBN.out, HST.out.1⟩
                case measure => simp [intOf] <;> omega
              · obtain rfl : ol = j := by omega
                have hjI : ¬ (ol : Int) < ol := by omega
                have HSR := Lib.hid (HS1.out.below HBW.out)
                have c2'' := (HBW.out.cell (p := ⟨g, 2, none⟩) HS1.out.blk.lt).trans HC2'.out
                have hzc := HSR.out.row hzi
                obtain ⟨gz3, ra3, rk3, hza3, _, hrv3, hrc3, hrf3, _⟩ := hzc
                obtain rfl : gz3 = gz := by rw [HZA.out] at hza3; simpa using hza3.symm
                have hgz3 := World.block_lt_of_cell? _ _ hrc3
                have HGR := Lib.hid (show w1.grownBy wr (x.rows.getD zi undef).ownBlock from ⟨HBW.out.os, HBW.out.tape, HBW.out.output, HBW.out.size, fun k hk _ => HBW.out.block k hk⟩)
                have HFIN := Lib.hid (HS1.out.rowput (l := shufF order Z) hzi HZA.out (own_n (G.own_ge (base' := base) (by have h9 := HOW.out; rw [fwd_end HOL.out.symm] at h9; exact h9) (by have h8 := HS1.out.ge; have h9 := HS1.out.blk.lt; omega)) (by rw [shufF_length]; exact HOL.out)) HGR.out (fun q hq => .inr (by simp only [Value.ownBlock, Option.some.injEq] at hq; omega)))
                have HBF := Lib.hid (HS1.out.rowbk (v1 := .slice (some ⟨w1.heap.size, 0, none⟩) ol ol) hzi HZA.out HGR.out)
                clear hrv3 hza3
                go_wp2_with fail
                go_ret
                exact stepP_yes (shuffleS_yes (Z := Z) (order := order) (back := false) hzi HZZ.out (by rw [← HZL.out]; exact H3.out) H4.out) HFIN.out ((Bk.of HB1.out (by have h8 := HS.out.ge; have h9 := HS.out.blk.lt; omega)).trans HBF.out)
          · --[B
            have HZ0 := Lib.hid (show w2.ownsRow w1.heap.size 3 1 (.slice (some ⟨w1.heap.size, 0, none⟩) ol ol) ol (i64s (bwdP order Z ol 0)) by rw [bwd_zero, i64s, List.map_replicate]; exact HO2.out)
            go_loopw [53] (fun i wr => ∃ j : Nat, j ≤ ol ∧ i = .int .i64 j ∧ Below w1.heap.size w1 wr ∧ wr.ownsRow w1.heap.size 3 1 (.slice (some ⟨w1.heap.size, 0, none⟩) ol ol) ol (i64s (bwdP order Z ol j))) (fun i _ => ol - (intOf i).toNat)
            case atStart => exact ⟨0, Nat.zero_le _, rfl, HB2.out, HZ0.out⟩
            case round =>
              obtain ⟨j, hj, rfl, hbw, hown⟩ := hrel
              have HBW := Lib.hid hbw
              have HOW := Lib.hid hown
              have hj0 : (0 : Int) ≤ j := by omega
              clear hbw hown
              by_cases hlt : j < ol
              · have hjI : (j : Int) < ol := by omega
                obtain ⟨bo, oo, rfl, hrd⟩ := (HR.out.below (Bl.tr HB1.out HBW.out)).2 (by omega)
                have hco := i64_at hrd (k := j) (by rw [← HOL.out]; exact hlt)
                obtain ⟨o0, o1⟩ := H3.out.2.1 _ (mem_getD (d := 0) (show j < order.length by rw [← HOL.out]; exact hlt))
                obtain ⟨on, hon⟩ := Int.eq_ofNat_of_zero_le o0
                rw [hon] at hco o1
                have hon2 : on < ol := by omega
                have honI : ((on : Nat) : Int) < ol := by omega
                have HON := Lib.hid (show (order.getD j 0).toNat = on by rw [hon]; rfl)
                have hbol := World.block_lt_of_cell? _ _ hco
                obtain ⟨gr, hra, hcells⟩ := HRR.out (by have h9 := HZL.out; rw [← h9]; omega)
                subst hra
                have hcz := ((Bl.tr HB1.out HBW.out).cell (p := ⟨gr, j, none⟩) (World.block_lt_of_cell? _ _ (hcells j (by have h9 := HZL.out; rw [← h9]; omega)))).trans (hcells j (by have h9 := HZL.out; rw [← h9]; omega))
                have hgrl := World.block_lt_of_cell? _ _ hcz
                obtain ⟨v, hv⟩ : ∃ v, v = Z.getD j 0 := ⟨_, rfl⟩
                rw [← hv] at hcz
                have HV := Lib.hid hv
                obtain ⟨y, hy⟩ := G.own_some HOW.out on (by omega)
                have hfy := HOW.out.frozenAt on
                have hst := HOW.out.stored on (.int .i64 v)
                have hfs : (bwdP order Z ol j).set on v = bwdP order Z ol (j + 1) := by
                  rw [hv, ← HON.out]
                  exact bwd_step H3.out hlt
                rw [i64s_set, hfs] at hst
                clear hfs
                have HST := Lib.hid hst
                have HBN := Lib.hid (Bl.sc HBW.out (p := ⟨w1.heap.size, on, none⟩) (Nat.le_refl _) (.int .i64 v))
                clear hrd hcells hon hv hst o0 o1
                go_wp2_with fail
                go_roundw
                case rel => exact ⟨j + 1, by omega, by go_num, HBN.out, HST.out.1⟩
                case measure => simp [intOf] <;> omega
              · obtain rfl : ol = j := by omega
                have hjI : ¬ (ol : Int) < ol := by omega
                have HSR := Lib.hid (HS1.out.below HBW.out)
                have c2'' := (HBW.out.cell (p := ⟨g, 2, none⟩) HS1.out.blk.lt).trans HC2'.out
                have hzc := HSR.out.row hzi
                obtain ⟨gz3, ra3, rk3, hza3, _, hrv3, hrc3, hrf3, _⟩ := hzc
                obtain rfl : gz3 = gz := by rw [HZA.out] at hza3; simpa using hza3.symm
                have hgz3 := World.block_lt_of_cell? _ _ hrc3
                have HGR := Lib.hid (show w1.grownBy wr (x.rows.getD zi undef).ownBlock from ⟨HBW.out.os, HBW.out.tape, HBW.out.output, HBW.out.size, fun k hk _ => HBW.out.block k hk⟩)
                have HFIN := Lib.hid (HS1.out.rowput (l := shufB order Z) hzi HZA.out (own_n (G.own_ge (base' := base) (by have h9 := HOW.out; rw [bwd_end H3.out] at h9; exact h9) (by have h8 := HS1.out.ge; have h9 := HS1.out.blk.lt; omega)) (by rw [shufB_length]; exact HOL.out)) HGR.out (fun q hq => .inr (by simp only [Value.ownBlock, Option.some.injEq] at hq; omega)))
                have HBF := Lib.hid (HS1.out.rowbk (v1 := .slice (some ⟨w1.heap.size, 0, none⟩) ol ol) hzi HZA.out HGR.out)
                clear hrv3 hza3
                go_wp2_with fail
                go_ret
                exact stepP_yes (shuffleS_yes (Z := Z) (order := order) (back := true) hzi HZZ.out (by rw [← HZL.out]; exact H3.out) H4.out) HFIN.out ((Bk.of HB1.out (by have h8 := HS.out.ge; have h9 := HS.out.blk.lt; omega)).trans HBF.out)
      · have b3 := order_no h3
        rw [b3] at HIO
        have HO := Lib.hid (shuffleS_no (s := s) (z := zi) (order := order) (back := back) (fun h => h3 (by have h9 := h.2.1; unfold zone at h9; rw [Int.toNat_natCast, ← HZZ.out, ← HZL.out] at h9; exact h9)))
        clear h3 b3
        go_enter Tryz.func133, Tryz.ntmps133
        go_wp2_with fail
        refine (HIO.out _ (Below.refl _ _)).mono ?_
        rintro e w1 ⟨rfl, hb1⟩
        have HB1 := Lib.hid hb1
        clear hb1
        go_wp2_with fail
        go_ret
        exact stepP_no HO.out (Bk.of HB1.out (by have h8 := HS.out.ge; have h9 := HS.out.blk.lt; omega))
    · have h2I : ¬ ((zi : Nat) : Int) < n := by omega
      have HO := Lib.hid (shuffleS_no (s := s) (z := zi) (order := order) (back := back) (fun h => h2 (by have h9 := h.1.2; rw [← HN.out] at h9; omega)))
      go_enter Tryz.func133, Tryz.ntmps133
      go_wp2_with fail
      go_ret
      exact stepP_no HO.out (Bk.refl _ _)
  · have HO := Lib.hid (shuffleS_no (s := s) (z := z) (order := order) (back := back) (fun h => h1 h.1.1))
    go_enter Tryz.func133, Tryz.ntmps133
    go_wp2_with fail
    go_ret
    exact stepP_no HO.out (Bk.refl _ _)
end Go.Proofs.YtmhklnjmeoeanaaGreatDoor.D

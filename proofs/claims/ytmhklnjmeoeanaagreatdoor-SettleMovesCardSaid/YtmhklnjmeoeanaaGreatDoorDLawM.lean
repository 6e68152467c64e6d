/- The contracts of the laws' may, of tableauref00's EqRows and EqState. -/
import Derived.Test.YtmhklnjmeoeanaaGreatDoorDCopySt
import Derived.Test.YtmhklnjmeoeanaaGreatDoorDCheckW
import Derived.Test.YtmhklnjmeoeanaaGreatDoorDMay
import Derived.Test.YtmhklnjmeoeanaaGreatDoorDCards
import Derived.Test.YtmhklnjmeoeanaaGreatDoorEqInts
import Derived.Deep.RegionHeld3
namespace Go.Proofs.YtmhklnjmeoeanaaGreatDoor.D
open Go Go.RowKit
set_option linter.unusedVariables false
set_option linter.unusedSimpArgs false
def bound : Nat := 16777216
/-- A sum that is not gone on with beyond the bound. -/
def sumTo (n : Nat) : List Nat → Nat
  | [] => n
  | a :: l => if n ≤ 16777216 then sumTo (n + a) l else n
theorem sumTo_le (l : List Nat) : ∀ n, n ≤ sumTo n l := by
  induction l with
  | nil => intro n; exact Nat.le_refl _
  | cons a l ih =>
    intro n
    unfold sumTo
    split
    · have := ih (n + a)
      omega
    · exact Nat.le_refl _
theorem sumTo_mem {l : List Nat} : ∀ {n a : Nat}, sumTo n l ≤ 16777216 → a ∈ l → a ≤ 16777216 := by
  induction l with
  | nil => intro n a _ h; cases h
  | cons b l ih =>
    intro n a h hm
    have hn := Nat.le_trans (sumTo_le (b :: l) n) h
    unfold sumTo at h
    rw [if_pos hn] at h
    rcases List.mem_cons.1 hm with rfl | hm
    · have := sumTo_le l (n + a)
      omega
    · exact ih h hm
theorem sumTo_big {l : List Nat} {n : Nat} (h : 16777216 < n) : sumTo n l = n := by
  cases l with
  | nil => rfl
  | cons a l =>
    unfold sumTo
    rw [if_neg (by omega)]
theorem sumTo_bound {l : List Nat} {M : Nat} : ∀ {n : Nat}, (∀ a ∈ l, a ≤ M) → sumTo n l ≤ max n (16777216 + M) := by
  induction l with
  | nil => intro n _; exact Nat.le_max_left _ _
  | cons b l ih =>
    intro n h
    unfold sumTo
    have hb := h b (by simp)
    split
    · have := ih (n := n + b) (fun a ha => h a (by simp [ha]))
      omega
    · exact Nat.le_max_left _ _
/-- How much a state is. -/
def sizeZ (zs : List (List Int)) : Nat := sumTo zs.length (zs.map List.length)
def amountSt (s : St) : Nat := s.players.length + s.cards.length + sizeZ s.zones
set_option maxHeartbeats 2000000 in
theorem sizeRows_any (za : Option Addr) (k zc : Nat) (zs : List (List Int)) (rows : List Value) (w : World) (hk : k = zs.length) (hz : G.RdS w za 1 k rows) (hr : ∀ i, i < k → RdRow w (rows.getD i undef) (zs.getD i [])) (hn : k ≤ 140737488355328) (hl : ∀ i, (zs.getD i []).length ≤ 140737488355328) :
    Calls Tryz.prog 27 #[.slice za k zc] w fun e w' => e = .returned (.int .i64 (sizeZ zs : Nat)) ∧ w = w' := by
  have HK := Lib.hid hk
  have HZ := Lib.hid hz
  have HR := Lib.hid hr
  have HL := Lib.hid hl
  clear hk hz hr hl
  go_enter Tryz.func27, Tryz.ntmps27
  go_wp2_with fail
  go_loop [3, 4] (fun n i => ∃ q m : Nat, q ≤ k ∧ i = .int .i64 q ∧ n = .int .i64 m ∧ m ≤ 281474976710656 ∧ sizeZ zs = sumTo m ((zs.drop q).map List.length)) (fun _ i => k - (intOf i).toNat)
  case atStart => exact ⟨0, k, Nat.zero_le _, rfl, rfl, by omega, by rw [HK.out]; rfl⟩
  case round =>
    obtain ⟨q, m, hq, rfl, rfl, hm, hs⟩ := hrel
    have HS := Lib.hid hs
    have hq0 : (0 : Int) ≤ q := by omega
    clear hs
    by_cases hlt : q < k
    · have hqI : (q : Int) < k := by omega
      by_cases hb : m ≤ 16777216
      · have hbI : (m : Int) ≤ 16777216 := by omega
        obtain ⟨bz, oz, hza, hcr⟩ := rows_at (i := q) HZ.out hlt
        subst hza
        obtain ⟨ra, rk, hrv, hrr⟩ := HR.out q hlt
        rw [hrv] at hcr
        have hl := HL.out q
        obtain ⟨nz, hnz⟩ : ∃ nz, nz = (zs.getD q []).length := ⟨_, rfl⟩
        have HNZ := Lib.hid hnz
        rw [← hnz] at hcr hl
        have HST := Lib.hid (show sizeZ zs = sumTo (m + nz) ((zs.drop (q + 1)).map List.length) by
          rw [HS.out, List.drop_eq_getElem_cons (by rw [← HK.out]; exact hlt), List.map_cons]
          conv => lhs; unfold sumTo
          rw [if_pos hb, hnz, getD_lt (by rw [← HK.out]; exact hlt)])
        clear hrv hrr hnz
        go_wp2_with fail
        go_round
        case rel => exact ⟨q + 1, m + nz, by omega, by go_num, by go_num, by omega, HST.out⟩
        case measure => simp [intOf]; omega
      · have hbI : ¬ (m : Int) ≤ 16777216 := by omega
        have HE := Lib.hid (show sizeZ zs = m by rw [HS.out, sumTo_big (by omega)])
        clear hb
        go_wp2_with fail
        go_ret
        exact ⟨by rw [HE.out]; rfl, rfl⟩
    · obtain rfl : k = q := by omega
      have hqI : ¬ (k : Int) < k := by omega
      have HE := Lib.hid (show sizeZ zs = m by rw [HS.out, List.drop_eq_nil_of_le (by rw [← HK.out]; exact Nat.le_refl _)]; rfl)
      go_wp2_with fail
      go_ret
      exact ⟨by rw [HE.out]; rfl, rfl⟩
theorem sizeZ_le {zs : List (List Int)} (hk : zs.length ≤ 140737488355328) (hl : ∀ i, (zs.getD i []).length ≤ 140737488355328) : sizeZ zs ≤ 281474976710656 := by
  have := sumTo_bound (l := zs.map List.length) (M := 140737488355328) (n := zs.length) (fun a ha => by
    obtain ⟨l, hm, rfl⟩ := List.mem_map.1 ha
    obtain ⟨i, hi, rfl⟩ := List.getElem_of_mem hm
    have := hl i
    rw [getD_lt hi] at this
    exact this)
  unfold sizeZ
  omega
/-- Sizes that a machine may hold. -/
structure Sw (s : St) : Prop where
  p : s.players.length ≤ 140737488355328
  c : s.cards.length ≤ 140737488355328
  z : s.zones.length ≤ 140737488355328
  r : ∀ i, (s.zones.getD i []).length ≤ 140737488355328
theorem amount_sz {s : St} (h : amountSt s ≤ 16777216) : Sz s := by
  have h1 : sizeZ s.zones ≤ 16777216 := by unfold amountSt at h; omega
  have h2 : s.zones.length ≤ sizeZ s.zones := sumTo_le _ _
  refine ⟨by unfold amountSt at h; omega, by unfold amountSt at h; omega, by omega, fun i => ?_⟩
  by_cases hi : i < s.zones.length
  · have := sumTo_mem (a := (s.zones.getD i []).length) h1 (List.mem_map.2 ⟨_, mem_getD hi, rfl⟩)
    omega
  · rw [List.getD_eq_getElem?_getD, List.getElem?_eq_none (by omega)]
    simp
set_option maxRecDepth 100000 in
set_option maxHeartbeats 2000000 in
theorem sizeState_any (x : SV) (s : St) (w : World) (h : RdSt w x s) (hz : Sw s) : Calls Tryz.prog 7 #[x.val s] w fun e w' => e = .returned (.int .i64 (amountSt s : Nat)) ∧ Below w.heap.size w w' := by
  have HR := Lib.hid h
  have hz1 := hz.p
  have hz2 := hz.c
  have hz3 := hz.z
  have HZ := Lib.hid hz.r
  have hza := sizeZ_le hz.z hz.r
  obtain ⟨pa, pc, ca, cc, za, zc, rows⟩ := x
  obtain ⟨players, cards, zones, turn, whose, fin, win⟩ := s
  unfold SV.val SV.arr
  simp only at hz1 hz2 hz3 HZ hza ⊢
  obtain ⟨n, hn⟩ : ∃ n, n = players.length := ⟨_, rfl⟩
  obtain ⟨m, hm⟩ : ∃ m, m = cards.length := ⟨_, rfl⟩
  obtain ⟨k, hk⟩ : ∃ k, k = zones.length := ⟨_, rfl⟩
  obtain ⟨sz, hsz⟩ : ∃ sz, sz = sizeZ zones := ⟨_, rfl⟩
  have HA := Lib.hid (show amountSt { players := players, cards := cards, zones := zones, turn := turn, whose := whose, fin := fin, winner := win } = n + m + sz by rw [hn, hm, hsz]; rfl)
  rw [← hn, ← hm, ← hk]
  rw [← hn] at hz1
  rw [← hm] at hz2
  rw [← hk] at hz3
  rw [← hsz] at hza
  have HK := Lib.hid hk
  have HSZ := Lib.hid hsz
  have HB := Lib.hid (G.bl_alloc (Below.refl w.heap.size w) (.cells #[.slice pa n pc, .slice ca m cc, .slice za k zc, .int .i32 turn, .int .i64 whose, .int .i8 fin, .int .i64 win] 27))
  have HSR := Lib.hid (fun W (hW : Below w.heap.size w W) => sizeRows_any za k zc zones rows W hk (by have := (h.below hW).z; rw [show (St.zones _).length = k from hk.symm] at this; exact this) (fun i hi => (h.below hW).rows i (by rw [hk] at hi; exact hi)) hz3 HZ.out)
  rw [← hsz] at HSR
  have hw1 : IntKind.i64.wrap ((n : Int) + m) = (n : Int) + m := IntWalk.i64_in _ (by omega)
  have hw2 : IntKind.i64.wrap ((n : Int) + m + sz) = (n : Int) + m + sz := IntWalk.i64_in _ (by omega)
  have HR2 := Lib.hid (show Ending.returned (.int .i64 ((n : Int) + m + sz)) = .returned (.int .i64 ((amountSt { players := players, cards := cards, zones := zones, turn := turn, whose := whose, fin := fin, winner := win } : Nat) : Int)) by rw [HA.out]; simp)
  clear h hz hn hm hk hsz
  go_enter Tryz.func7, Tryz.ntmps7
  go_wp2_with fail
  go_quiet ((go_at_call 27; exact Calls.quiet_of_same ((HSR.out _ (G.bl_drewN HB.out _)).mono fun e w' h => ⟨h.1, h.2.symm⟩)))
  go_wp2_with fail
  go_ret
  exact ⟨HR2.out, G.bl_drewN HB.out _⟩
/-! ### Lists of events -/
def cellsE (p : EV × Ev) : List Value := (p.1.arr p.2).toList
def flatE (l : List (EV × Ev)) : List Value := l.flatMap cellsE
theorem flatE_length (l : List (EV × Ev)) : (flatE l).length = l.length * 12 := G.flat_len cellsE 12 (fun _ => rfl) l
def zeroP : EV × Ev := (⟨none, 0⟩, zeroEv)
/-- A list of events reads. -/
structure RdEvs (w : World) (A : Option Addr) (n : Nat) (l : List (EV × Ev)) : Prop where
  s : G.RdS w A 12 n (flatE l)
  o : ∀ i, i < n → RdEv w (l.getD i zeroP).1 (l.getD i zeroP).2
theorem RdEvs.len {w : World} {A : Option Addr} {n : Nat} {l : List (EV × Ev)} (h : RdEvs w A n l) : l.length = n := by
  have := h.s.1
  rw [flatE_length] at this
  omega
theorem RdEvs.below {w w' : World} {A : Option Addr} {n : Nat} {l : List (EV × Ev)} (h : RdEvs w A n l) (hb : Below w.heap.size w w') : RdEvs w' A n l := ⟨h.s.below hb, fun i hi => RdEv.below (h.o i hi) hb⟩
theorem ev_at {w : World} {b off k : Nat} {l : List (EV × Ev)} (h : G.RdV w b off (flatE l)) (hk : k < l.length) (j : Nat) (hj : j < 12) : w.cell? ⟨b, off + k * 12 + j, none⟩ = some ((cellsE (l.getD k zeroP)).getD j undef) := by
  have h1 := h.2 (k * 12 + j) (by rw [flatE_length]; omega)
  have h2 : (flatE l).getD (k * 12 + j) undef = (cellsE (l.getD k zeroP)).getD j undef := G.flat_getD cellsE 12 (fun _ => rfl) zeroP l k j hk hj
  rw [h2] at h1
  rw [Nat.add_assoc]
  exact h1
theorem ev_order {w : World} {b off k : Nat} {l : List (EV × Ev)} (h : G.RdV w b off (flatE l)) (hk : k < l.length) : w.cell? ⟨b, off + k * 12 + 11, none⟩ = some (.slice (l.getD k zeroP).1.oa (l.getD k zeroP).2.order.length (l.getD k zeroP).1.oc) := ev_at h hk 11 (by omega)
def sizeEs (l : List (EV × Ev)) : Nat := sumTo l.length (l.map fun p => p.2.order.length)
theorem sizeEs_le {l : List (EV × Ev)} (hk : l.length ≤ 140737488355328) (hl : ∀ i, (l.getD i zeroP).2.order.length ≤ 140737488355328) : sizeEs l ≤ 281474976710656 := by
  have := sumTo_bound (l := l.map fun p => p.2.order.length) (M := 140737488355328) (n := l.length) (fun a ha => by
    obtain ⟨p, hm, rfl⟩ := List.mem_map.1 ha
    obtain ⟨i, hi, rfl⟩ := List.getElem_of_mem hm
    have := hl i
    rw [getD_lt hi] at this
    exact this)
  unfold sizeEs
  omega
def beyondB (s : St) (l : List (EV × Ev)) : Bool := decide (16777216 < amountSt s + sizeEs l)
end Go.Proofs.YtmhklnjmeoeanaaGreatDoor.D
namespace Go.Proofs.YtmhklnjmeoeanaaGreatDoor.D
open Go Go.RowKit
set_option linter.unusedVariables false
set_option linter.unusedSimpArgs false
open Classical in
noncomputable def mayB (s : St) : Bool := decide (May s)
theorem may_yes {s : St} (h : May s) : mayB s = true := by unfold mayB; simpa using h
theorem may_no {s : St} (h : ¬ May s) : mayB s = false := by unfold mayB; simpa using h
set_option maxRecDepth 100000 in
set_option maxHeartbeats 2000000 in
theorem eqRows_any (A B : Option Addr) (n m c d : Nat) (zs ys : List (List Int)) (rx ry : List Value) (w : World) (hnl : n = zs.length) (hml : m = ys.length) (hx : G.RdS w A 1 n rx) (hxr : ∀ i, i < n → RdRow w (rx.getD i undef) (zs.getD i [])) (hy : G.RdS w B 1 m ry) (hyr : ∀ i, i < m → RdRow w (ry.getD i undef) (ys.getD i []))
    (hn : n ≤ 33554432) (hm : m ≤ 33554432) (hlz : ∀ i, (zs.getD i []).length ≤ 33554432) (hly : ∀ i, (ys.getD i []).length ≤ 33554432) :
    Calls Tryz.prog 38 #[.slice A n c, .slice B m d] w fun e w' => e = .returned (.bool (decide (zs = ys))) ∧ ∃ k, w' = w.drewN k := by
  have HNL := Lib.hid hnl
  have HML := Lib.hid hml
  have HX := Lib.hid hx
  have HY := Lib.hid hy
  have HXR := Lib.hid hxr
  have HYR := Lib.hid hyr
  have HLZ := Lib.hid hlz
  have HLY := Lib.hid hly
  clear hx hy hxr hyr hlz hly
  by_cases hnm : n = m
  · subst hnm
    clear hnl hml
    go_enter Tryz.func38, Tryz.ntmps38
    go_wp2
    go_loopw [5] (fun i wr => ∃ k : Nat, k ≤ n ∧ i = .int .i64 k ∧ zs.take k = ys.take k ∧ ∃ q, wr = w.drewN q) (fun i _ => n - (intOf i).toNat)
    case atStart => exact ⟨0, Nat.zero_le _, rfl, rfl, 0, rfl⟩
    case round =>
      obtain ⟨k, hk, rfl, htk, q, rfl⟩ := hrel
      have HTK := Lib.hid htk
      clear htk
      by_cases hlt : k < n
      · obtain ⟨wq, hwq⟩ : ∃ wq, wq = w.drewN q := ⟨_, rfl⟩
        have HWQ := Lib.hid hwq
        have HBQ := Lib.hid (show Below w.heap.size w wq by rw [hwq]; exact G.bl_drewN (Below.refl _ _) _)
        rw [← hwq]
        clear hwq
        obtain ⟨b, off, rfl, hb⟩ := rows_at (HX.out.below HBQ.out) hlt
        obtain ⟨b2, off2, rfl, hb2⟩ := rows_at (HY.out.below HBQ.out) hlt
        obtain ⟨ra, rk, hrv, hrr⟩ := HXR.out k hlt
        obtain ⟨ra2, rk2, hrv2, hrr2⟩ := HYR.out k hlt
        rw [hrv] at hb
        rw [hrv2] at hb2
        have hl1 := HLZ.out k
        have hl2 := HLY.out k
        have h0 : (k : Int) < n := by omega
        have h1 : (0 : Int) ≤ k := by omega
        obtain ⟨lx, hlx⟩ : ∃ lx, lx = (zs.getD k []).length := ⟨_, rfl⟩
        obtain ⟨ly, hly⟩ : ∃ ly, ly = (ys.getD k []).length := ⟨_, rfl⟩
        have HCE := Lib.hid (fun W (hW : Below w.heap.size w W) => G.eqInts_any ra ra2 lx ly rk rk2 (zs.getD k []) (ys.getD k []) W (by rw [hlx]; exact hrr.below hW) (by rw [hly]; exact hrr2.below hW) (by rw [hlx]; unfold maxLen; omega) (by rw [hly]; unfold maxLen; omega))
        rw [← hlx] at hb hl1
        rw [← hly] at hb2 hl2
        clear hrv hrv2 hrr hrr2 hlx hly
        by_cases he : zs.getD k [] = ys.getD k []
        · have hsu := Lib.hid (take_eq_of [] HTK.out (by rw [← HNL.out]; exact hlt) (by rw [← HML.out]; exact hlt) he)
          rw [decide_eq_true he] at HCE
          clear he
          go_wp2
          go_quiet ((go_at_call 12; exact Calls.quiet_of (HCE.out _ (G.bl_drewN HBQ.out _))))
          go_wp2
          go_roundw
          case rel => exact ⟨k + 1, by omega, by go_num, hsu.out, _, by rw [HWQ.out]; exact World.drewN_drewN ..⟩
          case measure => simp [intOf]; omega
        · have hne : decide (zs = ys) = false := by
            simp only [decide_eq_false_iff_not]
            rintro rfl
            exact he rfl
          have HNE := Lib.hid hne
          rw [decide_eq_false he] at HCE
          clear he hne
          go_wp2
          go_quiet ((go_at_call 12; exact Calls.quiet_of (HCE.out _ (G.bl_drewN HBQ.out _))))
          go_wp2
          go_ret
          exact ⟨(ret_bool HNE.out).symm, _, by rw [HWQ.out]; exact World.drewN_drewN ..⟩
      · have hd : decide (zs = ys) = true := by
          simp only [decide_eq_true_eq]
          have h2 := HTK.out
          rwa [List.take_of_length_le (by rw [← HNL.out]; omega), List.take_of_length_le (by rw [← HML.out]; omega)] at h2
        have HD := Lib.hid hd
        clear hd
        go_wp2
        go_ret
        exact ⟨(ret_bool HD.out).symm, _, rfl⟩
  · have hd : decide (zs = ys) = false := by
      simp only [decide_eq_false_iff_not]
      rintro rfl
      omega
    have HD := Lib.hid hd
    clear hd hnl hml
    have hnm1 : ((n : Int) == m) = false := by simpa using fun h : (n : Int) = m => hnm (by omega)
    have hnm2 : ((n : Int) != m) = true := by simpa using fun h : (n : Int) = m => hnm (by omega)
    go_enter Tryz.func38, Tryz.ntmps38
    go_wp2
    go_ret
    exact ⟨(ret_bool HD.out).symm, 0, rfl⟩
end Go.Proofs.YtmhklnjmeoeanaaGreatDoor.D

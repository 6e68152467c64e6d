/- The reference of layer 06: Draw, Shuffle. Printed by gen_ref6o.py. -/
import Derived.Test.YtofgmijmhpmabaaGreatDoorDRef6E
import Derived.Test.YtofgmijmhpmabaaGreatDoorDMoveD
import Derived.Test.YtofgmijmhpmabaaGreatDoorDMay
import Derived.Test.YtofgmijmhpmabaaGreatDoorDChange
import Derived.Test.YtofgmijmhpmabaaGreatDoorDWideEv
import Derived.Test.YtofgmijmhpmabaaGreatDoorDCopySt
import Derived.Test.YtofgmijmhpmabaaGreatDoorDShufD
namespace Go.Proofs.YtofgmijmhpmabaaGreatDoor.D
open Go Go.RowKit
set_option linter.unusedVariables false
set_option linter.unusedSimpArgs false
set_option maxHeartbeats 1000000 in
theorem refCut_any (was b : Int) (w : World) (h1 : Stat was) (hb : -9223372036854775808 ≤ b ∧ b ≤ 9223372036854775807) : Calls Tryz.prog 150 #[.int .i32 was, .int .i64 b] w fun e w' => e = .returned (.int .i32 (clampI (was + b))) ∧ w = w' := by
  obtain ⟨h1a, h1b⟩ := h1
  by_cases k1 : b > 2000000000
  · have H := Lib.hid (show clampI (was + b) = 1000000000 by unfold clampI; rw [if_pos (by omega)])
    go_enter Tryz.func150, Tryz.ntmps150
    go_wp2_with fail
    go_ret
    exact ⟨by rw [H.out]; rfl, rfl⟩
  by_cases k2 : b < -2000000000
  · have H := Lib.hid (show clampI (was + b) = -1000000000 by unfold clampI; rw [if_neg (by omega), if_pos (by omega)])
    go_enter Tryz.func150, Tryz.ntmps150
    go_wp2_with fail
    go_ret
    exact ⟨by rw [H.out]; rfl, rfl⟩
  have hw1 : IntKind.i64.wrap (was + b) = was + b := IntWalk.i64_in _ (by omega)
  have hw0 : IntKind.i64.wrap was = was := IntWalk.i64_in _ (by omega)
  by_cases k3 : was + b > 1000000000
  · have H := Lib.hid (show clampI (was + b) = 1000000000 by unfold clampI; rw [if_pos (by omega)])
    go_enter Tryz.func150, Tryz.ntmps150
    go_wp2_with fail
    go_ret
    exact ⟨by rw [H.out]; rfl, rfl⟩
  by_cases k4 : was + b < -1000000000
  · have H := Lib.hid (show clampI (was + b) = -1000000000 by unfold clampI; rw [if_neg (by omega), if_pos (by omega)])
    go_enter Tryz.func150, Tryz.ntmps150
    go_wp2_with fail
    go_ret
    exact ⟨by rw [H.out]; rfl, rfl⟩
  have hw2 : IntKind.i32.wrap (was + b) = was + b := IntWalk.i32_in _ (by omega)
  have H := Lib.hid (show clampI (was + b) = was + b by unfold clampI; rw [if_neg (by omega), if_neg (by omega)])
  go_enter Tryz.func150, Tryz.ntmps150
  go_wp2_with fail
  go_ret
  exact ⟨by rw [H.out]; rfl, rfl⟩
theorem idx_first {l : List Int} {c : Int} {q : Nat} (hq : q < l.length) (hc : l.getD q 0 = c) (hb : ∀ j, j < q → l.getD j 0 ≠ c) : l.idxOf c = q := by
  unfold List.idxOf
  rw [List.findIdx_eq hq]
  refine ⟨by rw [getD_lt hq] at hc; simpa using hc, fun j hj => ?_⟩
  have := hb j hj
  rw [getD_lt (by omega)] at this
  simpa using this
def PlcPost (s : St) (c : Int) (w : World) (e : Ending) (w' : World) : Prop := e = .returned (.tuple #[.int .i64 (zoneOf s.zones c : Nat), .int .i64 (atOf s.zones c : Nat)]) ∧ Below w.heap.size w w'
set_option maxRecDepth 100000 in
set_option maxHeartbeats 4000000 in
theorem refPlace_any (x : SV) (s : St) (c : Int) (w : World) (h : RdSt w x s) (hz : Sz s) (hm : May s) (hc : Within c s.cards.length) : Calls Tryz.prog 148 #[x.val s, .int .i64 c] w (PlcPost s c w) := by
  have HR := Lib.hid h
  have HZ := Lib.hid hz
  have HP := Lib.hid (place_ok hm hc)
  obtain ⟨cs, hcs⟩ : ∃ cs, cs = x.arr s := ⟨_, rfl⟩
  obtain ⟨l, hl⟩ : ∃ l, l = s.zones.length := ⟨_, rfl⟩
  have HBX := Lib.hid (G.Blk.new w 27 cs)
  obtain ⟨w1, hw1⟩ : ∃ w1, w1 = w.alloc (.cells cs 27) := ⟨_, rfl⟩
  have HB1 := Lib.hid (show Below w.heap.size w w1 by rw [hw1]; exact G.bl_alloc (Below.refl _ _) _)
  rw [← hw1] at HBX
  have HC2 := Lib.hid (show cs[2]? = some (.slice x.za l x.zc) by rw [hcs, hl]; rfl)
  have he : x.val s = .agg cs := by rw [hcs]; rfl
  rw [he]
  have HL := Lib.hid hl
  have hz3 := hz.z
  rw [← hl] at hz3
  clear h hz hm hc hcs he hl
  obtain ⟨g, hg⟩ : ∃ g, g = w.heap.size := ⟨_, rfl⟩
  rw [← hg] at HBX
  go_enter Tryz.func148, Tryz.ntmps148
  go_upto_region 1 with (fail)
  rw [← hw1, ← hg]
  clear hw1 hg
  have c2 := (HBX.out.cell 2).trans HC2.out
  have lx := HBX.out.lt
  have hzpos : 0 < l := by have := HP.out.1; rw [← HL.out] at this; omega
  obtain ⟨bz, oz, hza, _⟩ := rows_at HR.out.z (i := 0) (by rw [← HL.out]; exact hzpos)
  rw [hza] at c2
  have HRZ := Lib.hid (fun i (hi : i < l) => (show w1.cell? ⟨bz, oz + i, none⟩ = some (x.rows.getD i undef) by
    obtain ⟨b2, o2, hza2, hcc⟩ := rows_at (HR.out.below HB1.out).z (i := i) (by rw [← HL.out]; exact hi)
    rw [hza] at hza2
    simp only [Option.some.injEq, Addr.mk.injEq, and_true] at hza2
    obtain ⟨rfl, rfl⟩ := hza2
    exact hcc))
  clear hza
  go_wp2_with fail
  go_loop [6, 7] (fun i _ => ∃ q : Nat, q ≤ l ∧ i = .int .i64 q ∧ ∀ j, j < q → c ∉ s.zones.getD j []) (fun i _ => l - (intOf i).toNat)
  case atStart => exact ⟨0, Nat.zero_le _, rfl, fun j hj => by omega⟩
  case round =>
    obtain ⟨q, hq, rfl, hno⟩ := hrel
    have HNO := Lib.hid hno
    have hq0 : (0 : Int) ≤ q := by omega
    clear hno
    by_cases hlt : q < l
    · have hltI : (q : Int) < l := by omega
      have hcz := HRZ.out q hlt
      obtain ⟨ra, rk, hrv, hrd⟩ := HR.out.rows q (by rw [← HL.out]; exact hlt)
      rw [hrv] at hcz
      have hzl := HZ.out.r q
      obtain ⟨Z, hZ⟩ : ∃ Z, Z = s.zones.getD q [] := ⟨_, rfl⟩
      rw [← hZ] at hcz hrd hzl
      obtain ⟨zl, hzl'⟩ : ∃ zl, zl = Z.length := ⟨_, rfl⟩
      rw [← hzl'] at hcz hrd hzl
      have HZZ := Lib.hid hZ
      have HZL := Lib.hid hzl'
      have HRD := Lib.hid (hrd.below HB1.out)
      clear hrv hZ hzl' hrd
      go_wp2_with fail
      go_loop [7] (fun i => ∃ p : Nat, p ≤ zl ∧ i = .int .i64 p ∧ ∀ j, j < p → Z.getD j 0 ≠ c) (fun i => zl - (intOf i).toNat)
      case atStart => exact ⟨0, Nat.zero_le _, rfl, fun j hj => by omega⟩
      case round =>
        obtain ⟨p, hp, rfl, hno⟩ := hrel
        have HNP := Lib.hid hno
        have hp0 : (0 : Int) ≤ p := by omega
        clear hno
        by_cases hlt2 : p < zl
        · have hltI2 : (p : Int) < zl := by omega
          obtain ⟨b, off, hra, hrv⟩ := HRD.out.2 (by omega)
          have d0 := i64_at hrv (k := p) (by rw [← HZL.out]; exact hlt2)
          subst hra
          obtain ⟨y, hy⟩ : ∃ y, y = Z.getD p 0 := ⟨_, rfl⟩
          rw [← hy] at d0
          have HY := Lib.hid hy
          clear hrv hy
          by_cases hyc : y = c
          · have hyb : (y == c) = true := by rw [hyc]; simp
            have HQ := Lib.hid (show zoneOf s.zones c = q from zone_first (by rw [← HL.out]; exact hlt) (by rw [← HZZ.out, ← hyc, HY.out, getD_lt (by rw [← HZL.out]; exact hlt2)]; exact List.getElem_mem _) HNO.out)
            have HP2 := Lib.hid (show atOf s.zones c = p by unfold atOf; rw [HQ.out, ← HZZ.out]; exact idx_first (by rw [← HZL.out]; exact hlt2) (by rw [← HY.out]; exact hyc) HNP.out)
            clear hyc
            go_wp2_with fail
            go_ret2
            exact ⟨by rw [HQ.out, HP2.out]; rfl, HB1.out⟩
          · have hyb : (y == c) = false := by rw [beq_eq_false_iff_ne]; exact hyc
            have HNX := Lib.hid (show ∀ j, j < p + 1 → Z.getD j 0 ≠ c from fun j hj => by
              by_cases e : j = p
              · subst e
                rw [← HY.out]
                exact hyc
              · exact HNP.out j (by omega))
            clear hyc
            go_wp2_with fail
            go_round
            case rel => exact ⟨p + 1, by omega, by go_num, HNX.out⟩
            case measure => simp [intOf]; omega
        · have hltI2 : ¬ (p : Int) < zl := by omega
          have HNX := Lib.hid (show ∀ j, j < q + 1 → c ∉ s.zones.getD j [] from fun j hj => by
            by_cases e : j = q
            · subst e
              rw [← HZZ.out]
              intro hmem
              obtain ⟨i, hi, hic⟩ := List.getElem_of_mem hmem
              exact HNP.out i (by have := HZL.out; omega) (by rw [getD_lt hi]; exact hic)
            · exact HNO.out j (by omega))
          go_wp2_with fail
          go_round
          case rel => exact ⟨q + 1, by omega, by go_num, HNX.out⟩
          case measure => simp [intOf]; omega
    · exfalso
      have h1 := HP.out
      refine HNO.out _ (by have := h1.1; rw [← HL.out] at this; omega) (?_ : c ∈ s.zones.getD (zoneOf s.zones c) [])
      have h2 := h1.2.2
      rw [getD_lt h1.2.1] at h2
      have h3 := List.getElem_mem h1.2.1
      rw [h2] at h3
      exact h3
theorem rmay_false' {b : Bool} {s : St} (hb : b = true ↔ May s) (hm : ¬ May s) : b = false := by
  cases b
  · rfl
  · exact absurd (hb.1 rfl) hm
set_option maxRecDepth 100000 in
set_option maxHeartbeats 8000000 in
theorem refMove_any (x : SV) (s : St) (card zn : Int) (first : Bool) (w : World) (h : RdSt w x s) (hz : Sz s) :
    Calls Tryz.prog 110 #[x.val s, .int .i64 card, .int .i64 zn, .bool first] w (AskPost s (Within card s.cards.length ∧ Within zn s.zones.length) (moveEv s card zn first) w) := by
  obtain ⟨fsS, hfsS⟩ := undSt
  have HFS := Lib.hid hfsS
  have HMY := Lib.hid (fun W (hW : Below w.heap.size w W) => refMay_any x s W (h.below hW) hz)
  have HWH := Lib.hid (fun W (hW : Below w.heap.size w W) hm hc => refPlace_any x s card W (h.below hW) hz hm hc)
  have HR := Lib.hid h
  obtain ⟨l, hl⟩ : ∃ l, l = s.zones.length := ⟨_, rfl⟩
  obtain ⟨m, hmm⟩ : ∃ m, m = s.cards.length := ⟨_, rfl⟩
  have HLL := Lib.hid hl
  have HMM := Lib.hid hmm
  have HI1 := Lib.hid (fun W => refIs_any card m W)
  have HI2 := Lib.hid (fun W => refIs_any zn l W)
  obtain ⟨za, hza⟩ : ∃ q, q = x.za := ⟨_, rfl⟩
  have HZA := Lib.hid hza
  obtain ⟨cs, hcs⟩ : ∃ c, c = x.arr s := ⟨_, rfl⟩
  have HS := Lib.hid (show cs.size = 7 by rw [hcs]; rfl)
  have HC1 := Lib.hid (show cs[1]? = some (.slice x.ca m x.cc) by rw [hcs, hmm]; rfl)
  have HCS := Lib.hid (show cs[2]? = some (.slice za l x.zc) by rw [hcs, hl, hza]; rfl)
  have he : x.val s = .agg cs := by rw [hcs]; rfl
  rw [he] at HMY HWH ⊢
  generalize x.zc = zc at HCS
  clear h hz hcs he hfsS hl hmm hza
  have HBX := Lib.hid (G.Blk.new w 27 cs)
  obtain ⟨w0, hw0⟩ : ∃ w0, w0 = w.alloc (.cells cs 27) := ⟨_, rfl⟩
  have HBL0 := Lib.hid (show Below w.heap.size w w0 by rw [hw0]; exact G.bl_alloc (Below.refl _ _) _)
  rw [← hw0] at HBX
  obtain ⟨g, hg⟩ : ∃ g, g = w.heap.size := ⟨_, rfl⟩
  rw [← hg] at HBX
  go_enter Tryz.func110, Tryz.ntmps110
  go_upto_region 1 with (fail)
  rw [← hw0, ← hg]
  clear hw0 hg
  have HMY0 := Lib.hid (HMY.out w0 HBL0.out)
  by_cases hm : May s
  · have HM := Lib.hid hm
    clear hm
    go_upto_region 3 with (first | (refine wpList_load_row rfl 27 _ rfl g rfl _ cs (0, 0) _ HBX.out HFS.out rfl (by rw [HS.out]; exact sizeSt) ?_) | ((with_reducible refine (HMY0.out).mono ?_); rintro e1 w1 hp; obtain ⟨b1, rfl, hb, hbw⟩ := hp; obtain rfl : b1 = true := hb.2 HM.out; have HS1 := Lib.hid (HBX.out.below hbw HBX.out.lt); have HBL1 := Lib.hid (G.bl_trans HBL0.out hbw); clear hb hbw))
    have q1 := (HS1.out.cell 1).trans HC1.out
    have q2 := (HS1.out.cell 2).trans HCS.out
    have lq := HS1.out.lt
    cases t1 : withinB card m with
    | false =>
      rw [t1] at HI1
      have HOK := Lib.hid (show ¬ (Within card s.cards.length ∧ Within zn s.zones.length) by intro h; rw [HMM.out, within_yes h.1] at t1; cases t1)
      clear t1
      go_wp2_with (go_at_call 122; with_reducible refine (HI1.out _).mono ?_; rintro e wq ⟨rfl, rfl⟩)
      go_ret2
      exact askP_arg HM.out HOK.out HBL1.out
    | true =>
      rw [t1] at HI1
      cases t2 : withinB zn l with
      | false =>
        rw [t2] at HI2
        have HOK := Lib.hid (show ¬ (Within card s.cards.length ∧ Within zn s.zones.length) by intro h; rw [HLL.out, within_yes h.2] at t2; cases t2)
        clear t1 t2
        go_wp2_with (first | (go_at_call 122; with_reducible refine (HI1.out _).mono ?_; rintro e wq ⟨rfl, rfl⟩) | (go_at_call 122; with_reducible refine (HI2.out _).mono ?_; rintro e wq ⟨rfl, rfl⟩))
        go_ret2
        exact askP_arg HM.out HOK.out HBL1.out
      | true =>
      rw [t2] at HI2
      have hok2 : Within card s.cards.length ∧ Within zn s.zones.length := ⟨by rw [← HMM.out]; exact of_decide_eq_true t1, by rw [← HLL.out]; exact of_decide_eq_true t2⟩
      have HOK := Lib.hid hok2
      obtain ⟨ho1, ho2, ho3⟩ := hok2
      have hm := HM.out
      have HWR := Lib.hid (HWH.out w1 HBL1.out hm ho1)
      obtain ⟨p1, p2, _⟩ := place_ok hm ho1
      obtain ⟨zk, rfl⟩ := Int.eq_ofNat_of_zero_le ho2
      have hzk : zk < l := by rw [HLL.out]; omega
      have hzl := may_zone hm zk
      have hz16 : l ≤ 16 := by have := hm.zn; have := hm.n4; rw [HLL.out]; omega
      clear hm ho1 ho2 ho3 t1 t2
      unfold PlcPost at HWR
      obtain ⟨zi, hzi⟩ : ∃ zi, zi = zoneOf s.zones card := ⟨_, rfl⟩
      obtain ⟨a, ha⟩ : ∃ a, a = atOf s.zones card := ⟨_, rfl⟩
      rw [← hzi, ← ha] at HWR
      rw [← hzi] at p1 p2
      rw [← ha] at p2
      rw [← HLL.out] at p1
      have HZI := Lib.hid hzi.symm
      have HAT := Lib.hid ha.symm
      clear hzi ha
      go_upto_region 6 with (first | (go_at_call 122; with_reducible refine (HI1.out _).mono ?_; rintro e wq ⟨rfl, rfl⟩) | (go_at_call 122; with_reducible refine (HI2.out _).mono ?_; rintro e wq ⟨rfl, rfl⟩) | (refine wpList_load_row rfl 27 _ rfl g rfl _ cs (0, 0) _ HS1.out HFS.out rfl (by rw [HS.out]; exact sizeSt) ?_) | ((with_reducible refine (HWR.out).mono ?_); rintro e2 w2 ⟨rfl, hb2⟩; have HBL2 := Lib.hid (G.bl_trans HBL1.out hb2); have HS2 := Lib.hid (HS1.out.below hb2 HS1.out.lt); clear hb2))
      clear q1 q2 lq
      have s2 := (HS2.out.cell 2).trans HCS.out
      have l3 := HS2.out.lt
      obtain ⟨bz, oz, hza, hcr⟩ := rows_at (i := zk) (HR.out.z.below HBL2.out) (by rw [← HLL.out]; exact hzk)
      rw [← HZA.out] at hza
      subst hza
      obtain ⟨ra, rk, hrv, hrr⟩ := HR.out.rows zk (by rw [← HLL.out]; exact hzk)
      rw [hrv] at hcr
      have hbs := World.block_lt_of_cell? _ _ hcr
      obtain ⟨lz, hlz⟩ : ∃ lz, lz = (s.zones.getD zk []).length := ⟨_, rfl⟩
      rw [← hlz] at hcr hzl
      have HLZ := Lib.hid (show (zone s ((zk : Nat) : Int)).length = lz by unfold zone; rw [Int.toNat_natCast, hlz])
      have HP2 := Lib.hid p2
      have HLZ2 := Lib.hid hlz
      have hzI : (zk : Int) < l := by omega
      have hzI0 : (0 : Int) ≤ zk := by omega
      clear hrv hrr hlz p2
      by_cases hsame : zi = zk
      · subst hsame
        have ha1 : a < lz := by rw [HLZ2.out]; exact HP2.out
        have ha0 : (0 : Int) ≤ (lz : Int) - 1 := by omega
        have hll : (lz : Int) ≤ 256 := by omega
        cases first
        · by_cases heq : (a : Int) = (lz : Int) - 1
          · have hb : ((a : Int) == (lz : Int) - 1) = true := by rw [heq]; simp
            have HEQ := Lib.hid heq
            clear heq
            go_wp2_with fail
            go_ret2
            exact askP_none HM.out HOK.out (by rw [moveEv_eq (dst := (lz : Int) - 1) HZI.out HAT.out (by simp [HLZ.out])]; exact if_pos ⟨rfl, HEQ.out⟩) HBL2.out
          · have hb : ((a : Int) == (lz : Int) - 1) = false := by rw [beq_eq_false_iff_ne]; exact heq
            have HEQ := Lib.hid heq
            clear heq
            go_wp2_with fail
            go_ret2
            exact askP_one (ev := mkMv card ((zi : Nat) : Int) (a : Int) (zi : Int) ((lz : Int) - 1)) HM.out HOK.out (by rw [moveEv_eq (dst := (lz : Int) - 1) HZI.out HAT.out (by simp [HLZ.out])]; exact if_neg (fun h => HEQ.out h.2)) rfl HBL2.out
        · by_cases heq : a = 0
          · subst heq
            go_wp2_with fail
            go_ret2
            exact askP_none HM.out HOK.out (by rw [moveEv_eq (dst := 0) HZI.out HAT.out (by simp)]; exact if_pos ⟨rfl, rfl⟩) HBL2.out
          · have hb : ((a : Int) == 0) = false := by rw [beq_eq_false_iff_ne]; omega
            have HEQ := Lib.hid heq
            clear heq
            go_wp2_with fail
            go_ret2
            exact askP_one (ev := mkMv card ((zi : Nat) : Int) (a : Int) (zi : Int) (0)) HM.out HOK.out (by rw [moveEv_eq (dst := 0) HZI.out HAT.out (by simp)]; exact if_neg (fun h => HEQ.out (by have := h.2; omega))) rfl HBL2.out
      · have hsb : ((zi : Int) == (zk : Int)) = false := by rw [beq_eq_false_iff_ne]; omega
        have HNS := Lib.hid (show ¬ ((zi : Nat) : Int) = (zk : Int) by omega)
        clear hsame
        cases first
        · go_wp2_with fail
          go_ret2
          exact askP_one (ev := mkMv card ((zi : Nat) : Int) (a : Int) (zk : Int) ((lz : Int))) HM.out HOK.out (by rw [moveEv_eq (dst := (lz : Int)) HZI.out HAT.out (by rw [if_neg (by simp), if_neg HNS.out, HLZ.out])]; exact if_neg (fun h => HNS.out h.1)) rfl HBL2.out
        · go_wp2_with fail
          go_ret2
          exact askP_one (ev := mkMv card ((zi : Nat) : Int) (a : Int) (zk : Int) (0)) HM.out HOK.out (by rw [moveEv_eq (dst := 0) HZI.out HAT.out (by simp)]; exact if_neg (fun h => HNS.out h.1)) rfl HBL2.out
  · have HM := Lib.hid hm
    clear hm
    go_wp2_with (first | (refine wpList_load_row rfl 27 _ rfl g rfl _ cs (0, 0) _ HBX.out HFS.out rfl (by rw [HS.out]; exact sizeSt) ?_) | ((with_reducible refine (HMY0.out).mono ?_); rintro e1 w1 hp; obtain ⟨b1, rfl, hb, hbw⟩ := hp; obtain rfl : b1 = false := rmay_false' hb HM.out; have HBL1 := Lib.hid (G.bl_trans HBL0.out hbw); clear hb hbw))
    go_ret2
    exact askP_state HM.out HBL1.out
end Go.Proofs.YtofgmijmhpmabaaGreatDoor.D
namespace Go.Proofs.YtofgmijmhpmabaaGreatDoor.D
open Go Go.RowKit
set_option linter.unusedVariables false
set_option linter.unusedSimpArgs false
set_option maxRecDepth 100000 in
set_option maxHeartbeats 8000000 in
theorem refOut_any (x : SV) (s : St) (p : Int) (w : World) (h : RdSt w x s) (hz : Sz s) :
    Calls Tryz.prog 114 #[x.val s, .int .i64 p] w (AskPost s (Within p s.players.length) (outEv s p) w) := by
  obtain ⟨fsS, hfsS⟩ := undSt
  have HFS := Lib.hid hfsS
  have HMY := Lib.hid (fun W (hW : Below w.heap.size w W) => refMay_any x s W (h.below hW) hz)
  have HR := Lib.hid h
  have HSZ := Lib.hid hz
  obtain ⟨l, hl⟩ : ∃ l, l = s.players.length := ⟨_, rfl⟩
  have HLL := Lib.hid hl
  have HI := Lib.hid (fun W => refIs_any p l W)
  have hz1 := hz.p
  rw [← hl] at hz1
  obtain ⟨cs, hcs⟩ : ∃ c, c = x.arr s := ⟨_, rfl⟩
  have HS := Lib.hid (show cs.size = 7 by rw [hcs]; rfl)
  have HCS := Lib.hid (show cs[0]? = some (.slice x.pa l x.pc) by rw [hcs, hl]; rfl)
  clear hl
  have he : x.val s = .agg cs := by rw [hcs]; rfl
  rw [he] at HMY ⊢
  clear h hz hcs he hfsS
  have HBX := Lib.hid (G.Blk.new w 27 cs)
  obtain ⟨w0, hw0⟩ : ∃ w0, w0 = w.alloc (.cells cs 27) := ⟨_, rfl⟩
  have HBL0 := Lib.hid (show Below w.heap.size w w0 by rw [hw0]; exact G.bl_alloc (Below.refl _ _) _)
  rw [← hw0] at HBX
  obtain ⟨g, hg⟩ : ∃ g, g = w.heap.size := ⟨_, rfl⟩
  rw [← hg] at HBX
  go_enter Tryz.func114, Tryz.ntmps114
  go_upto_region 1 with (fail)
  rw [← hw0, ← hg]
  clear hw0 hg
  have HMY0 := Lib.hid (HMY.out w0 HBL0.out)
  by_cases hm : May s
  · have HM := Lib.hid hm
    clear hm
    go_upto_region 3 with (first | (refine wpList_load_row rfl 27 _ rfl g rfl _ cs (0, 0) _ HBX.out HFS.out rfl (by rw [HS.out]; exact sizeSt) ?_) | ((with_reducible refine (HMY0.out).mono ?_); rintro e1 w1 hp; obtain ⟨b1, rfl, hb, hbw⟩ := hp; obtain rfl : b1 = true := hb.2 HM.out; have HS1 := Lib.hid (HBX.out.below hbw HBX.out.lt); have HBL1 := Lib.hid (G.bl_trans HBL0.out hbw); clear hb hbw))
    have s0 := (HS1.out.cell 0).trans HCS.out
    have l3 := HS1.out.lt
    cases t1 : withinB p l with
    | false =>
      rw [t1] at HI
      have HOK := Lib.hid (show ¬ Within p s.players.length by intro h; rw [HLL.out, within_yes h] at t1; cases t1)
      clear t1
      go_wp2_with (go_at_call 122; with_reducible refine (HI.out _).mono ?_; rintro e wq ⟨rfl, rfl⟩)
      go_ret2
      exact askP_arg HM.out HOK.out HBL1.out
    | true =>
      rw [t1] at HI
      have hok2 : Within p s.players.length := by rw [← HLL.out]; exact of_decide_eq_true t1
      have HOK := Lib.hid hok2
      obtain ⟨ho1, ho2⟩ := hok2
      obtain ⟨pk, rfl⟩ := Int.eq_ofNat_of_zero_le ho1
      rw [← HLL.out] at ho2
      have hpk : pk < l := by omega
      obtain ⟨bp, op, hpa, hpr⟩ := (HR.out.p.below HBL1.out).2 (by rw [← HLL.out]; omega)
      rw [hpa] at s0
      obtain ⟨_, _, pc2⟩ := pl_at hpr (k := pk) (by rw [← HLL.out]; exact hpk) rfl
      have hbs := World.block_lt_of_cell? _ _ pc2
      obtain ⟨b, hb⟩ : ∃ b, b = (s.players.getD pk zeroPl).out := ⟨_, rfl⟩
      rw [← hb] at pc2
      have HB := Lib.hid hb
      clear ho1 hpa hpr hb t1
      cases b with
      | true =>
        have HNIL := Lib.hid (show outEv s (pk : Int) = [] from by unfold outEv; rw [Int.toNat_natCast, if_pos HB.out.symm])
        go_wp2_with (go_at_call 122; with_reducible refine (HI.out _).mono ?_; rintro e wq ⟨rfl, rfl⟩)
        go_ret2
        exact askP_none HM.out HOK.out HNIL.out HBL1.out
      | false =>
        have HONE := Lib.hid (show outEv s (pk : Int) = [{ zeroEv with kind := 5, player := (pk : Int) }] from by unfold outEv; rw [Int.toNat_natCast, if_neg (by rw [← HB.out]; simp)])
        go_wp2_with (go_at_call 122; with_reducible refine (HI.out _).mono ?_; rintro e wq ⟨rfl, rfl⟩)
        go_ret2
        exact askP_one (ev := { zeroEv with kind := 5, player := (pk : Int) }) HM.out HOK.out HONE.out rfl HBL1.out
  · have HM := Lib.hid hm
    clear hm
    go_wp2_with (first | (refine wpList_load_row rfl 27 _ rfl g rfl _ cs (0, 0) _ HBX.out HFS.out rfl (by rw [HS.out]; exact sizeSt) ?_) | ((with_reducible refine (HMY0.out).mono ?_); rintro e1 w1 hp; obtain ⟨b1, rfl, hb, hbw⟩ := hp; obtain rfl : b1 = false := rmay_false' hb HM.out; have HBL1 := Lib.hid (G.bl_trans HBL0.out hbw); clear hb hbw))
    go_ret2
    exact askP_state HM.out HBL1.out
set_option maxRecDepth 100000 in
set_option maxHeartbeats 8000000 in
theorem refChange_any (x : SV) (s : St) (f num b : Int) (w : World) (h : RdSt w x s) (hz : Sz s) (hf : -128 ≤ f ∧ f ≤ 127) (hb : -9223372036854775808 ≤ b ∧ b ≤ 9223372036854775807) :
    Calls Tryz.prog 111 #[x.val s, .int .i8 f, .int .i64 num, .int .i64 b] w (AskPost s (∃ v, getF s f num = some v) (changeEv s f num b) w) := by
  obtain ⟨fsS, hfsS⟩ := undSt
  have HFS := Lib.hid hfsS
  have HMY := Lib.hid (fun W (hW : Below w.heap.size w W) => refMay_any x s W (h.below hW) hz)
  have HR := Lib.hid h
  have HSZ := Lib.hid hz
  have HFD := Lib.hid (fun W (hW : Below w.heap.size w W) => refField_any x s f num W (h.below hW))
  obtain ⟨cs, hcs⟩ : ∃ c, c = x.arr s := ⟨_, rfl⟩
  have HS := Lib.hid (show cs.size = 7 by rw [hcs]; rfl)
  have he : x.val s = .agg cs := by rw [hcs]; rfl
  rw [he] at HMY HFD ⊢
  clear h hz hcs he hfsS
  have HBX := Lib.hid (G.Blk.new w 27 cs)
  obtain ⟨w0, hw0⟩ : ∃ w0, w0 = w.alloc (.cells cs 27) := ⟨_, rfl⟩
  have HBL0 := Lib.hid (show Below w.heap.size w w0 by rw [hw0]; exact G.bl_alloc (Below.refl _ _) _)
  rw [← hw0] at HBX
  obtain ⟨g, hg⟩ : ∃ g, g = w.heap.size := ⟨_, rfl⟩
  rw [← hg] at HBX
  go_enter Tryz.func111, Tryz.ntmps111
  go_upto_region 1 with (fail)
  rw [← hw0, ← hg]
  clear hw0 hg
  have HMY0 := Lib.hid (HMY.out w0 HBL0.out)
  by_cases hm : May s
  · have HM := Lib.hid hm
    clear hm
    go_upto_region 3 with (first | (refine wpList_load_row rfl 27 _ rfl g rfl _ cs (0, 0) _ HBX.out HFS.out rfl (by rw [HS.out]; exact sizeSt) ?_) | ((with_reducible refine (HMY0.out).mono ?_); rintro e1 w1 hp; obtain ⟨b1, rfl, hb, hbw⟩ := hp; obtain rfl : b1 = true := hb.2 HM.out; have HS1 := Lib.hid (HBX.out.below hbw HBX.out.lt); have HBL1 := Lib.hid (G.bl_trans HBL0.out hbw); clear hb hbw))
    have HFQ := Lib.hid (HFD.out w1 HBL1.out)
    go_upto_region 4 with (first | (refine wpList_load_row rfl 27 _ rfl g rfl _ cs (0, 0) _ HS1.out HFS.out rfl (by rw [HS.out]; exact sizeSt) ?_) | ((with_reducible refine (HFQ.out).mono ?_); rintro e2 w2 hp; obtain ⟨v, b2, rfl, hv, hb2⟩ := hp; have HV := Lib.hid hv; have HBL2 := Lib.hid (G.bl_trans HBL1.out hb2); clear hv hb2))
    rcases HV.out with ⟨rfl, hg⟩ | ⟨rfl, hg⟩
    · have HGF := Lib.hid hg
      have hst := getF_stat HM.out hg
      clear hg HV
      have HCT := Lib.hid (fun W => refCut_any v b W hst hb)
      obtain ⟨n, hn⟩ : ∃ n, n = clampI (v + b) := ⟨_, rfl⟩
      have HNE := Lib.hid (changeEv_eq (b := b) HGF.out)
      rw [← hn] at HCT HNE
      clear hn hst
      by_cases heq : n = v
      · have HNIL := Lib.hid (show changeEv s f num b = [] by rw [HNE.out]; exact if_pos heq)
        have hneb : (n == v) = true := by rw [heq]; simp
        clear heq
        go_wp2_with (go_at_call 150; (with_reducible refine (HCT.out _).mono ?_); rintro e3 w3 ⟨rfl, rfl⟩)
        go_ret2
        exact askP_none HM.out ⟨_, HGF.out⟩ HNIL.out HBL2.out
      · have HONE := Lib.hid (show changeEv s f num b = [changeOne f num v n] by rw [HNE.out]; exact if_neg heq)
        have hneb : (n == v) = false := by rw [beq_eq_false_iff_ne]; exact heq
        clear heq
        by_cases hf4 : f ≤ 4
        · go_wp2_with (go_at_call 150; (with_reducible refine (HCT.out _).mono ?_); rintro e3 w3 ⟨rfl, rfl⟩)
          go_ret2
          have h9 := askP_one (ev := changeOne f num v n) HM.out (show ∃ v, getF s f num = some v from ⟨v, HGF.out⟩) HONE.out (by rw [change_lo hf4]; rfl) HBL2.out
          rw [change_lo hf4] at h9
          exact h9
        · go_wp2_with (go_at_call 150; (with_reducible refine (HCT.out _).mono ?_); rintro e3 w3 ⟨rfl, rfl⟩)
          go_ret2
          have h9 := askP_one (ev := changeOne f num v n) HM.out (show ∃ v, getF s f num = some v from ⟨v, HGF.out⟩) HONE.out (by rw [change_hi (by omega)]; rfl) HBL2.out
          rw [change_hi (by omega)] at h9
          exact h9
    · have HOK := Lib.hid (show ¬ ∃ v, getF s f num = some v by rintro ⟨u, hu⟩; rw [hg] at hu; cases hu)
      clear hg HV
      go_wp2_with fail
      go_ret2
      exact askP_arg HM.out HOK.out HBL2.out
  · have HM := Lib.hid hm
    clear hm
    go_wp2_with (first | (refine wpList_load_row rfl 27 _ rfl g rfl _ cs (0, 0) _ HBX.out HFS.out rfl (by rw [HS.out]; exact sizeSt) ?_) | ((with_reducible refine (HMY0.out).mono ?_); rintro e1 w1 hp; obtain ⟨b1, rfl, hb, hbw⟩ := hp; obtain rfl : b1 = false := rmay_false' hb HM.out; have HBL1 := Lib.hid (G.bl_trans HBL0.out hbw); clear hb hbw))
    go_ret2
    exact askP_state HM.out HBL1.out
end Go.Proofs.YtofgmijmhpmabaaGreatDoor.D
namespace Go.Proofs.YtofgmijmhpmabaaGreatDoor.D
open Go Go.RowKit
set_option linter.unusedVariables false
set_option linter.unusedSimpArgs false
theorem zone_unique : ∀ {zs : List (List Int)} (hn : zs.flatten.Nodup) {i j : Nat} (hi : i < zs.length) (hj : j < zs.length) (hne : i ≠ j) {c : Int} (h1 : c ∈ zs.getD i []) (h2 : c ∈ zs.getD j []), False
  | [], _, i, _, hi, _, _, _, _, _ => by simp at hi
  | l :: zs, hn, i, j, hi, hj, hne, c, h1, h2 => by
    rw [List.flatten_cons, List.nodup_append] at hn
    cases i with
    | zero =>
      cases j with
      | zero => exact hne rfl
      | succ j =>
        have hj2 : j < zs.length := by simpa using hj
        have hm : c ∈ zs.flatten := List.mem_flatten.2 ⟨zs.getD j [], by rw [List.getD_eq_getElem?_getD, List.getElem?_eq_getElem hj2]; exact List.getElem_mem _, h2⟩
        exact hn.2.2 c h1 c hm rfl
    | succ i =>
      have hi2 : i < zs.length := by simpa using hi
      cases j with
      | zero =>
        have hm : c ∈ zs.flatten := List.mem_flatten.2 ⟨zs.getD i [], by rw [List.getD_eq_getElem?_getD, List.getElem?_eq_getElem hi2]; exact List.getElem_mem _, h1⟩
        exact hn.2.2 c h2 c hm rfl
      | succ j => exact zone_unique hn.2.1 hi2 (by simpa using hj) (fun e => hne (by rw [e])) h1 h2
theorem AskPost.drew {s : St} {ok : Prop} {l : List Ev} {w W : World} {e : Ending} (h : AskPost s ok l w e W) : AskPost s ok l w e W.drew := by
  obtain ⟨A, n, c, L, k, he, ho, hb, hc⟩ := h
  exact ⟨A, n, c, L, k, he, ⟨G.own_below ho.s (Below.refl _ _).drew, fun i hi => (ho.o i hi).below (Below.refl _ _).drew⟩, hb.drew, hc⟩
theorem top_place {s : St} (hm : May s) {z : Nat} {c : Int} {t : List Int} (hz : z < s.zones.length) (h : s.zones.getD z [] = c :: t) : zoneOf s.zones c = z ∧ atOf s.zones c = 0 := by
  have h1 : zoneOf s.zones c = z := zone_first hz (by rw [h]; exact List.mem_cons_self) fun j hj hc => zone_unique hm.nd (show j < s.zones.length by omega) hz (by omega) hc (by rw [h]; exact List.mem_cons_self)
  refine ⟨h1, ?_⟩
  unfold atOf
  rw [h1, h]
  simp
set_option maxRecDepth 100000 in
set_option maxHeartbeats 8000000 in
theorem refDraw_any (x : SV) (s : St) (p : Int) (w : World) (h : RdSt w x s) (hz : Sz s) :
    Calls Tryz.prog 113 #[x.val s, .int .i64 p] w (AskPost s (Within p s.players.length) (drawEv s p) w) := by
  obtain ⟨fsS, hfsS⟩ := undSt
  have HFS := Lib.hid hfsS
  have HMY := Lib.hid (fun W (hW : Below w.heap.size w W) => refMay_any x s W (h.below hW) hz)
  have HR := Lib.hid h
  have HSZ := Lib.hid hz
  obtain ⟨l, hl⟩ : ∃ l, l = s.players.length := ⟨_, rfl⟩
  obtain ⟨m, hmm⟩ : ∃ m, m = s.zones.length := ⟨_, rfl⟩
  have HLL := Lib.hid hl
  have HMM := Lib.hid hmm
  have HI := Lib.hid (fun W => refIs_any p l W)
  have hz1 := hz.p
  rw [← hl] at hz1
  obtain ⟨cs, hcs⟩ : ∃ c, c = x.arr s := ⟨_, rfl⟩
  have HS := Lib.hid (show cs.size = 7 by rw [hcs]; rfl)
  have HC0 := Lib.hid (show cs[0]? = some (.slice x.pa l x.pc) by rw [hcs, hl]; rfl)
  have HC2 := Lib.hid (show cs[2]? = some (.slice x.za m x.zc) by rw [hcs, hmm]; rfl)
  clear hl hmm
  have he : x.val s = .agg cs := by rw [hcs]; rfl
  rw [he] at HMY ⊢
  clear h hz hcs he hfsS
  have HBX := Lib.hid (G.Blk.new w 27 cs)
  obtain ⟨w0, hw0⟩ : ∃ w0, w0 = w.alloc (.cells cs 27) := ⟨_, rfl⟩
  have HBL0 := Lib.hid (show Below w.heap.size w w0 by rw [hw0]; exact G.bl_alloc (Below.refl _ _) _)
  rw [← hw0] at HBX
  obtain ⟨g, hg⟩ : ∃ g, g = w.heap.size := ⟨_, rfl⟩
  rw [← hg] at HBX
  go_enter Tryz.func113, Tryz.ntmps113
  go_upto_region 1 with (fail)
  rw [← hw0, ← hg]
  clear hw0 hg
  have HMY0 := Lib.hid (HMY.out w0 HBL0.out)
  by_cases hm : May s
  · have HM := Lib.hid hm
    clear hm
    go_upto_region 3 with (first | (refine wpList_load_row rfl 27 _ rfl g rfl _ cs (0, 0) _ HBX.out HFS.out rfl (by rw [HS.out]; exact sizeSt) ?_) | ((with_reducible refine (HMY0.out).mono ?_); rintro e1 w1 hp; obtain ⟨b1, rfl, hb, hbw⟩ := hp; obtain rfl : b1 = true := hb.2 HM.out; have HS1 := Lib.hid (HBX.out.below hbw HBX.out.lt); have HBL1 := Lib.hid (G.bl_trans HBL0.out hbw); clear hb hbw))
    have s0 := (HS1.out.cell 0).trans HC0.out
    have s2 := (HS1.out.cell 2).trans HC2.out
    have l3 := HS1.out.lt
    cases t1 : withinB p l with
    | false =>
      rw [t1] at HI
      have HOK := Lib.hid (show ¬ Within p s.players.length by intro h; rw [HLL.out, within_yes h] at t1; cases t1)
      clear t1
      go_wp2_with (go_at_call 122; with_reducible refine (HI.out _).mono ?_; rintro e wq ⟨rfl, rfl⟩)
      go_ret2
      exact askP_arg HM.out HOK.out HBL1.out
    | true =>
      rw [t1] at HI
      have hok2 : Within p s.players.length := by rw [← HLL.out]; exact of_decide_eq_true t1
      have HOK := Lib.hid hok2
      obtain ⟨ho1, ho2⟩ := hok2
      obtain ⟨pk, rfl⟩ := Int.eq_ofNat_of_zero_le ho1
      rw [← HLL.out] at ho2
      have hzn := HM.out.zn
      rw [← HMM.out, ← HLL.out] at hzn
      obtain ⟨zd, hzd⟩ : ∃ zd, zd = 4 * pk := ⟨_, rfl⟩
      obtain ⟨zh, hzh⟩ : ∃ zh, zh = 4 * pk + 1 := ⟨_, rfl⟩
      have hw0 : IntKind.i64.wrap (4 * ((pk : Nat) : Int)) = ((zd : Nat) : Int) := by rw [IntWalk.i64_in _ (by omega), hzd]; omega
      have hw1 : IntKind.i64.wrap (((zd : Nat) : Int) + 1) = ((zh : Nat) : Int) := by rw [IntWalk.i64_in _ (by omega), hzd, hzh]; omega
      have hw2 : IntKind.i64.wrap ((zd : Nat) : Int) = ((zd : Nat) : Int) := IntWalk.i64_in _ (by omega)
      have hdm : zd < m := by omega
      have hhm : zh < m := by omega
      have hdI : ((zd : Nat) : Int) < m := by omega
      have hhI : ((zh : Nat) : Int) < m := by omega
      have HZD := Lib.hid (show zone s (4 * ((pk : Nat) : Int)) = s.zones.getD zd [] by unfold zone; rw [show (4 * ((pk : Nat) : Int)).toNat = zd by omega])
      have HZH := Lib.hid (show zone s ((zh : Nat) : Int) = s.zones.getD zh [] by unfold zone; rw [Int.toNat_natCast])
      have HPK := Lib.hid (And.intro hzd hzh)
      obtain ⟨bz, oz, hza, hcd⟩ := rows_at (HR.out.z.below HBL1.out) (i := zd) (by rw [← HMM.out]; exact hdm)
      obtain ⟨bz2, oz2, hza2, hch⟩ := rows_at (HR.out.z.below HBL1.out) (i := zh) (by rw [← HMM.out]; exact hhm)
      rw [hza] at hza2
      simp only [Option.some.injEq, Addr.mk.injEq, and_true] at hza2
      obtain ⟨rfl, rfl⟩ := hza2
      rw [hza] at s2
      obtain ⟨ra, rk, hrv, hrd⟩ := HR.out.rows zd (by rw [← HMM.out]; exact hdm)
      obtain ⟨rb, rj, hrv2, _⟩ := HR.out.rows zh (by rw [← HMM.out]; exact hhm)
      rw [hrv] at hcd
      rw [hrv2] at hch
      obtain ⟨lh, hlh⟩ : ∃ lh, lh = (s.zones.getD zh []).length := ⟨_, rfl⟩
      rw [← hlh] at hch
      have HLH := Lib.hid hlh
      have hRD := hrd.below HBL1.out
      obtain ⟨Z, hZ⟩ : ∃ Z, Z = s.zones.getD zd [] := ⟨_, rfl⟩
      rw [← hZ] at hcd hRD
      have HZZ := Lib.hid hZ
      have lb := World.block_lt_of_cell? _ _ hcd
      clear hza hrv hrv2 hrd hlh ho1 hzd hzh t1 hzn
      cases Z with
      | nil =>
        have HNIL := Lib.hid (show drawEv s ((pk : Nat) : Int) = [] by unfold drawEv; rw [HZD.out, ← HZZ.out])
        simp only [List.length_nil] at hcd
        clear hRD hZ
        go_wp2_with (go_at_call 122; with_reducible refine (HI.out _).mono ?_; rintro e wq ⟨rfl, rfl⟩)
        go_ret2
        exact askP_none HM.out HOK.out HNIL.out HBL1.out
      | cons c t =>
        obtain ⟨q1, q2⟩ := top_place HM.out (show zd < s.zones.length by rw [← HMM.out]; exact hdm) HZZ.out.symm
        have hnz : ¬ ((zd : Nat) : Int) = ((zh : Nat) : Int) := by have := HPK.out; omega
        have HONE := Lib.hid (show drawEv s ((pk : Nat) : Int) = [mkMv c ((zd : Nat) : Int) ((0 : Nat) : Int) ((zh : Nat) : Int) (lh : Int)] by
          unfold drawEv
          rw [HZD.out, ← HZZ.out]
          simp only
          rw [show (4 * ((pk : Nat) : Int) + 1) = ((zh : Nat) : Int) by have := HPK.out; omega, moveEv_eq (z := zd) (a := 0) (dst := (lh : Int)) q1 q2 (by rw [if_neg (by simp), if_neg hnz, HZH.out, ← HLH.out])]
          exact if_neg (fun h => hnz h.1))
        obtain ⟨b, off, hra, hrv⟩ := hRD.2 (by simp)
        have d0 := i64_at hrv (k := 0) (by simp)
        subst hra
        rw [show (c :: t).getD 0 0 = c from rfl, Nat.add_zero] at d0
        obtain ⟨zl, hzl⟩ : ∃ zl, zl = (c :: t).length := ⟨_, rfl⟩
        rw [← hzl] at hcd
        have hzl1 : 1 ≤ zl := by rw [hzl]; simp
        have hz0 : ((zl : Int) == 0) = false := by rw [beq_eq_false_iff_ne]; omega
        have hz0I : (0 : Int) < zl := by omega
        have ld := World.block_lt_of_cell? _ _ d0
        clear hRD hZ hzl q1 q2 hnz hrv
        go_upto_region 9 with (go_at_call 122; with_reducible refine (HI.out _).mono ?_; rintro e wq ⟨rfl, rfl⟩)
        go_region
        go_wp2_with fail
        go_ret2
        exact (askP_one (ev := mkMv c ((zd : Nat) : Int) ((0 : Nat) : Int) ((zh : Nat) : Int) (lh : Int)) HM.out HOK.out HONE.out rfl HBL1.out).drew
  · have HM := Lib.hid hm
    clear hm
    go_wp2_with (first | (refine wpList_load_row rfl 27 _ rfl g rfl _ cs (0, 0) _ HBX.out HFS.out rfl (by rw [HS.out]; exact sizeSt) ?_) | ((with_reducible refine (HMY0.out).mono ?_); rintro e1 w1 hp; obtain ⟨b1, rfl, hb, hbw⟩ := hp; obtain rfl : b1 = false := rmay_false' hb HM.out; have HBL1 := Lib.hid (G.bl_trans HBL0.out hbw); clear hb hbw))
    go_ret2
    exact askP_state HM.out HBL1.out
set_option maxRecDepth 100000 in
set_option maxHeartbeats 8000000 in
theorem refShuffle_any (x : SV) (s : St) (z : Int) (A : Option Addr) (ol c : Nat) (order : List Int) (w : World) (h : RdSt w x s) (hz : Sz s) (hn : ol = order.length) (hr : G.RdS w A 1 ol (i64s order)) (hl : ol ≤ 33554432) :
    Calls Tryz.prog 112 #[x.val s, .int .i64 z, .slice A ol c] w (AskPost s (Within z s.zones.length ∧ IsOrder order (zone s z).length) (shufEv z order) w) := by
  obtain ⟨fsS, hfsS⟩ := undSt
  have HFS := Lib.hid hfsS
  have HMY := Lib.hid (fun W (hW : Below w.heap.size w W) => refMay_any x s W (h.below hW) hz)
  have HR := Lib.hid h
  have HSZ := Lib.hid hz
  obtain ⟨m, hmm⟩ : ∃ m, m = s.zones.length := ⟨_, rfl⟩
  have HMM := Lib.hid hmm
  have HOL := Lib.hid hn
  have HI := Lib.hid (fun W => refIs_any z m W)
  have HOR := Lib.hid (fun zl W (hW : Below w.heap.size w W) hzl => refOrder_any A ol c zl order W hn.symm hl (hr.below hW) hzl)
  have HRI := Lib.hid (fun W (hW : Below w.heap.size w W) => refRises_any A ol c order W hn.symm hl (hr.below hW))
  have HCI := Lib.hid (fun W (hW : Below w.heap.size w W) => copyInts_any A ol c order W (hr.below hW) hl)
  unfold LstPost at HCI
  obtain ⟨cs, hcs⟩ : ∃ c, c = x.arr s := ⟨_, rfl⟩
  have HS := Lib.hid (show cs.size = 7 by rw [hcs]; rfl)
  have HC2 := Lib.hid (show cs[2]? = some (.slice x.za m x.zc) by rw [hcs, hmm]; rfl)
  clear hmm hr hn
  have he : x.val s = .agg cs := by rw [hcs]; rfl
  rw [he] at HMY ⊢
  clear h hz hcs he hfsS
  have HBX := Lib.hid (G.Blk.new w 27 cs)
  obtain ⟨w0, hw0⟩ : ∃ w0, w0 = w.alloc (.cells cs 27) := ⟨_, rfl⟩
  have HBL0 := Lib.hid (show Below w.heap.size w w0 by rw [hw0]; exact G.bl_alloc (Below.refl _ _) _)
  rw [← hw0] at HBX
  obtain ⟨g, hg⟩ : ∃ g, g = w.heap.size := ⟨_, rfl⟩
  rw [← hg] at HBX
  go_enter Tryz.func112, Tryz.ntmps112
  go_upto_region 1 with (fail)
  rw [← hw0, ← hg]
  clear hw0 hg
  have HMY0 := Lib.hid (HMY.out w0 HBL0.out)
  by_cases hm : May s
  · have HM := Lib.hid hm
    clear hm
    go_upto_region 3 with (first | (refine wpList_load_row rfl 27 _ rfl g rfl _ cs (0, 0) _ HBX.out HFS.out rfl (by rw [HS.out]; exact sizeSt) ?_) | ((with_reducible refine (HMY0.out).mono ?_); rintro e1 w1 hp; obtain ⟨b1, rfl, hb, hbw⟩ := hp; obtain rfl : b1 = true := hb.2 HM.out; have HS1 := Lib.hid (HBX.out.below hbw HBX.out.lt); have HBL1 := Lib.hid (G.bl_trans HBL0.out hbw); clear hb hbw))
    have s2 := (HS1.out.cell 2).trans HC2.out
    have l3 := HS1.out.lt
    cases t1 : withinB z m with
    | false =>
      rw [t1] at HI
      have HOK := Lib.hid (show ¬ (Within z s.zones.length ∧ IsOrder order (zone s z).length) by intro h; rw [HMM.out, within_yes h.1] at t1; cases t1)
      clear t1
      go_wp2_with (go_at_call 122; with_reducible refine (HI.out _).mono ?_; rintro e wq ⟨rfl, rfl⟩)
      go_ret2
      exact askP_arg HM.out HOK.out HBL1.out
    | true =>
      rw [t1] at HI
      obtain ⟨ho1, ho2⟩ := of_decide_eq_true (show decide (Within z m) = true from t1)
      obtain ⟨zi, rfl⟩ := Int.eq_ofNat_of_zero_le ho1
      have hzm : zi < m := by omega
      have hzI : ((zi : Nat) : Int) < m := by omega
      have HWI := Lib.hid (show Within ((zi : Nat) : Int) s.zones.length by rw [← HMM.out]; exact ⟨ho1, ho2⟩)
      obtain ⟨bz, oz, hza, hcz⟩ := rows_at (HR.out.z.below HBL1.out) (i := zi) (by rw [← HMM.out]; exact hzm)
      rw [hza] at s2
      obtain ⟨ra, rk, hrv, _⟩ := HR.out.rows zi (by rw [← HMM.out]; exact hzm)
      rw [hrv] at hcz
      have hzl := HSZ.out.r zi
      obtain ⟨zl, hzl'⟩ : ∃ zl, zl = (s.zones.getD zi []).length := ⟨_, rfl⟩
      rw [← hzl'] at hcz hzl
      have HZL := Lib.hid (show (zone s ((zi : Nat) : Int)).length = zl by unfold zone; rw [Int.toNat_natCast, hzl'])
      have HOQ := Lib.hid (HOR.out zl w1 HBL1.out hzl)
      have lb := World.block_lt_of_cell? _ _ hcz
      clear hza hrv hzl' ho1 ho2 t1
      by_cases h3 : IsOrder order zl
      · have b3 := order_yes h3
        rw [b3] at HOQ
        have HOK := Lib.hid (show Within ((zi : Nat) : Int) s.zones.length ∧ IsOrder order (zone s ((zi : Nat) : Int)).length from ⟨HWI.out, by rw [HZL.out]; exact h3⟩)
        clear h3 b3
        go_upto_region 5 with (first | (go_at_call 122; with_reducible refine (HI.out _).mono ?_; rintro e wq ⟨rfl, rfl⟩) | ((with_reducible refine (HOQ.out).mono ?_); rintro e2 w2 ⟨rfl, hb2⟩; have HBL2 := Lib.hid (G.bl_trans HBL1.out hb2); clear hb2))
        have HRQ := Lib.hid (HRI.out w2 HBL2.out)
        by_cases h4 : Rises order
        · have HNIL := Lib.hid (show shufEv ((zi : Nat) : Int) order = [] from if_pos h4)
          rw [rises_yes h4] at HRQ
          clear h4
          go_wp2_with ((with_reducible refine (HRQ.out).mono ?_); rintro e3 w3 ⟨rfl, rfl⟩)
          go_ret2
          exact askP_none HM.out HOK.out HNIL.out HBL2.out
        · have HONE := Lib.hid (show shufEv ((zi : Nat) : Int) order = [{ zeroEv with kind := 4, src := ((zi : Nat) : Int), order := order }] from if_neg h4)
          rw [rises_no h4] at HRQ
          have HCQ := Lib.hid (HCI.out w2 HBL2.out)
          clear h4
          go_wp2_with (first | ((with_reducible refine (HRQ.out).mono ?_); rintro e3 w3 ⟨rfl, rfl⟩) | ((with_reducible refine (HCQ.out).mono ?_); rintro e4 w4 ⟨A4, c4, rfl, ho4, hb4⟩; have HO4 := Lib.hid ho4; have HB4 := Lib.hid hb4; clear ho4 hb4))
          go_ret2
          have hn := HOL.out
          subst hn
          exact askP_oneO (y := ⟨A4, c4⟩) (ev := { zeroEv with kind := 4, src := ((zi : Nat) : Int), order := order }) HM.out HOK.out HONE.out (G.own_ge HO4.out HBL2.out.size) (G.bl_trans HBL2.out HB4.out)
      · have b3 := order_no h3
        rw [b3] at HOQ
        have HOK := Lib.hid (show ¬ (Within ((zi : Nat) : Int) s.zones.length ∧ IsOrder order (zone s ((zi : Nat) : Int)).length) from fun h => h3 (by rw [← HZL.out]; exact h.2))
        clear h3 b3
        go_wp2_with (first | (go_at_call 122; with_reducible refine (HI.out _).mono ?_; rintro e wq ⟨rfl, rfl⟩) | ((with_reducible refine (HOQ.out).mono ?_); rintro e2 w2 ⟨rfl, hb2⟩; have HBL2 := Lib.hid (G.bl_trans HBL1.out hb2); clear hb2))
        go_ret2
        exact askP_arg HM.out HOK.out HBL2.out
  · have HM := Lib.hid hm
    clear hm
    go_wp2_with (first | (refine wpList_load_row rfl 27 _ rfl g rfl _ cs (0, 0) _ HBX.out HFS.out rfl (by rw [HS.out]; exact sizeSt) ?_) | ((with_reducible refine (HMY0.out).mono ?_); rintro e1 w1 hp; obtain ⟨b1, rfl, hb, hbw⟩ := hp; obtain rfl : b1 = false := rmay_false' hb HM.out; have HBL1 := Lib.hid (G.bl_trans HBL0.out hbw); clear hb hbw))
    go_ret2
    exact askP_state HM.out HBL1.out
end Go.Proofs.YtofgmijmhpmabaaGreatDoor.D

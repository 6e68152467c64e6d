/- The contract of deed.Change. -/
import Derived.Test.YtofgmijmhpmabaaGreatDoorDAskC
import Derived.Test.YtofgmijmhpmabaaGreatDoorDSat
import Derived.Test.YtofgmijmhpmabaaGreatDoorDOneEv
namespace Go.Proofs.YtofgmijmhpmabaaGreatDoor.D
open Go Go.RowKit
set_option linter.unusedVariables false
set_option linter.unusedSimpArgs false
theorem clampI_max (v b : Int) : max (-1000000000) (min (max (-9223372036854775808) (min (v + b) 9223372036854775807)) 1000000000) = clampI (v + b) := by
  unfold clampI
  split
  · omega
  · split <;> omega
theorem changeEv_eq {s : St} {f num v b : Int} (h : getF s f num = some v) : changeEv s f num b = if clampI (v + b) = v then [] else [changeOne f num v (clampI (v + b))] := by
  unfold changeEv
  rw [h]
theorem change_lo {f num v n : Int} (h : f ≤ 4) : changeOne f num v n = { zeroEv with kind := 2, field := f, card := num, was := v, now := n } := if_pos h
theorem change_hi {f num v n : Int} (h : ¬ f ≤ 4) : changeOne f num v n = { zeroEv with kind := 3, field := f, player := num, was := v, now := n } := if_neg h
set_option maxRecDepth 100000 in
set_option maxHeartbeats 8000000 in
theorem changeD_any (x : SV) (s : St) (f num b : Int) (w : World) (h : RdSt w x s) (hz : Sz s) (hf : -128 ≤ f ∧ f ≤ 127) (hb : -9223372036854775808 ≤ b ∧ b ≤ 9223372036854775807) :
    Calls Tryz.prog 41 #[x.val s, .int .i8 f, .int .i64 num, .int .i64 b] w (AskPost s (∃ v, getF s f num = some v) (changeEv s f num b) w) := by
  have HRF := Lib.hid (fun W fn eg caps b (hW : Below w.heap.size w W) hk => refused_any x s W (h.below hW) hz fn eg caps b hk)
  have HFR := Lib.hid (fun g W (hW : Below w.heap.size w W) hB => fieldR_any g x s W hB (h.below hW) hz f num hf)
  have HQ := Lib.hid (fun gs gf gn W (hW : Below w.heap.size w W) h0 h1 h2 => askChange_any x s gs gf gn f num W h0 (h.below hW) hz hf h1 h2)
  obtain ⟨fsS, hfsS⟩ := undSt
  have HFS := Lib.hid hfsS
  obtain ⟨fsE, hfsE⟩ := undEv
  have HFE := Lib.hid hfsE
  obtain ⟨iE, hiE, hzE0, hzE1, hzE2⟩ := info_parts infoEv
  have HIE := Lib.hid (And.intro hiE (And.intro hzE0 hzE1))
  obtain ⟨cs, hcs⟩ : ∃ c, c = x.arr s := ⟨_, rfl⟩
  have HS := Lib.hid (show cs.size = 7 by rw [hcs]; rfl)
  have he : x.val s = .agg cs := by rw [hcs]; rfl
  rw [he] at HRF ⊢
  rw [← hcs] at HFR HQ
  clear h hz hcs he hfsS hfsE hiE hzE0 hzE1 hzE2
  have H0 := box3_new w 27 25 3 cs #[.int .i8 f] #[.int .i64 num]
  go_enter Tryz.func41, Tryz.ntmps41
  go_upto_region 1 with (fail)
  obtain ⟨w0, hw0⟩ : ∃ w0, w0 = ((w.alloc (.cells cs 27)).alloc (.cells #[.int .i8 f] 25)).alloc (.cells #[.int .i64 num] 3) := ⟨_, rfl⟩
  rw [← hw0] at H0 ⊢
  clear hw0
  obtain ⟨hb0, hb1, hb2, hbl0⟩ := H0
  have HBL0 := Lib.hid hbl0
  obtain ⟨g, hg⟩ : ∃ g, g = w.heap.size := ⟨_, rfl⟩
  have HG := Lib.hid hg
  rw [← hg] at hb0 hb1 hb2 ⊢
  have HS0 := Lib.hid hb0
  have HC0 := Lib.hid hb1
  have HZ0 := Lib.hid hb2
  have HQ0 := Lib.hid (HRF.out w0 103 Tryz.call103 #[.pointer (some ⟨g, 0, none⟩), .pointer (some ⟨g + 1, 0, none⟩), .pointer (some ⟨g + 2, 0, none⟩)] (getF s f num).isSome hbl0 (fun _ W hW => HQ.out _ _ _ W (G.bl_trans hbl0 hW) (hb0.below hW hb0.lt) (hb1.below hW hb1.lt) (hb2.below hW hb2.lt)))
  have l0 := hb2.lt
  clear hb0 hb1 hb2 hbl0 hg
  go_wp2_with (refine wpList_load_row rfl 27 _ rfl g rfl _ cs (0, 0) _ HS0.out HFS.out rfl (by rw [HS.out]; exact sizeSt) ?_)
  refine (HQ0.out).mono ?_
  rintro e1 w1 hp1
  obtain ⟨k1, rfl, hb1, hk1⟩ := hp1
  have HBW1 := Lib.hid hb1
  have HBL1 := Lib.hid (G.bl_trans HBL0.out hb1)
  clear hb1
  rcases hk1 with ⟨rfl, hm⟩ | ⟨rfl, hm, hok⟩ | ⟨rfl, hm, hok⟩
  · have HM := Lib.hid hm
    clear hm
    go_wp2_with fail
    go_ret2
    exact askP_state HM.out HBL1.out
  · have HM := Lib.hid hm
    have HOK := Lib.hid (show ¬ (∃ v, getF s f num = some v) by rintro ⟨v, hv⟩; rw [hv] at hok; cases hok)
    clear hm hok
    go_wp2_with fail
    go_ret2
    exact askP_arg HM.out HOK.out HBL1.out
  · have HM := Lib.hid hm
    obtain ⟨v, hv⟩ := Option.isSome_iff_exists.1 hok
    have HV := Lib.hid hv
    have hst := getF_stat hm hv
    obtain ⟨hst1, hst2⟩ := hst
    have HS1 := Lib.hid (HS0.out.below HBW1.out HS0.out.lt)
    have HC1 := Lib.hid (HC0.out.below HBW1.out HC0.out.lt)
    have HZ1 := Lib.hid (HZ0.out.below HBW1.out HZ0.out.lt)
    have c0 := HC1.out.cell 0
    have z0 := HZ1.out.cell 0
    have l1 := HZ1.out.lt
    have HF1 := Lib.hid (HFR.out g w1 HBL1.out HS1.out)
    clear hm hok hv
    go_wp2_with fail
    refine (HF1.out).mono ?_
    rintro e2 wq hp2
    obtain ⟨p2, k2, rfl, rfl, hc2⟩ := hp2
    rcases hc2 with ⟨rfl, hno⟩ | ⟨gp, off, v2, rfl, hv2, hcell⟩
    · rw [HV.out] at hno
      cases hno
    · obtain rfl : v2 = v := Option.some.inj (hv2.symm.trans HV.out)
      clear hv2
      have hbq := Bl.dn (Below.refl w1.heap.size w1) k2
      obtain ⟨w2, hw2⟩ : ∃ w2, w2 = w1.drewN k2 := ⟨_, rfl⟩
      have hcell2 : w2.cell? ⟨gp, off, none⟩ = some (.int .i32 v2) := by rw [hw2]; exact hcell
      rw [← hw2] at hbq ⊢
      have HBL2 := Lib.hid (G.bl_trans HBL1.out hbq)
      have HC2 := Lib.hid (HC1.out.below hbq HC1.out.lt)
      have HZ2 := Lib.hid (HZ1.out.below hbq HZ1.out.lt)
      clear hw2 hbq c0 z0 l1 hcell
      have c0 := HC2.out.cell 0
      have z0 := HZ2.out.cell 0
      have l1 := HZ2.out.lt
      have hwv : IntKind.i64.wrap v2 = v2 := IntWalk.i64_in _ (by omega)
      obtain ⟨a, ha⟩ : ∃ a, a = max (-9223372036854775808) (min (v2 + b) 9223372036854775807) := ⟨_, rfl⟩
      obtain ⟨n, hn⟩ : ∃ n, n = clampI (v2 + b) := ⟨_, rfl⟩
      have HADD := Lib.hid (fun W => satAdd_any v2 b W (by omega) hb)
      have HCL := Lib.hid (fun W => satClamp_any a (-1000000000) 1000000000 W)
      rw [← ha] at HADD
      rw [ha, clampI_max, ← hn, ← ha] at HCL
      have hnst : Stat n := by rw [hn]; exact clamp_stat _
      obtain ⟨hn1, hn2⟩ := hnst
      have hwn : IntKind.i32.wrap n = n := IntWalk.i32_in _ (by omega)
      have HNE := Lib.hid (changeEv_eq (b := b) HV.out)
      rw [← hn] at HNE
      clear ha hn
      by_cases heq : n = v2
      · have HNIL := Lib.hid (show changeEv s f num b = [] by rw [HNE.out]; exact if_pos heq)
        subst heq
        go_wp2_with (first | (go_at_call 106; (with_reducible refine (HADD.out _).mono ?_); rintro e3 w3 ⟨hq3, rfl⟩; replace hq3 := hq3.symm; subst hq3) | (go_at_call 105; (with_reducible refine (HCL.out _).mono ?_); rintro e4 w4 ⟨hq4, rfl⟩; replace hq4 := hq4.symm; subst hq4))
        go_ret2
        exact askP_none HM.out ⟨_, HV.out⟩ HNIL.out HBL2.out
      · have HONE := Lib.hid (show changeEv s f num b = [changeOne f num v2 n] by rw [HNE.out]; exact if_neg heq)
        have hneb : (n == v2) = false := by rw [beq_eq_false_iff_ne]; exact heq
        clear heq
        go_upto_region 9 with (first | (go_at_call 106; (with_reducible refine (HADD.out _).mono ?_); rintro e3 w3 ⟨hq3, rfl⟩; replace hq3 := hq3.symm; subst hq3) | (go_at_call 105; (with_reducible refine (HCL.out _).mono ?_); rintro e4 w4 ⟨hq4, rfl⟩; replace hq4 := hq4.symm; subst hq4) | (refine build_to #[.int .i8 2, .int .i8 f, .int .i64 num, .int .i64 0, .int .i64 0, .int .i64 0, .int .i64 0, .int .i64 0, .int .i64 0, .int .i32 v2, .int .i32 n, .slice none 0 0] rfl 30 _ rfl [(0, .int .i8 2), (1, .int .i8 f), (2, .int .i64 num), (9, .int .i32 v2), (10, .int .i32 n)] rfl (by kernel_rfl) ?_) | (refine wpList_store_row rfl 30 _ _ rfl _ #[.int .i8 2, .int .i8 f, .int .i64 num, .int .i64 0, .int .i64 0, .int .i64 0, .int .i64 0, .int .i64 0, .int .i64 0, .int .i32 v2, .int .i32 n, .slice none 0 0] rfl rfl 30 _ (heap_alloc_new _ _) (by kernel_rfl) (by kernel_rfl) (by kernel_rfl) ?_))
        generalize hw3 : World.setRow _ _ _ = w3
        have hq3 : Below w2.heap.size w2 w3 := by rw [← hw3]; exact below_setRow (G.bl_alloc (Below.refl _ _) _) (Nat.le_refl _) _
        have hr3 : G.Blk w3 w2.heap.size 30 #[.int .i8 2, .int .i8 f, .int .i64 num, .int .i64 0, .int .i64 0, .int .i64 0, .int .i64 0, .int .i64 0, .int .i64 0, .int .i32 v2, .int .i32 n, .slice none 0 0] := by rw [← hw3]; exact setRow_heap _ _ _ _ _ _ (heap_alloc_new _ _)
        have HBL3 := Lib.hid (G.bl_trans HBL2.out hq3)
        have HC3 := Lib.hid (HC2.out.below hq3 HC2.out.lt)
        have HZ3 := Lib.hid (HZ2.out.below hq3 HZ2.out.lt)
        have HR3 := Lib.hid hr3
        have hG := HR3.out.lt
        have hGw : w.heap.size ≤ w2.heap.size := HBL2.out.size
        have hGg : g + 1 + 1 < w2.heap.size := HZ2.out.lt
        generalize w2.heap.size = gE at *
        clear hw3 hq3 hr3 c0 z0 l1 hcell2
        have c0 := HC3.out.cell 0
        have z0 := HZ3.out.cell 0
        have l1 := HZ3.out.lt
        by_cases hf4 : f ≤ 4
        · have hf5 : ¬ f ≥ 5 := by omega
          have HCE := Lib.hid (show #[.int .i8 2, .int .i8 f, .int .i64 num, .int .i64 0, .int .i64 0, .int .i64 0, .int .i64 0, .int .i64 0, .int .i64 0, .int .i32 v2, .int .i32 n, .slice none 0 0] = (⟨none, 0⟩ : EV).arr (changeOne f num v2 n) by rw [change_lo hf4]; rfl)
          generalize (#[.int .i8 2, .int .i8 f, .int .i64 num, .int .i64 0, .int .i64 0, .int .i64 0, .int .i64 0, .int .i64 0, .int .i64 0, .int .i32 v2, .int .i32 n, .slice none 0 0] : Array Value) = ce at HCE HR3
          have HSE := Lib.hid (show ce.size = 12 by rw [HCE.out]; rfl)
          go_wp2_with (first | (refine wpList_load_row rfl 30 _ rfl gE rfl _ ce (0, 0) _ HR3.out HFE.out rfl (by rw [HSE.out]; exact sizeEv) ?_) | (refine wpList_buildOne rfl 32 30 (.tmp 45) rfl ce rfl iE (.agg zeroE) Tryz.underlying32 HIE.out.1 HIE.out.2.1 (by rw [HIE.out.2.2]; decide) (by rw [HIE.out.2.2]; decide) (fill_evs (y := (⟨none, 0⟩ : EV)) HCE.out HIE.out.2.2) ?_))
          go_ret2
          have h9 := askP_one (ev := changeOne f num v2 n) HM.out (show ∃ v, getF s f num = some v from ⟨v2, HV.out⟩) HONE.out (by rw [change_lo hf4]; rfl) HBL3.out
          rw [← HCE.out] at h9
          exact h9
        · have hGn : ¬ g + 1 + 1 = gE := by omega
          have hGm : ¬ gE = g + 1 + 1 := by omega
          have hf5 : f ≥ 5 := by omega
          have e0 := HR3.out.cell 0
          have e2 := HR3.out.cell 2
          have e3 := HR3.out.cell 3
          have fr0 := HR3.out.frozen 0
          have fr2 := HR3.out.frozen 2
          have fr3 := HR3.out.frozen 3
          go_upto_region 10 with (fail)
          go_region
          have hr4 := ((HR3.out.put 0 (.int .i8 3)).put 2 (.int .i64 0)).put 3 (.int .i64 num)
          have hq4 : Below w.heap.size w ((((w3.setCell ⟨gE, 0, none⟩ (.int .i8 3)).setCell ⟨gE, 2, none⟩ (.int .i64 0)).setCell ⟨gE, 3, none⟩ (.int .i64 num)).drew) := (G.bl_set (G.bl_set (G.bl_set HBL3.out (p := ⟨gE, 0, none⟩) hGw _) (p := ⟨gE, 2, none⟩) hGw _) (p := ⟨gE, 3, none⟩) hGw _).drew
          obtain ⟨w4, hw4⟩ : ∃ w4, w4 = (((w3.setCell ⟨gE, 0, none⟩ (.int .i8 3)).setCell ⟨gE, 2, none⟩ (.int .i64 0)).setCell ⟨gE, 3, none⟩ (.int .i64 num)).drew := ⟨_, rfl⟩
          have HR4 := Lib.hid (show G.Blk w4 gE 30 #[.int .i8 3, .int .i8 f, .int .i64 0, .int .i64 num, .int .i64 0, .int .i64 0, .int .i64 0, .int .i64 0, .int .i64 0, .int .i32 v2, .int .i32 n, .slice none 0 0] by rw [hw4]; exact hr4)
          rw [← hw4] at hq4 ⊢
          have HBL4 := Lib.hid hq4
          clear hw4 hq4 hr4 e0 e2 e3 fr0 fr2 fr3 c0 z0
          have HCE := Lib.hid (show #[.int .i8 3, .int .i8 f, .int .i64 0, .int .i64 num, .int .i64 0, .int .i64 0, .int .i64 0, .int .i64 0, .int .i64 0, .int .i32 v2, .int .i32 n, .slice none 0 0] = (⟨none, 0⟩ : EV).arr (changeOne f num v2 n) by rw [change_hi (by omega)]; rfl)
          generalize (#[.int .i8 3, .int .i8 f, .int .i64 0, .int .i64 num, .int .i64 0, .int .i64 0, .int .i64 0, .int .i64 0, .int .i64 0, .int .i32 v2, .int .i32 n, .slice none 0 0] : Array Value) = ce at HCE HR4
          have HSE := Lib.hid (show ce.size = 12 by rw [HCE.out]; rfl)
          go_wp2_with (first | (refine wpList_load_row rfl 30 _ rfl gE rfl _ ce (0, 0) _ HR4.out HFE.out rfl (by rw [HSE.out]; exact sizeEv) ?_) | (refine wpList_buildOne rfl 32 30 (.tmp 45) rfl ce rfl iE (.agg zeroE) Tryz.underlying32 HIE.out.1 HIE.out.2.1 (by rw [HIE.out.2.2]; decide) (by rw [HIE.out.2.2]; decide) (fill_evs (y := (⟨none, 0⟩ : EV)) HCE.out HIE.out.2.2) ?_))
          go_ret2
          have h9 := askP_one (ev := changeOne f num v2 n) HM.out (show ∃ v, getF s f num = some v from ⟨v2, HV.out⟩) HONE.out (by rw [change_hi (by omega)]; rfl) HBL4.out
          rw [← HCE.out] at h9
          exact h9
end Go.Proofs.YtofgmijmhpmabaaGreatDoor.D

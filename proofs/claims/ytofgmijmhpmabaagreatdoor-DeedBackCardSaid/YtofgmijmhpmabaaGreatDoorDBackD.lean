/- The walk of DeedBack. Printed by gen_backd.py. -/
import Derived.Test.YtofgmijmhpmabaaGreatDoorDBackL
namespace Go.Proofs.YtofgmijmhpmabaaGreatDoor.D
open Go Go.RowKit
set_option linter.unusedVariables false
set_option linter.unusedSimpArgs false
set_option maxRecDepth 100000 in
set_option maxHeartbeats 8000000 in
theorem dback_long (x : SV) (s : St) (A : Option Addr) (m c : Nat) (D : List (EV × Dq)) (w : World) (h : RdSt w x s) (hD : G.RdS w A 7 m (flatD D)) (hd : ∀ k, k < m → G.RdS w (D.getD k zeroQ).1.oa 1 (D.getD k zeroQ).2.order.length (i64s (D.getD k zeroQ).2.order) ∧ (-128 ≤ (D.getD k zeroQ).2.field ∧ (D.getD k zeroQ).2.field ≤ 127) ∧ (-9223372036854775808 ≤ (D.getD k zeroQ).2.by_ ∧ (D.getD k zeroQ).2.by_ ≤ 9223372036854775807) ∧ (D.getD k zeroQ).2.order.length ≤ 140737488355328) (hm : m ≤ 140737488355328) (hw : Sw s) (hby : beyondB s [] = true) :
    Calls Tryz.prog 11 #[x.val s, .slice A m c] w (BoolPost true w) := by
  obtain ⟨fsS, hfsS⟩ := undSt
  have HFS := Lib.hid hfsS
  have HBY := Lib.hid (fun W (hW : Below w.heap.size w W) => beyond_any x s none 0 0 [] W (h.below hW) hw ⟨G.RdS.nil _, fun i hi => by omega⟩ (by omega) (fun i => by simp [zeroP, zeroEv]))
  rw [hby] at HBY
  obtain ⟨cs, hcs⟩ : ∃ c, c = x.arr s := ⟨_, rfl⟩
  have HS := Lib.hid (show cs.size = 7 by rw [hcs]; rfl)
  have HCS0 := Lib.hid hcs
  have he1 : x.val s = .agg cs := by rw [hcs]; rfl
  rw [he1] at HBY ⊢
  clear h hw hD hd hcs he1 hfsS hby
  have hx0 : G.Blk (w.alloc (.cells cs 27)) w.heap.size 27 cs := G.Blk.new w _ _
  have hbl0 : Below w.heap.size w (w.alloc (.cells cs 27)) := G.bl_alloc (Below.refl _ _) _
  go_enter Tryz.func11, Tryz.ntmps11
  go_upto_region 1 with (fail)
  obtain ⟨w0, hw0⟩ : ∃ w0, w0 = w.alloc (.cells cs 27) := ⟨_, rfl⟩
  rw [← hw0] at hx0 hbl0 ⊢
  clear hw0
  obtain ⟨g, hg⟩ : ∃ g, g = w.heap.size := ⟨_, rfl⟩
  rw [← hg] at hx0 ⊢
  have HX := Lib.hid hx0
  have HBL := Lib.hid hbl0
  clear hx0 hbl0 hg
  go_wp2_with (first | (refine wpList_load_row_g (by rfl) 27 _ rfl g rfl _ cs (0, 0) _ HX.out HFS.out rfl (by rw [HS.out]; exact sizeSt) ?_))
  refine (HBY.out _ HBL.out).mono ?_
  rintro e1 w1 ⟨rfl, hb1⟩
  have HX := Lib.hid (HX.out.below hb1 HX.out.lt)
  have HBL := Lib.hid (G.bl_trans HBL.out hb1)
  clear hb1
  go_wp2_with fail
  go_ret
  exact ⟨rfl, HBL.out⟩
set_option maxRecDepth 100000 in
set_option maxHeartbeats 32000000 in
theorem dback_short (x : SV) (s : St) (A : Option Addr) (m c : Nat) (D : List (EV × Dq)) (w : World) (h : RdSt w x s) (hD : G.RdS w A 7 m (flatD D)) (hd : ∀ k, k < m → G.RdS w (D.getD k zeroQ).1.oa 1 (D.getD k zeroQ).2.order.length (i64s (D.getD k zeroQ).2.order) ∧ (-128 ≤ (D.getD k zeroQ).2.field ∧ (D.getD k zeroQ).2.field ≤ 127) ∧ (-9223372036854775808 ≤ (D.getD k zeroQ).2.by_ ∧ (D.getD k zeroQ).2.by_ ≤ 9223372036854775807) ∧ (D.getD k zeroQ).2.order.length ≤ 140737488355328) (hm : m ≤ 140737488355328) (hw : Sw s) (hs : Sz s) (hby : beyondB s [] = false) :
    Calls Tryz.prog 11 #[x.val s, .slice A m c] w (BoolPost true w) := by
  obtain ⟨iE, hiE, hzE0, hzE1, hzE2⟩ := info_parts infoEv
  have HIE := Lib.hid (And.intro hiE (And.intro hzE0 (And.intro hzE1 hzE2)))
  clear hiE hzE0 hzE1 hzE2
  obtain ⟨fsD, hfsD⟩ := undDo
  have HFD := Lib.hid hfsD
  obtain ⟨fsE, hfsE⟩ := undEv
  have HFE := Lib.hid hfsE
  clear hfsD hfsE
  obtain ⟨fsS, hfsS⟩ := undSt
  have HFS := Lib.hid hfsS
  have HBY := Lib.hid (fun W (hW : Below w.heap.size w W) => beyond_any x s none 0 0 [] W (h.below hW) hw ⟨G.RdS.nil _, fun i hi => by omega⟩ (by omega) (fun i => by simp [zeroP, zeroEv]))
  rw [hby] at HBY
  have HLM := Lib.hid (fun W (hW : Below w.heap.size w W) => lawMay_any x s W (h.below hW) hs)
  have HCS := Lib.hid (fun W (hW : Below w.heap.size w W) => copyState_any x s W (h.below hW) hs)
  have HRS := Lib.hid h
  have HSZ := Lib.hid hs
  have HD := Lib.hid hD
  have HDK := Lib.hid hd
  obtain ⟨cs, hcs⟩ : ∃ c, c = x.arr s := ⟨_, rfl⟩
  have HS := Lib.hid (show cs.size = 7 by rw [hcs]; rfl)
  have HCS0 := Lib.hid hcs
  have he1 : x.val s = .agg cs := by rw [hcs]; rfl
  rw [he1] at HBY HLM HCS ⊢
  clear h hw hs hD hd hcs he1 hfsS hby
  have hx0 : G.Blk (w.alloc (.cells cs 27)) w.heap.size 27 cs := G.Blk.new w _ _
  have hbl0 : Below w.heap.size w (w.alloc (.cells cs 27)) := G.bl_alloc (Below.refl _ _) _
  go_enter Tryz.func11, Tryz.ntmps11
  go_upto_region 1 with (fail)
  obtain ⟨w0, hw0⟩ : ∃ w0, w0 = w.alloc (.cells cs 27) := ⟨_, rfl⟩
  rw [← hw0] at hx0 hbl0 ⊢
  clear hw0
  obtain ⟨g, hg⟩ : ∃ g, g = w.heap.size := ⟨_, rfl⟩
  rw [← hg] at hx0 ⊢
  have HX := Lib.hid hx0
  have HBL := Lib.hid hbl0
  clear hx0 hbl0 hg
  go_wp2_with (first | (refine wpList_load_row_g (by rfl) 27 _ rfl g rfl _ cs (0, 0) _ HX.out HFS.out rfl (by rw [HS.out]; exact sizeSt) ?_))
  refine (HBY.out _ HBL.out).mono ?_
  rintro e1 w1 ⟨rfl, hb1⟩
  have HX := Lib.hid (HX.out.below hb1 HX.out.lt)
  have HBL := Lib.hid (G.bl_trans HBL.out hb1)
  clear hb1
  by_cases hm4 : m ≤ 4096
  · have hmI : decide ((4096 : Int) < (m : Int)) = false := decide_eq_false (by omega)
    by_cases hmay : May s
    · have HM := Lib.hid hmay
      have HMY := Lib.hid HLM.out
      rw [may_yes hmay] at HMY
      clear hmay
      go_wp2_with (first | (refine wpList_load_row_g (by rfl) 27 _ rfl g rfl _ cs (0, 0) _ HX.out HFS.out rfl (by rw [HS.out]; exact sizeSt) ?_))
      refine (HMY.out _ HBL.out).mono ?_
      rintro e2 w2 ⟨rfl, hb2⟩
      have HX := Lib.hid (HX.out.below hb2 HX.out.lt)
      have HBL := Lib.hid (G.bl_trans HBL.out hb2)
      clear hb2 HMY HLM HBY
      go_upto_region 4 with (first | (refine wpList_load_row_g (by rfl) 27 _ rfl g rfl _ cs (0, 0) _ HX.out HFS.out rfl (by rw [HS.out]; exact sizeSt) ?_) | ((with_reducible refine (HCS.out _ HBL.out).mono ?_); rintro e3 w3 hp3; obtain ⟨xa, rfl, ho3, hb3⟩ := hp3; have HO3 := Lib.hid ho3; have HB3 := Lib.hid hb3; clear ho3 hb3) | (refine wpList_store_row rfl 27 _ _ rfl _ (xa.arr s) rfl rfl 27 _ (heap_alloc_new _ _) (by kernel_rfl) rfl (arr_one _ _) ?_))
      have HK5 := Lib.hid (show G.Blk ((w3.alloc (.cells zeroA 27)).setRow w3.heap.size (xa.arr s)) w3.heap.size 27 (xa.arr s) from setRow_heap _ _ _ _ _ _ (heap_alloc_new _ _))
      have HO4 := Lib.hid (show OwnSt ((w3.alloc (.cells zeroA 27)).setRow w3.heap.size (xa.arr s)) w2.heap.size xa s from (HO3.out.below (G.bl_alloc (Below.refl _ _) _)).only (only_row (G.Blk.new w3 27 zeroA)) (by decide) (by decide) (by decide) (by decide))
      have HB4 := Lib.hid (show Below w2.heap.size w2 ((w3.alloc (.cells zeroA 27)).setRow w3.heap.size (xa.arr s)) from below_setRow (G.bl_alloc HB3.out _) HB3.out.size _)
      obtain ⟨w4, hw4⟩ : ∃ q, q = (w3.alloc (.cells zeroA 27)).setRow w3.heap.size (xa.arr s) := ⟨_, rfl⟩
      obtain ⟨g5, hg5⟩ : ∃ q, q = w3.heap.size := ⟨_, rfl⟩
      rw [← hw4] at HK5 HO4 HB4
      rw [← hg5] at HK5
      unfold zeroA at hw4
      rw [← hw4, ← hg5]
      have HG5 := Lib.hid (show w2.heap.size ≤ g5 by rw [hg5]; exact HB3.out.size)
      clear hw4 hg5
      have HI0 := Lib.hid (show BkL s w2 g5 [] (.slice none 0 0) w4 from ⟨⟨none, 0, 0, [], s, xa, rfl, OwnEvs.nil _ _, rfl, rfl, HK5.out, HO4.out⟩, fun e he => by (cases he), HB4.out⟩)
      go_wp2_with fail
      go_loopw [6, 7] (fun tr i wr => ∃ k : Nat, k ≤ m ∧ i = .int .i64 k ∧ ∃ E : List Ev, E.length ≤ k ∧ BkL s w2 g5 E tr wr) (fun _ i _ => m - (intOf i).toNat)
      case atStart => exact ⟨0, Nat.zero_le _, rfl, [], Nat.le_refl _, HI0.out⟩
      case round =>
        clear HI0
        obtain ⟨k, hk, rfl, E, hEk, hri⟩ := hrel
        have hk0 : (0 : Int) ≤ k := by omega
        have HRI := Lib.hid hri
        have HEK := Lib.hid hEk
        obtain ⟨A0, c0, n0, L0, t, x', rfl, how, hLE, hrun, hk5, hox⟩ := hri.ex
        have HOW := Lib.hid how
        have HLE := Lib.hid hLE
        have HRUN := Lib.hid hrun
        have HK := Lib.hid hk5
        have HOX0 := Lib.hid hox
        have HN0 := Lib.hid (show n0 ≤ k by rw [← ownEvs_len how, ← List.length_map (f := Prod.snd), hLE]; exact hEk)
        have HMT := Lib.hid (run_may HM.out hrun)
        have HBLr := Lib.hid (G.bl_trans HBL.out hri.bl)
        clear hri hEk how hLE hrun hk5 hox
        by_cases hlt : k < m
        · have hltI : (k : Int) < m := by omega
          obtain ⟨b, off, hA, hbs, hrd⟩ := do_whole (HD.out.below HBLr.out) hlt
          obtain ⟨hro, hfi, hby, hol⟩ := HDK.out k hlt
          obtain ⟨p, hp⟩ : ∃ p, p = D.getD k zeroQ := ⟨_, rfl⟩
          rw [← hp] at hrd hro hfi hby hol
          obtain ⟨⟨oa, oc⟩, d⟩ := p
          simp only at hrd hro hfi hby hol
          subst hA
          obtain ⟨n, hn⟩ : ∃ n, n = d.order.length := ⟨_, rfl⟩
          have HN := Lib.hid hn
          obtain ⟨cd0, hcd0⟩ : ∃ c, c = dqArr ⟨oa, oc⟩ d := ⟨_, rfl⟩
          rw [← hcd0] at hrd
          have HD6 := Lib.hid (show cd0[6]? = some (.slice oa n oc) by rw [hcd0, hn]; rfl)
          have HSD := Lib.hid (show cd0.size = 7 by rw [hcd0]; rfl)
          have HON := Lib.hid (show cd0.all (·.oneCell') = true by rw [hcd0]; simp [dqArr, Value.oneCell'])
          have HDC := Lib.hid hcd0
          have HRD := Lib.hid hrd
          have HRO := Lib.hid (show G.RdS w oa 1 n (i64s d.order) by rw [hn]; exact hro)
          have HFI := Lib.hid hfi
          have HBI := Lib.hid hby
          have hn4 : n ≤ 140737488355328 := by rw [hn]; exact hol
          clear hp hcd0 hrd hro hfi hby hol hn hbs
          go_upto_region 9 with (first | (refine wpList_load_run (by rfl) 80 _ rfl b (off + k * 7) rfl cd0 HRD.out ?_) | (refine wpList_store_row rfl 80 _ _ rfl _ cd0 rfl rfl 80 _ (heap_alloc_new _ _) (by rw [HSD.out]; exact sizeDo) (by rw [HSD.out]; rfl) HON.out ?_))
          have HK8 := Lib.hid (show G.Blk ((wr.alloc (.cells zeroDo 80)).setRow wr.heap.size cd0) wr.heap.size 80 cd0 from setRow_heap _ _ _ _ _ _ (heap_alloc_new _ _))
          have HB8a := Lib.hid (show Below wr.heap.size wr ((wr.alloc (.cells zeroDo 80)).setRow wr.heap.size cd0) from below_setRow (G.bl_alloc (Below.refl _ _) _) (Nat.le_refl _) _)
          obtain ⟨g8, hg8⟩ : ∃ q, q = wr.heap.size := ⟨_, rfl⟩
          obtain ⟨wA, hwA⟩ : ∃ q, q = (wr.alloc (.cells zeroDo 80)).setRow wr.heap.size cd0 := ⟨_, rfl⟩
          rw [← hwA] at HK8 HB8a
          rw [← hg8] at HK8
          unfold zeroDo at hwA
          rw [← hwA, ← hg8]
          have HG8 := Lib.hid hg8
          clear hwA hg8
          have d6 := (HK8.out.cell 6).trans HD6.out
          have l8 := HK8.out.lt
          by_cases hlong : 16777216 < n
          · have HLG := Lib.hid (long_any n wA)
            rw [decide_eq_true hlong] at HLG
            clear hlong
            go_wp2_with ((with_reducible refine (HLG.out).mono ?_); rintro e5 w5 ⟨rfl, rfl⟩)
            go_ret
            exact ⟨rfl, G.bl_trans HBLr.out HB8a.out⟩
          · have HLG := Lib.hid (long_any n wA)
            rw [decide_eq_false hlong] at HLG
            have HNS := Lib.hid (show n ≤ 33554432 by omega)
            clear hlong
            go_upto_region 11 with ((with_reducible refine (HLG.out).mono ?_); rintro e5 w5 ⟨rfl, rfl⟩)
            have HBA := Lib.hid (G.bl_trans HBLr.out HB8a.out)
            have HCI := Lib.hid (copyInts_any oa n oc d.order wA (HRO.out.below HBA.out) HNS.out)
            go_upto_region 12 with ((with_reducible refine (HCI.out).mono ?_); rintro e2 wB hp2; obtain ⟨A2, k2, rfl, ho2, hb2⟩ := hp2; have HO2 := Lib.hid ho2; have HB2 := Lib.hid hb2; have f6b := (HK8.out.below hb2 HK8.out.lt).frozen 6; have d6b := ((HK8.out.below hb2 HK8.out.lt).cell 6).trans HD6.out; have l8b := (HK8.out.below hb2 HK8.out.lt).lt; clear ho2 hb2)
            have HD2 := Lib.hid ((HK8.out.below HB2.out HK8.out.lt).put 6 (.slice A2 n k2))
            have HO2k := Lib.hid (HO2.out.kept (row := some g8) (w' := wB.setCell ⟨g8, 6, none⟩ (.slice A2 n k2)) ⟨rfl, rfl, rfl, by simp, fun j hj hne => Below.heap_setCell wB ⟨g8, 6, none⟩ _ j (fun e => hne (by rw [e]))⟩ (G.row_ne HO2.out (HK8.out.below HB2.out HK8.out.lt) (by decide)))
            have HB5 := Lib.hid (show Below wr.heap.size wr (wB.setCell ⟨g8, 6, none⟩ (.slice A2 n k2)) from G.bl_set (G.bl_trans HB8a.out HB2.out) (p := ⟨g8, 6, none⟩) (Nat.le_of_eq HG8.out.symm) _)
            have hdq : cd0.setIfInBounds 6 (.slice A2 n k2) = dqArr ⟨A2, k2⟩ d := by rw [HDC.out, HN.out]; rfl
            obtain ⟨w5, hw5⟩ : ∃ q, q = wB.setCell ⟨g8, 6, none⟩ (.slice A2 n k2) := ⟨_, rfl⟩
            rw [← hw5] at HD2 HO2k HB5 ⊢
            rw [hdq] at HD2
            obtain ⟨cd, hcd⟩ : ∃ c, c = dqArr ⟨A2, k2⟩ d := ⟨_, rfl⟩
            rw [← hcd] at HD2
            have HCD := Lib.hid hcd
            clear hw5 hdq hcd d6 l8 f6b d6b l8b
            obtain ⟨cx, hcx⟩ : ∃ c, c = x'.arr t := ⟨_, rfl⟩
            have HCX := Lib.hid hcx
            have HSX := Lib.hid (show cx.size = 7 by rw [hcx]; rfl)
            have HK5w := Lib.hid (HK.out.below HB5.out HK.out.lt)
            rw [← hcx] at HK5w
            have HZT := Lib.hid (may_sz HMT.out)
            have HOX := Lib.hid (HOX0.out.rd.below HB5.out)
            have HTD := Lib.hid (show TwD w5 g5 cx g8 cd w5 from ⟨Below.refl _ _, HK5w.out, HD2.out, HSX.out, by rw [HCD.out]; rfl, HK5w.out.lt, HD2.out.lt⟩)
            have HCP := Lib.hid (fun W (hW : Below w5.heap.size w5 W) => copyState_any x' t W (HOX.out.below hW) HZT.out)
            have HDF := Lib.hid (show d.Fits from ⟨HFI.out, HBI.out, by rw [← HN.out]; exact HNS.out⟩)
            have HRO2 := Lib.hid (show G.RdS w5 A2 1 d.order.length (i64s d.order) by rw [← HN.out]; exact G.RdS.of_own HO2k.out)
            have HAS := Lib.hid (fun x6 W (hW : Below w5.heap.size w5 W) (hx : RdSt W x6 t) => asked_any x6 t ⟨A2, k2⟩ d W hx HZT.out (HRO2.out.below hW) HDF.out)
            rw [← HCD.out] at HAS
            rw [show x'.val t = .agg cx by rw [hcx]; rfl] at HCP
            clear hcx
            refine wp_region_held_drew (S := TwD w5 g5 cx g8 cd) (by kernel_rfl) ?_ (fun hHeld => ?_)
            · exact TwD.below HTD.out (Below.refl _ _).drew
            refine wpAnyH_take (i := 0) (oi := ⟨some 53, _, _, _, _, _⟩) (v := ?_) rfl (by kernel_rfl) (by kernel_rfl) (by kernel_rfl) (fun _ _ _ h => h) (Or.inl ⟨by rfl, ?_⟩) (by assumption) ?_
            rotate_left
            · (intro w hSw; refine exec_load_held 80 (.tmp 8) ?_ g8 ?_ _ (run_do hSw.bd hSw.sd) <;> rfl)
            try simp only [Act.put, List.setIfInBounds_toArray, List.set_cons_zero, List.set_cons_succ]
            refine wpAnyH_take (i := 1) (oi := ⟨some 54, _, _, _, _, _⟩) (v := ?_) rfl (by kernel_rfl) (by kernel_rfl) (by kernel_rfl) (fun _ _ _ h => h) (Or.inl ⟨by rfl, ?_⟩) (by assumption) ?_
            rotate_left
            · (intro w hSw; refine exec_load_held 27 (.tmp 5) ?_ g5 ?_ _ (run_st hSw.bx hSw.sx) <;> rfl)
            try simp only [Act.put, List.setIfInBounds_toArray, List.set_cons_zero, List.set_cons_succ]
            refine wpAnyH_ready (rs := [2]) (by kernel_rfl) (by simp) ?_
            refine AllReadyH.cons rfl (fun K hK => ?_) AllReadyH.nil
            go_simp
            (refine (HCP.out _ hHeld.bl).mono ?_; rintro e6 w6 hp6; obtain ⟨x6, rfl, ho6, hb6⟩ := hp6; have HB6 := Lib.hid hb6; have HO6 := Lib.hid ho6.rd; clear ho6 hb6)
            go_wp2_with fail
            refine hK.out _ _ ?_ (fun hHeld => ?_)
            · exact TwD.below (by assumption) HB6.out
            clear hK K
            try simp only [Act.put, List.setIfInBounds_toArray, List.set_cons_zero, List.set_cons_succ]
            refine wpAnyH_ready (rs := [3]) (by kernel_rfl) (by simp) ?_
            refine AllReadyH.cons rfl (fun K hK => ?_) AllReadyH.nil
            go_simp
            (refine (HAS.out x6 _ (hHeld.bl) HO6.out).mono ?_; rintro e8 wq hp8; obtain ⟨A8, n8, c8, L8, k8, rfl, ho8, hb8, hc8⟩ := hp8; have HB8 := Lib.hid hb8; have HO8 := Lib.hid (ho8.ge hHeld.bl.size); have HC8 := Lib.hid hc8; clear ho8 hb8 hc8)
            go_wp2_with fail
            refine hK.out _ _ ?_ (fun hHeld => ?_)
            · exact TwD.below (by assumption) HB8.out
            clear hK K
            try simp only [Act.put, List.setIfInBounds_toArray, List.set_cons_zero, List.set_cons_succ]
            refine wpAnyH_take (i := 4) (oi := ⟨some 52, _, _, _, _, _⟩) (v := ?_) rfl (by kernel_rfl) (by kernel_rfl) (by kernel_rfl) (fun _ _ _ h => h) (Or.inl ⟨by rfl, ?_⟩) (by assumption) ?_
            rotate_left
            · (intro w hSw; (try dsimp only at hSw); go_split_ands; go_simp; try with_reducible rfl)
            try simp only [Act.put, List.setIfInBounds_toArray, List.set_cons_zero, List.set_cons_succ]
            refine wpAnyH_take (i := 5) (oi := ⟨some 57, _, _, _, _, _⟩) (v := ?_) rfl (by kernel_rfl) (by kernel_rfl) (by kernel_rfl) (fun _ _ _ h => h) (Or.inl ⟨by rfl, ?_⟩) (by assumption) ?_
            rotate_left
            · (intro w hSw; (try dsimp only at hSw); go_split_ands; go_simp; try with_reducible rfl)
            try simp only [Act.put, List.setIfInBounds_toArray, List.set_cons_zero, List.set_cons_succ]
            refine wpAnyH_take (i := 6) (oi := ⟨some 58, _, _, _, _, _⟩) (v := ?_) rfl (by kernel_rfl) (by kernel_rfl) (by kernel_rfl) (fun _ _ _ h => h) (Or.inl ⟨by rfl, ?_⟩) (by assumption) ?_
            rotate_left
            · (intro w hSw; (try dsimp only at hSw); go_split_ands; go_simp; try with_reducible rfl)
            try simp only [Act.put, List.setIfInBounds_toArray, List.set_cons_zero, List.set_cons_succ]
            refine wpAnyH_take (i := 7) (oi := ⟨some 9, _, _, _, _, _⟩) (v := ?_) rfl (by kernel_rfl) (by kernel_rfl) (by kernel_rfl) (fun _ _ _ h => h) (Or.inl ⟨by rfl, ?_⟩) (by assumption) ?_
            rotate_left
            · (intro w hSw; (try dsimp only at hSw); go_split_ands; go_simp; try with_reducible rfl)
            try simp only [Act.put, List.setIfInBounds_toArray, List.set_cons_zero, List.set_cons_succ]
            refine wpAnyH_take (i := 8) (oi := ⟨some 10, _, _, _, _, _⟩) (v := ?_) rfl (by kernel_rfl) (by kernel_rfl) (by kernel_rfl) (fun _ _ _ h => h) (Or.inl ⟨by rfl, ?_⟩) (by assumption) ?_
            rotate_left
            · (intro w hSw; (try dsimp only at hSw); go_split_ands; go_simp; try with_reducible rfl)
            try simp only [Act.put, List.setIfInBounds_toArray, List.set_cons_zero, List.set_cons_succ]
            refine wpAnyH_done (by kernel_rfl) ?_ _
            have HB5q := Lib.hid (show Below w5.heap.size w5 wq from hHeld.bl)
            have HKq := Lib.hid hHeld.bx
            clear hHeld HTD
            have HRIq := Lib.hid (HRI.out.below (G.bl_trans HB5.out HB5q.out))
            have hn8 : n8 ≤ 1 := by
              rw [← ownEvs_len HO8.out]
              rcases HC8.out with ⟨_, _, h⟩ | ⟨_, _, _, h⟩ | ⟨_, _, _, h⟩
              · rw [h]; simp
              · rw [h]; simp
              · have h1 := congrArg List.length h
                rw [List.length_map] at h1
                rw [h1]
                exact askEv_one t d
            have hn8I : (n8 : Int) ≤ 1 := by omega
            go_wp2_with fail
            go_loopw [6, 11] (fun tr i wj => ∃ j : Nat, j ≤ n8 ∧ i = .int .i64 j ∧ InJ s w2 g5 E wq (.slice A0 n0 c0) j tr wj) (fun _ i _ => n8 - (intOf i).toNat)
            case atStart => exact ⟨0, Nat.zero_le _, rfl, .inl ⟨rfl, rfl, rfl⟩⟩
            case round =>
              obtain ⟨j, hj, rfl, hcase⟩ := hrel
              by_cases hjn : j < n8
              · obtain rfl : j = 0 := by omega
                obtain rfl : n8 = 1 := by omega
                rcases hcase with ⟨_, rfl, rfl⟩ | ⟨h, _⟩
                · obtain ⟨p9, rfl⟩ : ∃ p, L8 = [p] := by
                    rcases list_one (Nat.le_of_eq (ownEvs_len HO8.out)) with h | h
                    · have := ownEvs_len HO8.out
                      rw [h] at this
                      simp at this
                    · exact h
                  obtain ⟨hk8, hok, hL8⟩ : k8 = 0 ∧ askOk t d ∧ askEv t d = [p9.2] := by
                    rcases HC8.out with ⟨_, _, h⟩ | ⟨_, _, _, h⟩ | ⟨a, _, b, h⟩
                    · cases h
                    · cases h
                    · exact ⟨a, b, h.symm⟩
                  obtain ⟨y9, e9⟩ := p9
                  obtain ⟨hpl, u, hu⟩ := askEv_fits HMT.out hok e9 (by rw [hL8]; exact List.mem_singleton_self _)
                  obtain ⟨hf9, hl9⟩ := askEv_range HMT.out hok HDF.out.field HDF.out.order e9 (by rw [hL8]; exact List.mem_singleton_self _)
                  have HST := Lib.hid (step_fits hpl hu)
                  have HF9 := Lib.hid hf9
                  have HL9 := Lib.hid hl9
                  have HE9 := Lib.hid (HO8.out.o 0 (by omega))
                  obtain ⟨_, b9, hA8, hev, hrdv⟩ := HO8.out.one
                  subst hA8 hk8
                  have HB9 := Lib.hid (HO8.out.s.lt b9 rfl)
                  simp only at hev hrdv
                  have HCE := Lib.hid (fun W (hW : Below wq.heap.size wq W) => copyEvent_any y9 e9 W (RdEv.below hrdv hW) hl9)
                  obtain ⟨ce9, hce9⟩ : ∃ c, c = y9.arr e9 := ⟨_, rfl⟩
                  rw [show y9.val e9 = .agg ce9 by rw [hce9]; rfl] at HCE
                  rw [← hce9] at hev
                  have HEV := Lib.hid hev
                  have HCE9 := Lib.hid hce9
                  have HSE9 := Lib.hid (show ce9.size = 12 by rw [hce9]; rfl)
                  have HLW := Lib.hid (show LwS wq g5 cx b9 ce9 wq from ⟨Below.refl _ _, HKq.out, hev, HSX.out, by rw [hce9]; rfl, HKq.out.lt, hev.lt (by rw [hce9]; rfl)⟩)
                  have HOX := Lib.hid (HOX.out.below HB5q.out)
                  have HAP := Lib.hid (fun (y7 : EV) W (hW : Below wq.heap.size wq W) (hr : RdEv W y7 e9) => apply_any x' t y7 e9 W (HOX.out.below hW) HZT.out hr HF9.out HL9.out)
                  rw [show x'.val t = .agg cx by rw [HCX.out]; rfl] at HAP
                  clear hok hL8 hpl hu hf9 hl9 hev hrdv hce9 hj
                  go_upto_region 16 with (fail)
                  go_cut [12, 13] from 69 to 88 (fun s12 s13 wx => CallOwn wq t (stepE t e9 false) s12 s13 wx)
                  case first =>
                    refine wp_region_held_drew (S := LwS wq g5 cx b9 ce9) (by kernel_rfl) ?_ (fun hHeld => ?_)
                    · exact LwS.below HLW.out (Below.refl _ _).drew
                    refine wpAnyH_take (i := 0) (oi := ⟨some 70, _, _, _, _, _⟩) (v := ?_) rfl (by kernel_rfl) (by kernel_rfl) (by kernel_rfl) (fun _ _ _ h => h) (Or.inl ⟨by rfl, ?_⟩) (by assumption) ?_
                    rotate_left
                    · (intro w hSw; refine exec_load_held 27 (.tmp 5) ?_ g5 ?_ _ (run_st hSw.bx hSw.sx) <;> rfl)
                    try simp only [Act.put, List.setIfInBounds_toArray, List.set_cons_zero, List.set_cons_succ]
                    refine wpAnyH_take (i := 1) (oi := ⟨some 71, _, _, _, _, _⟩) (v := ?_) rfl (by kernel_rfl) (by kernel_rfl) (by kernel_rfl) (fun _ _ _ h => h) (Or.inl ⟨by rfl, ?_⟩) (by assumption) ?_
                    rotate_left
                    · (intro w hSw; (try dsimp only at hSw); go_split_ands; go_simp; try with_reducible rfl)
                    try simp only [Act.put, List.setIfInBounds_toArray, List.set_cons_zero, List.set_cons_succ]
                    refine wpAnyH_take (i := 2) (oi := ⟨some 72, _, _, _, _, _⟩) (v := ?_) rfl (by kernel_rfl) (by kernel_rfl) (by kernel_rfl) (fun _ _ _ h => h) (Or.inl ⟨by rfl, ?_⟩) (by assumption) ?_
                    rotate_left
                    · (intro w hSw; (try dsimp only at hSw); go_split_ands; go_simp; try with_reducible rfl)
                    try simp only [Act.put, List.setIfInBounds_toArray, List.set_cons_zero, List.set_cons_succ]
                    refine wpAnyH_take (i := 3) (oi := ⟨some 73, _, _, _, _, _⟩) (v := ?_) rfl (by kernel_rfl) (by kernel_rfl) (by kernel_rfl) (fun _ _ _ h => h) (Or.inl ⟨by rfl, ?_⟩) (by assumption) ?_
                    rotate_left
                    · (intro w hSw; (try dsimp only at hSw); go_split_ands; go_simp; try with_reducible rfl)
                    try simp only [Act.put, List.setIfInBounds_toArray, List.set_cons_zero, List.set_cons_succ]
                    refine wpAnyH_take (i := 4) (oi := ⟨some 74, _, _, _, _, _⟩) (v := ?_) rfl (by kernel_rfl) (by kernel_rfl) (by kernel_rfl) (fun _ _ _ h => h) (Or.inl ⟨by rfl, ?_⟩) (by assumption) ?_
                    rotate_left
                    · (intro w hSw; refine exec_load_held 30 (.tmp 73) ?_ b9 ?_ _ hSw.be.1 <;> rfl)
                    try simp only [Act.put, List.setIfInBounds_toArray, List.set_cons_zero, List.set_cons_succ]
                    refine wpAnyH_ready (rs := [5, 10]) (by kernel_rfl) (by simp) ?_
                    refine AllReadyH.cons rfl (fun K hK => ?_) ?_
                    · go_simp
                      (refine (HCE.out _ hHeld.bl).mono ?_; rintro e7 w7 hp7; obtain ⟨y7, rfl, ho7, hb7⟩ := hp7; have HB7 := Lib.hid hb7; have HO7 := Lib.hid ho7.rd; clear ho7 hb7)
                      go_wp2_with fail
                      refine hK.out _ _ ?_ (fun hHeld => ?_)
                      · exact LwS.below (by assumption) HB7.out
                      clear hK K
                      try simp only [Act.put, List.setIfInBounds_toArray, List.set_cons_zero, List.set_cons_succ]
                      refine wpAnyH_ready (rs := [6, 10]) (by kernel_rfl) (by simp) ?_
                      refine AllReadyH.cons rfl (fun K hK => ?_) ?_
                      · go_simp
                        (refine (HAP.out y7 _ hHeld.bl (RdEv.below HO7.out (by first | exact Below.refl _ _ | exact G.bl_alloc (Below.refl _ _) _))).mono ?_; rintro e8 w8 hp8; obtain ⟨x8, t8, k8b, rfl, ho8, hb8, hc8⟩ := hp8; have HB8 := Lib.hid hb8; have HO8 := Lib.hid (ho8.ge hHeld.bl.size); have HC8b := Lib.hid hc8; clear ho8 hb8 hc8)
                        go_wp2_with fail
                        refine hK.out _ _ ?_ (fun hHeld => ?_)
                        · exact LwS.below (by assumption) HB8.out
                        clear hK K
                        try simp only [Act.put, List.setIfInBounds_toArray, List.set_cons_zero, List.set_cons_succ]
                        refine wpAnyH_take (i := 7) (oi := ⟨some 69, _, _, _, _, _⟩) (v := ?_) rfl (by kernel_rfl) (by kernel_rfl) (by kernel_rfl) (fun _ _ _ h => h) (Or.inl ⟨by rfl, ?_⟩) (by assumption) ?_
                        rotate_left
                        · (intro w hSw; (try dsimp only at hSw); go_split_ands; go_simp; try with_reducible rfl)
                        try simp only [Act.put, List.setIfInBounds_toArray, List.set_cons_zero, List.set_cons_succ]
                        refine wpAnyH_take (i := 8) (oi := ⟨some 77, _, _, _, _, _⟩) (v := ?_) rfl (by kernel_rfl) (by kernel_rfl) (by kernel_rfl) (fun _ _ _ h => h) (Or.inl ⟨by rfl, ?_⟩) (by assumption) ?_
                        rotate_left
                        · (intro w hSw; (try dsimp only at hSw); go_split_ands; go_simp; try with_reducible rfl)
                        try simp only [Act.put, List.setIfInBounds_toArray, List.set_cons_zero, List.set_cons_succ]
                        refine wpAnyH_take (i := 9) (oi := ⟨some 78, _, _, _, _, _⟩) (v := ?_) rfl (by kernel_rfl) (by kernel_rfl) (by kernel_rfl) (fun _ _ _ h => h) (Or.inl ⟨by rfl, ?_⟩) (by assumption) ?_
                        rotate_left
                        · (intro w hSw; (try dsimp only at hSw); go_split_ands; go_simp; try with_reducible rfl)
                        try simp only [Act.put, List.setIfInBounds_toArray, List.set_cons_zero, List.set_cons_succ]
                        refine wpAnyH_ready (rs := [10]) (by kernel_rfl) (by simp) ?_
                        refine AllReadyH.cons rfl (fun K hK => ?_) AllReadyH.nil
                        go_simp
                        go_wp2_with fail
                        refine hK.out _ _ ?_ (fun hHeld => ?_)
                        · exact LwS.below (by assumption) (G.bl_alloc (Below.refl _ _) _)
                        clear hK K
                        try simp only [Act.put, List.setIfInBounds_toArray, List.set_cons_zero, List.set_cons_succ]
                        refine wpAnyH_ready (rs := [11]) (by kernel_rfl) (by simp) ?_
                        refine AllReadyH.cons rfl (fun K hK => ?_) AllReadyH.nil
                        first | (refine wp_store_row 27 (.tmp 12) (.tmp 77) rfl _ (x8.arr t8) rfl rfl 27 #[.slice none 0 0, .slice none 0 0, .slice none 0 0, .int .i32 0, .int .i64 0, .int .i8 0, .int .i64 0] (heap_alloc_new _ _) (by kernel_rfl) rfl (arr_one _ _) ?_) | (refine wp_store_row 27 (.tmp 12) (.tmp 77) rfl _ (x8.arr t8) rfl rfl 27 #[.slice none 0 0, .slice none 0 0, .slice none 0 0, .int .i32 0, .int .i64 0, .int .i8 0, .int .i64 0] (blk_after HB8.out) (by kernel_rfl) rfl (arr_one _ _) ?_) | (refine wp_store_row 27 (.tmp 12) (.tmp 77) rfl _ (x8.arr t8) rfl rfl 27 #[.slice none 0 0, .slice none 0 0, .slice none 0 0, .int .i32 0, .int .i64 0, .int .i8 0, .int .i64 0] (blk_after2 HB7.out HB8.out) (by kernel_rfl) rfl (arr_one _ _) ?_) | (refine wp_store_row 27 (.tmp 12) (.tmp 77) rfl _ (x8.arr t8) rfl rfl 27 #[.slice none 0 0, .slice none 0 0, .slice none 0 0, .int .i32 0, .int .i64 0, .int .i8 0, .int .i64 0] (blk_after3 HB7.out HB8.out) (by kernel_rfl) rfl (arr_one _ _) ?_)
                        try simp only [Act.put, List.getElem_toArray, List.getElem_cons_succ, List.getElem_cons_zero]
                        refine hK.out _ _ ?_ (fun hHeld => ?_)
                        · exact LwS.row (by assumption) (by have s7 := HB7.out.size; have s8 := HB8.out.size; first | omega | (simp at s7 s8 ⊢; omega))
                        clear hK K
                        try simp only [Act.put, List.setIfInBounds_toArray, List.set_cons_zero, List.set_cons_succ]
                        refine wpAnyH_take (i := 12) (oi := ⟨some 13, _, _, _, _, _⟩) (v := ?_) rfl (by kernel_rfl) (by kernel_rfl) (by kernel_rfl) (fun _ _ _ h => h) (Or.inl ⟨by rfl, ?_⟩) (by assumption) ?_
                        rotate_left
                        · (intro w hSw; (try dsimp only at hSw); go_split_ands; go_simp; try with_reducible rfl)
                        try simp only [Act.put, List.setIfInBounds_toArray, List.set_cons_zero, List.set_cons_succ]
                        refine wpAnyH_done (by kernel_rfl) ?_ _
                        go_wp2_with fail
                        go_meet
                        case rel => first | exact callOwn_mk (HO8.out.below (G.bl_alloc (Below.refl _ _) _)) hHeld.bl (G.Blk.new _ _ _) (by have s7 := HB7.out.size; have s8 := HB8.out.size; first | omega | (simp at s7 s8 ⊢; omega)) HC8b.out | exact callOwn_mk HO8.out hHeld.bl (blk_after HB8.out) (by have s7 := HB7.out.size; have s8 := HB8.out.size; first | omega | (simp at s7 s8 ⊢; omega)) HC8b.out | exact callOwn_mk HO8.out hHeld.bl (blk_after2 HB7.out HB8.out) (by have s7 := HB7.out.size; have s8 := HB8.out.size; first | omega | (simp at s7 s8 ⊢; omega)) HC8b.out | exact callOwn_mk HO8.out hHeld.bl (blk_after3 HB7.out HB8.out) (by have s7 := HB7.out.size; have s8 := HB8.out.size; first | omega | (simp at s7 s8 ⊢; omega)) HC8b.out
                      refine AllReadyH.cons rfl (fun K hK => ?_) ?_
                      · go_simp
                        go_wp2_with fail
                        refine hK.out _ _ ?_ (fun hHeld => ?_)
                        · exact LwS.below (by assumption) (G.bl_alloc (Below.refl _ _) _)
                        clear hK K
                        try simp only [Act.put, List.setIfInBounds_toArray, List.set_cons_zero, List.set_cons_succ]
                        refine wpAnyH_ready (rs := [6]) (by kernel_rfl) (by simp) ?_
                        refine AllReadyH.cons rfl (fun K hK => ?_) AllReadyH.nil
                        go_simp
                        (refine (HAP.out y7 _ hHeld.bl (RdEv.below HO7.out (by first | exact Below.refl _ _ | exact G.bl_alloc (Below.refl _ _) _))).mono ?_; rintro e8 w8 hp8; obtain ⟨x8, t8, k8b, rfl, ho8, hb8, hc8⟩ := hp8; have HB8 := Lib.hid hb8; have HO8 := Lib.hid (ho8.ge hHeld.bl.size); have HC8b := Lib.hid hc8; clear ho8 hb8 hc8)
                        go_wp2_with fail
                        refine hK.out _ _ ?_ (fun hHeld => ?_)
                        · exact LwS.below (by assumption) HB8.out
                        clear hK K
                        try simp only [Act.put, List.setIfInBounds_toArray, List.set_cons_zero, List.set_cons_succ]
                        refine wpAnyH_take (i := 7) (oi := ⟨some 69, _, _, _, _, _⟩) (v := ?_) rfl (by kernel_rfl) (by kernel_rfl) (by kernel_rfl) (fun _ _ _ h => h) (Or.inl ⟨by rfl, ?_⟩) (by assumption) ?_
                        rotate_left
                        · (intro w hSw; (try dsimp only at hSw); go_split_ands; go_simp; try with_reducible rfl)
                        try simp only [Act.put, List.setIfInBounds_toArray, List.set_cons_zero, List.set_cons_succ]
                        refine wpAnyH_take (i := 8) (oi := ⟨some 77, _, _, _, _, _⟩) (v := ?_) rfl (by kernel_rfl) (by kernel_rfl) (by kernel_rfl) (fun _ _ _ h => h) (Or.inl ⟨by rfl, ?_⟩) (by assumption) ?_
                        rotate_left
                        · (intro w hSw; (try dsimp only at hSw); go_split_ands; go_simp; try with_reducible rfl)
                        try simp only [Act.put, List.setIfInBounds_toArray, List.set_cons_zero, List.set_cons_succ]
                        refine wpAnyH_take (i := 9) (oi := ⟨some 78, _, _, _, _, _⟩) (v := ?_) rfl (by kernel_rfl) (by kernel_rfl) (by kernel_rfl) (fun _ _ _ h => h) (Or.inl ⟨by rfl, ?_⟩) (by assumption) ?_
                        rotate_left
                        · (intro w hSw; (try dsimp only at hSw); go_split_ands; go_simp; try with_reducible rfl)
                        try simp only [Act.put, List.setIfInBounds_toArray, List.set_cons_zero, List.set_cons_succ]
                        refine wpAnyH_ready (rs := [11]) (by kernel_rfl) (by simp) ?_
                        refine AllReadyH.cons rfl (fun K hK => ?_) AllReadyH.nil
                        first | (refine wp_store_row 27 (.tmp 12) (.tmp 77) rfl _ (x8.arr t8) rfl rfl 27 #[.slice none 0 0, .slice none 0 0, .slice none 0 0, .int .i32 0, .int .i64 0, .int .i8 0, .int .i64 0] (heap_alloc_new _ _) (by kernel_rfl) rfl (arr_one _ _) ?_) | (refine wp_store_row 27 (.tmp 12) (.tmp 77) rfl _ (x8.arr t8) rfl rfl 27 #[.slice none 0 0, .slice none 0 0, .slice none 0 0, .int .i32 0, .int .i64 0, .int .i8 0, .int .i64 0] (blk_after HB8.out) (by kernel_rfl) rfl (arr_one _ _) ?_) | (refine wp_store_row 27 (.tmp 12) (.tmp 77) rfl _ (x8.arr t8) rfl rfl 27 #[.slice none 0 0, .slice none 0 0, .slice none 0 0, .int .i32 0, .int .i64 0, .int .i8 0, .int .i64 0] (blk_after2 HB7.out HB8.out) (by kernel_rfl) rfl (arr_one _ _) ?_) | (refine wp_store_row 27 (.tmp 12) (.tmp 77) rfl _ (x8.arr t8) rfl rfl 27 #[.slice none 0 0, .slice none 0 0, .slice none 0 0, .int .i32 0, .int .i64 0, .int .i8 0, .int .i64 0] (blk_after3 HB7.out HB8.out) (by kernel_rfl) rfl (arr_one _ _) ?_)
                        try simp only [Act.put, List.getElem_toArray, List.getElem_cons_succ, List.getElem_cons_zero]
                        refine hK.out _ _ ?_ (fun hHeld => ?_)
                        · exact LwS.row (by assumption) (by have s7 := HB7.out.size; have s8 := HB8.out.size; first | omega | (simp at s7 s8 ⊢; omega))
                        clear hK K
                        try simp only [Act.put, List.setIfInBounds_toArray, List.set_cons_zero, List.set_cons_succ]
                        refine wpAnyH_take (i := 12) (oi := ⟨some 13, _, _, _, _, _⟩) (v := ?_) rfl (by kernel_rfl) (by kernel_rfl) (by kernel_rfl) (fun _ _ _ h => h) (Or.inl ⟨by rfl, ?_⟩) (by assumption) ?_
                        rotate_left
                        · (intro w hSw; (try dsimp only at hSw); go_split_ands; go_simp; try with_reducible rfl)
                        try simp only [Act.put, List.setIfInBounds_toArray, List.set_cons_zero, List.set_cons_succ]
                        refine wpAnyH_done (by kernel_rfl) ?_ _
                        go_wp2_with fail
                        go_meet
                        case rel => first | exact callOwn_mk (HO8.out.below (G.bl_alloc (Below.refl _ _) _)) hHeld.bl (G.Blk.new _ _ _) (by have s7 := HB7.out.size; have s8 := HB8.out.size; first | omega | (simp at s7 s8 ⊢; omega)) HC8b.out | exact callOwn_mk HO8.out hHeld.bl (blk_after HB8.out) (by have s7 := HB7.out.size; have s8 := HB8.out.size; first | omega | (simp at s7 s8 ⊢; omega)) HC8b.out | exact callOwn_mk HO8.out hHeld.bl (blk_after2 HB7.out HB8.out) (by have s7 := HB7.out.size; have s8 := HB8.out.size; first | omega | (simp at s7 s8 ⊢; omega)) HC8b.out | exact callOwn_mk HO8.out hHeld.bl (blk_after3 HB7.out HB8.out) (by have s7 := HB7.out.size; have s8 := HB8.out.size; first | omega | (simp at s7 s8 ⊢; omega)) HC8b.out
                      exact AllReadyH.nil
                    refine AllReadyH.cons rfl (fun K hK => ?_) ?_
                    · go_simp
                      go_wp2_with fail
                      refine hK.out _ _ ?_ (fun hHeld => ?_)
                      · exact LwS.below (by assumption) (G.bl_alloc (Below.refl _ _) _)
                      clear hK K
                      try simp only [Act.put, List.setIfInBounds_toArray, List.set_cons_zero, List.set_cons_succ]
                      refine wpAnyH_ready (rs := [5]) (by kernel_rfl) (by simp) ?_
                      refine AllReadyH.cons rfl (fun K hK => ?_) AllReadyH.nil
                      go_simp
                      (refine (HCE.out _ hHeld.bl).mono ?_; rintro e7 w7 hp7; obtain ⟨y7, rfl, ho7, hb7⟩ := hp7; have HB7 := Lib.hid hb7; have HO7 := Lib.hid ho7.rd; clear ho7 hb7)
                      go_wp2_with fail
                      refine hK.out _ _ ?_ (fun hHeld => ?_)
                      · exact LwS.below (by assumption) HB7.out
                      clear hK K
                      try simp only [Act.put, List.setIfInBounds_toArray, List.set_cons_zero, List.set_cons_succ]
                      refine wpAnyH_ready (rs := [6]) (by kernel_rfl) (by simp) ?_
                      refine AllReadyH.cons rfl (fun K hK => ?_) AllReadyH.nil
                      go_simp
                      (refine (HAP.out y7 _ hHeld.bl (RdEv.below HO7.out (by first | exact Below.refl _ _ | exact G.bl_alloc (Below.refl _ _) _))).mono ?_; rintro e8 w8 hp8; obtain ⟨x8, t8, k8b, rfl, ho8, hb8, hc8⟩ := hp8; have HB8 := Lib.hid hb8; have HO8 := Lib.hid (ho8.ge hHeld.bl.size); have HC8b := Lib.hid hc8; clear ho8 hb8 hc8)
                      go_wp2_with fail
                      refine hK.out _ _ ?_ (fun hHeld => ?_)
                      · exact LwS.below (by assumption) HB8.out
                      clear hK K
                      try simp only [Act.put, List.setIfInBounds_toArray, List.set_cons_zero, List.set_cons_succ]
                      refine wpAnyH_take (i := 7) (oi := ⟨some 69, _, _, _, _, _⟩) (v := ?_) rfl (by kernel_rfl) (by kernel_rfl) (by kernel_rfl) (fun _ _ _ h => h) (Or.inl ⟨by rfl, ?_⟩) (by assumption) ?_
                      rotate_left
                      · (intro w hSw; (try dsimp only at hSw); go_split_ands; go_simp; try with_reducible rfl)
                      try simp only [Act.put, List.setIfInBounds_toArray, List.set_cons_zero, List.set_cons_succ]
                      refine wpAnyH_take (i := 8) (oi := ⟨some 77, _, _, _, _, _⟩) (v := ?_) rfl (by kernel_rfl) (by kernel_rfl) (by kernel_rfl) (fun _ _ _ h => h) (Or.inl ⟨by rfl, ?_⟩) (by assumption) ?_
                      rotate_left
                      · (intro w hSw; (try dsimp only at hSw); go_split_ands; go_simp; try with_reducible rfl)
                      try simp only [Act.put, List.setIfInBounds_toArray, List.set_cons_zero, List.set_cons_succ]
                      refine wpAnyH_take (i := 9) (oi := ⟨some 78, _, _, _, _, _⟩) (v := ?_) rfl (by kernel_rfl) (by kernel_rfl) (by kernel_rfl) (fun _ _ _ h => h) (Or.inl ⟨by rfl, ?_⟩) (by assumption) ?_
                      rotate_left
                      · (intro w hSw; (try dsimp only at hSw); go_split_ands; go_simp; try with_reducible rfl)
                      try simp only [Act.put, List.setIfInBounds_toArray, List.set_cons_zero, List.set_cons_succ]
                      refine wpAnyH_ready (rs := [11]) (by kernel_rfl) (by simp) ?_
                      refine AllReadyH.cons rfl (fun K hK => ?_) AllReadyH.nil
                      first | (refine wp_store_row 27 (.tmp 12) (.tmp 77) rfl _ (x8.arr t8) rfl rfl 27 #[.slice none 0 0, .slice none 0 0, .slice none 0 0, .int .i32 0, .int .i64 0, .int .i8 0, .int .i64 0] (heap_alloc_new _ _) (by kernel_rfl) rfl (arr_one _ _) ?_) | (refine wp_store_row 27 (.tmp 12) (.tmp 77) rfl _ (x8.arr t8) rfl rfl 27 #[.slice none 0 0, .slice none 0 0, .slice none 0 0, .int .i32 0, .int .i64 0, .int .i8 0, .int .i64 0] (blk_after HB8.out) (by kernel_rfl) rfl (arr_one _ _) ?_) | (refine wp_store_row 27 (.tmp 12) (.tmp 77) rfl _ (x8.arr t8) rfl rfl 27 #[.slice none 0 0, .slice none 0 0, .slice none 0 0, .int .i32 0, .int .i64 0, .int .i8 0, .int .i64 0] (blk_after2 HB7.out HB8.out) (by kernel_rfl) rfl (arr_one _ _) ?_) | (refine wp_store_row 27 (.tmp 12) (.tmp 77) rfl _ (x8.arr t8) rfl rfl 27 #[.slice none 0 0, .slice none 0 0, .slice none 0 0, .int .i32 0, .int .i64 0, .int .i8 0, .int .i64 0] (blk_after3 HB7.out HB8.out) (by kernel_rfl) rfl (arr_one _ _) ?_)
                      try simp only [Act.put, List.getElem_toArray, List.getElem_cons_succ, List.getElem_cons_zero]
                      refine hK.out _ _ ?_ (fun hHeld => ?_)
                      · exact LwS.row (by assumption) (by have s7 := HB7.out.size; have s8 := HB8.out.size; first | omega | (simp at s7 s8 ⊢; omega))
                      clear hK K
                      try simp only [Act.put, List.setIfInBounds_toArray, List.set_cons_zero, List.set_cons_succ]
                      refine wpAnyH_take (i := 12) (oi := ⟨some 13, _, _, _, _, _⟩) (v := ?_) rfl (by kernel_rfl) (by kernel_rfl) (by kernel_rfl) (fun _ _ _ h => h) (Or.inl ⟨by rfl, ?_⟩) (by assumption) ?_
                      rotate_left
                      · (intro w hSw; (try dsimp only at hSw); go_split_ands; go_simp; try with_reducible rfl)
                      try simp only [Act.put, List.setIfInBounds_toArray, List.set_cons_zero, List.set_cons_succ]
                      refine wpAnyH_done (by kernel_rfl) ?_ _
                      go_wp2_with fail
                      go_meet
                      case rel => first | exact callOwn_mk (HO8.out.below (G.bl_alloc (Below.refl _ _) _)) hHeld.bl (G.Blk.new _ _ _) (by have s7 := HB7.out.size; have s8 := HB8.out.size; first | omega | (simp at s7 s8 ⊢; omega)) HC8b.out | exact callOwn_mk HO8.out hHeld.bl (blk_after HB8.out) (by have s7 := HB7.out.size; have s8 := HB8.out.size; first | omega | (simp at s7 s8 ⊢; omega)) HC8b.out | exact callOwn_mk HO8.out hHeld.bl (blk_after2 HB7.out HB8.out) (by have s7 := HB7.out.size; have s8 := HB8.out.size; first | omega | (simp at s7 s8 ⊢; omega)) HC8b.out | exact callOwn_mk HO8.out hHeld.bl (blk_after3 HB7.out HB8.out) (by have s7 := HB7.out.size; have s8 := HB8.out.size; first | omega | (simp at s7 s8 ⊢; omega)) HC8b.out
                    exact AllReadyH.nil
                  obtain ⟨g12, x7, t7, k7, rfl, rfl, hB7, hR7, hb7, hg12, hc7⟩ := hcut
                  obtain ⟨rfl, rfl⟩ : k7 = 0 ∧ u = t7 := by
                    rcases hc7 with ⟨a, _, b⟩ | ⟨_, _, b, _⟩ | ⟨_, b, _⟩
                    · rw [HST.out] at b
                      exact ⟨a, Option.some.inj b⟩
                    · rw [HST.out] at b
                      cases b
                    · exact absurd HMT.out b
                  have HB7 := Lib.hid hB7
                  have HR7 := Lib.hid hR7
                  have HBc := Lib.hid hb7
                  have HK5c := Lib.hid (HKq.out.below hb7 HKq.out.lt)
                  have HEVc := Lib.hid ((HEV.out.below HSE9.out hb7).row (g := g5) (cs := x7.arr u) HSE9.out (fun e => by
                    have h1 := HB9.out.1
                    have h2 := HK.out.lt
                    have h3 := HB5.out.size
                    omega))
                  have HOWc := Lib.hid (((HOW.out.below (G.bl_trans HB5.out HB5q.out)).below hb7).only (only_row (cs2 := x7.arr u) HK5c.out) (by decide) (by decide))
                  clear hB7 hR7 hb7 hc7
                  go_wp2_with (first | (refine wpList_load_row rfl 27 _ rfl g12 rfl _ (x7.arr u) (0, 0) _ HB7.out HFS.out rfl sizeSt ?_) | (refine wpList_store_row rfl 27 _ _ rfl g5 (x7.arr u) rfl rfl 27 _ HK5c.out (by kernel_rfl) (by rw [HSX.out]; rfl) (arr_one _ _) ?_) | (refine wpList_load_run (by rfl) 30 _ rfl b9 0 rfl ce9 HEVc.out.1 ?_) | (refine wpList_buildOne rfl 32 30 (.tmp 86) rfl ce9 rfl iE (.agg zeroE) Tryz.underlying32 HIE.out.1 HIE.out.2.1 (by rw [HIE.out.2.2.1]; decide) (by rw [HIE.out.2.2.1]; decide) (fill_evs HCE9.out HIE.out.2.2.1) ?_) | (at_builtin; refine wpList_append_own _ rfl (.tmp 82) (.tmp 87) 32 rfl w2.heap.size 30 iE (.agg zeroE) 12 96 Tryz.underlying32 HIE.out.1 HIE.out.2.1 HIE.out.2.2.1 HIE.out.2.2.2 rfl (by decide) _ n0 (flatE L0) rfl (HOWc.out.s.alloc _) ⟨(wc.setRow g5 (x7.arr u)).heap.size, 0, none⟩ 1 1 ce9.toList rfl (by rw [HCE9.out]; rfl) (G.cells_new _ _ _ _ rfl) (by rw [HCE9.out]; simp [EV.arr, Value.oneCell']) (by have := HN0.out; unfold maxLen; omega) (by have := HN0.out; omega) (by have h1 := HRI.out.bl.size; have h2 := HB5.out.size; have h3 := HB5q.out.size; have h4 := HBc.out.size; have h5 := (below_setRow (cs := x7.arr u) (Below.refl 0 wc) (Nat.zero_le g5)).size; simp; omega) ?_; intro v3 w9 hown3 hg3 _q; have HI9 := Lib.hid (BkL.next (HOW.out.below (G.bl_trans HB5.out HB5q.out)) HLE.out HRUN.out (by rw [← HCX.out]; exact HKq.out) HRI.out.fit HRIq.out.bl HG5.out HBc.out HR7.out HST.out HE9.out (by have h1 := HRI.out.bl.size; have h2 := HB5.out.size; omega) ⟨HF9.out, HL9.out⟩ HCE9.out hown3 hg3); clear hown3 hg3))
                  go_roundw
                  case rel => exact ⟨1, Nat.le_refl _, by go_num, .inr ⟨rfl, e9, HI9.out⟩⟩
                  case measure => simp [intOf]
                · omega
              · obtain rfl : j = n8 := by omega
                have hjnI : ¬ (j : Int) < j := by omega
                have HFIN := Lib.hid (hcase.fin HRIq.out HEK.out)
                clear hcase
                go_wp2_with fail
                go_roundw
                case rel => exact ⟨k + 1, by omega, by go_num, HFIN.out⟩
                case measure => simp [intOf]; omega
        · have hltI : ¬ (k : Int) < m := by omega
          obtain rfl : k = m := by omega
          obtain ⟨ct, hct⟩ : ∃ c, c = x'.arr t := ⟨_, rfl⟩
          have HCT := Lib.hid hct
          have HST7 := Lib.hid (show ct.size = 7 by rw [hct]; rfl)
          have HBK := Lib.hid (run_back HM.out HRUN.out)
          have HZT := Lib.hid (may_sz HMT.out)
          rw [← hct] at HK
          clear hct
          have HX := Lib.hid (HX.out.below HRI.out.bl HX.out.lt)
          have HNL := Lib.hid (show n0 ≤ 33554432 from Nat.le_trans HN0.out (by omega))
          have HFT := Lib.hid (show ∀ (M : List (EV × Ev)), M.map Prod.snd = E → ∀ j, j < n0 → (M.getD j zeroP).2.Fits ∧ (M.getD j zeroP).2.order.length ≤ 33554432 from fun M hM j hj => HRI.out.fit _ (by
            rw [← hM]
            exact List.mem_map.2 ⟨_, mem_getD2 (by rw [← List.length_map (f := Prod.snd), hM, ← HLE.out, List.length_map, ownEvs_len HOW.out]; exact hj), rfl⟩))
          have HBC := Lib.hid (Below.refl wr.heap.size wr)
          go_wp2_with (first | (refine wpList_load_row_g (by rfl) 27 _ rfl g rfl _ cs (0, 0) _ (HX.out.below HBC.out HX.out.lt) HFS.out rfl (by rw [HS.out]; exact sizeSt) ?_))
          refine (HCS.out _ (G.bl_trans HBLr.out HBC.out)).mono ?_
          rintro e21 w21 hp21
          obtain ⟨xb, rfl, ho21, hb21⟩ := hp21
          have HBC := Lib.hid (G.bl_trans HBC.out hb21)
          have HOb := Lib.hid ho21.rd
          clear ho21 hb21
          go_wp2_with (first | fail)
          refine (copyEvents_any A0 n0 c0 L0 _ (HOW.out.rd.below HBC.out) HNL.out (fun j hj => (HFT.out L0 HLE.out j hj).2)).mono ?_
          rintro e22 w22 hp22
          obtain ⟨A1, n1, c1, L1, rfl, ho22, hm22, hb22⟩ := hp22
          have HBC := Lib.hid (G.bl_trans HBC.out hb22)
          have HO22 := Lib.hid ho22
          have HM22 := Lib.hid (hm22.trans HLE.out)
          have HOb := Lib.hid (HOb.out.below hb22)
          obtain rfl : n1 = n0 := by
            rw [← ownEvs_len ho22, ← ownEvs_len HOW.out, ← List.length_map (f := Prod.snd), hm22, List.length_map]
          clear ho22 hm22 hb22
          go_wp2_with (first | fail)
          refine (replay_any xb s A1 n1 c1 L1 _ HOb.out HSZ.out HO22.out.rd (HFT.out L1 HM22.out) HNL.out).mono ?_
          rintro e23 w23 hp23
          obtain ⟨xr, tr, ar, kr, rfl, ho23, hb23, hc23⟩ := hp23
          have HBC := Lib.hid (G.bl_trans HBC.out hb23)
          have HOr := Lib.hid ho23
          obtain ⟨hkr, htr, har⟩ := rep_yes2 HM.out (show runE s (L1.map Prod.snd) = some t by rw [HM22.out]; exact HRUN.out) hc23
          subst hkr htr har
          clear ho23 hb23 hc23
          go_upto_region 22 with (first | (refine wpList_store_row rfl 27 _ _ rfl _ (xr.arr t) rfl rfl 27 _ (heap_alloc_new _ _) (by kernel_rfl) rfl (arr_one _ _) ?_))
          have HKr := Lib.hid (show G.Blk ((w23.alloc (.cells zeroA 27)).setRow w23.heap.size (xr.arr t)) w23.heap.size 27 (xr.arr t) from setRow_heap _ _ _ _ _ _ (heap_alloc_new _ _))
          have HBr := Lib.hid (show Below w23.heap.size w23 ((w23.alloc (.cells zeroA 27)).setRow w23.heap.size (xr.arr t)) from below_setRow (G.bl_alloc (Below.refl _ _) _) (Nat.le_refl _) _)
          obtain ⟨gr, hgr⟩ : ∃ q, q = w23.heap.size := ⟨_, rfl⟩
          obtain ⟨w24, hw24⟩ : ∃ q, q = (w23.alloc (.cells zeroA 27)).setRow w23.heap.size (xr.arr t) := ⟨_, rfl⟩
          rw [← hw24] at HKr HBr
          rw [← hgr] at HKr
          unfold zeroA at hw24
          rw [← hw24, ← hgr]
          clear hw24 hgr
          obtain ⟨cr, hcr⟩ : ∃ c, c = xr.arr t := ⟨_, rfl⟩
          have HCR := Lib.hid hcr
          have HSR := Lib.hid (show cr.size = 7 by rw [hcr]; rfl)
          rw [← hcr] at HKr
          try rw [show xr.val t = .agg cr by rw [hcr]; rfl]
          clear hcr
          have HOr := Lib.hid (HOr.out.rd.below HBr.out)
          have HBC := Lib.hid (G.bl_trans HBC.out HBr.out)
          have HCNt := Lib.hid (fun W (hW : Below wr.heap.size wr W) => copyState_any x' t W (HOX0.out.rd.below hW) HZT.out)
          rw [show x'.val t = .agg ct by rw [HCT.out]; rfl] at HCNt
          go_wp2_with (first | (refine wpList_load_row_g (by rfl) 27 _ rfl g5 rfl _ ct (0, 0) _ (HK.out.below HBC.out HK.out.lt) HFS.out rfl (by rw [HST7.out]; exact sizeSt) ?_))
          refine (HCNt.out _ HBC.out).mono ?_
          rintro e25 w25 hp25
          obtain ⟨xn, rfl, ho25, hb25⟩ := hp25
          have HBC := Lib.hid (G.bl_trans HBC.out hb25)
          have HOn := Lib.hid ho25.rd
          have HKr := Lib.hid (HKr.out.below hb25 HKr.out.lt)
          have HOr := Lib.hid (HOr.out.below hb25)
          clear ho25 hb25
          go_wp2_with (first | fail)
          refine (copyEvents_any A0 n1 c0 L0 _ (HOW.out.rd.below HBC.out) HNL.out (fun j hj => (HFT.out L0 HLE.out j hj).2)).mono ?_
          rintro e26 w26 hp26
          obtain ⟨A2, n2, c2, L2, rfl, ho26, hm26, hb26⟩ := hp26
          have HBC := Lib.hid (G.bl_trans HBC.out hb26)
          have HO26 := Lib.hid ho26
          have HM26 := Lib.hid (hm26.trans HLE.out)
          have HOn := Lib.hid (HOn.out.below hb26)
          have HKr := Lib.hid (HKr.out.below hb26 HKr.out.lt)
          have HOr := Lib.hid (HOr.out.below hb26)
          obtain rfl : n2 = n1 := by
            rw [← ownEvs_len ho26, ← ownEvs_len HOW.out, ← List.length_map (f := Prod.snd), hm26, List.length_map]
          clear ho26 hm26 hb26
          go_wp2_with (first | fail)
          refine (back_any xn t A2 n2 c2 L2 _ HOn.out HZT.out HO26.out.rd (HFT.out L2 HM26.out) HNL.out).mono ?_
          rintro e27 w27 hp27
          obtain ⟨xs, ts, az, ks, rfl, ho27, hb27, hc27⟩ := hp27
          have HBC := Lib.hid (G.bl_trans HBC.out hb27)
          have HOs := Lib.hid ho27
          obtain ⟨hks, hts, haz⟩ := rep_yes2 HMT.out (show backL t (L2.map Prod.snd) = some s by rw [HM26.out]; exact HBK.out.1) hc27
          subst hks haz
          subst hts
          have HKr := Lib.hid (HKr.out.below hb27 HKr.out.lt)
          have HOr := Lib.hid (HOr.out.below hb27)
          clear ho27 hb27 hc27
          go_upto_region 23 with (first | (refine wpList_store_row rfl 27 _ _ rfl _ (xs.arr s) rfl rfl 27 _ (heap_alloc_new _ _) (by kernel_rfl) rfl (arr_one _ _) ?_))
          have HKs := Lib.hid (show G.Blk ((w27.alloc (.cells zeroA 27)).setRow w27.heap.size (xs.arr s)) w27.heap.size 27 (xs.arr s) from setRow_heap _ _ _ _ _ _ (heap_alloc_new _ _))
          have HBs := Lib.hid (show Below w27.heap.size w27 ((w27.alloc (.cells zeroA 27)).setRow w27.heap.size (xs.arr s)) from below_setRow (G.bl_alloc (Below.refl _ _) _) (Nat.le_refl _) _)
          obtain ⟨gs, hgs⟩ : ∃ q, q = w27.heap.size := ⟨_, rfl⟩
          obtain ⟨w28, hw28⟩ : ∃ q, q = (w27.alloc (.cells zeroA 27)).setRow w27.heap.size (xs.arr s) := ⟨_, rfl⟩
          rw [← hw28] at HKs HBs
          rw [← hgs] at HKs
          unfold zeroA at hw28
          rw [← hw28, ← hgs]
          clear hw28 hgs
          obtain ⟨cz, hcz⟩ : ∃ c, c = xs.arr s := ⟨_, rfl⟩
          have HCZ := Lib.hid hcz
          have HSZs := Lib.hid (show cz.size = 7 by rw [hcz]; rfl)
          rw [← hcz] at HKs
          clear hcz
          have HOs := Lib.hid (HOs.out.rd.below HBs.out)
          have HOr := Lib.hid (HOr.out.below HBs.out)
          have HKr := Lib.hid (HKr.out.below HBs.out HKr.out.lt)
          have HBC := Lib.hid (G.bl_trans HBC.out HBs.out)
          have HKg := Lib.hid (HX.out.below HBC.out HX.out.lt)
          have HKn := Lib.hid (HK.out.below HBC.out HK.out.lt)
          have HON := Lib.hid (HOX0.out.rd.below HBC.out)
          have HRg := Lib.hid (HRS.out.below (G.bl_trans HBLr.out HBC.out))
          have HBQ := Lib.hid (G.bl_trans HBLr.out HBC.out)
          have HBC := Lib.hid (Below.refl w28.heap.size w28)
          have HQ1 := Lib.hid (fun W (hW : Below w28.heap.size w28 W) => eqState_any xr x' t t W (HOr.out.below hW) (HON.out.below hW) HZT.out HZT.out)
          have HQ2 := Lib.hid (fun W (hW : Below w28.heap.size w28 W) => eqState_any xs x s s W (HOs.out.below hW) (HRg.out.below hW) HSZ.out HSZ.out)
          have HQ3 := Lib.hid (fun W (hW : Below w28.heap.size w28 W) => sameCards_any x xr s t W (HRg.out.below hW) (HOr.out.below hW) HMT.out HBK.out.2.2)
          rw [show decide (t = t) = true from decide_eq_true rfl, show xr.val t = .agg cr by rw [HCR.out]; rfl, show x'.val t = .agg ct by rw [HCT.out]; rfl] at HQ1
          rw [show decide (s = s) = true from decide_eq_true rfl, show xs.val s = .agg cz by rw [HCZ.out]; rfl, show x.val s = .agg cs by rw [HCS0.out]; rfl] at HQ2
          rw [show xr.val t = .agg cr by rw [HCR.out]; rfl, show x.val s = .agg cs by rw [HCS0.out]; rfl] at HQ3
          have HQ4 := Lib.hid (fun W (hW : Below w28.heap.size w28 W) => lives_any W)
          go_wp2_with (first | (refine wpList_load_row_g (by rfl) 27 _ rfl gr rfl _ cr (0, 0) _ (HKr.out.below HBC.out HKr.out.lt) HFS.out rfl (by rw [HSR.out]; exact sizeSt) ?_) | (refine wpList_load_row_g (by rfl) 27 _ rfl g5 rfl _ ct (0, 0) _ (HKn.out.below HBC.out HKn.out.lt) HFS.out rfl (by rw [HST7.out]; exact sizeSt) ?_))
          refine (HQ1.out _ HBC.out).mono ?_
          rintro e31 w31 hp31
          obtain ⟨rfl, hb31⟩ := hp31
          have HBC := Lib.hid (G.bl_trans HBC.out hb31)
          clear hb31
          go_wp2_with (first | (refine wpList_load_row_g (by rfl) 27 _ rfl gs rfl _ cz (0, 0) _ (HKs.out.below HBC.out HKs.out.lt) HFS.out rfl (by rw [HSZs.out]; exact sizeSt) ?_) | (refine wpList_load_row_g (by rfl) 27 _ rfl g rfl _ cs (0, 0) _ (HKg.out.below HBC.out HKg.out.lt) HFS.out rfl (by rw [HS.out]; exact sizeSt) ?_))
          refine (HQ2.out _ HBC.out).mono ?_
          rintro e32 w32 hp32
          obtain ⟨rfl, hb32⟩ := hp32
          have HBC := Lib.hid (G.bl_trans HBC.out hb32)
          clear hb32
          go_wp2_with (first | (refine wpList_load_row_g (by rfl) 27 _ rfl g rfl _ cs (0, 0) _ (HKg.out.below HBC.out HKg.out.lt) HFS.out rfl (by rw [HS.out]; exact sizeSt) ?_) | (refine wpList_load_row_g (by rfl) 27 _ rfl gr rfl _ cr (0, 0) _ (HKr.out.below HBC.out HKr.out.lt) HFS.out rfl (by rw [HSR.out]; exact sizeSt) ?_))
          refine (HQ3.out _ HBC.out).mono ?_
          rintro e33 w33 hp33
          obtain ⟨rfl, hb33⟩ := hp33
          have HBC := Lib.hid (G.bl_trans HBC.out hb33)
          clear hb33
          go_wp2_with (first | fail)
          refine (HQ4.out _ HBC.out).mono ?_
          rintro e34 w34 hp34
          obtain ⟨rfl, hb34⟩ := hp34
          have HBC := Lib.hid (G.bl_trans HBC.out hb34)
          clear hb34
          go_wp2_with fail
          go_ret
          exact ⟨rfl, G.bl_trans HBQ.out HBC.out⟩
    · have HMY := Lib.hid HLM.out
      rw [may_no hmay] at HMY
      clear hmay
      go_wp2_with (first | (refine wpList_load_row_g (by rfl) 27 _ rfl g rfl _ cs (0, 0) _ HX.out HFS.out rfl (by rw [HS.out]; exact sizeSt) ?_))
      refine (HMY.out _ HBL.out).mono ?_
      rintro e2 w2 ⟨rfl, hb2⟩
      have HBL := Lib.hid (G.bl_trans HBL.out hb2)
      clear hb2
      go_wp2_with fail
      go_ret
      exact ⟨rfl, HBL.out⟩
  · have hmI : decide ((4096 : Int) < (m : Int)) = true := decide_eq_true (by omega)
    go_wp2_with fail
    go_ret
    exact ⟨rfl, HBL.out⟩
theorem dback_any (x : SV) (s : St) (A : Option Addr) (m c : Nat) (D : List (EV × Dq)) (w : World) (h : RdSt w x s) (hD : G.RdS w A 7 m (flatD D)) (hd : ∀ k, k < m → G.RdS w (D.getD k zeroQ).1.oa 1 (D.getD k zeroQ).2.order.length (i64s (D.getD k zeroQ).2.order) ∧ (-128 ≤ (D.getD k zeroQ).2.field ∧ (D.getD k zeroQ).2.field ≤ 127) ∧ (-9223372036854775808 ≤ (D.getD k zeroQ).2.by_ ∧ (D.getD k zeroQ).2.by_ ≤ 9223372036854775807) ∧ (D.getD k zeroQ).2.order.length ≤ 140737488355328) (hm : m ≤ 140737488355328) (hw : Sw s) :
    Calls Tryz.prog 11 #[x.val s, .slice A m c] w (BoolPost true w) := by
  cases hby : beyondB s [] with
  | true => exact dback_long x s A m c D w h hD hd hm hw hby
  | false =>
    have h1 : amountSt s + sizeEs [] ≤ 16777216 := by
      have := of_decide_eq_false hby
      omega
    exact dback_short x s A m c D w h hD hd hm hw (amount_sz (by omega)) hby
end Go.Proofs.YtofgmijmhpmabaaGreatDoor.D

/- The walk of DeedAdds. Printed by gen_adds.py. -/
import Derived.Test.YtofgmijmhpmabaaGreatDoorDLawS
import Derived.Test.YtofgmijmhpmabaaGreatDoorDReplay
import Derived.Test.YtofgmijmhpmabaaGreatDoorDStopped
namespace Go.Proofs.YtofgmijmhpmabaaGreatDoor.D
open Go Go.RowKit
set_option linter.unusedVariables false
set_option linter.unusedSimpArgs false
theorem atEnd_not {s : St} {f n v : Int} (hg : getF s f n = some v) (h : endB2 v = false) : ¬ AtEnd s f n := by
  unfold endB2 at h
  simp only [Bool.or_eq_false_iff, beq_eq_false_iff_ne] at h
  rintro (h1 | h1) <;> rw [hg] at h1
  · exact h.1 (Option.some.inj h1)
  · exact h.2 (Option.some.inj h1)
theorem ask_yes {s : St} {ok : Prop} {l : List Ev} {k : Int} {L : List (EV × Ev)} (hm : May s) (ho : ok) (h : (k = 10 ∧ ¬ May s ∧ L = []) ∨ (k = 1 ∧ May s ∧ ¬ ok ∧ L = []) ∨ (k = 0 ∧ May s ∧ ok ∧ L.map Prod.snd = l)) : k = 0 ∧ L.map Prod.snd = l := by
  rcases h with ⟨_, a, _⟩ | ⟨_, _, a, _⟩ | ⟨a, _, _, b⟩
  · exact absurd hm a
  · exact absurd ho a
  · exact ⟨a, b⟩
theorem rep_yes {s t u : St} {o : Option St} {fa : Nat} {a k : Int} {x' : SV} (hm : May s) (ho : o = some u) (h : (k = 0 ∧ May s ∧ o = some t ∧ a = 0) ∨ (k = 11 ∧ May s ∧ o = none ∧ a = fa ∧ t = zeroSt ∧ x' = zeroSV) ∨ (k = 10 ∧ ¬ May s ∧ a = 0 ∧ t = zeroSt ∧ x' = zeroSV)) : k = 0 ∧ u = t ∧ a = 0 := by
  rcases h with ⟨a, _, b, c⟩ | ⟨_, _, b, _⟩ | ⟨_, b, _⟩
  · exact ⟨a, Option.some.inj (ho.symm.trans b), c⟩
  · rw [ho] at b
    cases b
  · exact absurd hm b
theorem evs_fit {L : List (EV × Ev)} {l : List Ev} {n : Nat} (h : L.map Prod.snd = l) (hn : L.length = n) (hr : ∀ e ∈ l, e.Fits ∧ e.order = []) : ∀ k, k < n → (L.getD k zeroP).2.Fits ∧ (L.getD k zeroP).2.order.length ≤ 33554432 := by
  intro k hk
  have hm : (L.getD k zeroP).2 ∈ l := by
    rw [← h]
    exact List.mem_map.2 ⟨_, mem_getD (by omega), rfl⟩
  obtain ⟨a, b⟩ := hr _ hm
  exact ⟨a, by rw [b]; simp⟩
theorem OwnEvs.len {w : World} {base : Nat} {A : Option Addr} {n c : Nat} {L : List (EV × Ev)} (h : OwnEvs w base A n c L) : L.length = n := h.rd.len
theorem changeEv_one (s : St) (f n b : Int) : (changeEv s f n b).length ≤ 1 := by
  unfold changeEv
  split
  · simp
  · split <;> simp
theorem rdEvs_nil (w : World) : RdEvs w none 0 [] := ⟨G.RdS.nil _, fun i hi => by omega⟩
set_option maxRecDepth 100000 in
set_option maxHeartbeats 32000000 in
theorem adds_short (x : SV) (s : St) (f num a b : Int) (w : World) (h : RdSt w x s) (hf : -128 ≤ f ∧ f ≤ 127) (ha : -2147483648 ≤ a ∧ a ≤ 2147483647) (hb : -2147483648 ≤ b ∧ b ≤ 2147483647) (hw : Sw s) (hs : Sz s) (hby : beyondB s [] = false) :
    Calls Tryz.prog 8 #[x.val s, .int .i8 f, .int .i64 num, .int .i32 a, .int .i32 b] w (BoolPost true w) := by
  obtain ⟨fsS, hfsS⟩ := undSt
  have HFS := Lib.hid hfsS
  have HBY := Lib.hid (fun W (hW : Below w.heap.size w W) => beyond_any x s none 0 0 [] W (h.below hW) hw (rdEvs_nil W) (by omega) (fun i => by simp [zeroP, zeroEv]))
  rw [hby] at HBY
  have HLM := Lib.hid (fun W (hW : Below w.heap.size w W) => lawMay_any x s W (h.below hW) hs)
  have HCS := Lib.hid (fun W (hW : Below w.heap.size w W) => copyState_any x s W (h.below hW) hs)
  have HSZ := Lib.hid hs
  obtain ⟨cs, hcs⟩ : ∃ c, c = x.arr s := ⟨_, rfl⟩
  have HS := Lib.hid (show cs.size = 7 by rw [hcs]; rfl)
  have he1 : x.val s = .agg cs := by rw [hcs]; rfl
  rw [he1] at HBY HLM HCS ⊢
  obtain ⟨a1, a2⟩ := ha
  obtain ⟨b1, b2⟩ := hb
  have hwa : IntKind.i64.wrap a = a := IntWalk.i64_in _ (by omega)
  have hwb : IntKind.i64.wrap b = b := IntWalk.i64_in _ (by omega)
  have hwab : IntKind.i64.wrap (a + b) = a + b := IntWalk.i64_in _ (by omega)
  have hwab2 : wrap64 (a + b) = a + b := wrap_in (by omega) (by omega)
  have HF := Lib.hid hf
  clear h hs hw hcs he1 hfsS hby hf
  have hx0 : G.Blk (w.alloc (.cells cs 27)) w.heap.size 27 cs := G.Blk.new w _ _
  have hbl0 : Below w.heap.size w (w.alloc (.cells cs 27)) := G.bl_alloc (Below.refl _ _) _
  go_enter Tryz.func8, Tryz.ntmps8
  go_upto_region 1 with (fail)
  obtain ⟨w0, hw0⟩ : ∃ w0, w0 = w.alloc (.cells cs 27) := ⟨_, rfl⟩
  rw [← hw0] at hx0 hbl0 ⊢
  clear hw0
  obtain ⟨g, hg⟩ : ∃ g, g = w.heap.size := ⟨_, rfl⟩
  rw [← hg] at hx0 ⊢
  have HX := Lib.hid hx0
  have HBL := Lib.hid hbl0
  clear hx0 hbl0 hg
  go_wp2_with (first | (refine wpList_load_row_g (by rfl) 27 _ rfl g rfl _ cs (0, 0) _ HX.out HFS.out rfl (by rw [HS.out]; exact sizeSt) ?_))
  refine (HBY.out _ HBL.out).mono ?_
  rintro e1 w1 ⟨rfl, hb1⟩
  have HX := Lib.hid (HX.out.below hb1 HX.out.lt)
  have HBL := Lib.hid (G.bl_trans HBL.out hb1)
  clear hb1
  by_cases hm : May s
  · have HM := Lib.hid hm
    have HMY := Lib.hid HLM.out
    rw [may_yes hm] at HMY
    clear hm
    go_wp2_with (first | (refine wpList_load_row_g (by rfl) 27 _ rfl g rfl _ cs (0, 0) _ HX.out HFS.out rfl (by rw [HS.out]; exact sizeSt) ?_))
    refine (HMY.out _ HBL.out).mono ?_
    rintro e2 w2 ⟨rfl, hb2⟩
    have HX := Lib.hid (HX.out.below hb2 HX.out.lt)
    have HBL := Lib.hid (G.bl_trans HBL.out hb2)
    clear hb2
    go_wp2_with (first | (refine wpList_load_row_g (by rfl) 27 _ rfl g rfl _ cs (0, 0) _ HX.out HFS.out rfl (by rw [HS.out]; exact sizeSt) ?_))
    refine (HCS.out _ HBL.out).mono ?_
    rintro e3 w3 hp3
    obtain ⟨xa, rfl, ho3, hb3⟩ := hp3
    have HX := Lib.hid (HX.out.below hb3 HX.out.lt)
    have HBL := Lib.hid (G.bl_trans HBL.out hb3)
    have HO_xa := Lib.hid ho3.rd
    clear hb3 ho3
    go_wp2_with (fail)
    refine (changeD_any xa s f num a _ HO_xa.out HSZ.out HF.out ⟨by omega, by omega⟩).mono ?_
    rintro e4 w4 hp4
    obtain ⟨A1, n1, c1, L1, k1, rfl, ho4, hb4, hc1⟩ := hp4
    have HX := Lib.hid (HX.out.below hb4 HX.out.lt)
    have HBL := Lib.hid (G.bl_trans HBL.out hb4)
    have HE1 := Lib.hid ho4
    clear hb4 ho4
    rcases hc1 with ⟨_, hno, _⟩ | ⟨hk1, _, hno, hL⟩ | ⟨hk1, _, hok, hL⟩
    · exact absurd HM.out hno
    · subst hk1 hL
      obtain rfl := HE1.out.zero
      go_wp2_with (first | fail)
      refine (lives_any _).mono ?_
      rintro e5 w5 ⟨rfl, hb5⟩
      have HX := Lib.hid (HX.out.below hb5 HX.out.lt)
      have HBL := Lib.hid (G.bl_trans HBL.out hb5)
      clear hb5
      go_wp2_with fail
      go_ret
      exact ⟨rfl, HBL.out⟩
    · subst hk1
      obtain ⟨v, hv⟩ := hok
      have HV := Lib.hid hv
      have HL1 := Lib.hid hL
      have HRUN1 := Lib.hid (show runE s (L1.map Prod.snd) = some (setF s f num (clampI (v + a))) by rw [hL]; exact change_run HM.out hv)
      have HFIT1 := Lib.hid (evs_fit hL HE1.out.len (changeEv_range HM.out HF.out))
      have HN1 := Lib.hid (show n1 ≤ 33554432 by
        have h1 := HE1.out.len
        have h2 := congrArg List.length hL
        rw [List.length_map] at h2
        have := changeEv_one s f num a
        omega)
      have HM1 := Lib.hid (setF_may HM.out hv (clamp_stat (v + a))).1
      have HG1 := Lib.hid (getF_setF (v := clampI (v + a)) hv).1
      clear hv hL
      obtain ⟨s1, hs1⟩ : ∃ s1, s1 = setF s f num (clampI (v + a)) := ⟨_, rfl⟩
      have HS1 := Lib.hid hs1
      rw [← hs1] at HRUN1 HM1 HG1
      clear hs1
      go_wp2_with (first | (refine wpList_load_row_g (by rfl) 27 _ rfl g rfl _ cs (0, 0) _ HX.out HFS.out rfl (by rw [HS.out]; exact sizeSt) ?_))
      refine (HCS.out _ HBL.out).mono ?_
      rintro e6 w6 hp6
      obtain ⟨xb, rfl, ho6, hb6⟩ := hp6
      have HX := Lib.hid (HX.out.below hb6 HX.out.lt)
      have HE1 := Lib.hid (HE1.out.below hb6)
      have HBL := Lib.hid (G.bl_trans HBL.out hb6)
      have HO_xb := Lib.hid ho6.rd
      clear hb6 ho6
      go_wp2_with (fail)
      refine (replay_any xb s A1 n1 c1 L1 _ HO_xb.out HSZ.out HE1.out.rd HFIT1.out HN1.out).mono ?_
      rintro e7 w7 hp7
      obtain ⟨x13, t13, at13, kk13, rfl, ho7, hb7, hc13⟩ := hp7
      have HX := Lib.hid (HX.out.below hb7 HX.out.lt)
      have HE1 := Lib.hid (HE1.out.below hb7)
      have HBL := Lib.hid (G.bl_trans HBL.out hb7)
      obtain ⟨rfl, rfl, rfl⟩ := rep_yes HM.out HRUN1.out hc13
      have HO13 := Lib.hid ho7
      clear hb7 ho7 hc13
      go_upto_region 7 with (refine wpList_store_row rfl 27 _ _ rfl _ (x13.arr s1) rfl rfl 27 _ (heap_alloc_new _ _) (by kernel_rfl) rfl (arr_one _ _) ?_)
      generalize hwS13 : World.setRow _ _ _ = wS13
      have hqS13 : Below w7.heap.size w7 wS13 := by rw [← hwS13]; exact below_setRow (G.bl_alloc (Below.refl _ _) _) (Nat.le_refl _) _
      have hrS13 : G.Blk wS13 w7.heap.size 27 (x13.arr s1) := by rw [← hwS13]; exact setRow_heap _ _ _ _ _ _ (heap_alloc_new _ _)
      have HX := Lib.hid (HX.out.below hqS13 HX.out.lt)
      have HE1 := Lib.hid (HE1.out.below hqS13)
      have HBL := Lib.hid (G.bl_trans HBL.out hqS13)
      have HB13 := Lib.hid hrS13
      have HR13 := Lib.hid (HO13.out.rd.below hqS13)
      generalize w7.heap.size = g13 at *
      clear hwS13 hqS13 hrS13
      go_wp2_with (first | (refine wpList_load_row_g (by rfl) 27 _ rfl g13 rfl _ (x13.arr s1) (0, 0) _ HB13.out HFS.out rfl sizeSt ?_))
      refine (copyState_any x13 s1 _ HR13.out (may_sz HM1.out)).mono ?_
      rintro e8 w8 hp8
      obtain ⟨xc, rfl, ho8, hb8⟩ := hp8
      have HX := Lib.hid (HX.out.below hb8 HX.out.lt)
      have HB13 := Lib.hid (HB13.out.below hb8 HB13.out.lt)
      have HR13 := Lib.hid (HR13.out.below hb8)
      have HBL := Lib.hid (G.bl_trans HBL.out hb8)
      have HO_xc := Lib.hid ho8.rd
      clear hb8 ho8
      go_wp2_with (fail)
      refine (changeD_any xc s1 f num b _ HO_xc.out (may_sz HM1.out) HF.out ⟨by omega, by omega⟩).mono ?_
      rintro e9 w9 hp9
      obtain ⟨A2, n2, c2, L2, k2, rfl, ho9, hb9, hc2⟩ := hp9
      have HX := Lib.hid (HX.out.below hb9 HX.out.lt)
      have HB13 := Lib.hid (HB13.out.below hb9 HB13.out.lt)
      have HR13 := Lib.hid (HR13.out.below hb9)
      have HBL := Lib.hid (G.bl_trans HBL.out hb9)
      have HE2 := Lib.hid ho9
      clear hb9 ho9
      obtain ⟨rfl, hL2⟩ := ask_yes HM1.out ⟨_, HG1.out⟩ hc2
      have HRUN2 := Lib.hid (show runE s1 (L2.map Prod.snd) = some (setF s1 f num (clampI (clampI (v + a) + b))) by rw [hL2]; exact change_run HM1.out HG1.out)
      have HFIT2 := Lib.hid (evs_fit hL2 HE2.out.len (changeEv_range HM1.out HF.out))
      have HN2 := Lib.hid (show n2 ≤ 33554432 by
        have h1 := HE2.out.len
        have h2 := congrArg List.length hL2
        rw [List.length_map] at h2
        have := changeEv_one s1 f num b
        omega)
      have HM2 := Lib.hid (setF_may HM1.out HG1.out (clamp_stat (clampI (v + a) + b))).1
      have HG2 := Lib.hid (getF_setF (v := clampI (clampI (v + a) + b)) HG1.out).1
      clear hc2 hL2
      obtain ⟨s2, hs2⟩ : ∃ s2, s2 = setF s1 f num (clampI (clampI (v + a) + b)) := ⟨_, rfl⟩
      have HS2 := Lib.hid hs2
      rw [← hs2] at HRUN2 HM2 HG2
      clear hs2
      go_wp2_with (first | (refine wpList_load_row_g (by rfl) 27 _ rfl g13 rfl _ (x13.arr s1) (0, 0) _ HB13.out HFS.out rfl sizeSt ?_))
      refine (copyState_any x13 s1 _ HR13.out (may_sz HM1.out)).mono ?_
      rintro e10 w10 hp10
      obtain ⟨xd, rfl, ho10, hb10⟩ := hp10
      have HX := Lib.hid (HX.out.below hb10 HX.out.lt)
      have HB13 := Lib.hid (HB13.out.below hb10 HB13.out.lt)
      have HR13 := Lib.hid (HR13.out.below hb10)
      have HE2 := Lib.hid (HE2.out.below hb10)
      have HBL := Lib.hid (G.bl_trans HBL.out hb10)
      have HO_xd := Lib.hid ho10.rd
      clear hb10 ho10
      go_wp2_with (fail)
      refine (replay_any xd s1 A2 n2 c2 L2 _ HO_xd.out (may_sz HM1.out) HE2.out.rd HFIT2.out HN2.out).mono ?_
      rintro e11 w11 hp11
      obtain ⟨x18, t18, at18, kk18, rfl, ho11, hb11, hc18⟩ := hp11
      have HX := Lib.hid (HX.out.below hb11 HX.out.lt)
      have HB13 := Lib.hid (HB13.out.below hb11 HB13.out.lt)
      have HR13 := Lib.hid (HR13.out.below hb11)
      have HE2 := Lib.hid (HE2.out.below hb11)
      have HBL := Lib.hid (G.bl_trans HBL.out hb11)
      obtain ⟨rfl, rfl, rfl⟩ := rep_yes HM1.out HRUN2.out hc18
      have HO18 := Lib.hid ho11
      clear hb11 ho11 hc18
      go_upto_region 9 with (refine wpList_store_row rfl 27 _ _ rfl _ (x18.arr s2) rfl rfl 27 _ (heap_alloc_new _ _) (by kernel_rfl) rfl (arr_one _ _) ?_)
      generalize hwS18 : World.setRow _ _ _ = wS18
      have hqS18 : Below w11.heap.size w11 wS18 := by rw [← hwS18]; exact below_setRow (G.bl_alloc (Below.refl _ _) _) (Nat.le_refl _) _
      have hrS18 : G.Blk wS18 w11.heap.size 27 (x18.arr s2) := by rw [← hwS18]; exact setRow_heap _ _ _ _ _ _ (heap_alloc_new _ _)
      have HX := Lib.hid (HX.out.below hqS18 HX.out.lt)
      have HB13 := Lib.hid (HB13.out.below hqS18 HB13.out.lt)
      have HR13 := Lib.hid (HR13.out.below hqS18)
      have HE2 := Lib.hid (HE2.out.below hqS18)
      have HBL := Lib.hid (G.bl_trans HBL.out hqS18)
      have HB18 := Lib.hid hrS18
      have HR18 := Lib.hid (HO18.out.rd.below hqS18)
      generalize w11.heap.size = g18 at *
      clear hwS18 hqS18 hrS18
      go_wp2_with (first | (refine wpList_load_row_g (by rfl) 27 _ rfl g rfl _ cs (0, 0) _ HX.out HFS.out rfl (by rw [HS.out]; exact sizeSt) ?_))
      refine (HCS.out _ HBL.out).mono ?_
      rintro e12 w12 hp12
      obtain ⟨xe, rfl, ho12, hb12⟩ := hp12
      have HX := Lib.hid (HX.out.below hb12 HX.out.lt)
      have HB13 := Lib.hid (HB13.out.below hb12 HB13.out.lt)
      have HB18 := Lib.hid (HB18.out.below hb12 HB18.out.lt)
      have HR13 := Lib.hid (HR13.out.below hb12)
      have HR18 := Lib.hid (HR18.out.below hb12)
      have HBL := Lib.hid (G.bl_trans HBL.out hb12)
      have HO_xe := Lib.hid ho12.rd
      clear hb12 ho12
      go_wp2_with (fail)
      refine (changeD_any xe s f num (a + b) _ HO_xe.out HSZ.out HF.out ⟨by omega, by omega⟩).mono ?_
      rintro e13 w13 hp13
      obtain ⟨A3, n3, c3, L3, k3, rfl, ho13, hb13, hc3⟩ := hp13
      have HX := Lib.hid (HX.out.below hb13 HX.out.lt)
      have HB13 := Lib.hid (HB13.out.below hb13 HB13.out.lt)
      have HB18 := Lib.hid (HB18.out.below hb13 HB18.out.lt)
      have HR13 := Lib.hid (HR13.out.below hb13)
      have HR18 := Lib.hid (HR18.out.below hb13)
      have HBL := Lib.hid (G.bl_trans HBL.out hb13)
      have HE3 := Lib.hid ho13
      clear hb13 ho13
      obtain ⟨rfl, hL3⟩ := ask_yes HM.out ⟨_, HV.out⟩ hc3
      have HRUN3 := Lib.hid (show runE s (L3.map Prod.snd) = some (setF s f num (clampI (v + (a + b)))) by rw [hL3]; exact change_run HM.out HV.out)
      have HFIT3 := Lib.hid (evs_fit hL3 HE3.out.len (changeEv_range HM.out HF.out))
      have HN3 := Lib.hid (show n3 ≤ 33554432 by
        have h1 := HE3.out.len
        have h2 := congrArg List.length hL3
        rw [List.length_map] at h2
        have := changeEv_one s f num (a + b)
        omega)
      have HM3 := Lib.hid (setF_may HM.out HV.out (clamp_stat (v + (a + b)))).1
      have HG3 := Lib.hid (getF_setF (v := clampI (v + (a + b))) HV.out).1
      clear hc3 hL3
      obtain ⟨s3, hs3⟩ : ∃ s3, s3 = setF s f num (clampI (v + (a + b))) := ⟨_, rfl⟩
      have HS3 := Lib.hid hs3
      rw [← hs3] at HRUN3 HM3 HG3
      clear hs3
      go_wp2_with (first | (refine wpList_load_row_g (by rfl) 27 _ rfl g rfl _ cs (0, 0) _ HX.out HFS.out rfl (by rw [HS.out]; exact sizeSt) ?_))
      refine (HCS.out _ HBL.out).mono ?_
      rintro e14 w14 hp14
      obtain ⟨xf, rfl, ho14, hb14⟩ := hp14
      have HX := Lib.hid (HX.out.below hb14 HX.out.lt)
      have HB13 := Lib.hid (HB13.out.below hb14 HB13.out.lt)
      have HB18 := Lib.hid (HB18.out.below hb14 HB18.out.lt)
      have HR13 := Lib.hid (HR13.out.below hb14)
      have HR18 := Lib.hid (HR18.out.below hb14)
      have HE3 := Lib.hid (HE3.out.below hb14)
      have HBL := Lib.hid (G.bl_trans HBL.out hb14)
      have HO_xf := Lib.hid ho14.rd
      clear hb14 ho14
      go_wp2_with (fail)
      refine (replay_any xf s A3 n3 c3 L3 _ HO_xf.out HSZ.out HE3.out.rd HFIT3.out HN3.out).mono ?_
      rintro e15 w15 hp15
      obtain ⟨x23, t23, at23, kk23, rfl, ho15, hb15, hc23⟩ := hp15
      have HX := Lib.hid (HX.out.below hb15 HX.out.lt)
      have HB13 := Lib.hid (HB13.out.below hb15 HB13.out.lt)
      have HB18 := Lib.hid (HB18.out.below hb15 HB18.out.lt)
      have HR13 := Lib.hid (HR13.out.below hb15)
      have HR18 := Lib.hid (HR18.out.below hb15)
      have HE3 := Lib.hid (HE3.out.below hb15)
      have HBL := Lib.hid (G.bl_trans HBL.out hb15)
      obtain ⟨rfl, rfl, rfl⟩ := rep_yes HM.out HRUN3.out hc23
      have HO23 := Lib.hid ho15
      clear hb15 ho15 hc23
      go_upto_region 11 with (refine wpList_store_row rfl 27 _ _ rfl _ (x23.arr s3) rfl rfl 27 _ (heap_alloc_new _ _) (by kernel_rfl) rfl (arr_one _ _) ?_)
      generalize hwS23 : World.setRow _ _ _ = wS23
      have hqS23 : Below w15.heap.size w15 wS23 := by rw [← hwS23]; exact below_setRow (G.bl_alloc (Below.refl _ _) _) (Nat.le_refl _) _
      have hrS23 : G.Blk wS23 w15.heap.size 27 (x23.arr s3) := by rw [← hwS23]; exact setRow_heap _ _ _ _ _ _ (heap_alloc_new _ _)
      have HX := Lib.hid (HX.out.below hqS23 HX.out.lt)
      have HB13 := Lib.hid (HB13.out.below hqS23 HB13.out.lt)
      have HB18 := Lib.hid (HB18.out.below hqS23 HB18.out.lt)
      have HR13 := Lib.hid (HR13.out.below hqS23)
      have HR18 := Lib.hid (HR18.out.below hqS23)
      have HE3 := Lib.hid (HE3.out.below hqS23)
      have HBL := Lib.hid (G.bl_trans HBL.out hqS23)
      have HB23 := Lib.hid hrS23
      have HR23 := Lib.hid (HO23.out.rd.below hqS23)
      generalize w15.heap.size = g23 at *
      clear hwS23 hqS23 hrS23
      obtain ⟨v1, hv1⟩ : ∃ v1, v1 = clampI (v + a) := ⟨_, rfl⟩
      obtain ⟨v2, hv2⟩ : ∃ v2, v2 = clampI (clampI (v + a) + b) := ⟨_, rfl⟩
      obtain ⟨v3, hv3⟩ : ∃ v3, v3 = clampI (v + (a + b)) := ⟨_, rfl⟩
      have HADD := Lib.hid (show endB2 v1 = false → endB2 v2 = false → endB2 v3 = false → s2 = s3 from fun h1 h2 h3 => by
        rw [hv1] at h1
        rw [hv2] at h2
        rw [hv3] at h3
        have k1 := atEnd_not HG1.out h1
        have k2 := atEnd_not HG2.out h2
        have k3 := atEnd_not HG3.out h3
        rw [HS2.out, HS3.out, HS1.out]
        rw [HS1.out] at k1
        rw [HS2.out, HS1.out] at k2
        rw [HS3.out] at k3
        exact change_adds HV.out k1 k2 k3)
      rw [← hv1] at HG1
      rw [← hv2] at HG2
      rw [← hv3] at HG3
      clear hv1 hv2 hv3
      have HT1 := Lib.hid (fun W (hr : RdSt W x13 s1) => (show Calls Tryz.prog 42 #[.agg (x13.arr s1), .int .i8 f, .int .i64 num] W _ from stopped_any x13 s1 f num v1 W hr (may_sz HM1.out) HG1.out))
      have HT2 := Lib.hid (fun W (hr : RdSt W x18 s2) => (show Calls Tryz.prog 42 #[.agg (x18.arr s2), .int .i8 f, .int .i64 num] W _ from stopped_any x18 s2 f num v2 W hr (may_sz HM2.out) HG2.out))
      have HT3 := Lib.hid (fun W (hr : RdSt W x23 s3) => (show Calls Tryz.prog 42 #[.agg (x23.arr s3), .int .i8 f, .int .i64 num] W _ from stopped_any x23 s3 f num v3 W hr (may_sz HM3.out) HG3.out))
      generalize endB2 v1 = E1 at HT1 HADD
      generalize endB2 v2 = E2 at HT2 HADD
      generalize endB2 v3 = E3 at HT3 HADD
      cases E1 with
      | true =>
        go_wp2_with (first | (refine wpList_load_row_g (by rfl) 27 _ rfl g13 rfl _ (x13.arr s1) (0, 0) _ HB13.out HFS.out rfl sizeSt ?_))
        refine (HT1.out _ HR13.out).mono ?_
        rintro e16 w16 ⟨rfl, hb16⟩
        have HX := Lib.hid (HX.out.below hb16 HX.out.lt)
        have HB13 := Lib.hid (HB13.out.below hb16 HB13.out.lt)
        have HB18 := Lib.hid (HB18.out.below hb16 HB18.out.lt)
        have HB23 := Lib.hid (HB23.out.below hb16 HB23.out.lt)
        have HR13 := Lib.hid (HR13.out.below hb16)
        have HR18 := Lib.hid (HR18.out.below hb16)
        have HR23 := Lib.hid (HR23.out.below hb16)
        have HBL := Lib.hid (G.bl_trans HBL.out hb16)
        clear hb16
        go_wp2_with fail
        go_ret
        exact ⟨rfl, HBL.out⟩
      | false =>
        go_wp2_with (first | (refine wpList_load_row_g (by rfl) 27 _ rfl g13 rfl _ (x13.arr s1) (0, 0) _ HB13.out HFS.out rfl sizeSt ?_))
        refine (HT1.out _ HR13.out).mono ?_
        rintro e17 w17 ⟨rfl, hb17⟩
        have HX := Lib.hid (HX.out.below hb17 HX.out.lt)
        have HB13 := Lib.hid (HB13.out.below hb17 HB13.out.lt)
        have HB18 := Lib.hid (HB18.out.below hb17 HB18.out.lt)
        have HB23 := Lib.hid (HB23.out.below hb17 HB23.out.lt)
        have HR13 := Lib.hid (HR13.out.below hb17)
        have HR18 := Lib.hid (HR18.out.below hb17)
        have HR23 := Lib.hid (HR23.out.below hb17)
        have HBL := Lib.hid (G.bl_trans HBL.out hb17)
        clear hb17
        cases E2 with
        | true =>
          go_wp2_with (first | (refine wpList_load_row_g (by rfl) 27 _ rfl g18 rfl _ (x18.arr s2) (0, 0) _ HB18.out HFS.out rfl sizeSt ?_))
          refine (HT2.out _ HR18.out).mono ?_
          rintro e18 w18 ⟨rfl, hb18⟩
          have HX := Lib.hid (HX.out.below hb18 HX.out.lt)
          have HB13 := Lib.hid (HB13.out.below hb18 HB13.out.lt)
          have HB18 := Lib.hid (HB18.out.below hb18 HB18.out.lt)
          have HB23 := Lib.hid (HB23.out.below hb18 HB23.out.lt)
          have HR13 := Lib.hid (HR13.out.below hb18)
          have HR18 := Lib.hid (HR18.out.below hb18)
          have HR23 := Lib.hid (HR23.out.below hb18)
          have HBL := Lib.hid (G.bl_trans HBL.out hb18)
          clear hb18
          go_wp2_with fail
          go_ret
          exact ⟨rfl, HBL.out⟩
        | false =>
          go_wp2_with (first | (refine wpList_load_row_g (by rfl) 27 _ rfl g18 rfl _ (x18.arr s2) (0, 0) _ HB18.out HFS.out rfl sizeSt ?_))
          refine (HT2.out _ HR18.out).mono ?_
          rintro e19 w19 ⟨rfl, hb19⟩
          have HX := Lib.hid (HX.out.below hb19 HX.out.lt)
          have HB13 := Lib.hid (HB13.out.below hb19 HB13.out.lt)
          have HB18 := Lib.hid (HB18.out.below hb19 HB18.out.lt)
          have HB23 := Lib.hid (HB23.out.below hb19 HB23.out.lt)
          have HR13 := Lib.hid (HR13.out.below hb19)
          have HR18 := Lib.hid (HR18.out.below hb19)
          have HR23 := Lib.hid (HR23.out.below hb19)
          have HBL := Lib.hid (G.bl_trans HBL.out hb19)
          clear hb19
          cases E3 with
          | true =>
            go_wp2_with (first | (refine wpList_load_row_g (by rfl) 27 _ rfl g23 rfl _ (x23.arr s3) (0, 0) _ HB23.out HFS.out rfl sizeSt ?_))
            refine (HT3.out _ HR23.out).mono ?_
            rintro e20 w20 ⟨rfl, hb20⟩
            have HX := Lib.hid (HX.out.below hb20 HX.out.lt)
            have HB13 := Lib.hid (HB13.out.below hb20 HB13.out.lt)
            have HB18 := Lib.hid (HB18.out.below hb20 HB18.out.lt)
            have HB23 := Lib.hid (HB23.out.below hb20 HB23.out.lt)
            have HR13 := Lib.hid (HR13.out.below hb20)
            have HR18 := Lib.hid (HR18.out.below hb20)
            have HR23 := Lib.hid (HR23.out.below hb20)
            have HBL := Lib.hid (G.bl_trans HBL.out hb20)
            clear hb20
            go_wp2_with fail
            go_ret
            exact ⟨rfl, HBL.out⟩
          | false =>
            have HEQ := Lib.hid (HADD.out (by simp) (by simp) (by simp))
            have HQ := Lib.hid (fun W (hr : RdSt W x18 s2) (hr' : RdSt W x23 s3) => (show Calls Tryz.prog 17 #[.agg (x18.arr s2), .agg (x23.arr s3)] W (BoolPost true W) by
              have h9 := eqState_any x18 x23 s2 s3 W hr hr' (may_sz HM2.out) (may_sz HM3.out)
              rw [decide_eq_true HEQ.out] at h9
              exact h9))
            go_wp2_with (first | (refine wpList_load_row_g (by rfl) 27 _ rfl g23 rfl _ (x23.arr s3) (0, 0) _ HB23.out HFS.out rfl sizeSt ?_))
            refine (HT3.out _ HR23.out).mono ?_
            rintro e21 w21 ⟨rfl, hb21⟩
            have HX := Lib.hid (HX.out.below hb21 HX.out.lt)
            have HB13 := Lib.hid (HB13.out.below hb21 HB13.out.lt)
            have HB18 := Lib.hid (HB18.out.below hb21 HB18.out.lt)
            have HB23 := Lib.hid (HB23.out.below hb21 HB23.out.lt)
            have HR13 := Lib.hid (HR13.out.below hb21)
            have HR18 := Lib.hid (HR18.out.below hb21)
            have HR23 := Lib.hid (HR23.out.below hb21)
            have HBL := Lib.hid (G.bl_trans HBL.out hb21)
            clear hb21
            go_wp2_with (first | (refine wpList_load_row_g (by rfl) 27 _ rfl g18 rfl _ (x18.arr s2) (0, 0) _ HB18.out HFS.out rfl sizeSt ?_) | (refine wpList_load_row_g (by rfl) 27 _ rfl g23 rfl _ (x23.arr s3) (0, 0) _ HB23.out HFS.out rfl sizeSt ?_))
            refine (HQ.out _ HR18.out HR23.out).mono ?_
            rintro e22 w22 ⟨rfl, hb22⟩
            have HX := Lib.hid (HX.out.below hb22 HX.out.lt)
            have HB13 := Lib.hid (HB13.out.below hb22 HB13.out.lt)
            have HB18 := Lib.hid (HB18.out.below hb22 HB18.out.lt)
            have HB23 := Lib.hid (HB23.out.below hb22 HB23.out.lt)
            have HR13 := Lib.hid (HR13.out.below hb22)
            have HR18 := Lib.hid (HR18.out.below hb22)
            have HR23 := Lib.hid (HR23.out.below hb22)
            have HBL := Lib.hid (G.bl_trans HBL.out hb22)
            clear hb22
            go_wp2_with (first | fail)
            refine (lives_any _).mono ?_
            rintro e23 w23 ⟨rfl, hb23⟩
            have HX := Lib.hid (HX.out.below hb23 HX.out.lt)
            have HB13 := Lib.hid (HB13.out.below hb23 HB13.out.lt)
            have HB18 := Lib.hid (HB18.out.below hb23 HB18.out.lt)
            have HB23 := Lib.hid (HB23.out.below hb23 HB23.out.lt)
            have HR13 := Lib.hid (HR13.out.below hb23)
            have HR18 := Lib.hid (HR18.out.below hb23)
            have HR23 := Lib.hid (HR23.out.below hb23)
            have HBL := Lib.hid (G.bl_trans HBL.out hb23)
            clear hb23
            go_wp2_with fail
            go_ret
            exact ⟨rfl, HBL.out⟩
  · have HMY := Lib.hid HLM.out
    rw [may_no hm] at HMY
    clear hm
    go_wp2_with (first | (refine wpList_load_row_g (by rfl) 27 _ rfl g rfl _ cs (0, 0) _ HX.out HFS.out rfl (by rw [HS.out]; exact sizeSt) ?_))
    refine (HMY.out _ HBL.out).mono ?_
    rintro e24 w24 ⟨rfl, hb24⟩
    have HX := Lib.hid (HX.out.below hb24 HX.out.lt)
    have HBL := Lib.hid (G.bl_trans HBL.out hb24)
    clear hb24
    go_wp2_with fail
    go_ret
    exact ⟨rfl, HBL.out⟩
end Go.Proofs.YtofgmijmhpmabaaGreatDoor.D

/- The contract of deed.Back. -/
import Derived.Test.YtmhklnjmeoeanaaGreatDoorDBackI
import Derived.Test.YtmhklnjmeoeanaaGreatDoorDOne
namespace Go.Proofs.YtmhklnjmeoeanaaGreatDoor.D
open Go Go.RowKit
set_option linter.unusedVariables false
set_option linter.unusedSimpArgs false
def RepPost (s : St) (o : Option St) (fa : Nat) (w : World) (e : Ending) (w' : World) : Prop :=
  ∃ (x' : SV) (t : St) (a k : Int), e = .returned (.tuple #[x'.val t, .int .i64 a, .int .i64 k]) ∧ OwnSt w' w.heap.size x' t ∧ Below w.heap.size w w' ∧
    ((k = 0 ∧ May s ∧ o = some t ∧ a = 0) ∨ (k = 11 ∧ May s ∧ o = none ∧ a = fa ∧ t = zeroSt ∧ x' = zeroSV) ∨ (k = 10 ∧ ¬ May s ∧ a = 0 ∧ t = zeroSt ∧ x' = zeroSV))
theorem repP_state {s : St} {o : Option St} {fa : Nat} {w w' : World} (h : ¬ May s) (hb : Below w.heap.size w w') : RepPost s o fa w (.returned (.tuple #[.agg zeroA, .int .i64 0, .int .i64 10])) w' := ⟨zeroSV, zeroSt, 0, 10, rfl, zero_own _ _, hb, .inr (.inr ⟨rfl, h, rfl, rfl, rfl⟩)⟩
theorem repP_event {s : St} {o : Option St} {fa k : Nat} {w w' : World} (h : May s) (ho : o = none) (hf : fa = k) (hb : Below w.heap.size w w') : RepPost s o fa w (.returned (.tuple #[.agg zeroA, .int .i64 (k : Int), .int .i64 11])) w' := ⟨zeroSV, zeroSt, k, 11, rfl, zero_own _ _, hb, .inr (.inl ⟨rfl, h, ho, by rw [hf], rfl, rfl⟩)⟩
theorem repP_yes {s t : St} {o : Option St} {fa : Nat} {w w' : World} {x' : SV} (h : May s) (ho : o = some t) (hw : OwnSt w' w.heap.size x' t) (hb : Below w.heap.size w w') : RepPost s o fa w (.returned (.tuple #[.agg (x'.arr t), .int .i64 0, .int .i64 0])) w' := ⟨x', t, 0, 0, rfl, hw, hb, .inl ⟨rfl, h, ho, rfl⟩⟩
/-- What the loop keeps. -/
structure RepI (s : St) (E : List Ev) (B : World) (g base : Nat) (k : Nat) (wr : World) : Prop where
  ex : ∃ (t : St) (x' : SV), runE s (E.take k) = some t ∧ StAt wr g base x' t
  bl : Below base B wr
set_option maxRecDepth 100000 in
set_option maxHeartbeats 8000000 in
theorem replay_any (x : SV) (s : St) (A : Option Addr) (n c : Nat) (L : List (EV × Ev)) (w : World) (h : RdSt w x s) (hz : Sz s) (hl : RdEvs w A n L) (hf : ∀ k, k < n → (L.getD k zeroP).2.Fits ∧ (L.getD k zeroP).2.order.length ≤ 33554432) (hn : n ≤ 33554432) :
    Calls Tryz.prog 24 #[x.val s, .slice A n c] w (RepPost s (runE s (L.map Prod.snd)) (failAt s (L.map Prod.snd)) w) := by
  obtain ⟨fsS, hfsS⟩ := undSt
  have HFS := Lib.hid hfsS
  obtain ⟨fsE, hfsE⟩ := undEv
  have HFE := Lib.hid hfsE
  have HMY := Lib.hid (fun W (hW : Below w.heap.size w W) => mayD_any x s W (h.below hW) hz)
  have HEV := Lib.hid hl
  have HF := Lib.hid hf
  obtain ⟨cs, hc⟩ : ∃ c, c = x.arr s := ⟨_, rfl⟩
  have HS := Lib.hid (show cs.size = 7 by rw [hc]; rfl)
  have he : x.val s = .agg cs := by rw [hc]; rfl
  rw [he] at HMY ⊢
  obtain ⟨E, hE⟩ : ∃ E, E = L.map Prod.snd := ⟨_, rfl⟩
  have HEN := Lib.hid (show E.length = n by rw [hE, List.length_map]; exact hl.len)
  have HEA := Lib.hid (show ∀ k, E.getD k zeroEv = (L.getD k zeroP).2 from fun k => by rw [hE]; exact getD_snd L k)
  rw [← hE]
  clear h hz hl hf hc he hfsS hfsE hE
  have h1 : G.Blk ((w.alloc (.cells cs 27)).alloc (.cells zeroA 27)) w.heap.size 27 cs := heap_alloc2_old w _ _
  have h2 : G.Blk ((w.alloc (.cells cs 27)).alloc (.cells zeroA 27)) (w.heap.size + 1) 27 zeroA := heap_alloc2_new w _ _
  have hbl0 : Below w.heap.size w ((w.alloc (.cells cs 27)).alloc (.cells zeroA 27)) := G.bl_alloc (G.bl_alloc (Below.refl _ _) _) _
  go_enter Tryz.func24, Tryz.ntmps24
  go_upto_region 1 with (fail)
  obtain ⟨w0, hw0⟩ : ∃ w0, w0 = (w.alloc (.cells cs 27)).alloc (.cells zeroA 27) := ⟨_, rfl⟩
  rw [← hw0] at h1 h2 hbl0
  unfold zeroA at hw0
  rw [← hw0]
  clear hw0
  have HBL0 := Lib.hid hbl0
  obtain ⟨g, hg⟩ : ∃ g, g = w.heap.size := ⟨_, rfl⟩
  have HG := Lib.hid hg
  rw [← hg] at h1 h2 ⊢
  have HC0 := Lib.hid h1
  have HR0 := Lib.hid h2
  have hl0 := h2.lt
  clear h1 h2 hbl0 hg
  go_upto_region 2 with (first | (refine wpList_load_row rfl 27 _ rfl g rfl _ cs (0, 0) _ HC0.out HFS.out rfl (by rw [HS.out]; exact sizeSt) ?_) | ((with_reducible refine (HMY.out _ HBL0.out).mono ?_); rintro e1 w1 hp1; obtain ⟨x1, t1, b1, rfl, ho1, hb1, hc1⟩ := hp1; have HO1 := Lib.hid ho1; have HBW1 := Lib.hid hb1; clear hb1 ho1) | (refine wpList_store_row rfl 27 _ _ rfl _ (x1.arr t1) rfl rfl 27 _ (heap_alloc_new _ _) (by kernel_rfl) rfl (arr_one _ _) ?_))
  have hl1 : g + 1 < w1.heap.size := by have := HBW1.out.size; omega
  have HST2 := Lib.hid (show StAt ((w1.alloc (.cells zeroA 27)).setRow w1.heap.size (x1.arr t1)) w1.heap.size w0.heap.size x1 t1 from ⟨setRow_heap _ _ _ _ _ _ (heap_alloc_new _ _), (HO1.out.below (G.bl_alloc (Below.refl _ _) _)).only (only_row (G.Blk.new w1 27 zeroA)) (by decide) (by decide) (by decide) (by decide), HBW1.out.size⟩)
  have HBL2 := Lib.hid (show Below w.heap.size w ((w1.alloc (.cells zeroA 27)).setRow w1.heap.size (x1.arr t1)) from below_setRow (G.bl_alloc (G.bl_trans HBL0.out HBW1.out) _) (by have := HG.out; omega) _)
  have HB02 := Lib.hid (show Below w0.heap.size w0 ((w1.alloc (.cells zeroA 27)).setRow w1.heap.size (x1.arr t1)) from below_setRow (G.bl_alloc HBW1.out _) HBW1.out.size _)
  obtain ⟨w2, hw2⟩ : ∃ w2, w2 = (w1.alloc (.cells zeroA 27)).setRow w1.heap.size (x1.arr t1) := ⟨_, rfl⟩
  rw [← hw2] at HST2 HBL2 HB02
  unfold zeroA at hw2
  rw [← hw2]
  clear hw2
  obtain ⟨g7, hg7⟩ : ∃ g7, g7 = w1.heap.size := ⟨_, rfl⟩
  rw [← hg7] at HST2 hl1 ⊢
  clear hg7
  rcases hc1 with ⟨rfl, hm, ht⟩ | ⟨rfl, hm, ht, hx⟩
  · subst ht
    have HM := Lib.hid hm
    have HEV0 := Lib.hid (HEV.out.below HBL0.out)
    clear hm
    go_upto_region 5 with (fail)
    go_loopw [21] (fun i wr => ∃ k : Nat, k ≤ n ∧ i = .int .i64 k ∧ RepI t1 E w0 g7 w0.heap.size k wr) (fun i _ => n - (intOf i).toNat)
    case atStart => exact ⟨0, Nat.zero_le _, rfl, ⟨⟨t1, x1, rfl, HST2.out⟩, HB02.out⟩⟩
    case round =>
      obtain ⟨k, hk, rfl, hri⟩ := hrel
      obtain ⟨⟨t, x', hrun, hst⟩, hbl⟩ := hri
      have HRUN := Lib.hid hrun
      have HST := Lib.hid hst
      have HBL := Lib.hid hbl
      have HMT := Lib.hid (run_may HM.out hrun)
      have HRR := Lib.hid (HR0.out.below hbl HR0.out.lt)
      have hk0 : (0 : Int) ≤ k := by omega
      clear hrun hst
      by_cases hlt : k < n
      · have hkI : (k : Int) < n := by omega
        obtain ⟨hfit, hlen⟩ := HF.out k hlt
        obtain ⟨b, off, hA, hbs, hrd, hre, _⟩ := ev_whole (HEV0.out.below hbl) hlt
        subst hA
        obtain ⟨p, hp⟩ : ∃ p, p = L.getD k zeroP := ⟨_, rfl⟩
        rw [← hp] at hrd hre hfit hlen
        have HEK := Lib.hid (show E.getD k zeroEv = p.2 by rw [HEA.out, hp])
        obtain ⟨ce, hce⟩ : ∃ ce, ce = p.1.arr p.2 := ⟨_, rfl⟩
        rw [← hce] at hrd
        have HCE := Lib.hid hce
        have HRD := Lib.hid hrd
        have HRE := Lib.hid hre
        have HFIT := Lib.hid hfit
        have HLEN := Lib.hid hlen
        have HSE := Lib.hid (show ce.size = 12 by rw [hce]; rfl)
        have HON := Lib.hid (show ce.all (·.oneCell') = true by rw [hce]; simp [EV.arr, Value.oneCell'])
        clear hrd hre hfit hlen hp hce hbl
        go_upto_region 7 with (first | (refine wpList_load_run (by rfl) 37 _ rfl b (off + k * 12) rfl ce HRD.out ?_) | (refine wpList_store_row rfl 37 _ _ rfl _ ce rfl rfl 37 _ (heap_alloc_new _ _) (by rw [HSE.out]; exact sizeEv) (by rw [HSE.out]; rfl) HON.out ?_))
        generalize hwA : World.setRow _ _ _ = wA
        have hqA : Below wr.heap.size wr wA := by rw [← hwA]; exact below_setRow (G.bl_alloc (Below.refl _ _) _) (Nat.le_refl _) _
        have hrA : G.Blk wA wr.heap.size 37 ce := by rw [← hwA]; exact setRow_heap _ _ _ _ _ _ (heap_alloc_new _ _)
        have HBA := Lib.hid (show Below w0.heap.size w0 wA from G.bl_trans HBL.out hqA)
        have HSTA := Lib.hid (HST.out.below hqA)
        have HREA := Lib.hid (RdEv.below HRE.out hqA)
        have HRA := Lib.hid hrA
        have hgE := HRA.out.lt
        have HSP := Lib.hid (step_any g7 w0.heap.size x' t wA p.1 p.2 false HSTA.out HMT.out HREA.out HFIT.out HLEN.out)
        rw [show p.1.val p.2 = .agg ce by rw [HCE.out]; rfl] at HSP
        generalize wr.heap.size = gE at *
        clear hwA hqA hrA
        go_wp2_with (refine wpList_load_row rfl 37 _ rfl gE rfl _ ce (0, 0) _ HRA.out HFE.out rfl (by rw [HSE.out]; exact sizeEv) ?_)
        refine (HSP.out).mono ?_
        rintro e3 w3 hp3
        obtain ⟨b3, rfl, hb3, hc3⟩ := hp3
        replace hb3 := hb3.below
        have HB3 := Lib.hid (show Below w0.heap.size w0 w3 from HBA.out.trans hb3)
        clear hb3
        rcases hc3 with ⟨rfl, t3, x3, ht3, hs3⟩ | ⟨rfl, ht3⟩
        · have HI3 := Lib.hid (show RepI t1 E w0 g7 w0.heap.size (k + 1) w3 from ⟨⟨t3, x3, run_yes (by rw [HEN.out]; exact hlt) HEK.out HRUN.out ht3, hs3⟩, HB3.out⟩)
          clear ht3 hs3
          go_wp2_with fail
          go_roundw
          case rel => exact ⟨k + 1, by omega, by go_num, HI3.out⟩
          case measure => simp [intOf]; omega
        · obtain ⟨hn1, hn2⟩ := run_no (by rw [HEN.out]; exact hlt) HEK.out HRUN.out ht3
          have HN1 := Lib.hid hn1
          have HN2 := Lib.hid hn2
          have HR3 := Lib.hid (HR0.out.below HB3.out HR0.out.lt)
          clear ht3 hn1 hn2
          go_wp2_with (first | (refine build_to zeroA rfl 27 _ rfl _ (by kernel_rfl) zeroA_b ?_) | (refine wpList_store_row rfl 27 _ _ rfl (g + 1) zeroA rfl rfl 27 _ HR3.out (by kernel_rfl) (by kernel_rfl) (by kernel_rfl) ?_))
          refine bodyPost_ret (v := .tuple #[.agg zeroA, .int .i64 (k : Int), .int .i64 11]) (st_results3 rfl _ _ (g + 1) _ _ _ rfl rfl rfl (setRow_heap _ _ _ _ _ _ HR3.out) rfl) rfl (repP_event HM.out HN1.out HN2.out ?_)
          exact below_setRow (G.bl_trans HBL0.out HB3.out) (by have := HG.out; omega) _
      · have hkI : ¬ (k : Int) < n := by omega
        obtain rfl : k = n := by omega
        have HEND := Lib.hid (show runE t1 E = some t by
          have h9 := HRUN.out
          rwa [List.take_of_length_le (by rw [HEN.out]; omega)] at h9)
        go_wp2_with (first | (refine wpList_load_row rfl 27 _ rfl g7 rfl _ (x'.arr t) (0, 0) _ HST.out.blk HFS.out rfl sizeSt ?_) | (refine wpList_store_row rfl 27 _ _ rfl (g + 1) (x'.arr t) rfl rfl 27 _ HRR.out (by kernel_rfl) rfl (arr_one _ _) ?_))
        refine bodyPost_ret (v := .tuple #[.agg (x'.arr t), .int .i64 0, .int .i64 0]) (st_results3 rfl _ _ (g + 1) _ _ _ rfl rfl rfl (setRow_heap _ _ _ _ _ _ HRR.out) rfl) rfl (repP_yes HM.out HEND.out ?_ ?_)
        · exact (HST.out.own.ge (HBL0.out.size)).only (only_row HRR.out) (by decide) (by decide) (by decide) (by decide)
        · exact below_setRow (G.bl_trans HBL0.out HBL.out) (by have := HG.out; omega) _
  · have HM := Lib.hid hm
    have HR2 := Lib.hid (HR0.out.below HB02.out HR0.out.lt)
    clear hm ht hx
    go_wp2_with (first | (refine build_to zeroA rfl 27 _ rfl _ (by kernel_rfl) zeroA_b ?_) | (refine wpList_store_row rfl 27 _ _ rfl (g + 1) zeroA rfl rfl 27 _ HR2.out (by kernel_rfl) (by kernel_rfl) (by kernel_rfl) ?_))
    refine bodyPost_ret (v := .tuple #[.agg zeroA, .int .i64 0, .int .i64 10]) (st_results3 rfl _ _ (g + 1) _ _ _ rfl rfl rfl (setRow_heap _ _ _ _ _ _ HR2.out) rfl) rfl (repP_state HM.out ?_)
    exact below_setRow HBL2.out (by have := HG.out; omega) _
end Go.Proofs.YtmhklnjmeoeanaaGreatDoor.D
namespace Go.Proofs.YtmhklnjmeoeanaaGreatDoor.D
open Go Go.RowKit
set_option linter.unusedVariables false
set_option linter.unusedSimpArgs false
attribute [local go_sem] Oper.semAt_some
theorem four_boxes (w : World) (t u v : TypeId) (a b c d : Array Value) (W : World) (hW : W = (((w.alloc (.cells a t)).alloc (.cells b t)).alloc (.cells c u)).alloc (.cells d v)) : G.Blk W w.heap.size t a ∧ G.Blk W (w.heap.size + 1) t b ∧ G.Blk W (w.heap.size + 1 + 1) u c ∧ G.Blk W (w.heap.size + 1 + 1 + 1) v d ∧ Below w.heap.size w W := by
  subst hW
  have z1 : (w.alloc (.cells a t)).heap.size = w.heap.size + 1 := by simp
  have z2 : ((w.alloc (.cells a t)).alloc (.cells b t)).heap.size = w.heap.size + 1 + 1 := by simp
  have z3 : (((w.alloc (.cells a t)).alloc (.cells b t)).alloc (.cells c u)).heap.size = w.heap.size + 1 + 1 + 1 := by simp
  have h1 := G.Blk.new w t a
  have h2 := G.Blk.new (w.alloc (.cells a t)) t b
  rw [z1] at h2
  have h3 := G.Blk.new ((w.alloc (.cells a t)).alloc (.cells b t)) u c
  rw [z2] at h3
  have h4 := G.Blk.new (((w.alloc (.cells a t)).alloc (.cells b t)).alloc (.cells c u)) v d
  rw [z3] at h4
  have k1 := G.bl_alloc (Below.refl (w.alloc (.cells a t)).heap.size _) (.cells b t)
  have k2 := G.bl_alloc (Below.refl ((w.alloc (.cells a t)).alloc (.cells b t)).heap.size _) (.cells c u)
  have k3 := G.bl_alloc (Below.refl (((w.alloc (.cells a t)).alloc (.cells b t)).alloc (.cells c u)).heap.size _) (.cells d v)
  have q1 := h1.below k1 h1.lt
  have q2 := q1.below k2 q1.lt
  have r2 := h2.below k2 h2.lt
  exact ⟨q2.below k3 q2.lt, r2.below k3 r2.lt, h3.below k3 h3.lt, h4, G.bl_alloc (G.bl_alloc (G.bl_alloc (G.bl_alloc (Below.refl _ _) _) _) _) _⟩
/-- Events taken back one behind the other, by their places. -/
noncomputable def undoN (E : List Ev) (s : St) (l : List Nat) : Option St := l.foldl (fun o k => o.bind fun t => undoE t (E.getD k zeroEv)) (some s)
theorem undoN_nil (E : List Ev) (s : St) : undoN E s [] = some s := rfl
theorem undoN_snoc (E : List Ev) (s : St) (l : List Nat) (k : Nat) : undoN E s (l ++ [k]) = (undoN E s l).bind fun t => undoE t (E.getD k zeroEv) := by simp [undoN]
theorem undoN_yes {E : List Ev} {s t u : St} {l : List Nat} {k : Nat} (h : undoN E s l = some t) (hu : undoE t (E.getD k zeroEv) = some u) : undoN E s (l ++ [k]) = some u := by rw [undoN_snoc, h]; exact hu
theorem undoN_may {E : List Ev} {s : St} (hm : May s) : ∀ (l : List Nat) (o : Option St), (∀ t, o = some t → May t) → ∀ t, l.foldl (fun o k => o.bind fun t => undoE t (E.getD k zeroEv)) o = some t → May t
  | [], o, ho, t, h => ho t h
  | k :: l, o, ho, t, h => undoN_may hm l _ (fun u hu => by
      cases o with
      | none => cases hu
      | some v => exact undo_may hu (ho v rfl)) t h
theorem undoN_back {E : List Ev} {s : St} {N : Nat} (hN : E.length = N) : ∀ r, r ≤ N → undoN E s (dnr N (N - r)) = backL s (E.drop (N - r))
  | 0, _ => by
    rw [Nat.sub_zero, dnr_all, List.drop_of_length_le (by omega)]
    rfl
  | r + 1, h => by
    have ih := undoN_back (s := s) hN r (by omega)
    have hk : N - (r + 1) < N := by omega
    rw [dnr_next hk, undoN_snoc, show N - (r + 1) + 1 = N - r by omega, ih]
    have hd : E.drop (N - (r + 1)) = E.getD (N - (r + 1)) zeroEv :: E.drop (N - r) := by
      rw [List.drop_eq_getElem_cons (by omega), show N - (r + 1) + 1 = N - r by omega]
      congr 1
      rw [List.getD_eq_getElem?_getD, List.getElem?_eq_getElem (by omega)]
      rfl
    rw [hd, backL_cons]
    cases backL s (E.drop (N - r)) <;> rfl
theorem undoN_all {E : List Ev} {s t : St} {N : Nat} (hN : E.length = N) (h : undoN E s (dnr N 0) = some t) : backL s E = some t := by
  have h1 := undoN_back (s := s) hN N (Nat.le_refl _)
  rw [Nat.sub_self, h, List.drop_zero] at h1
  exact h1.symm
theorem undoN_from {E : List Ev} {s t : St} {N k : Nat} (hN : E.length = N) (hk : k < N) (h : undoN E s (dnr N (k + 1)) = some t) : backL s (E.drop (k + 1)) = some t := by
  have h1 := undoN_back (s := s) hN (N - (k + 1)) (Nat.sub_le _ _)
  rw [show N - (N - (k + 1)) = k + 1 by omega, h] at h1
  exact h1.symm
theorem own_noncell {w w' : World} {row : Option Nat} {base e sz n : Nat} {v : Value} {xs : List Value} (ho : w.ownsRow base e sz v n xs) (hg : w.grownBy w' row) (hr : ∀ r, row = some r → ∃ o : Obj, w.heap[r]? = some o ∧ o.isCells = false) : w'.ownsRow base e sz v n xs := by
  refine ho.kept hg ?_
  cases hv : v.ownBlock with
  | none => exact .inl rfl
  | some g =>
    refine .inr fun hh => ?_
    obtain ⟨c1, h1⟩ := G.ownsRow.block_e ho hv
    obtain ⟨o, h2, h3⟩ := hr g hh.symm
    rw [h1] at h2
    cases h2
    cases h3
theorem blk_noncell {w w' : World} {row : Option Nat} {g : Nat} {t : TypeId} {cs : Array Value} (hb : G.Blk w g t cs) (hg : w.grownBy w' row) (hr : ∀ r, row = some r → ∃ o : Obj, w.heap[r]? = some o ∧ o.isCells = false) : G.Blk w' g t cs :=
  (grownBy_keeps_cells hg hr hb rfl).trans hb
theorem StAt.noncell {w w' : World} {row : Option Nat} {g base : Nat} {x : SV} {s : St} (h : StAt w g base x s) (hg : w.grownBy w' row) (hr : ∀ r, row = some r → ∃ o : Obj, w.heap[r]? = some o ∧ o.isCells = false) : StAt w' g base x s :=
  ⟨blk_noncell h.blk hg hr, ⟨own_noncell h.own.p hg hr, own_noncell h.own.c hg hr, own_noncell h.own.z hg hr, fun i hi => own_noncell (h.own.rows i hi) hg hr, h.own.apart⟩, h.ge⟩
theorem st_results3c {fn : Func} {p q r : Tmp} (h : fn.results = #[.cell p 27, .cell q 3, .cell r 31]) (tmps : Array Value) (w : World) (g1 g2 g3 : Nat) (cs : Array Value) (v u : Int) (hp : tmps.getD p undef = .pointer (some ⟨g1, 0, none⟩)) (hq : tmps.getD q undef = .pointer (some ⟨g2, 0, none⟩)) (hr : tmps.getD r undef = .pointer (some ⟨g3, 0, none⟩))
    (h1 : G.Blk w g1 27 cs) (hs : cs.size = 7) (h2 : G.Blk w g2 3 #[.int .i64 v]) (h3 : G.Blk w g3 31 #[.int .i64 u]) :
    (results fn tmps).run Tryz.prog w = .ok (.tuple #[.agg cs, .int .i64 v, .int .i64 u]) w := by
  have hp' : tmps[p]?.getD undef = .pointer (some ⟨g1, 0, none⟩) := by simpa using hp
  have hq' : tmps[q]?.getD undef = .pointer (some ⟨g2, 0, none⟩) := by simpa using hq
  have hr' : tmps[r]?.getD undef = .pointer (some ⟨g3, 0, none⟩) := by simpa using hr
  have c2 := h2.cell 0
  have c3 := h3.cell 0
  simp at c2 c3
  have l2 : (loadVar 3 ⟨g2, 0, none⟩).run Tryz.prog w = .ok (.int .i64 v) w := by simp [go_sem, c2]
  have l3 : (loadVar 31 ⟨g3, 0, none⟩).run Tryz.prog w = .ok (.int .i64 u) w := by simp [go_sem, c3]
  simp [results, h, hp', hq', hr', asAddr, run_st h1 hs, l2, l3]
theorem blk_set_other {w : World} {g g2 i : Nat} {t : TypeId} {cs : Array Value} {u : Value} (h : G.Blk w g t cs) (hne : g ≠ g2) : G.Blk (w.setCell ⟨g2, i, none⟩ u) g t cs := (Below.heap_setCell w ⟨g2, i, none⟩ u g hne).trans h
/-- The three results stored. -/
theorem stored3 {w : World} {g : Nat} {a b : Value} {zs : Array Value} (h0 : G.Blk w (g + 1) 27 zs) (cs : Array Value) (h1 : G.Blk w (g + 1 + 1) 3 #[a]) (h2 : G.Blk w (g + 1 + 1 + 1) 31 #[b]) (u v : Int) :
    G.Blk (((w.setRow (g + 1) cs).setCell ⟨g + 1 + 1, 0, none⟩ (.int .i64 u)).setCell ⟨g + 1 + 1 + 1, 0, none⟩ (.int .i64 v)) (g + 1) 27 cs ∧
    G.Blk (((w.setRow (g + 1) cs).setCell ⟨g + 1 + 1, 0, none⟩ (.int .i64 u)).setCell ⟨g + 1 + 1 + 1, 0, none⟩ (.int .i64 v)) (g + 1 + 1) 3 #[.int .i64 u] ∧
    G.Blk (((w.setRow (g + 1) cs).setCell ⟨g + 1 + 1, 0, none⟩ (.int .i64 u)).setCell ⟨g + 1 + 1 + 1, 0, none⟩ (.int .i64 v)) (g + 1 + 1 + 1) 31 #[.int .i64 v] := by
  have k1 : G.Blk (w.setRow (g + 1) cs) (g + 1 + 1) 3 #[a] := (setRow_other _ _ _ _ (by omega)).trans h1
  have k2 : G.Blk (w.setRow (g + 1) cs) (g + 1 + 1 + 1) 31 #[b] := (setRow_other _ _ _ _ (by omega)).trans h2
  have k0 : G.Blk (w.setRow (g + 1) cs) (g + 1) 27 cs := setRow_heap _ _ _ _ _ _ h0
  exact ⟨blk_set_other (blk_set_other k0 (by omega)) (by omega), blk_set_other (k1.put 0 _) (by omega), (blk_set_other k2 (by omega)).put 0 _⟩
theorem stored3_below {w w0 : World} {g n : Nat} {cs : Array Value} {u v : Value} (h : Below n w0 w) (hg : n ≤ g) : Below n w0 (((w.setRow (g + 1) cs).setCell ⟨g + 1 + 1, 0, none⟩ u).setCell ⟨g + 1 + 1 + 1, 0, none⟩ v) :=
  ((below_setRow h (by omega) _).setCell (p := ⟨g + 1 + 1, 0, none⟩) (by show n ≤ g + 1 + 1; omega) _).setCell (p := ⟨g + 1 + 1 + 1, 0, none⟩) (by show n ≤ g + 1 + 1 + 1; omega) _
theorem stored3_keeps {w : World} {g : Nat} {cs zs : Array Value} {u v : Value} (h0 : G.Blk w (g + 1) 27 zs) : KeepsOthers w (((w.setRow (g + 1) cs).setCell ⟨g + 1 + 1, 0, none⟩ u).setCell ⟨g + 1 + 1 + 1, 0, none⟩ v) := by
  refine (KeepsOthers.trans (⟨(below_setRow (Below.refl 0 w) (Nat.zero_le _) cs).size, fun k o hk ho => ?_⟩ : KeepsOthers w (w.setRow (g + 1) cs)) (KeepsOthers.setCell _ _ _)).trans (KeepsOthers.setCell _ _ _)
  refine (setRow_other _ _ _ _ ?_).trans hk
  intro e
  subst e
  unfold G.Blk at h0
  rw [h0] at hk
  cases hk
  cases ho
theorem own_high {w w' : World} {base e sz n : Nat} {v : Value} {xs : List Value} (ho : w.ownsRow base e sz v n xs) (hk : ∀ k, base ≤ k → w'.heap[k]? = w.heap[k]?) : w'.ownsRow base e sz v n xs := by
  obtain ⟨h1, h2⟩ := ho
  refine ⟨h1, ?_⟩
  rcases h2 with hn | ⟨g, cap, cur, rfl, hbg, hg, rest⟩
  · exact .inl hn
  · exact .inr ⟨g, cap, cur, rfl, hbg, (hk g hbg).trans hg, rest⟩
theorem OwnSt.high {w w' : World} {base : Nat} {x : SV} {s : St} (h : OwnSt w base x s) (hk : ∀ k, base ≤ k → w'.heap[k]? = w.heap[k]?) : OwnSt w' base x s :=
  ⟨own_high h.p hk, own_high h.c hk, own_high h.z hk, fun i hi => own_high (h.rows i hi) hk, h.apart⟩
theorem stored3_high {w : World} {g : Nat} {cs : Array Value} {u v : Value} (k : Nat) (hk : g + 1 + 1 + 1 < k) : (((w.setRow (g + 1) cs).setCell ⟨g + 1 + 1, 0, none⟩ u).setCell ⟨g + 1 + 1 + 1, 0, none⟩ v).heap[k]? = w.heap[k]? :=
  ((Below.heap_setCell _ ⟨g + 1 + 1 + 1, 0, none⟩ v k (by show k ≠ g + 1 + 1 + 1; omega)).trans (Below.heap_setCell _ ⟨g + 1 + 1, 0, none⟩ u k (by show k ≠ g + 1 + 1; omega))).trans (setRow_other _ _ _ _ (by omega))
theorem OwnSt.noncell2 {w : World} {base D : Nat} {x : SV} {s : St} {o' : Obj} (h : OwnSt w base x s) (hD : w.heap[D]? = some (.deferred (some []))) : OwnSt (w.putObj D o') base x s := by
  have hr : ∀ r, some D = some r → ∃ o : Obj, w.heap[r]? = some o ∧ o.isCells = false := fun r e => by cases e; exact ⟨_, hD, rfl⟩
  have hg := grownBy_putObj' w D o'
  exact ⟨own_noncell h.p hg hr, own_noncell h.c hg hr, own_noncell h.z hg hr, fun i hi => own_noncell (h.rows i hi) hg hr, h.apart⟩
theorem blk_put_obj {w : World} {g D : Nat} {t : TypeId} {cs : Array Value} {o : Obj} (h : G.Blk w g t cs) (hne : g ≠ D) : G.Blk (w.putObj D o) g t cs := (World.putObj_heap_other hne).trans h
theorem below_put_obj {n D : Nat} {w0 w : World} {o : Obj} (h : Below n w0 w) (hD : n ≤ D) : Below n w0 (w.putObj D o) :=
  ⟨h.os, h.tape, h.output, by rw [World.putObj_size]; exact h.size, fun k hk => (World.putObj_heap_other (by omega)).trans (h.block k hk)⟩
/-- What a round of Back keeps. -/
structure BkI (s : St) (E : List Ev) (w0 : World) (g7 Bs g : Nat) (A : Option Addr) (N c : Nat) (pre : List Nat) (W : World) : Prop where
  st : ∃ (t : St) (x' : SV), undoN E s pre = some t ∧ StAt W g7 w0.heap.size x' t
  bl : Below w0.heap.size w0 W
  bs : G.Blk W Bs 30 #[.slice A N c]
theorem BkI.own {s : St} {E : List Ev} {w0 : World} {g7 Bs g : Nat} {A : Option Addr} {N c B : Nat} (hB : w0.heap.size ≤ B) : OwnFrom B (BkI s E w0 g7 Bs g A N c) := fun pre W W' row h hg hr => by
  have hr2 : ∀ r, row = some r → ∃ o : Obj, W.heap[r]? = some o ∧ o.isCells = false := fun r e => (hr r e).2
  obtain ⟨t, x', h1, h2⟩ := h.st
  exact ⟨⟨t, x', h1, h2.noncell hg hr2⟩, h.bl.grown hg h.bl.size (fun k e => Nat.le_trans hB (hr k e).1), blk_noncell h.bs hg hr2⟩
theorem BkI.below {s : St} {E : List Ev} {w0 : World} {g7 Bs g : Nat} {A : Option Addr} {N c : Nat} {pre : List Nat} {W W' : World} (h : BkI s E w0 g7 Bs g A N c pre W) (hb : Below W.heap.size W W') : BkI s E w0 g7 Bs g A N c pre W' := by
  obtain ⟨t, x', h1, h2⟩ := h.st
  exact ⟨⟨t, x', h1, h2.below hb⟩, G.bl_trans h.bl hb, h.bs.below hb h.bs.lt⟩
theorem kpB_below {n Bs : Nat} {W W' : World} (hb : Below W.heap.size W W') (hn : n ≤ W.heap.size) (hs : Bs < W.heap.size) : KpB n Bs W W' := ⟨hb.mono hn, hb.block Bs hs⟩
/-- .. and its loop variable in a box. -/
structure BkI1 (s : St) (E : List Ev) (w0 : World) (g7 Bs g : Nat) (A : Option Addr) (N c : Nat) (ce : Array Value) (gE : Nat) (pre : List Nat) (W : World) : Prop where
  i : BkI s E w0 g7 Bs g A N c pre W
  e : G.Blk W gE 37 ce
  ne : w0.heap.size ≤ gE
/-- What a round of Back that has failed leaves. -/
structure BkX (s : St) (E : List Ev) (w0 w : World) (g : Nat) (pre : List Nat) (W : World) : Prop where
  no : ∃ ini k t, pre = ini ++ [k] ∧ undoN E s ini = some t ∧ undoE t (E.getD k zeroEv) = none ∧ G.Blk W (g + 1) 27 zeroA ∧ G.Blk W (g + 1 + 1) 3 #[.int .i64 (k : Nat)] ∧ G.Blk W (g + 1 + 1 + 1) 31 #[.int .i64 11]
  bl : Below w.heap.size w W
theorem BkX.own {s : St} {E : List Ev} {w0 w : World} {g B : Nat} (hB : w.heap.size ≤ B) : OwnFrom B (BkX s E w0 w g) := fun pre W W' row h hg hr => by
  have hr2 : ∀ r, row = some r → ∃ o : Obj, W.heap[r]? = some o ∧ o.isCells = false := fun r e => (hr r e).2
  obtain ⟨ini, k, t, h1, h2, h3, h4, h5, h6⟩ := h.no
  exact ⟨⟨ini, k, t, h1, h2, h3, blk_noncell h4 hg hr2, blk_noncell h5 hg hr2, blk_noncell h6 hg hr2⟩, h.bl.grown hg h.bl.size (fun k e => Nat.le_trans hB (hr k e).1)⟩
end Go.Proofs.YtmhklnjmeoeanaaGreatDoor.D

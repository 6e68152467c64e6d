/- The contracts of tableauref00.WideEvent and SpareEvent. Printed by gen_wideev.py. -/
import Derived.Test.YtofgmijmhpmabaaGreatDoorDShuf
import Derived.Test.YtofgmijmhpmabaaGreatDoorDPlayers
import Derived.Test.YtofgmijmhpmabaaGreatDoorDCopySt
namespace Go.Proofs.YtofgmijmhpmabaaGreatDoor.D
open Go Go.RowKit
set_option linter.unusedVariables false
set_option linter.unusedSimpArgs false
def markI (i : Nat) : Int := 1048576 * 9 + (i : Int) + 1
def marksI (n : Nat) : List Int := (List.range 64).map fun j => markI (n + j)
def wideI (zs : List Int) : List Int := zs ++ marksI zs.length
theorem wideI_length (zs : List Int) : (wideI zs).length = zs.length + 64 := by simp [wideI, marksI]
theorem wideI_lo (zs : List Int) {k : Nat} (h : k < zs.length) : (wideI zs).getD k 0 = zs.getD k 0 := by
  unfold wideI
  rw [List.getD_eq_getElem?_getD, List.getD_eq_getElem?_getD, List.getElem?_append_left h]
theorem wideI_hi (zs : List Int) {k : Nat} (h : zs.length ≤ k) (h2 : k < zs.length + 64) : (wideI zs).getD k 0 = markI k := by
  unfold wideI marksI
  rw [List.getD_eq_getElem?_getD, List.getElem?_append_right h]
  have h3 : k - zs.length < 64 := by omega
  have h4 : zs.length + (k - zs.length) = k := by omega
  simp [h3, h4]
def WideIPost (zs : List Int) (w : World) (e : Ending) (w' : World) : Prop :=
  e = .returned (.slice (some ⟨w.heap.size, 0, none⟩) zs.length (zs.length + 64)) ∧
    w'.ownsRow w.heap.size 3 1 (.slice (some ⟨w.heap.size, 0, none⟩) (zs.length + 64) (zs.length + 64)) (zs.length + 64) ((wideI zs).map (Value.int .i64)) ∧ Below w.heap.size w w'
theorem cells_getDI {zs : List Int} {k : Nat} {kd : IntKind} (h : k < zs.length) : (zs.map (Value.int kd))[k]? = some (.int kd (zs.getD k 0)) := by
  simp [List.getD_eq_getElem?_getD, List.getElem?_eq_getElem h]
set_option maxHeartbeats 1000000 in
theorem wideInts_any (A : Option Addr) (c : Nat) (zs : List Int) (w : World) (hx : G.RdS w A 1 zs.length (zs.map (Value.int .i64))) (hn : zs.length ≤ 33554432) :
    Calls Tryz.prog 43 #[.slice A zs.length c] w (WideIPost zs w) := by
  obtain ⟨i0, hi, hz0, hz1, hz2⟩ := info_parts infoInt
  have HX := Lib.hid hx
  obtain ⟨n, hn'⟩ : ∃ n, n = zs.length := ⟨_, rfl⟩
  rw [← hn'] at hn ⊢
  have HN := Lib.hid hn'
  clear hx hn'
  go_enter Tryz.func43, Tryz.ntmps43
  go_wp2_with (refine wpList_make_full _ rfl _ _ 28 rfl w.heap.size 3 i0 _ 1 Tryz.underlying28 hi hz0 hz1 .i64 .i64 _ _ (n + 64) rfl rfl (by simp) (by simp) (by rw [hz2]; omega) (by unfold maxLen; omega) (Nat.le_refl _) ?_; intro w1 ho1 hg1)
  have hb1 : Below w.heap.size w w1 := (Below.refl _ _).grown hg1 (Nat.le_refl _) (by simp)
  have hz : (madeCells (Value.int .i64 0).cells ((n + 64) * 1)).toList = List.replicate (n + 64) (.int .i64 0) := by
    rw [show (Value.int .i64 0).cells = #[.int .i64 0] from rfl, toList_madeCells_one, Nat.mul_one]
  rw [hz] at ho1
  have HO1 := Lib.hid ho1
  clear hz ho1 hg1
  go_wp2
  go_loopw [4] (fun i wr => ∃ k : Nat, k ≤ n + 64 ∧ i = .int .i64 k ∧ Below w.heap.size w wr ∧ wr.ownsRow w.heap.size 3 1 (.slice (some ⟨w.heap.size, 0, none⟩) (n + 64) (n + 64)) (n + 64) (G.mid ((wideI zs).map (Value.int .i64)) (List.replicate (n + 64) (.int .i64 0)) k)) (fun i _ => n + 64 - (intOf i).toNat)
  case atStart => exact ⟨0, Nat.zero_le _, rfl, hb1, by rw [G.mid_zero]; exact HO1.out⟩
  case round =>
    obtain ⟨k, hk, rfl, hbel, hown⟩ := hrel
    have hF : ((wideI zs).map (Value.int .i64)).length = n + 64 := by rw [List.length_map, wideI_length, HN.out]
    have hZ : (List.replicate (n + 64) (Value.int .i64 0)).length = n + 64 := by simp
    by_cases hlt : k < n + 64
    · have hc0 := G.own_some hown k (by omega)
      obtain ⟨y, hc0⟩ := hc0
      have hf0 := hown.frozenAt k
      obtain ⟨u, hu⟩ : ∃ u, u = (wideI zs).getD k 0 := ⟨_, rfl⟩
      have hst := hown.stored k (.int .i64 u)
      rw [G.mid_set hF hZ hlt (by rw [cells_getDI (by rw [wideI_length, ← HN.out]; exact hlt), hu])] at hst
      have HST := Lib.hid hst
      have hB := Lib.hid (G.bl_set hbel (p := ⟨w.heap.size, k, none⟩) (Nat.le_refl _) (.int .i64 u))
      have h0 : (k : Int) < n + 64 := by omega
      have h1 : (0 : Int) ≤ k := by omega
      by_cases hkn : k < n
      · have hu2 : u = zs.getD k 0 := by rw [hu]; exact wideI_lo zs (by rw [← HN.out]; exact hkn)
        obtain ⟨b, off, hA, hr⟩ := (HX.out.below hbel).2 (by rw [← HN.out]; omega)
        have hc := hr.int (j := k) (by rw [← HN.out]; exact hkn)
        rw [← hu2] at hc
        subst hA
        clear hr hst hu hu2 hown hF hZ
        go_wp2
        go_roundw
        case rel => exact ⟨k + 1, by omega, by go_num, hB.out, HST.out.1⟩
        case measure => simp [intOf]; omega
      · have hu2 : markI k = u := by rw [hu]; exact (wideI_hi zs (by rw [← HN.out]; omega) (by rw [← HN.out]; exact hlt)).symm
        have HNUM := Lib.hid (show Calls Tryz.prog 98 #[.int .i64 9, .int .i64 (k : Int)] wr _ from num_any 9 k wr (by omega) (by omega))
        unfold markI at hu2
        rw [show (1048576 * ((9 : Nat) : Int) + (k : Int) + 1) = u from hu2] at HNUM
        clear hst hu hu2 hown hF hZ
        go_wp2_with (go_at_call 98; (with_reducible refine (HNUM.out).mono ?_); rintro e2 w2 ⟨rfl, rfl⟩)
        go_roundw
        case rel => exact ⟨k + 1, by omega, by go_num, hB.out, HST.out.1⟩
        case measure => simp [intOf]; omega
    · have hkn : k = n + 64 := by omega
      have hown' : wr.ownsRow w.heap.size 3 1 (.slice (some ⟨w.heap.size, 0, none⟩) (n + 64) (n + 64)) (n + 64) ((wideI zs).map (Value.int .i64)) := by
        rw [hkn, G.mid_full hF hZ] at hown; exact hown
      have HO := Lib.hid hown'
      have h1 : ¬ (k : Int) < n + 64 := by omega
      clear hown hown' hF hZ
      go_wp2
      go_ret
      exact ⟨by rw [← HN.out]; rfl, by rw [← HN.out]; exact HO.out, hbel⟩
set_option maxHeartbeats 1000000 in
theorem spareInts_any (g : Nat) (zs : List Int) (w : World) (hr : G.RdV w g 0 ((wideI zs).map (Value.int .i64))) (hn : zs.length ≤ 33554432) :
    Calls Tryz.prog 47 #[.slice (some ⟨g, 0, none⟩) zs.length (zs.length + 64)] w fun e w' => e = .returned (.bool true) ∧ w = w' := by
  have HR := Lib.hid hr
  obtain ⟨n, hn'⟩ : ∃ n, n = zs.length := ⟨_, rfl⟩
  rw [← hn'] at hn ⊢
  have HN := Lib.hid hn'
  clear hr hn'
  go_enter Tryz.func47, Tryz.ntmps47
  go_wp2
  go_loop [4] (fun i => ∃ k : Nat, n ≤ k ∧ k ≤ n + 64 ∧ i = .int .i64 k) (fun i => n + 64 - (intOf i).toNat)
  case atStart => exact ⟨n, Nat.le_refl _, by omega, rfl⟩
  case round =>
    obtain ⟨k, hk0, hk, rfl⟩ := hrel
    by_cases hlt : k < n + 64
    · have h0 : (k : Int) < n + 64 := by omega
      have h1 : (0 : Int) ≤ k := by omega
      have hc := HR.out.int (j := k) (by rw [wideI_length, ← HN.out]; exact hlt)
      rw [wideI_hi zs (by rw [← HN.out]; exact hk0) (by rw [← HN.out]; exact hlt)] at hc
      rw [Nat.zero_add] at hc
      obtain ⟨u, hu⟩ : ∃ u, u = markI k := ⟨_, rfl⟩
      have HNUM := Lib.hid (fun W => (show Calls Tryz.prog 98 #[.int .i64 9, .int .i64 (k : Int)] W _ from num_any 9 k W (by omega) (by omega)))
      rw [show (1048576 * ((9 : Nat) : Int) + (k : Int) + 1) = u from hu.symm] at HNUM
      rw [← hu] at hc
      clear hu
      go_wp2_with (go_at_call 98; (with_reducible refine (HNUM.out _).mono ?_); rintro e2 w2 ⟨rfl, rfl⟩)
      go_round
      case rel => exact ⟨k + 1, by omega, by omega, by go_num⟩
      case measure => simp [intOf]; omega
    · have h1 : ¬ (k : Int) < n + 64 := by omega
      go_wp2
      go_ret
      exact ⟨rfl, rfl⟩
end Go.Proofs.YtofgmijmhpmabaaGreatDoor.D
namespace Go.Proofs.YtofgmijmhpmabaaGreatDoor.D
open Go Go.RowKit
set_option linter.unusedVariables false
set_option linter.unusedSimpArgs false
/-- An event whose list has marks behind it. -/
def WEv (w : World) (base gI : Nat) (e : Ev) : Prop := w.ownsRow base 3 1 (.slice (some ⟨gI, 0, none⟩) (e.order.length + 64) (e.order.length + 64)) (e.order.length + 64) ((wideI e.order).map (Value.int .i64))
def wEV (gI : Nat) (e : Ev) : EV := ⟨some ⟨gI, 0, none⟩, e.order.length + 64⟩
def WEvPost (e : Ev) (w : World) (en : Ending) (w' : World) : Prop := ∃ gI : Nat, en = .returned ((wEV gI e).val e) ∧ WEv w' w.heap.size gI e ∧ Below w.heap.size w w'
theorem wide_rd {w : World} {base gI : Nat} {l : List Int} (h : w.ownsRow base 3 1 (.slice (some ⟨gI, 0, none⟩) (l.length + 64) (l.length + 64)) (l.length + 64) ((wideI l).map (Value.int .i64))) : G.RdS w (some ⟨gI, 0, none⟩) 1 l.length (i64s l) := by
  have h1 : (wideI l).map (Value.int .i64) = i64s l ++ (marksI l.length).map (Value.int .i64) := by simp [wideI, i64s]
  rw [h1] at h
  exact ⟨by rw [i64s_length]; omega, fun _ => ⟨gI, 0, rfl, own_rd (w := w) (base := base) (e := 3) (sz := 1) (N := l.length + 64) h⟩⟩
theorem WEv.rd {w : World} {base gI : Nat} {e : Ev} (h : WEv w base gI e) : RdEv w (wEV gI e) e := wide_rd h
theorem WEv.below {w w' : World} {base gI : Nat} {e : Ev} (h : WEv w base gI e) (hb : Below w.heap.size w w') : WEv w' base gI e := G.own_below h hb
set_option maxRecDepth 100000 in
set_option maxHeartbeats 4000000 in
theorem wideEvent_any (y : EV) (e : Ev) (w : World) (hr : RdEv w y e) (hl : e.order.length ≤ 33554432) : Calls Tryz.prog 14 #[y.val e] w (WEvPost e w) := by
  have HR := Lib.hid hr
  obtain ⟨kind, field, card, player, other, src, srcAt, dst, dstAt, was, now, order⟩ := e
  obtain ⟨oa, oc⟩ := y
  unfold EV.val EV.arr
  simp only at hl ⊢
  obtain ⟨n, hn⟩ : ∃ n, n = order.length := ⟨_, rfl⟩
  rw [← hn] at hl ⊢
  have HN := Lib.hid hn
  have H0 := two_new w 30 #[.int .i8 kind, .int .i8 field, .int .i64 card, .int .i64 player, .int .i64 other, .int .i64 src, .int .i64 srcAt, .int .i64 dst, .int .i64 dstAt, .int .i32 was, .int .i32 now, .slice oa n oc] zeroE
  clear hr hn
  go_enter Tryz.func14, Tryz.ntmps14
  go_upto_region 1 with (fail)
  obtain ⟨w0, hw0⟩ : ∃ w0, w0 = (w.alloc (.cells #[.int .i8 kind, .int .i8 field, .int .i64 card, .int .i64 player, .int .i64 other, .int .i64 src, .int .i64 srcAt, .int .i64 dst, .int .i64 dstAt, .int .i32 was, .int .i32 now, .slice oa n oc] 30)).alloc (.cells zeroE 30) := ⟨_, rfl⟩
  rw [← hw0] at H0
  unfold zeroE at hw0
  rw [← hw0]
  clear hw0
  obtain ⟨hb0, hb0', hbl0⟩ := H0
  have HBL0 := Lib.hid hbl0
  obtain ⟨g, hg⟩ : ∃ g, g = w.heap.size := ⟨_, rfl⟩
  have HG := Lib.hid hg
  rw [← hg] at hb0 hb0' ⊢
  have HB0 := Lib.hid hb0
  have HB0' := Lib.hid hb0'
  have c0 := hb0.cell 11
  have l0 := hb0.lt
  have hci := wideInts_any oa oc order w0 (by have := RdEv.below HR.out hbl0; exact this) (by rw [← HN.out]; exact hl)
  unfold WideIPost at hci
  rw [← HN.out] at hci
  obtain ⟨gI, hgI⟩ : ∃ gI, gI = w0.heap.size := ⟨_, rfl⟩
  rw [← hgI] at hci
  have HCI := Lib.hid hci
  have HGI := Lib.hid (show g ≤ gI by have := hbl0.size; rw [hg, hgI]; exact this)
  have HGJ := Lib.hid hgI
  clear hci hgI
  clear hb0 hb0' hbl0 hg
  go_upto_region 2 with (((with_reducible refine (HCI.out).mono ?_); rintro e1 w1 hp1; obtain ⟨rfl, ho1, hb1⟩ := hp1; have HO1 := Lib.hid ho1; rw [HGJ.out] at hb1; have HBW1 := Lib.hid hb1; have hB1 := HB0.out.below hb1 HB0.out.lt; have c10 := hB1.cell 11; have f10 := hB1.frozen 11; have l1 := hB1.lt; clear ho1 hb1 hB1 c0 l0))
  have HBK2 := Lib.hid (HB0.out.below HBW1.out HB0.out.lt)
  have HO2 := Lib.hid (only_put (i := 11) HBK2.out (.slice (some ⟨gI, 0, none⟩) n (n + 64)))
  have HBL2 := Lib.hid (show Below g w (w1.setCell ⟨g, 11, none⟩ (.slice (some ⟨gI, 0, none⟩) n (n + 64))) by rw [HG.out]; exact G.bl_set (G.bl_trans HBL0.out HBW1.out) (Nat.le_refl _) _)
  have HB2 := Lib.hid (HBK2.out.put 11 (.slice (some ⟨gI, 0, none⟩) n (n + 64)))
  have HB2' := Lib.hid (blk_put_ne (i := 11) (u := .slice (some ⟨gI, 0, none⟩) n (n + 64)) (HB0'.out.below HBW1.out HB0'.out.lt) (show g + 1 ≠ g by omega))
  have HP2 := Lib.hid (HO2.out.own (G.own_ge HO1.out HGI.out) (by decide))
  obtain ⟨w2, hw2⟩ : ∃ w2, w2 = w1.setCell ⟨g, 11, none⟩ (.slice (some ⟨gI, 0, none⟩) n (n + 64)) := ⟨_, rfl⟩
  rw [← hw2] at HB2 HB2' HBL2 HP2 ⊢
  clear hw2 HO2 HBK2 c10 f10 l1 HBW1 HO1 HB0 HB0'
  simp only [List.setIfInBounds_toArray, List.set_cons_zero, List.set_cons_succ] at HB2
  obtain ⟨fsE, hfsE⟩ := undEv2
  have HFE := Lib.hid hfsE
  clear hfsE
  go_wp2_with (first | (refine wpList_load_row rfl 30 _ rfl g rfl _ _ (0, 0) _ HB2.out HFE.out rfl (by kernel_rfl) ?_) | (refine wpList_store_row rfl 30 _ _ rfl (g + 1) #[.int .i8 kind, .int .i8 field, .int .i64 card, .int .i64 player, .int .i64 other, .int .i64 src, .int .i64 srcAt, .int .i64 dst, .int .i64 dstAt, .int .i32 was, .int .i32 now, .slice (some ⟨gI, 0, none⟩) n (n + 64)] rfl rfl 30 _ HB2'.out (by kernel_rfl) (by kernel_rfl) (by kernel_rfl) ?_))
  have HF2 := only_row (cs2 := #[.int .i8 kind, .int .i8 field, .int .i64 card, .int .i64 player, .int .i64 other, .int .i64 src, .int .i64 srcAt, .int .i64 dst, .int .i64 dstAt, .int .i32 was, .int .i32 now, .slice (some ⟨gI, 0, none⟩) n (n + 64)]) HB2'.out
  refine bodyPost_ret (v := .agg #[.int .i8 kind, .int .i8 field, .int .i64 card, .int .i64 player, .int .i64 other, .int .i64 src, .int .i64 srcAt, .int .i64 dst, .int .i64 dstAt, .int .i32 was, .int .i32 now, .slice (some ⟨gI, 0, none⟩) n (n + 64)]) (ev_result rfl _ _ (g + 1) _ rfl (setRow_heap _ _ _ _ _ _ HB2'.out) rfl) rfl ⟨gI, ?_, ?_, ?_⟩
  · rw [HN.out]
    rfl
  · rw [← HG.out]
    show World.ownsRow _ g 3 1 (.slice (some ⟨gI, 0, none⟩) (order.length + 64) (order.length + 64)) (order.length + 64) ((wideI order).map (Value.int .i64))
    rw [← HN.out]
    exact HF2.own HP2.out (by decide)
  · rw [← HG.out]
    exact below_setRow HBL2.out (by omega) _
set_option maxRecDepth 100000 in
set_option maxHeartbeats 4000000 in
theorem spareEvent_any (gI base : Nat) (e : Ev) (w : World) (h : WEv w base gI e) (hl : e.order.length ≤ 33554432) : Calls Tryz.prog 20 #[(wEV gI e).val e] w (BoolPost true w) := by
  have HSP := Lib.hid (fun W (hW : Below w.heap.size w W) => spareInts_any gI e.order W (own_rd_all (h.below hW)) hl)
  obtain ⟨ce, hce⟩ : ∃ ce, ce = (wEV gI e).arr e := ⟨_, rfl⟩
  have hv : (wEV gI e).val e = .agg ce := by rw [hce]; rfl
  rw [hv]
  obtain ⟨n, hn⟩ : ∃ n, n = e.order.length := ⟨_, rfl⟩
  rw [← hn] at HSP
  have c11 := (G.Blk.new w 30 ce).cell 11
  rw [show ce[11]? = some (.slice (some ⟨gI, 0, none⟩) n (n + 64)) by rw [hce, hn]; rfl] at c11
  have hlt := (G.Blk.new w 30 ce).lt
  have HB0 := Lib.hid (G.bl_alloc (Below.refl w.heap.size w) (.cells ce 30))
  obtain ⟨w0, hw0⟩ : ∃ w0, w0 = w.alloc (.cells ce 30) := ⟨_, rfl⟩
  have HW0 := Lib.hid hw0
  rw [← hw0] at c11 hlt HB0
  obtain ⟨g, hg⟩ : ∃ g, g = w.heap.size := ⟨_, rfl⟩
  have HGG := Lib.hid hg
  rw [← hg] at c11 hlt
  have HSP0 := Lib.hid (HSP.out w0 HB0.out)
  clear h hce hv hn hw0 hg
  go_enter Tryz.func20, Tryz.ntmps20
  go_upto_region 1 with (fail)
  rw [← HGG.out, ← HW0.out]
  go_wp2_with fail
  refine (HSP0.out).mono ?_
  rintro e1 w1 ⟨rfl, hq1⟩
  subst hq1
  go_wp2_with fail
  go_ret
  exact ⟨rfl, HB0.out⟩
end Go.Proofs.YtofgmijmhpmabaaGreatDoor.D

/- The contracts of tableauref00.WideEvent and SpareEvent. Printed by gen_wideev.py. -/
import Derived.Test.YtofgmijmhpmabaaGreatDoorDCopyS
import Derived.Test.YtofgmijmhpmabaaGreatDoorDCopySt
import Derived.Test.YtofgmijmhpmabaaGreatDoorDOne
import Derived.Great.BuildSlice
namespace Go.Proofs.YtofgmijmhpmabaaGreatDoor.D
open Go Go.RowKit
set_option linter.unusedVariables false
set_option linter.unusedSimpArgs false
/-- An event whose list has marks behind it. -/
def WEv (w : World) (base gI : Nat) (e : Ev) : Prop := w.ownsRow base 3 1 (.slice (some ⟨gI, 0, none⟩) (e.order.length + 64) (e.order.length + 64)) (e.order.length + 64) ((wideI e.order).map (Value.int .i64))
def wEV (gI : Nat) (e : Ev) : EV := ⟨some ⟨gI, 0, none⟩, e.order.length + 64⟩
def WEvPost (e : Ev) (w : World) (en : Ending) (w' : World) : Prop := ∃ gI : Nat, en = .returned ((wEV gI e).val e) ∧ WEv w' w.heap.size gI e ∧ Below w.heap.size w w'
theorem wide_rd {w : World} {base gI : Nat} {l : List Int} (h : w.ownsRow base 3 1 (.slice (some ⟨gI, 0, none⟩) (l.length + 64) (l.length + 64)) (l.length + 64) ((wideI l).map (Value.int .i64))) : G.RdS w (some ⟨gI, 0, none⟩) 1 l.length (i64s l) := by
 have h1 : (wideI l).map (Value.int .i64) = i64s l ++ (marksI l.length).map (Value.int .i64) := by simp [wideI, i64s]
 rw [h1] at h
 exact ⟨by rw [i64s_length]; omega, fun _ => ⟨gI, 0, rfl, own_rd (w := w) (base := base) (e := 3) (sz := 1) (N := l.length + 64) h⟩⟩
theorem WEv.rd {w : World} {base gI : Nat} {e : Ev} (h : WEv w base gI e) : RdEv w (wEV gI e) e := wide_rd h
theorem WEv.below {w w' : World} {base gI : Nat} {e : Ev} (h : WEv w base gI e) (hb : Below w.heap.size w w') : WEv w' base gI e := G.own_below h hb
set_option maxRecDepth 100000 in
set_option maxHeartbeats 4000000 in
theorem wideEvent_any (y : EV) (e : Ev) (w : World) (hr : RdEv w y e) (hl : e.order.length ≤ 33554432) : Calls Tryz.prog 14 #[y.val e] w (WEvPost e w) := by
 have HR := Lib.hid hr
 obtain ⟨kind, field, card, player, other, src, srcAt, dst, dstAt, was, now, order⟩ := e
 obtain ⟨oa, oc⟩ := y
 unfold EV.val EV.arr
 simp only at hl ⊢
 obtain ⟨n, hn⟩ : ∃ n, n = order.length := ⟨_, rfl⟩
 rw [← hn] at hl ⊢
 have HN := Lib.hid hn
 have H0 := two_new w 30 #[.int .i8 kind, .int .i8 field, .int .i64 card, .int .i64 player, .int .i64 other, .int .i64 src, .int .i64 srcAt, .int .i64 dst, .int .i64 dstAt, .int .i32 was, .int .i32 now, .slice oa n oc] zeroE
 clear hr hn
 go_enter Tryz.func14, Tryz.ntmps14
 go_upto_region 1 with (fail)
 obtain ⟨w0, hw0⟩ : ∃ w0, w0 = (w.alloc (.cells #[.int .i8 kind, .int .i8 field, .int .i64 card, .int .i64 player, .int .i64 other, .int .i64 src, .int .i64 srcAt, .int .i64 dst, .int .i64 dstAt, .int .i32 was, .int .i32 now, .slice oa n oc] 30)).alloc (.cells zeroE 30) := ⟨_, rfl⟩
 rw [← hw0] at H0
 unfold zeroE at hw0
 rw [← hw0]
 clear hw0
 obtain ⟨hb0, hb0', hbl0⟩ := H0
 have HBL0 := Lib.hid hbl0
 obtain ⟨g, hg⟩ : ∃ g, g = w.heap.size := ⟨_, rfl⟩
 have HG := Lib.hid hg
 rw [← hg] at hb0 hb0' ⊢
 have HB0 := Lib.hid hb0
 have HB0' := Lib.hid hb0'
 have c0 := hb0.cell 11
 have l0 := hb0.lt
 have hci := wideInts_any oa oc order w0 (by have := RdEv.below HR.out hbl0; exact this) (by rw [← HN.out]; exact hl)
 unfold WideIPost at hci
 rw [← HN.out] at hci
 obtain ⟨gI, hgI⟩ : ∃ gI, gI = w0.heap.size := ⟨_, rfl⟩
 rw [← hgI] at hci
 have HCI := Lib.hid hci
 have HGI := Lib.hid (show g ≤ gI by have := hbl0.size; rw [hg, hgI]; exact this)
 have HGJ := Lib.hid hgI
 clear hci hgI
 clear hb0 hb0' hbl0 hg
 go_upto_region 2 with (((with_reducible refine (HCI.out).mono ?_); rintro e1 w1 hp1; obtain ⟨rfl, ho1, hb1⟩ := hp1; have HO1 := Lib.hid ho1; rw [HGJ.out] at hb1; have HBW1 := Lib.hid hb1; have hB1 := HB0.out.below hb1 HB0.out.lt; have c10 := hB1.cell 11; have f10 := hB1.frozen 11; have l1 := hB1.lt; clear ho1 hb1 hB1 c0 l0))
 have HBK2 := Lib.hid (HB0.out.below HBW1.out HB0.out.lt)
 have HO2 := Lib.hid (only_put (i := 11) HBK2.out (.slice (some ⟨gI, 0, none⟩) n (n + 64)))
 have HBL2 := Lib.hid (show Below g w (w1.setCell ⟨g, 11, none⟩ (.slice (some ⟨gI, 0, none⟩) n (n + 64))) by rw [HG.out]; exact G.bl_set (G.bl_trans HBL0.out HBW1.out) (Nat.le_refl _) _)
 have HB2 := Lib.hid (HBK2.out.put 11 (.slice (some ⟨gI, 0, none⟩) n (n + 64)))
 have HB2' := Lib.hid (blk_put_ne (i := 11) (u := .slice (some ⟨gI, 0, none⟩) n (n + 64)) (HB0'.out.below HBW1.out HB0'.out.lt) (show g + 1 ≠ g by omega))
 have HP2 := Lib.hid (HO2.out.own (G.own_ge HO1.out HGI.out) (by decide))
 obtain ⟨w2, hw2⟩ : ∃ w2, w2 = w1.setCell ⟨g, 11, none⟩ (.slice (some ⟨gI, 0, none⟩) n (n + 64)) := ⟨_, rfl⟩
 rw [← hw2] at HB2 HB2' HBL2 HP2 ⊢
 clear hw2 HO2 HBK2 c10 f10 l1 HBW1 HO1 HB0 HB0'
 simp only [List.setIfInBounds_toArray, List.set_cons_zero, List.set_cons_succ] at HB2
 obtain ⟨fsE, hfsE⟩ := undEv2
 have HFE := Lib.hid hfsE
 clear hfsE
 go_wp2_with (first | (refine wpList_load_row rfl 30 _ rfl g rfl _ _ (0, 0) _ HB2.out HFE.out rfl (by kernel_rfl) ?_) | (refine wpList_store_row rfl 30 _ _ rfl (g + 1) #[.int .i8 kind, .int .i8 field, .int .i64 card, .int .i64 player, .int .i64 other, .int .i64 src, .int .i64 srcAt, .int .i64 dst, .int .i64 dstAt, .int .i32 was, .int .i32 now, .slice (some ⟨gI, 0, none⟩) n (n + 64)] rfl rfl 30 _ HB2'.out (by kernel_rfl) (by kernel_rfl) (by kernel_rfl) ?_))
 have HF2 := only_row (cs2 := #[.int .i8 kind, .int .i8 field, .int .i64 card, .int .i64 player, .int .i64 other, .int .i64 src, .int .i64 srcAt, .int .i64 dst, .int .i64 dstAt, .int .i32 was, .int .i32 now, .slice (some ⟨gI, 0, none⟩) n (n + 64)]) HB2'.out
 refine bodyPost_ret (v := .agg #[.int .i8 kind, .int .i8 field, .int .i64 card, .int .i64 player, .int .i64 other, .int .i64 src, .int .i64 srcAt, .int .i64 dst, .int .i64 dstAt, .int .i32 was, .int .i32 now, .slice (some ⟨gI, 0, none⟩) n (n + 64)]) (ev_result rfl _ _ (g + 1) _ rfl (setRow_heap _ _ _ _ _ _ HB2'.out) rfl) rfl ⟨gI, ?_, ?_, ?_⟩
 ·rw [HN.out]
  rfl
 ·rw [← HG.out]
  show World.ownsRow _ g 3 1 (.slice (some ⟨gI, 0, none⟩) (order.length + 64) (order.length + 64)) (order.length + 64) ((wideI order).map (Value.int .i64))
  rw [← HN.out]
  exact HF2.own HP2.out (by decide)
 ·rw [← HG.out]
  exact below_setRow HBL2.out (by omega) _
set_option maxRecDepth 100000 in
set_option maxHeartbeats 4000000 in
theorem spareEvent_any (gI base : Nat) (e : Ev) (w : World) (h : WEv w base gI e) (hl : e.order.length ≤ 33554432) : Calls Tryz.prog 20 #[(wEV gI e).val e] w (BoolPost true w) := by
 have HSP := Lib.hid (fun W (hW : Below w.heap.size w W) => spareInts_any gI e.order W (own_rd_all (h.below hW)) hl)
 obtain ⟨ce, hce⟩ : ∃ ce, ce = (wEV gI e).arr e := ⟨_, rfl⟩
 have hv : (wEV gI e).val e = .agg ce := by rw [hce]; rfl
 rw [hv]
 obtain ⟨n, hn⟩ : ∃ n, n = e.order.length := ⟨_, rfl⟩
 rw [← hn] at HSP
 have c11 := (G.Blk.new w 30 ce).cell 11
 rw [show ce[11]? = some (.slice (some ⟨gI, 0, none⟩) n (n + 64)) by rw [hce, hn]; rfl] at c11
 have hlt := (G.Blk.new w 30 ce).lt
 have HB0 := Lib.hid (G.bl_alloc (Below.refl w.heap.size w) (.cells ce 30))
 obtain ⟨w0, hw0⟩ : ∃ w0, w0 = w.alloc (.cells ce 30) := ⟨_, rfl⟩
 have HW0 := Lib.hid hw0
 rw [← hw0] at c11 hlt HB0
 obtain ⟨g, hg⟩ : ∃ g, g = w.heap.size := ⟨_, rfl⟩
 have HGG := Lib.hid hg
 rw [← hg] at c11 hlt
 have HSP0 := Lib.hid (HSP.out w0 HB0.out)
 clear h hce hv hn hw0 hg
 go_enter Tryz.func20, Tryz.ntmps20
 go_upto_region 1 with (fail)
 rw [← HGG.out, ← HW0.out]
 go_wp2_with fail
 refine (HSP0.out).mono ?_
 rintro e1 w1 ⟨rfl, hq1⟩
 subst hq1
 go_wp2_with fail
 go_ret
 exact ⟨rfl, HB0.out⟩
end Go.Proofs.YtofgmijmhpmabaaGreatDoor.D
namespace Go.Proofs.YtofgmijmhpmabaaGreatDoor.D
open Go Go.RowKit
set_option linter.unusedVariables false
set_option linter.unusedSimpArgs false
theorem infoEv : (Tryz.prog.info? 30).map (fun i => (i.zero, i.size, i.bytes)) = some (some (Value.agg zeroE), 12, 96) := by kernel_rfl
end Go.Proofs.YtofgmijmhpmabaaGreatDoor.D

/- The contract of (tableaulaw06.Do).asked. Printed by gen_asked.py. -/
import Derived.Test.YtofgmijmhpmabaaGreatDoorDChange
import Derived.Test.YtofgmijmhpmabaaGreatDoorDShufD
import Derived.Test.YtofgmijmhpmabaaGreatDoorDDraw
namespace Go.Proofs.YtofgmijmhpmabaaGreatDoor.D
open Go Go.RowKit
set_option linter.unusedVariables false
set_option linter.unusedSimpArgs false
def dqArr (y : EV) (d : Dq) : Array Value := #[.int .i64 d.kind, .int .i64 d.number, .int .i64 d.zone, .bool d.first, .int .i8 d.field, .int .i64 d.by_, .slice y.oa d.order.length y.oc]
structure Dq.Fits (d : Dq) : Prop where
  field : -128 ≤ d.field ∧ d.field ≤ 127
  by_ : -9223372036854775808 ≤ d.by_ ∧ d.by_ ≤ 9223372036854775807
  order : d.order.length ≤ 33554432
theorem AskPost.up {s : St} {ok : Prop} {l : List Ev} {w W w' : World} {e : Ending} (h : AskPost s ok l W e w') (hb : Below w.heap.size w W) : AskPost s ok l w e w' := by
  obtain ⟨A, n, c, L, k, h1, h2, h3, h4⟩ := h
  exact ⟨A, n, c, L, k, h1, h2.ge hb.size, G.bl_trans hb h3, h4⟩
theorem askOk_0 {s : St} {d : Dq} (h : d.kind = 0) : askOk s d = (Within d.number s.cards.length ∧ Within d.zone s.zones.length) ∧ askEv s d = moveEv s d.number d.zone d.first := by
  unfold askOk askEv
  rw [if_pos h, if_pos h]
  exact ⟨rfl, rfl⟩
theorem askOk_1 {s : St} {d : Dq} (h : d.kind = 1) : askOk s d = (∃ v, getF s d.field d.number = some v) ∧ askEv s d = changeEv s d.field d.number d.by_ := by
  unfold askOk askEv
  rw [if_neg (by rw [h]; decide), if_pos h, if_neg (by rw [h]; decide), if_pos h]
  exact ⟨rfl, rfl⟩
theorem askOk_2 {s : St} {d : Dq} (h : d.kind = 2) : askOk s d = (Within d.zone s.zones.length ∧ IsOrder d.order (zone s d.zone).length) ∧ askEv s d = shufEv d.zone d.order := by
  unfold askOk askEv
  rw [if_neg (by rw [h]; decide), if_neg (by rw [h]; decide), if_pos h, if_neg (by rw [h]; decide), if_neg (by rw [h]; decide), if_pos h]
  exact ⟨rfl, rfl⟩
theorem askOk_3 {s : St} {d : Dq} (h : d.kind = 3) : askOk s d = (Within d.number s.players.length) ∧ askEv s d = drawEv s d.number := by
  unfold askOk askEv
  rw [if_neg (by rw [h]; decide), if_neg (by rw [h]; decide), if_neg (by rw [h]; decide), if_neg (by rw [h]; decide), if_neg (by rw [h]; decide), if_neg (by rw [h]; decide), if_pos h]
  exact ⟨rfl, rfl⟩
theorem askOk_4 {s : St} {d : Dq} (h0 : d.kind ≠ 0) (h1 : d.kind ≠ 1) (h2 : d.kind ≠ 2) (h3 : d.kind ≠ 3) : askOk s d = (Within d.number s.players.length) ∧ askEv s d = outEv s d.number := by
  unfold askOk askEv
  rw [if_neg h0, if_neg h1, if_neg h2, if_neg h0, if_neg h1, if_neg h2, if_neg h3]
  exact ⟨rfl, rfl⟩
set_option maxRecDepth 100000 in
set_option maxHeartbeats 8000000 in
theorem asked_any (x : SV) (s : St) (y : EV) (d : Dq) (w : World) (h : RdSt w x s) (hz : Sz s) (hr : G.RdS w y.oa 1 d.order.length (i64s d.order)) (hf : d.Fits) :
    Calls Tryz.prog 44 #[.agg (dqArr y d), x.val s] w (AskPost s (askOk s d) (askEv s d) w) := by
  have HA0 := Lib.hid (fun W (hW : Below w.heap.size w W) => moveD_any x s d.number d.zone d.first W (h.below hW) hz)
  have HA1 := Lib.hid (fun W (hW : Below w.heap.size w W) => changeD_any x s d.field d.number d.by_ W (h.below hW) hz hf.field hf.by_)
  have HA2 := Lib.hid (fun W (hW : Below w.heap.size w W) => shuffleD_any x s d.zone y.oa y.oc d.order W (h.below hW) hz (hr.below hW) hf.order)
  have HA3 := Lib.hid (fun W (hW : Below w.heap.size w W) => draw_any x s d.number W (h.below hW) hz)
  have HA4 := Lib.hid (fun W (hW : Below w.heap.size w W) => outD_any x s d.number W (h.below hW) hz)
  obtain ⟨fsS, hfsS⟩ := undSt
  have HFS := Lib.hid hfsS
  obtain ⟨cs, hcs⟩ : ∃ c, c = x.arr s := ⟨_, rfl⟩
  have HS := Lib.hid (show cs.size = 7 by rw [hcs]; rfl)
  have he : x.val s = .agg cs := by rw [hcs]; rfl
  rw [he] at HA0 HA1 HA2 HA3 HA4 ⊢
  obtain ⟨cd, hcd⟩ : ∃ c, c = dqArr y d := ⟨_, rfl⟩
  rw [← hcd]
  have HD := Lib.hid hcd
  clear h hz hcs he hfsS hr hf hcd
  have h1 : G.Blk ((w.alloc (.cells cd 80)).alloc (.cells cs 27)) w.heap.size 80 cd := heap_alloc2_old w _ _
  have h2 : G.Blk ((w.alloc (.cells cd 80)).alloc (.cells cs 27)) (w.heap.size + 1) 27 cs := heap_alloc2_new w _ _
  have hbl0 : Below w.heap.size w ((w.alloc (.cells cd 80)).alloc (.cells cs 27)) := G.bl_alloc (G.bl_alloc (Below.refl _ _) _) _
  go_enter Tryz.func44, Tryz.ntmps44
  go_upto_region 1 with (fail)
  obtain ⟨w0, hw0⟩ : ∃ w0, w0 = (w.alloc (.cells cd 80)).alloc (.cells cs 27) := ⟨_, rfl⟩
  rw [← hw0] at h1 h2 hbl0 ⊢
  clear hw0
  have HBL0 := Lib.hid hbl0
  obtain ⟨g, hg⟩ : ∃ g, g = w.heap.size := ⟨_, rfl⟩
  rw [← hg] at h1 h2 ⊢
  have HS0 := Lib.hid h2
  have l0 := h1.lt
  have c0 := h1.cell 0
  have c1 := h1.cell 1
  have c2 := h1.cell 2
  have c3 := h1.cell 3
  have c4 := h1.cell 4
  have c5 := h1.cell 5
  have c6 := h1.cell 6
  rw [HD.out] at c0 c1 c2 c3 c4 c5 c6
  clear h1 h2 hbl0 hg HD
  simp only [dqArr, List.getElem?_toArray, List.getElem?_cons_succ, List.getElem?_cons_zero] at c0 c1 c2 c3 c4 c5 c6
  obtain ⟨k, hk⟩ : ∃ k, k = d.kind := ⟨_, rfl⟩
  rw [← hk] at c0
  have HK := Lib.hid hk.symm
  clear hk
  by_cases k0 : k = 0
  · subst k0
    have HOE := Lib.hid (askOk_0 (s := s) HK.out)
    go_wp2_with (first | (refine wpList_load_row rfl 27 _ rfl (g + 1) rfl _ cs (0, 0) _ HS0.out HFS.out rfl (by rw [HS.out]; exact sizeSt) ?_) | ((with_reducible refine (HA0.out _ HBL0.out).mono ?_); rintro e1 w1 hp1; obtain ⟨A1, n1, q1, L1, k1, rfl, ho1, hb1, hc1⟩ := hp1; have HO1 := Lib.hid ho1; have HB1 := Lib.hid hb1; have HC1 := Lib.hid hc1; clear ho1 hb1 hc1))
    go_ret2
    rw [HOE.out.1, HOE.out.2]
    exact ⟨A1, n1, q1, L1, k1, rfl, HO1.out.ge HBL0.out.size, G.bl_trans HBL0.out HB1.out, HC1.out⟩
  · have kb0 : (k == 0) = false := by rw [beq_eq_false_iff_ne]; exact k0
    by_cases k1 : k = 1
    · subst k1
      have HOE := Lib.hid (askOk_1 (s := s) HK.out)
      go_wp2_with (first | (refine wpList_load_row rfl 27 _ rfl (g + 1) rfl _ cs (0, 0) _ HS0.out HFS.out rfl (by rw [HS.out]; exact sizeSt) ?_) | ((with_reducible refine (HA1.out _ HBL0.out).mono ?_); rintro e1 w1 hp1; obtain ⟨A1, n1, q1, L1, k1, rfl, ho1, hb1, hc1⟩ := hp1; have HO1 := Lib.hid ho1; have HB1 := Lib.hid hb1; have HC1 := Lib.hid hc1; clear ho1 hb1 hc1))
      go_ret2
      rw [HOE.out.1, HOE.out.2]
      exact ⟨A1, n1, q1, L1, k1, rfl, HO1.out.ge HBL0.out.size, G.bl_trans HBL0.out HB1.out, HC1.out⟩
    · have kb1 : (k == 1) = false := by rw [beq_eq_false_iff_ne]; exact k1
      by_cases k2 : k = 2
      · subst k2
        have HOE := Lib.hid (askOk_2 (s := s) HK.out)
        go_wp2_with (first | (refine wpList_load_row rfl 27 _ rfl (g + 1) rfl _ cs (0, 0) _ HS0.out HFS.out rfl (by rw [HS.out]; exact sizeSt) ?_) | ((with_reducible refine (HA2.out _ HBL0.out).mono ?_); rintro e1 w1 hp1; obtain ⟨A1, n1, q1, L1, k1, rfl, ho1, hb1, hc1⟩ := hp1; have HO1 := Lib.hid ho1; have HB1 := Lib.hid hb1; have HC1 := Lib.hid hc1; clear ho1 hb1 hc1))
        go_ret2
        rw [HOE.out.1, HOE.out.2]
        exact ⟨A1, n1, q1, L1, k1, rfl, HO1.out.ge HBL0.out.size, G.bl_trans HBL0.out HB1.out, HC1.out⟩
      · have kb2 : (k == 2) = false := by rw [beq_eq_false_iff_ne]; exact k2
        by_cases k3 : k = 3
        · subst k3
          have HOE := Lib.hid (askOk_3 (s := s) HK.out)
          go_wp2_with (first | (refine wpList_load_row rfl 27 _ rfl (g + 1) rfl _ cs (0, 0) _ HS0.out HFS.out rfl (by rw [HS.out]; exact sizeSt) ?_) | ((with_reducible refine (HA3.out _ HBL0.out).mono ?_); rintro e1 w1 hp1; obtain ⟨A1, n1, q1, L1, k1, rfl, ho1, hb1, hc1⟩ := hp1; have HO1 := Lib.hid ho1; have HB1 := Lib.hid hb1; have HC1 := Lib.hid hc1; clear ho1 hb1 hc1))
          go_ret2
          rw [HOE.out.1, HOE.out.2]
          exact ⟨A1, n1, q1, L1, k1, rfl, HO1.out.ge HBL0.out.size, G.bl_trans HBL0.out HB1.out, HC1.out⟩
        · have kb3 : (k == 3) = false := by rw [beq_eq_false_iff_ne]; exact k3
          have HN := Lib.hid (And.intro k0 (And.intro k1 (And.intro k2 k3)))
          have HOE := Lib.hid (askOk_4 (s := s) (d := d) (fun h => HN.out.1 (by rw [← HK.out]; exact h)) (fun h => HN.out.2.1 (by rw [← HK.out]; exact h)) (fun h => HN.out.2.2.1 (by rw [← HK.out]; exact h)) (fun h => HN.out.2.2.2 (by rw [← HK.out]; exact h)))
          go_wp2_with (first | (refine wpList_load_row rfl 27 _ rfl (g + 1) rfl _ cs (0, 0) _ HS0.out HFS.out rfl (by rw [HS.out]; exact sizeSt) ?_) | ((with_reducible refine (HA4.out _ HBL0.out).mono ?_); rintro e1 w1 hp1; obtain ⟨A1, n1, q1, L1, k1, rfl, ho1, hb1, hc1⟩ := hp1; have HO1 := Lib.hid ho1; have HB1 := Lib.hid hb1; have HC1 := Lib.hid hc1; clear ho1 hb1 hc1))
          go_ret2
          rw [HOE.out.1, HOE.out.2]
          exact ⟨A1, n1, q1, L1, k1, rfl, HO1.out.ge HBL0.out.size, G.bl_trans HBL0.out HB1.out, HC1.out⟩
end Go.Proofs.YtofgmijmhpmabaaGreatDoor.D

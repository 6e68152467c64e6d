/- The walk of DeedMakes. Printed by gen_makes.py. -/
import Derived.Test.YtofgmijmhpmabaaGreatDoorDAsked
import Derived.Test.YtofgmijmhpmabaaGreatDoorDRef6O
import Derived.Test.YtofgmijmhpmabaaGreatDoorDBagEv2
import Derived.Test.YtofgmijmhpmabaaGreatDoorDEqEvs
import Derived.Test.YtofgmijmhpmabaaGreatDoorDCut
import Derived.Test.YtofgmijmhpmabaaGreatDoorDLawS
import Derived.Test.YtofgmijmhpmabaaGreatDoorDWideEv
import Derived.Test.YtofgmijmhpmabaaGreatDoorBagAll
import Derived.Test.YtofgmijmhpmabaaGreatDoorDWideS
import Derived.Test.YtofgmijmhpmabaaGreatDoorDLives
import Derived.Test.YtofgmijmhpmabaaGreatDoorDLawM
namespace Go.Proofs.YtofgmijmhpmabaaGreatDoor.D
open Go Go.RowKit
set_option linter.unusedVariables false
set_option linter.unusedSimpArgs false
set_option maxRecDepth 100000 in
set_option maxHeartbeats 8000000 in
theorem meant_any (x : SV) (s : St) (y : EV) (d : Dq) (w : World) (h : RdSt w x s) (hz : Sz s) (hr : G.RdS w y.oa 1 d.order.length (i64s d.order)) (hf : d.Fits) :
    Calls Tryz.prog 45 #[.agg (dqArr y d), x.val s] w (AskPost s (askOk s d) (askEv s d) w) := by
  have HA0 := Lib.hid (fun W (hW : Below w.heap.size w W) => refMove_any x s d.number d.zone d.first W (h.below hW) hz)
  have HA1 := Lib.hid (fun W (hW : Below w.heap.size w W) => refChange_any x s d.field d.number d.by_ W (h.below hW) hz hf.field hf.by_)
  have HA2 := Lib.hid (fun W (hW : Below w.heap.size w W) => refShuffle_any x s d.zone y.oa d.order.length y.oc d.order W (h.below hW) hz rfl (hr.below hW) hf.order)
  have HA3 := Lib.hid (fun W (hW : Below w.heap.size w W) => refDraw_any x s d.number W (h.below hW) hz)
  have HA4 := Lib.hid (fun W (hW : Below w.heap.size w W) => refOut_any x s d.number W (h.below hW) hz)
  obtain ⟨fsS, hfsS⟩ := undSt
  have HFS := Lib.hid hfsS
  obtain ⟨cs, hcs⟩ : ∃ c, c = x.arr s := ⟨_, rfl⟩
  have HS := Lib.hid (show cs.size = 7 by rw [hcs]; rfl)
  have he : x.val s = .agg cs := by rw [hcs]; rfl
  rw [he] at HA0 HA1 HA2 HA3 HA4 ⊢
  obtain ⟨cd, hcd⟩ : ∃ c, c = dqArr y d := ⟨_, rfl⟩
  rw [← hcd]
  have HD := Lib.hid hcd
  clear h hz hcs he hfsS hr hf hcd
  have h1 : G.Blk ((w.alloc (.cells cd 80)).alloc (.cells cs 27)) w.heap.size 80 cd := heap_alloc2_old w _ _
  have h2 : G.Blk ((w.alloc (.cells cd 80)).alloc (.cells cs 27)) (w.heap.size + 1) 27 cs := heap_alloc2_new w _ _
  have hbl0 : Below w.heap.size w ((w.alloc (.cells cd 80)).alloc (.cells cs 27)) := G.bl_alloc (G.bl_alloc (Below.refl _ _) _) _
  go_enter Tryz.func45, Tryz.ntmps45
  go_upto_region 1 with (fail)
  obtain ⟨w0, hw0⟩ : ∃ w0, w0 = (w.alloc (.cells cd 80)).alloc (.cells cs 27) := ⟨_, rfl⟩
  rw [← hw0] at h1 h2 hbl0 ⊢
  clear hw0
  have HBL0 := Lib.hid hbl0
  obtain ⟨g, hg⟩ : ∃ g, g = w.heap.size := ⟨_, rfl⟩
  rw [← hg] at h1 h2 ⊢
  have HS0 := Lib.hid h2
  have l0 := h1.lt
  have c0 := h1.cell 0
  have c1 := h1.cell 1
  have c2 := h1.cell 2
  have c3 := h1.cell 3
  have c4 := h1.cell 4
  have c5 := h1.cell 5
  have c6 := h1.cell 6
  rw [HD.out] at c0 c1 c2 c3 c4 c5 c6
  clear h1 h2 hbl0 hg HD
  simp only [dqArr, List.getElem?_toArray, List.getElem?_cons_succ, List.getElem?_cons_zero] at c0 c1 c2 c3 c4 c5 c6
  obtain ⟨k, hk⟩ : ∃ k, k = d.kind := ⟨_, rfl⟩
  rw [← hk] at c0
  have HK := Lib.hid hk.symm
  clear hk
  by_cases k0 : k = 0
  · subst k0
    have HOE := Lib.hid (askOk_0 (s := s) HK.out)
    go_wp2_with (first | (refine wpList_load_row rfl 27 _ rfl (g + 1) rfl _ cs (0, 0) _ HS0.out HFS.out rfl (by rw [HS.out]; exact sizeSt) ?_) | ((with_reducible refine (HA0.out _ HBL0.out).mono ?_); rintro e1 w1 hp1; obtain ⟨A1, n1, q1, L1, k1, rfl, ho1, hb1, hc1⟩ := hp1; have HO1 := Lib.hid ho1; have HB1 := Lib.hid hb1; have HC1 := Lib.hid hc1; clear ho1 hb1 hc1))
    go_ret2
    rw [HOE.out.1, HOE.out.2]
    exact ⟨A1, n1, q1, L1, k1, rfl, HO1.out.ge HBL0.out.size, G.bl_trans HBL0.out HB1.out, HC1.out⟩
  · have kb0 : (k == 0) = false := by rw [beq_eq_false_iff_ne]; exact k0
    by_cases k1 : k = 1
    · subst k1
      have HOE := Lib.hid (askOk_1 (s := s) HK.out)
      go_wp2_with (first | (refine wpList_load_row rfl 27 _ rfl (g + 1) rfl _ cs (0, 0) _ HS0.out HFS.out rfl (by rw [HS.out]; exact sizeSt) ?_) | ((with_reducible refine (HA1.out _ HBL0.out).mono ?_); rintro e1 w1 hp1; obtain ⟨A1, n1, q1, L1, k1, rfl, ho1, hb1, hc1⟩ := hp1; have HO1 := Lib.hid ho1; have HB1 := Lib.hid hb1; have HC1 := Lib.hid hc1; clear ho1 hb1 hc1))
      go_ret2
      rw [HOE.out.1, HOE.out.2]
      exact ⟨A1, n1, q1, L1, k1, rfl, HO1.out.ge HBL0.out.size, G.bl_trans HBL0.out HB1.out, HC1.out⟩
    · have kb1 : (k == 1) = false := by rw [beq_eq_false_iff_ne]; exact k1
      by_cases k2 : k = 2
      · subst k2
        have HOE := Lib.hid (askOk_2 (s := s) HK.out)
        go_wp2_with (first | (refine wpList_load_row rfl 27 _ rfl (g + 1) rfl _ cs (0, 0) _ HS0.out HFS.out rfl (by rw [HS.out]; exact sizeSt) ?_) | ((with_reducible refine (HA2.out _ HBL0.out).mono ?_); rintro e1 w1 hp1; obtain ⟨A1, n1, q1, L1, k1, rfl, ho1, hb1, hc1⟩ := hp1; have HO1 := Lib.hid ho1; have HB1 := Lib.hid hb1; have HC1 := Lib.hid hc1; clear ho1 hb1 hc1))
        go_ret2
        rw [HOE.out.1, HOE.out.2]
        exact ⟨A1, n1, q1, L1, k1, rfl, HO1.out.ge HBL0.out.size, G.bl_trans HBL0.out HB1.out, HC1.out⟩
      · have kb2 : (k == 2) = false := by rw [beq_eq_false_iff_ne]; exact k2
        by_cases k3 : k = 3
        · subst k3
          have HOE := Lib.hid (askOk_3 (s := s) HK.out)
          go_wp2_with (first | (refine wpList_load_row rfl 27 _ rfl (g + 1) rfl _ cs (0, 0) _ HS0.out HFS.out rfl (by rw [HS.out]; exact sizeSt) ?_) | ((with_reducible refine (HA3.out _ HBL0.out).mono ?_); rintro e1 w1 hp1; obtain ⟨A1, n1, q1, L1, k1, rfl, ho1, hb1, hc1⟩ := hp1; have HO1 := Lib.hid ho1; have HB1 := Lib.hid hb1; have HC1 := Lib.hid hc1; clear ho1 hb1 hc1))
          go_ret2
          rw [HOE.out.1, HOE.out.2]
          exact ⟨A1, n1, q1, L1, k1, rfl, HO1.out.ge HBL0.out.size, G.bl_trans HBL0.out HB1.out, HC1.out⟩
        · have kb3 : (k == 3) = false := by rw [beq_eq_false_iff_ne]; exact k3
          have HN := Lib.hid (And.intro k0 (And.intro k1 (And.intro k2 k3)))
          have HOE := Lib.hid (askOk_4 (s := s) (d := d) (fun h => HN.out.1 (by rw [← HK.out]; exact h)) (fun h => HN.out.2.1 (by rw [← HK.out]; exact h)) (fun h => HN.out.2.2.1 (by rw [← HK.out]; exact h)) (fun h => HN.out.2.2.2 (by rw [← HK.out]; exact h)))
          go_wp2_with (first | (refine wpList_load_row rfl 27 _ rfl (g + 1) rfl _ cs (0, 0) _ HS0.out HFS.out rfl (by rw [HS.out]; exact sizeSt) ?_) | ((with_reducible refine (HA4.out _ HBL0.out).mono ?_); rintro e1 w1 hp1; obtain ⟨A1, n1, q1, L1, k1, rfl, ho1, hb1, hc1⟩ := hp1; have HO1 := Lib.hid ho1; have HB1 := Lib.hid hb1; have HC1 := Lib.hid hc1; clear ho1 hb1 hc1))
          go_ret2
          rw [HOE.out.1, HOE.out.2]
          exact ⟨A1, n1, q1, L1, k1, rfl, HO1.out.ge HBL0.out.size, G.bl_trans HBL0.out HB1.out, HC1.out⟩
end Go.Proofs.YtofgmijmhpmabaaGreatDoor.D
namespace Go.Proofs.YtofgmijmhpmabaaGreatDoor.D
open Go Go.RowKit
set_option linter.unusedVariables false
set_option linter.unusedSimpArgs false
/-- The event whose size stands for a deed's. -/
def ordEvM (d : Dq) : Ev := { zeroEv with order := d.order }
theorem OwnEvs.span {B T : Nat} {w w' : World} {base : Nat} {A : Option Addr} {n c : Nat} {L : List (EV × Ev)} (h : OwnEvs w base A n c L) (k : Span B T w w') (hb : T ≤ base) : OwnEvs w' base A n c L :=
  ⟨k.own h.s hb, fun i hi => k.own (h.o i hi) hb⟩
theorem Span.blk_lo {B T : Nat} {w w' : World} {g : Nat} {t : TypeId} {cs : Array Value} (h : Span B T w w') (hb : G.Blk w g t cs) (hg : g < B) : G.Blk w' g t cs := (h.block g (.inl hg) hb.lt).trans hb
/-- What a deed comes to is settled. -/
theorem ask_same {s : St} {ok : Prop} {l : List Ev} {k j : Int} {L M : List (EV × Ev)} (h1 : (k = 10 ∧ ¬ May s ∧ L = []) ∨ (k = 1 ∧ May s ∧ ¬ ok ∧ L = []) ∨ (k = 0 ∧ May s ∧ ok ∧ L.map Prod.snd = l))
    (h2 : (j = 10 ∧ ¬ May s ∧ M = []) ∨ (j = 1 ∧ May s ∧ ¬ ok ∧ M = []) ∨ (j = 0 ∧ May s ∧ ok ∧ M.map Prod.snd = l)) : k = j ∧ evs L = evs M := by
  rcases h1 with ⟨rfl, a1, rfl⟩ | ⟨rfl, a1, b1, rfl⟩ | ⟨rfl, a1, b1, c1⟩
  · rcases h2 with ⟨rfl, a2, rfl⟩ | ⟨rfl, a2, b2, rfl⟩ | ⟨rfl, a2, b2, c2⟩
    · exact ⟨rfl, rfl⟩
    · exact absurd a2 a1
    · exact absurd a2 a1
  · rcases h2 with ⟨rfl, a2, rfl⟩ | ⟨rfl, a2, b2, rfl⟩ | ⟨rfl, a2, b2, c2⟩
    · exact absurd a1 a2
    · exact ⟨rfl, rfl⟩
    · exact absurd b2 b1
  · rcases h2 with ⟨rfl, a2, rfl⟩ | ⟨rfl, a2, b2, rfl⟩ | ⟨rfl, a2, b2, c2⟩
    · exact absurd a1 a2
    · exact absurd b1 b2
    · exact ⟨rfl, c1.trans c2.symm⟩
theorem ask_few {s : St} {d : Dq} {k : Int} {L : List (EV × Ev)} (hf : d.Fits) (h1 : (k = 10 ∧ ¬ May s ∧ L = []) ∨ (k = 1 ∧ May s ∧ ¬ askOk s d ∧ L = []) ∨ (k = 0 ∧ May s ∧ askOk s d ∧ L.map Prod.snd = askEv s d)) :
    L.length ≤ 1 ∧ ∀ p ∈ L, p.2.order.length ≤ 33554432 := by
  rcases h1 with ⟨rfl, a1, rfl⟩ | ⟨rfl, a1, b1, rfl⟩ | ⟨rfl, a1, b1, c1⟩
  · exact ⟨by simp, fun p hp => by cases hp⟩
  · exact ⟨by simp, fun p hp => by cases hp⟩
  · refine ⟨?_, fun p hp => ?_⟩
    · have h1 := congrArg List.length c1
      rw [List.length_map] at h1
      rw [h1]
      exact askEv_one s d
    · exact (askEv_range a1 b1 hf.field hf.order p.2 (by rw [← c1]; exact List.mem_map_of_mem hp)).2
theorem few_at {L : List (EV × Ev)} (h : ∀ p ∈ L, p.2.order.length ≤ 33554432) (i : Nat) : (L.getD i zeroP).2.order.length ≤ 33554432 := by
  by_cases hi : i < L.length
  · rw [List.getD_eq_getElem?_getD, List.getElem?_eq_getElem hi]
    exact h _ (List.getElem_mem hi)
  · rw [List.getD_eq_getElem?_getD, List.getElem?_eq_none (by omega)]
    simp [zeroP, zeroEv]
theorem eqInts_b (A B : Option Addr) (n c d : Nat) (xs : List Int) (w : World) (hx : G.RdS w A 1 n (i64s xs)) (hy : G.RdS w B 1 n (i64s xs)) (hn : n ≤ maxLen) :
    Calls Tryz.prog 46 #[.slice A n c, .slice B n d] w (BoolPost true w) :=
  (G.eqInts_any A B n n c d xs xs w hx hy hn hn).mono fun e w' h => by
    obtain ⟨he, k, rfl⟩ := h
    rw [decide_eq_true rfl] at he
    exact ⟨he, G.bl_drewN (Below.refl _ _) k⟩
theorem spareInts_b (g n : Nat) (zs : List Int) (w : World) (hr : G.RdV w g 0 (i64s (wideI zs))) (hn : zs.length ≤ 33554432) (he : n = zs.length) :
    Calls Tryz.prog 47 #[.slice (some ⟨g, 0, none⟩) n (n + 64)] w (BoolPost true w) := by
  subst he
  exact (spareInts_any g zs w hr hn).mono fun e w' h => by
    obtain ⟨he, rfl⟩ := h
    exact ⟨he, Below.refl _ _⟩
theorem wideInts_b (oa : Option Addr) (oc n gI : Nat) (zs : List Int) (w : World) (hx : G.RdS w oa 1 zs.length (i64s zs)) (hl : zs.length ≤ 33554432) (hn : n = zs.length) (hg : gI = w.heap.size) :
    Calls Tryz.prog 43 #[.slice oa n oc] w (fun e w' => e = .returned (.slice (some ⟨gI, 0, none⟩) n (n + 64)) ∧ w'.ownsRow gI 3 1 (.slice (some ⟨gI, 0, none⟩) (n + 64) (n + 64)) (n + 64) (i64s (wideI zs)) ∧ Below w.heap.size w w') := by
  subst hn hg
  exact wideInts_any oa oc zs w hx hl
theorem wide_rd2 {w : World} {base gI n : Nat} {l : List Int} (h : w.ownsRow base 3 1 (.slice (some ⟨gI, 0, none⟩) (n + 64) (n + 64)) (n + 64) (i64s (wideI l))) (hn : n = l.length) : G.RdS w (some ⟨gI, 0, none⟩) 1 n (i64s l) ∧ G.RdV w gI 0 (i64s (wideI l)) := by
  subst hn
  exact ⟨wide_rd h, own_rd_all h⟩
/-- What the loop that writes over an order keeps. -/
structure MkR (T : Nat) (w0 : World) (g6 : Nat) (cd : Array Value) (gI N : Nat) (wr : World) : Prop where
  sp : Span gI T w0 wr
  bx : G.Blk wr g6 80 cd
  row : ∃ ys : List Int, ys.length = N ∧ wr.ownsRow gI 3 1 (.slice (some ⟨gI, 0, none⟩) N N) N (i64s ys)
theorem MkR.put {T : Nat} {w0 : World} {g6 : Nat} {cd : Array Value} {gI N : Nat} {wr : World} (h : MkR T w0 g6 cd gI N wr) (hT : gI < T) (q : Nat) (v : Int) : MkR T w0 g6 cd gI N (wr.setCell ⟨gI, q, none⟩ (.int .i64 v)) := by
  obtain ⟨ys, hy, hr⟩ := h.row
  have hst := hr.stored q (.int .i64 v)
  refine ⟨h.sp.set (Nat.le_refl _) hT _, blk_far h.bx hr hst.2 (by decide), ys.set q v, by rw [List.length_set]; exact hy, ?_⟩
  have h9 := hst.1
  rw [i64s_set] at h9
  exact h9
theorem MkR.drew {T : Nat} {w0 : World} {g6 : Nat} {cd : Array Value} {gI N : Nat} {wr : World} (h : MkR T w0 g6 cd gI N wr) : MkR T w0 g6 cd gI N wr.drew := by
  obtain ⟨ys, hy, hr⟩ := h.row
  exact ⟨h.sp.drew, h.bx, ys, hy, G.own_below hr (Below.refl _ _).drew⟩
theorem MkR.cell {T : Nat} {w0 : World} {g6 : Nat} {cd : Array Value} {gI N : Nat} {wr : World} (h : MkR T w0 g6 cd gI N wr) {q : Nat} (hq : q < N) : (∃ y, wr.cell? ⟨gI, q, none⟩ = some y) ∧ wr.frozen? ⟨gI, q, none⟩ = false := by
  obtain ⟨ys, hy, hr⟩ := h.row
  exact ⟨G.own_some hr q (by omega), hr.frozenAt q⟩
def zeroDo : Array Value := #[.int .i64 0, .int .i64 0, .int .i64 0, .bool false, .int .i8 0, .int .i64 0, .slice none 0 0]
/-- The boxes of the law's variables. -/
structure SevM (w : World) (g g5 g6 : Nat) (cs cd0 c5 cd : Array Value) : Prop where
  a : G.Blk w g 27 cs
  b : G.Blk w (g + 1) 80 cd0
  c : G.Blk w g5 27 c5
  d : G.Blk w g6 80 cd
theorem SevM.below {w w' : World} {g g5 g6 : Nat} {cs cd0 c5 cd : Array Value} (k : SevM w g g5 g6 cs cd0 c5 cd) (hb : Below w.heap.size w w') : SevM w' g g5 g6 cs cd0 c5 cd :=
  ⟨k.a.below hb k.a.lt, k.b.below hb k.b.lt, k.c.below hb k.c.lt, k.d.below hb k.d.lt⟩
end Go.Proofs.YtofgmijmhpmabaaGreatDoor.D
namespace Go.Proofs.YtofgmijmhpmabaaGreatDoor.D
open Go Go.RowKit
set_option linter.unusedVariables false
set_option linter.unusedSimpArgs false
set_option maxRecDepth 100000 in
set_option maxHeartbeats 8000000 in
theorem makes_long (x : SV) (s : St) (y : EV) (d : Dq) (w : World) (h : RdSt w x s) (hr : G.RdS w y.oa 1 d.order.length (i64s d.order)) (hw : Sw s) (hl : d.order.length ≤ 140737488355328) (hby : beyondB s [(y, ordEvM d)] = true) :
    Calls Tryz.prog 9 #[x.val s, .agg (dqArr y d)] w (BoolPost true w) := by
  obtain ⟨iE, hiE, hzE0, hzE1, hzE2⟩ := info_parts infoEv
  have HIE := Lib.hid (And.intro hiE (And.intro hzE0 hzE1))
  clear hiE hzE0 hzE1 hzE2
  obtain ⟨fsS, hfsS⟩ := undSt
  have HFS := Lib.hid hfsS
  have HR := Lib.hid h
  have HBY := Lib.hid (fun A c W (hW : Below w.heap.size w W) he => beyond_any x s A 1 c [(y, ordEvM d)] W (h.below hW) hw he (by omega) (fun i => by
    match i with
    | 0 => exact hl
    | i + 1 => simp [zeroP, zeroEv]))
  rw [hby] at HBY
  obtain ⟨cs, hcs⟩ : ∃ c, c = x.arr s := ⟨_, rfl⟩
  have HS := Lib.hid (show cs.size = 7 by rw [hcs]; rfl)
  have he1 : x.val s = .agg cs := by rw [hcs]; rfl
  rw [he1] at HBY ⊢
  obtain ⟨oa, oc⟩ := y
  obtain ⟨n, hn⟩ : ∃ n, n = d.order.length := ⟨_, rfl⟩
  have HN := Lib.hid hn
  obtain ⟨cd0, hcd0⟩ : ∃ c, c = dqArr ⟨oa, oc⟩ d := ⟨_, rfl⟩
  have HD6 := Lib.hid (show cd0[6]? = some (.slice oa n oc) by rw [hcd0, hn]; rfl)
  have HSD := Lib.hid (show cd0.size = 7 by rw [hcd0]; rfl)
  rw [← hcd0]
  have HRO := Lib.hid (show G.RdS w oa 1 n (i64s d.order) by rw [hn]; exact hr)
  have HCE0 := Lib.hid (show #[.int .i8 0, .int .i8 0, .int .i64 0, .int .i64 0, .int .i64 0, .int .i64 0, .int .i64 0, .int .i64 0, .int .i64 0, .int .i32 0, .int .i32 0, .slice oa n oc] = (⟨oa, oc⟩ : EV).arr (ordEvM d) by rw [hn]; rfl)
  clear h hr hw hl hby hcs he1 hfsS hn hcd0
  have h1 : G.Blk ((w.alloc (.cells cs 27)).alloc (.cells cd0 80)) w.heap.size 27 cs := heap_alloc2_old w _ _
  have h2 : G.Blk ((w.alloc (.cells cs 27)).alloc (.cells cd0 80)) (w.heap.size + 1) 80 cd0 := heap_alloc2_new w _ _
  have hbl0 : Below w.heap.size w ((w.alloc (.cells cs 27)).alloc (.cells cd0 80)) := G.bl_alloc (G.bl_alloc (Below.refl _ _) _) _
  go_enter Tryz.func9, Tryz.ntmps9
  go_upto_region 1 with (fail)
  obtain ⟨w0, hw0⟩ : ∃ w0, w0 = (w.alloc (.cells cs 27)).alloc (.cells cd0 80) := ⟨_, rfl⟩
  rw [← hw0] at h1 h2 hbl0 ⊢
  clear hw0
  obtain ⟨g, hg⟩ : ∃ g, g = w.heap.size := ⟨_, rfl⟩
  have HGE := Lib.hid (show w.heap.size ≤ g + 1 by omega)
  rw [← hg] at h1 h2 ⊢
  have HBL0 := Lib.hid hbl0
  have HX0 := Lib.hid h1
  have HD0 := Lib.hid h2
  have d6 := (h2.cell 6).trans HD6.out
  have f6 := h2.frozen 6
  have l1 := h2.lt
  clear h1 h2 hbl0 hg
  have HEV := Lib.hid (show RdEvs (w0.alloc (.cells #[.int .i8 0, .int .i8 0, .int .i64 0, .int .i64 0, .int .i64 0, .int .i64 0, .int .i64 0, .int .i64 0, .int .i64 0, .int .i32 0, .int .i32 0, .slice oa n oc] 30)) (some ⟨w0.heap.size, 0, none⟩) 1 [((⟨oa, oc⟩ : EV), ordEvM d)] from ⟨by
    have h9 := rd_blk (sz := 12) (n := 1) (G.Blk.new w0 30 #[.int .i8 0, .int .i8 0, .int .i64 0, .int .i64 0, .int .i64 0, .int .i64 0, .int .i64 0, .int .i64 0, .int .i64 0, .int .i32 0, .int .i32 0, .slice oa n oc]) rfl
    have e9 : flatE [((⟨oa, oc⟩ : EV), ordEvM d)] = (#[.int .i8 0, .int .i8 0, .int .i64 0, .int .i64 0, .int .i64 0, .int .i64 0, .int .i64 0, .int .i64 0, .int .i64 0, .int .i32 0, .int .i32 0, .slice oa n oc] : Array Value).toList := by rw [HCE0.out]; simp [flatE, cellsE]
    rw [e9]
    exact h9, fun i hi => by
      obtain rfl : i = 0 := by omega
      exact (show G.RdS w oa 1 d.order.length (i64s d.order) by rw [← HN.out]; exact HRO.out).below (G.bl_alloc HBL0.out _)⟩)
  go_wp2_with (first | (refine wpList_load_row rfl 27 _ rfl g rfl _ cs (0, 0) _ HX0.out HFS.out rfl (by rw [HS.out]; exact sizeSt) ?_) | ((with_reducible refine (HBY.out _ _ _ (G.bl_alloc HBL0.out _) HEV.out).mono ?_); rintro e1 w1 ⟨rfl, hb1⟩; have HBW1 := Lib.hid hb1; clear hb1))
  go_ret
  exact ⟨rfl, G.bl_trans (G.bl_alloc HBL0.out _) HBW1.out⟩
set_option maxRecDepth 100000 in
set_option maxHeartbeats 32000000 in
theorem makes_short (x : SV) (s : St) (y : EV) (d : Dq) (w : World) (h : RdSt w x s) (hr : G.RdS w y.oa 1 d.order.length (i64s d.order)) (hf : d.Fits) (hw : Sw s) (hs : Sz s) (hby : beyondB s [(y, ordEvM d)] = false) :
    Calls Tryz.prog 9 #[x.val s, .agg (dqArr y d)] w (BoolPost true w) := by
  obtain ⟨iE, hiE, hzE0, hzE1, hzE2⟩ := info_parts infoEv
  have HIE := Lib.hid (And.intro hiE (And.intro hzE0 hzE1))
  clear hiE hzE0 hzE1 hzE2
  obtain ⟨fsS, hfsS⟩ := undSt
  have HFS := Lib.hid hfsS
  have HR := Lib.hid h
  have HBY := Lib.hid (fun A c W (hW : Below w.heap.size w W) he => beyond_any x s A 1 c [(y, ordEvM d)] W (h.below hW) hw he (by omega) (fun i => by
    match i with
    | 0 => exact (Nat.le_trans hf.order (by omega))
    | i + 1 => simp [zeroP, zeroEv]))
  rw [hby] at HBY
  have HWS := Lib.hid (fun W (hW : Below w.heap.size w W) => wideState_any x s W (h.below hW) hs)
  have HME := Lib.hid (fun W (hW : Below w.heap.size w W) => meant_any x s y d W (h.below hW) hs (hr.below hW) hf)
  have HRS := Lib.hid h
  have HRD := Lib.hid hr
  have HSZ := Lib.hid hs
  have HDF := Lib.hid hf
  obtain ⟨fsD, hfsD⟩ := undDo
  have HFD := Lib.hid hfsD
  clear hfsD
  obtain ⟨cs, hcs⟩ : ∃ c, c = x.arr s := ⟨_, rfl⟩
  have HS := Lib.hid (show cs.size = 7 by rw [hcs]; rfl)
  have HCS0 := Lib.hid hcs
  have he1 : x.val s = .agg cs := by rw [hcs]; rfl
  rw [he1] at HBY HWS HME ⊢
  obtain ⟨oa, oc⟩ := y
  obtain ⟨n, hn⟩ : ∃ n, n = d.order.length := ⟨_, rfl⟩
  have HN := Lib.hid hn
  obtain ⟨cd0, hcd0⟩ : ∃ c, c = dqArr ⟨oa, oc⟩ d := ⟨_, rfl⟩
  have HD6 := Lib.hid (show cd0[6]? = some (.slice oa n oc) by rw [hcd0, hn]; rfl)
  have HSD := Lib.hid (show cd0.size = 7 by rw [hcd0]; rfl)
  have HON := Lib.hid (show cd0.all (·.oneCell') = true by rw [hcd0]; simp [dqArr, Value.oneCell'])
  have HDC := Lib.hid hcd0
  rw [← hcd0] at HME ⊢
  have HRO := Lib.hid (show G.RdS w oa 1 n (i64s d.order) by rw [hn]; exact hr)
  have HCE0 := Lib.hid (show #[.int .i8 0, .int .i8 0, .int .i64 0, .int .i64 0, .int .i64 0, .int .i64 0, .int .i64 0, .int .i64 0, .int .i64 0, .int .i32 0, .int .i32 0, .slice oa n oc] = (⟨oa, oc⟩ : EV).arr (ordEvM d) by rw [hn]; rfl)
  clear h hr hw hf hs hby hcs he1 hfsS hn hcd0
  have h1 : G.Blk ((w.alloc (.cells cs 27)).alloc (.cells cd0 80)) w.heap.size 27 cs := heap_alloc2_old w _ _
  have h2 : G.Blk ((w.alloc (.cells cs 27)).alloc (.cells cd0 80)) (w.heap.size + 1) 80 cd0 := heap_alloc2_new w _ _
  have hbl0 : Below w.heap.size w ((w.alloc (.cells cs 27)).alloc (.cells cd0 80)) := G.bl_alloc (G.bl_alloc (Below.refl _ _) _) _
  go_enter Tryz.func9, Tryz.ntmps9
  go_upto_region 1 with (fail)
  obtain ⟨w0, hw0⟩ : ∃ w0, w0 = (w.alloc (.cells cs 27)).alloc (.cells cd0 80) := ⟨_, rfl⟩
  rw [← hw0] at h1 h2 hbl0 ⊢
  clear hw0
  obtain ⟨g, hg⟩ : ∃ g, g = w.heap.size := ⟨_, rfl⟩
  have HGE := Lib.hid (show w.heap.size ≤ g + 1 by omega)
  rw [← hg] at h1 h2 ⊢
  have HBL0 := Lib.hid hbl0
  have HX0 := Lib.hid h1
  have HD0 := Lib.hid h2
  have d6 := (h2.cell 6).trans HD6.out
  have f6 := h2.frozen 6
  have l1 := h2.lt
  clear h1 h2 hbl0 hg
  have HEV := Lib.hid (show RdEvs (w0.alloc (.cells #[.int .i8 0, .int .i8 0, .int .i64 0, .int .i64 0, .int .i64 0, .int .i64 0, .int .i64 0, .int .i64 0, .int .i64 0, .int .i32 0, .int .i32 0, .slice oa n oc] 30)) (some ⟨w0.heap.size, 0, none⟩) 1 [((⟨oa, oc⟩ : EV), ordEvM d)] from ⟨by
    have h9 := rd_blk (sz := 12) (n := 1) (G.Blk.new w0 30 #[.int .i8 0, .int .i8 0, .int .i64 0, .int .i64 0, .int .i64 0, .int .i64 0, .int .i64 0, .int .i64 0, .int .i64 0, .int .i32 0, .int .i32 0, .slice oa n oc]) rfl
    have e9 : flatE [((⟨oa, oc⟩ : EV), ordEvM d)] = (#[.int .i8 0, .int .i8 0, .int .i64 0, .int .i64 0, .int .i64 0, .int .i64 0, .int .i64 0, .int .i64 0, .int .i64 0, .int .i32 0, .int .i32 0, .slice oa n oc] : Array Value).toList := by rw [HCE0.out]; simp [flatE, cellsE]
    rw [e9]
    exact h9, fun i hi => by
      obtain rfl : i = 0 := by omega
      exact (show G.RdS w oa 1 d.order.length (i64s d.order) by rw [← HN.out]; exact HRO.out).below (G.bl_alloc HBL0.out _)⟩)
  go_upto_region 3 with (first | (refine wpList_load_row rfl 27 _ rfl g rfl _ cs (0, 0) _ HX0.out HFS.out rfl (by rw [HS.out]; exact sizeSt) ?_) | ((with_reducible refine (HBY.out _ _ _ (G.bl_alloc HBL0.out _) HEV.out).mono ?_); rintro e1 w1 ⟨rfl, hb1⟩; have HBW1 := Lib.hid hb1; clear hb1))
  have hw1 := G.bl_trans (G.bl_alloc (Below.refl w0.heap.size w0) _) HBW1.out
  have HBL1 := Lib.hid (G.bl_trans HBL0.out hw1)
  have HX1 := Lib.hid (HX0.out.below hw1 HX0.out.lt)
  have HD1 := Lib.hid (HD0.out.below hw1 HD0.out.lt)
  clear hw1 d6 f6 l1
  have HWS1 := Lib.hid (HWS.out w1 HBL1.out)
  go_upto_region 4 with (first | (refine wpList_load_row rfl 27 _ rfl g rfl _ cs (0, 0) _ HX1.out HFS.out rfl (by rw [HS.out]; exact sizeSt) ?_) | ((with_reducible refine (HWS1.out).mono ?_); rintro e2 w2 hp; obtain ⟨gp, gc, gz, rs, rfl, hws, hb2⟩ := hp; have HW2 := Lib.hid hws; have HB2 := Lib.hid hb2; clear hws hb2) | (refine wpList_store_row rfl 27 _ _ rfl _ ((wSV s gp gc gz rs).arr s) rfl rfl 27 _ (heap_alloc_new _ _) (by kernel_rfl) rfl (arr_one _ _) ?_))
  have HBK5 := Lib.hid (show G.Blk ((w2.alloc (.cells zeroA 27)).setRow w2.heap.size ((wSV s gp gc gz rs).arr s)) w2.heap.size 27 ((wSV s gp gc gz rs).arr s) from setRow_heap _ _ _ _ _ _ (heap_alloc_new _ _))
  have HST5 := Lib.hid (show Below w2.heap.size w2 ((w2.alloc (.cells zeroA 27)).setRow w2.heap.size ((wSV s gp gc gz rs).arr s)) from below_setRow (G.bl_alloc (Below.refl _ _) _) (Nat.le_refl _) _)
  obtain ⟨g5, hg5⟩ : ∃ q, q = w2.heap.size := ⟨_, rfl⟩
  obtain ⟨w3, hw3⟩ : ∃ q, q = (w2.alloc (.cells zeroA 27)).setRow w2.heap.size ((wSV s gp gc gz rs).arr s) := ⟨_, rfl⟩
  rw [← hw3] at HBK5 HST5
  rw [← hg5] at HBK5
  unfold zeroA at hw3
  rw [← hw3, ← hg5]
  have HGE5 := Lib.hid hg5
  clear hw3 hg5
  obtain ⟨c5, hc5⟩ : ∃ c, c = (wSV s gp gc gz rs).arr s := ⟨_, rfl⟩
  have HCC5 := Lib.hid hc5
  rw [← hc5] at HBK5
  have HZ5 := Lib.hid (show c5.size = 7 by rw [hc5]; rfl)
  clear hc5
  have HB23 := Lib.hid (G.bl_trans HB2.out HST5.out)
  have HX3 := Lib.hid (HX1.out.below HB23.out HX1.out.lt)
  have HD3 := Lib.hid (HD1.out.below HB23.out HD1.out.lt)
  have HBL3 := Lib.hid (G.bl_trans HBL1.out HB23.out)
  have HW3 := Lib.hid (HW2.out.below HST5.out)
  clear HX0 HD0 HX1 HD1 HBW1 HBL0 HEV HBY HWS HWS1
  go_upto_region 5 with (first | (refine wpList_load_row rfl 80 _ rfl (g + 1) rfl _ cd0 (0, 0) _ HD3.out HFD.out rfl (by rw [HSD.out]; exact sizeDo) ?_) | (refine wpList_store_row rfl 80 _ _ rfl _ cd0 rfl rfl 80 _ (heap_alloc_new _ _) (by rw [HSD.out]; exact sizeDo) (by rw [HSD.out]; rfl) HON.out ?_))
  have HBK6 := Lib.hid (show G.Blk ((w3.alloc (.cells zeroDo 80)).setRow w3.heap.size cd0) w3.heap.size 80 cd0 from setRow_heap _ _ _ _ _ _ (heap_alloc_new _ _))
  have HST6 := Lib.hid (show Below w3.heap.size w3 ((w3.alloc (.cells zeroDo 80)).setRow w3.heap.size cd0) from below_setRow (G.bl_alloc (Below.refl _ _) _) (Nat.le_refl _) _)
  obtain ⟨g6, hg6⟩ : ∃ q, q = w3.heap.size := ⟨_, rfl⟩
  obtain ⟨w4, hw4⟩ : ∃ q, q = (w3.alloc (.cells zeroDo 80)).setRow w3.heap.size cd0 := ⟨_, rfl⟩
  rw [← hw4] at HBK6 HST6
  rw [← hg6] at HBK6
  unfold zeroDo at hw4
  rw [← hw4, ← hg6]
  have HGE6 := Lib.hid hg6
  clear hw4 hg6
  have HBL4 := Lib.hid (G.bl_trans HBL3.out HST6.out)
  obtain ⟨gI, hgI⟩ : ∃ q, q = w4.heap.size := ⟨_, rfl⟩
  have HGI := Lib.hid hgI
  clear hgI
  have HCI := Lib.hid (wideInts_b oa oc n gI d.order w4 (HRD.out.below HBL4.out) HDF.out.order HN.out HGI.out)
  have HD4 := Lib.hid (HD3.out.below HST6.out HD3.out.lt)
  have d6 := (HD4.out.cell 6).trans HD6.out
  have l1 := HD4.out.lt
  go_upto_region 6 with ((with_reducible refine (HCI.out).mono ?_); rintro e2 wB hp2; obtain ⟨rfl, ho2, hb2⟩ := hp2; have HO2 := Lib.hid ho2; have HBB := Lib.hid hb2; have f6b := (HBK6.out.below hb2 HBK6.out.lt).frozen 6; have d6b := ((HBK6.out.below hb2 HBK6.out.lt).cell 6).trans HD6.out; have l6b := (HBK6.out.below hb2 HBK6.out.lt).lt; clear ho2 hb2)
  have HB35 := Lib.hid (show Below w3.heap.size w3 (wB.setCell ⟨g6, 6, none⟩ (.slice (some ⟨gI, 0, none⟩) n (n + 64))) from G.bl_set (G.bl_trans HST6.out HBB.out) (p := ⟨g6, 6, none⟩) (by show w3.heap.size ≤ g6; rw [HGE6.out]; exact Nat.le_refl _) _)
  have HBK := Lib.hid ((HBK6.out.below HBB.out HBK6.out.lt).put 6 (.slice (some ⟨gI, 0, none⟩) n (n + 64)))
  have HO5 := Lib.hid (HO2.out.kept (row := some g6) (w' := wB.setCell ⟨g6, 6, none⟩ (.slice (some ⟨gI, 0, none⟩) n (n + 64))) ⟨rfl, rfl, rfl, by simp, fun j hj hne => Below.heap_setCell wB ⟨g6, 6, none⟩ _ j (fun e => hne (by rw [e]))⟩ (G.row_ne HO2.out (HBK6.out.below HBB.out HBK6.out.lt) (by decide)))
  have HTT := Lib.hid (show gI < (wB.setCell ⟨g6, 6, none⟩ (.slice (some ⟨gI, 0, none⟩) n (n + 64))).heap.size from (HO5.out.lt gI rfl).2)
  obtain ⟨w5, hw5⟩ : ∃ q, q = wB.setCell ⟨g6, 6, none⟩ (.slice (some ⟨gI, 0, none⟩) n (n + 64)) := ⟨_, rfl⟩
  rw [← hw5] at HB35 HBK HO5 HTT ⊢
  clear hw5 d6 l1 f6b d6b l6b
  obtain ⟨cd, hcd⟩ : ∃ c, c = dqArr ⟨some ⟨gI, 0, none⟩, n + 64⟩ d := ⟨_, rfl⟩
  have HCD := Lib.hid hcd
  have HSC := Lib.hid (show cd.size = 7 by rw [hcd]; rfl)
  have HC6 := Lib.hid (show cd[6]? = some (.slice (some ⟨gI, 0, none⟩) n (n + 64)) by rw [hcd, HN.out]; rfl)
  rw [show cd0.setIfInBounds 6 (.slice (some ⟨gI, 0, none⟩) n (n + 64)) = cd by rw [hcd, HDC.out, HN.out]; rfl] at HBK
  clear hcd
  have HSV := Lib.hid (show SevM w5 g g5 g6 cs cd0 c5 cd from ⟨HX3.out.below HB35.out HX3.out.lt, HD3.out.below HB35.out HD3.out.lt, HBK5.out.below HB35.out HBK5.out.lt, HBK.out⟩)
  have HW5 := Lib.hid (HW3.out.below HB35.out)
  have HBL5 := Lib.hid (G.bl_trans HBL3.out HB35.out)
  have HRI := Lib.hid (wide_rd2 HO5.out HN.out)
  have HAS := Lib.hid (fun W (hW : Below w5.heap.size w5 W) => asked_any (wSV s gp gc gz rs) s ⟨some ⟨gI, 0, none⟩, n + 64⟩ d W (HW5.out.own.rd.below hW) HSZ.out (by rw [← HN.out]; exact HRI.out.1.below hW) HDF.out)
  rw [show (wSV s gp gc gz rs).val s = .agg c5 by rw [HCC5.out]; rfl, ← HCD.out] at HAS
  have HL5 := Lib.hid (show w2.heap.size ≤ gI by rw [HGI.out]; exact Nat.le_trans HST5.out.size HST6.out.size)
  have HG6 := Lib.hid (show g6 < gI by rw [HGI.out]; exact HBK6.out.lt)
  have HG5 := Lib.hid (show g5 < gI by rw [HGI.out]; exact Nat.lt_of_lt_of_le HBK5.out.lt HST6.out.size)
  clear HX3 HD3 HBK5 HBK6 HD4 HCI HBK HO2 HBB
  have HBC := Lib.hid (Below.refl w5.heap.size w5)
  have HCL := Lib.hid (HAS.out w5 HBC.out)
  go_upto_region 7 with (first | (refine wpList_load_row rfl 80 _ rfl g6 rfl _ cd (0, 0) _ HSV.out.d HFD.out rfl (by rw [HSC.out]; exact sizeDo) ?_) | (refine wpList_load_row rfl 27 _ rfl g5 rfl _ c5 (0, 0) _ HSV.out.c HFS.out rfl (by rw [HZ5.out]; exact sizeSt) ?_) | ((with_reducible refine (HCL.out).mono ?_); rintro e7 w6 hp; obtain ⟨A7, n7, q7, L7, k7, rfl, ho, hb, hc⟩ := hp; have HO7 := Lib.hid ho; have HB7 := Lib.hid hb; have HC7 := Lib.hid hc; clear ho hb hc))
  have HBC := Lib.hid (G.bl_trans HBC.out HB7.out)
  have HSV := Lib.hid (HSV.out.below HB7.out)
  clear HCL
  have HCL := Lib.hid (HAS.out w6 HBC.out)
  go_upto_region 8 with (first | (refine wpList_load_row rfl 80 _ rfl g6 rfl _ cd (0, 0) _ HSV.out.d HFD.out rfl (by rw [HSC.out]; exact sizeDo) ?_) | (refine wpList_load_row rfl 27 _ rfl g5 rfl _ c5 (0, 0) _ HSV.out.c HFS.out rfl (by rw [HZ5.out]; exact sizeSt) ?_) | ((with_reducible refine (HCL.out).mono ?_); rintro e9 w7 hp; obtain ⟨A9, n9, q9, L9, k9, rfl, ho, hb, hc⟩ := hp; have HO9 := Lib.hid ho; have HB9 := Lib.hid hb; have HC9 := Lib.hid hc; clear ho hb hc))
  have HBC := Lib.hid (G.bl_trans HBC.out HB9.out)
  have HSV := Lib.hid (HSV.out.below HB9.out)
  clear HCL
  have HCL := Lib.hid (HME.out w7 (G.bl_trans HBL5.out HBC.out))
  go_upto_region 9 with (first | (refine wpList_load_row rfl 80 _ rfl (g + 1) rfl _ cd0 (0, 0) _ HSV.out.b HFD.out rfl (by rw [HSD.out]; exact sizeDo) ?_) | (refine wpList_load_row rfl 27 _ rfl g rfl _ cs (0, 0) _ HSV.out.a HFS.out rfl (by rw [HS.out]; exact sizeSt) ?_) | ((with_reducible refine (HCL.out).mono ?_); rintro e11 w8 hp; obtain ⟨A11, n11, q11, L11, k11, rfl, ho, hb, hc⟩ := hp; have HO11 := Lib.hid ho; have HB11 := Lib.hid hb; have HC11 := Lib.hid hc; clear ho hb hc))
  have HBC := Lib.hid (G.bl_trans HBC.out HB11.out)
  have HSV := Lib.hid (HSV.out.below HB11.out)
  clear HCL
  obtain ⟨hk9, hv9⟩ := ask_same HC7.out HC9.out
  obtain ⟨hk11, hv11⟩ := ask_same HC7.out HC11.out
  obtain ⟨hf7, ho7⟩ := ask_few HDF.out HC7.out
  obtain ⟨hf9, ho9⟩ := ask_few HDF.out HC9.out
  obtain ⟨hf11, ho11⟩ := ask_few HDF.out HC11.out
  have HV9 := Lib.hid hv9
  have HV11 := Lib.hid hv11
  have HF7 := Lib.hid hf7
  have HF9 := Lib.hid hf9
  have HE7 := Lib.hid ho7
  have HE9 := Lib.hid ho9
  have HE11 := Lib.hid ho11
  have HN7 := Lib.hid (show n7 ≤ 1 by rw [← HO7.out.lenE]; exact hf7)
  have HN9 := Lib.hid (show n9 ≤ 1 by rw [← HO9.out.lenE]; exact hf9)
  clear hv9 hv11 hf7 hf9 hf11 ho7 ho9 ho11
  subst hk9
  subst hk11
  have hkk : (k7 != k7) = false := by simp
  have HON7 := Lib.hid (HO7.out.below (G.bl_trans HB9.out HB11.out))
  have HON9 := Lib.hid (HO9.out.below HB11.out)
  have HBLw := Lib.hid (G.bl_trans HBL5.out HBC.out)
  have HBC5 := Lib.hid HBC.out
  have HBC := Lib.hid (Below.refl w8.heap.size w8)
  have HRw := Lib.hid (HRS.out.below HBLw.out)
  have HWw := Lib.hid (HW5.out.below HBC5.out)
  have HRDw := Lib.hid (show G.RdS w8 oa 1 n (i64s d.order) by rw [HN.out]; exact HRD.out.below HBLw.out)
  have HO5w := Lib.hid (G.own_below HO5.out HBC5.out)
  have HRIw := Lib.hid (wide_rd2 HO5w.out HN.out)
  have HNL := Lib.hid (show n ≤ 33554432 by rw [HN.out]; exact HDF.out.order)
  have HQ1 := Lib.hid (fun W (hW : Below w8.heap.size w8 W) => eqEvents_any A7 A11 n7 n11 q7 q11 L7 L11 W (HON7.out.rd.below hW) (HO11.out.rd.below hW) (Nat.le_trans HN7.out (by decide)) (fun i _ => few_at HE7.out i) (fun i _ => few_at HE11.out i))
  have HQ2 := Lib.hid (fun W (hW : Below w8.heap.size w8 W) => eqEvents_any A9 A11 n9 n11 q9 q11 L9 L11 W (HON9.out.rd.below hW) (HO11.out.rd.below hW) (Nat.le_trans HN9.out (by decide)) (fun i _ => few_at HE9.out i) (fun i _ => few_at HE11.out i))
  rw [show decide (evs L7 = evs L11) = true from decide_eq_true HV11.out] at HQ1
  rw [show decide (evs L9 = evs L11) = true from decide_eq_true (HV9.out.symm.trans HV11.out)] at HQ2
  have HQ3 := Lib.hid (fun W (hW : Below w8.heap.size w8 W) => stays_any gp gc gz w1.heap.size rs x s W (HWw.out.below hW) (HRw.out.below hW) HSZ.out)
  rw [show (wSV s gp gc gz rs).val s = .agg c5 by rw [HCC5.out]; rfl, show x.val s = .agg cs by rw [HCS0.out]; rfl] at HQ3
  have HQ4 := Lib.hid (fun W (hW : Below w8.heap.size w8 W) => eqInts_b (some ⟨gI, 0, none⟩) oa n (n + 64) oc d.order W (HRIw.out.1.below hW) (HRDw.out.below hW) (Nat.le_trans HNL.out (by decide)))
  have HQ5 := Lib.hid (fun W (hW : Below w8.heap.size w8 W) => spareInts_b gI n d.order W (HRIw.out.2.below hW) HDF.out.order HN.out)
  go_wp2_with (first | fail)
  refine (HQ1.out _ HBC.out).mono ?_
  rintro e21 w21 ⟨rfl, hb21⟩
  have HNN := Lib.hid hb21
  clear hb21
  have HBC := Lib.hid (G.bl_trans HBC.out HNN.out)
  have HSV := Lib.hid (HSV.out.below HNN.out)
  clear HNN
  go_wp2_with (first | fail)
  refine (HQ2.out _ HBC.out).mono ?_
  rintro e22 w22 ⟨rfl, hb22⟩
  have HNN := Lib.hid hb22
  clear hb22
  have HBC := Lib.hid (G.bl_trans HBC.out HNN.out)
  have HSV := Lib.hid (HSV.out.below HNN.out)
  clear HNN
  go_wp2_with (first | (refine wpList_load_row_g (by rfl) 27 _ rfl g5 rfl _ c5 (0, 0) _ HSV.out.c HFS.out rfl (by rw [HZ5.out]; exact sizeSt) ?_) | (refine wpList_load_row_g (by rfl) 27 _ rfl g rfl _ cs (0, 0) _ HSV.out.a HFS.out rfl (by rw [HS.out]; exact sizeSt) ?_))
  refine (HQ3.out _ HBC.out).mono ?_
  rintro e23 w23 ⟨rfl, hb23⟩
  have HNN := Lib.hid hb23
  clear hb23
  have HBC := Lib.hid (G.bl_trans HBC.out HNN.out)
  have HSV := Lib.hid (HSV.out.below HNN.out)
  clear HNN
  have x6 := (HSV.out.d.cell 6).trans HC6.out
  have y6 := (HSV.out.b.cell 6).trans HD6.out
  have lx := HSV.out.d.lt
  have ly := HSV.out.b.lt
  go_wp2_with (first | fail)
  refine (HQ4.out _ HBC.out).mono ?_
  rintro e24 w24 ⟨rfl, hb24⟩
  have HNN := Lib.hid hb24
  clear hb24
  have HBC := Lib.hid (G.bl_trans HBC.out HNN.out)
  have HSV := Lib.hid (HSV.out.below HNN.out)
  clear HNN
  clear x6 y6 lx ly
  have x6 := (HSV.out.d.cell 6).trans HC6.out
  have lx := HSV.out.d.lt
  go_wp2_with (first | fail)
  refine (HQ5.out _ HBC.out).mono ?_
  rintro e25 w25 ⟨rfl, hb25⟩
  have HNN := Lib.hid hb25
  clear hb25
  have HBC := Lib.hid (G.bl_trans HBC.out HNN.out)
  have HSV := Lib.hid (HSV.out.below HNN.out)
  clear HNN
  clear x6 lx
  have HMK := Lib.hid (show MkR w5.heap.size w25 g6 cd gI (n + 64) w25 from ⟨Span.refl _ _ _, HSV.out.d, wideI d.order, by rw [wideI_length, ← HN.out], G.own_below HO5w.out HBC.out⟩)
  have hnL := HNL.out
  clear HQ1 HQ2 HQ3 HQ4 HQ5
  go_wp2_with fail
  go_loopw [13] (fun i wr => ∃ q : Nat, q ≤ n ∧ i = .int .i64 q ∧ MkR w5.heap.size w25 g6 cd gI (n + 64) wr) (fun i _ => n - (intOf i).toNat)
  case atStart => exact ⟨0, Nat.zero_le _, rfl, HMK.out⟩
  case round =>
    clear HMK
    obtain ⟨q, hq, rfl, hmk⟩ := hrel
    have HMK := Lib.hid hmk
    have hq0 : (0 : Int) ≤ q := by omega
    clear hmk
    have x6 := (HMK.out.bx.cell 6).trans HC6.out
    have lx := HMK.out.bx.lt
    by_cases hlt : q < n
    · have hltI : (q : Int) < n := by omega
      obtain ⟨⟨y9, hy9⟩, hf9⟩ := HMK.out.cell (q := q) (by omega)
      have lI := World.block_lt_of_cell? _ _ hy9
      have HMP := Lib.hid (HMK.out.put HTT.out q (-3))
      go_wp2_with fail
      go_roundw
      case rel => exact ⟨q + 1, by omega, by go_num, by first | exact HMP.out | exact HMP.out.drew | exact (HMK.out.drew).put HTT.out q (-3)⟩
      case measure => simp [intOf]; omega
    · have hltI : ¬ (q : Int) < n := by omega
      obtain rfl : q = n := by omega
      have HSP := Lib.hid HMK.out.sp
      have HK5 := Lib.hid (HSP.out.blk_lo HSV.out.c HG5.out)
      have HB2r := Lib.hid (show Below w2.heap.size w2 wr from span_bl HSP.out (G.bl_trans (G.bl_trans (G.bl_trans HST5.out HB35.out) HBC5.out) HBC.out) HL5.out (G.bl_trans (G.bl_trans (G.bl_trans HST5.out HB35.out) HBC5.out) HBC.out).size)
      have HSPL := Lib.hid (spoil_any w1.heap.size (wSV s gp gc gz rs) s w2 wr HW2.out.own HB2r.out HSZ.out)
      rw [show (wSV s gp gc gz rs).val s = .agg c5 by rw [HCC5.out]; rfl] at HSPL
      go_wp2_with (first | (refine wpList_load_row rfl 27 _ rfl g5 rfl _ c5 (0, 0) _ HK5.out HFS.out rfl (by rw [HZ5.out]; exact sizeSt) ?_))
      refine (HSPL.out).mono ?_
      rintro e26 w26 ⟨rfl, hsp⟩
      have HSQ := Lib.hid hsp
      clear hsp HSPL HK5
      have HT0 := Lib.hid (show w2.heap.size ≤ w5.heap.size from (G.bl_trans HST5.out HB35.out).size)
      have HT1 := Lib.hid (show w5.heap.size ≤ w6.heap.size from HB7.out.size)
      have HT2 := Lib.hid (show w6.heap.size ≤ w7.heap.size from HB9.out.size)
      have HT3 := Lib.hid (show w7.heap.size ≤ w8.heap.size from HB11.out.size)
      have HP7 := Lib.hid (((HON7.out.below HBC.out).span HSP.out (Nat.le_refl _)).span HSQ.out HT0.out)
      have HP9 := Lib.hid (((HON9.out.below HBC.out).span HSP.out HT1.out).span HSQ.out (Nat.le_trans HT0.out HT1.out))
      have HP11 := Lib.hid (((HO11.out.below HBC.out).span HSP.out (Nat.le_trans HT1.out HT2.out)).span HSQ.out (Nat.le_trans HT0.out (Nat.le_trans HT1.out HT2.out)))
      have HBLr := Lib.hid (span_bl HSP.out (G.bl_trans HBLw.out HBC.out) (Nat.le_trans (Nat.le_trans HBL1.out.size HB2.out.size) HL5.out) (G.bl_trans HBLw.out HBC.out).size)
      have HBLx := Lib.hid (span_bl HSQ.out HBLr.out HBL1.out.size HBLr.out.size)
      have HSN := Lib.hid (show w6.heap.size ≤ w26.heap.size from Nat.le_trans HT2.out (Nat.le_trans HT3.out (Nat.le_trans HBC.out.size (Nat.le_trans HSP.out.size HSQ.out.size))))
      have HQ6 := Lib.hid (eqEvents_any A7 A11 n7 n11 q7 q11 L7 L11 w26 HP7.out.rd HP11.out.rd (Nat.le_trans HN7.out (by decide)) (fun i _ => few_at HE7.out i) (fun i _ => few_at HE11.out i))
      rw [show decide (evs L7 = evs L11) = true from decide_eq_true HV11.out] at HQ6
      clear HSV HMK HB2r HSP HSQ HBLr
      go_wp2_with fail
      refine (HQ6.out).mono ?_
      rintro e27 w27 ⟨rfl, hb27⟩
      have HR7 := Lib.hid (HP7.out.below hb27)
      have HR9 := Lib.hid (HP9.out.below hb27)
      have HBLy := Lib.hid (G.bl_trans HBLx.out hb27)
      have HSN := Lib.hid (Nat.le_trans HSN.out hb27.size)
      clear hb27 HQ6
      obtain ⟨cb, hcb⟩ : ∃ c, c = zeroBag := ⟨_, rfl⟩
      have HCB := Lib.hid (show Tryz.prog.built 64 [] = some cb by rw [hcb]; exact zeroBag_b)
      have HCN := Lib.hid (show cb.size = 21 ∧ ∀ i, i < 21 → cb[i]? = some (.slice none 0 0) by rw [hcb]; exact ⟨rfl, zeroBag_at⟩)
      clear hcb
      go_upto_region 19 with (first | (refine build_to cb rfl 64 _ rfl _ (by kernel_rfl) HCB.out ?_))
      have HBG := Lib.hid (G.BagAll.start w27 HCN.out.1 HCN.out.2)
      have HB28 := Lib.hid (show Below w27.heap.size w27 (w27.alloc (.cells cb 64)) from G.bl_alloc (Below.refl _ _) _)
      obtain ⟨w28, hw28⟩ : ∃ q, q = w27.alloc (.cells cb 64) := ⟨_, rfl⟩
      rw [← hw28] at HBG HB28 ⊢
      clear hw28
      obtain ⟨gb, hgb⟩ : ∃ q, q = w27.heap.size := ⟨_, rfl⟩
      have HGB := Lib.hid hgb
      rw [← hgb] at HBG ⊢
      clear hgb
      have HAD := Lib.hid (addEvents_bag gb q7 n7 A7 L7 (fun _ => []) w27 w28 HR7.out.rd HB28.out (by rw [HGB.out]; exact Nat.le_refl _) HBG.out (by decide) (by have := HN7.out; show 0 + n7 ≤ 400; omega))
      go_wp2_with fail
      refine (HAD.out).mono ?_
      rintro e29 w29 ⟨rfl, htc, hbag⟩
      have HBG2 := Lib.hid hbag
      have HB29 := Lib.hid (show Below w27.heap.size w27 w29 from HB28.out.trans (by rw [← HGB.out]; exact htc.below))
      clear htc hbag
      have HAD2 := Lib.hid (addEvents_bag gb q9 n9 A9 L9 (addEvs (fun _ => []) A7 n7 q7 L7) w27 w29 HR9.out.rd HB29.out (by rw [HGB.out]; exact Nat.le_refl _) HBG2.out (by rw [addEvs_14]; simp) (by rw [addEvs_1, List.nil_append, ords_length]; have := HF7.out; have := HN9.out; omega))
      go_wp2_with fail
      refine (HAD2.out).mono ?_
      rintro e30 w30 ⟨rfl, htc, hbag⟩
      have HBG3 := Lib.hid hbag
      have HB30 := Lib.hid (show Below w27.heap.size w27 w30 from HB29.out.trans (by rw [← HGB.out]; exact htc.below))
      clear htc hbag
      have HAPT := Lib.hid (apart_evs2 gb w.heap.size w5.heap.size w6.heap.size A7 A9 n7 q7 n9 q9 L7 L9 w6 w27 w30 HO7.out HR7.out HR9.out (Nat.le_refl _) HSN.out HB30.out (by rw [HGB.out]; exact Nat.le_refl _) HBL5.out.size (Nat.le_trans HBL5.out.size HT1.out) (by rw [HGB.out]; exact HBLy.out.size) HBG3.out HN7.out HN9.out (fun p hp => Nat.le_trans (HE7.out p hp) (by decide)) (fun p hp => Nat.le_trans (HE9.out p hp) (by decide)))
      go_wp2_with fail
      refine (HAPT.out).mono ?_
      rintro e31 w31 ⟨rfl, hb31⟩
      have HB31 := Lib.hid ((G.bl_trans HBLy.out HB30.out).trans hb31)
      clear hb31
      have HLI := Lib.hid (lives_any w31)
      go_wp2_with fail
      refine (HLI.out).mono ?_
      rintro e32 w32 ⟨rfl, hb32⟩
      have HB32 := Lib.hid (G.bl_trans HB31.out hb32)
      clear hb32
      go_wp2_with fail
      go_ret
      exact ⟨rfl, HB32.out⟩
theorem makes_any (x : SV) (s : St) (y : EV) (d : Dq) (w : World) (h : RdSt w x s) (hr : G.RdS w y.oa 1 d.order.length (i64s d.order)) (hf : -128 ≤ d.field ∧ d.field ≤ 127) (hb : -9223372036854775808 ≤ d.by_ ∧ d.by_ ≤ 9223372036854775807) (hw : Sw s) (hl : d.order.length ≤ 140737488355328) :
    Calls Tryz.prog 9 #[x.val s, .agg (dqArr y d)] w (BoolPost true w) := by
  cases hby : beyondB s [(y, ordEvM d)] with
  | true => exact makes_long x s y d w h hr hw hl hby
  | false =>
    have h1 : amountSt s + sizeEs [(y, ordEvM d)] ≤ 16777216 := by
      have := of_decide_eq_false hby
      omega
    have h2 : d.order.length ≤ 16777216 := by
      have h3 : sizeEs [(y, ordEvM d)] ≤ 16777216 := by omega
      exact sumTo_mem (a := d.order.length) h3 (by simp [ordEvM])
    exact makes_short x s y d w h hr ⟨hf, hb, by omega⟩ hw (amount_sz (by omega)) hby
end Go.Proofs.YtofgmijmhpmabaaGreatDoor.D

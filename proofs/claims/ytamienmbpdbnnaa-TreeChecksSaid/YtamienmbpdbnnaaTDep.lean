/- The contract of tree.Depth. -/
import Derived.Test.YtamienmbpdbnnaaTShape
import Derived.Test.YtamienmbpdbnnaaTTasks
import Derived.Deep.QuietTactic
import Derived.BigQuiet
import Derived.Deep.CutBlock
namespace Go.Proofs.Ytamienmbpdbnnaa.T
open Go Go.RowKit
set_option linter.unusedVariables false
set_option linter.unusedSimpArgs false
theorem flip_call {P : Program} {f : FuncId} {args : Array Value} {w : World} {e0 : Ending} (h : Calls P f args w fun e w' => e = e0 ∧ w = w') : Calls P f args w fun e w' => e = e0 ∧ w' = w :=
  h.mono fun _ _ ⟨a, b⟩ => ⟨a, b.symm⟩
def DepPost (D : Int) (w : World) (e : Ending) (w' : World) : Prop := e = .returned (.int .i64 D) ∧ Below w.heap.size w w'
set_option maxRecDepth 100000 in
set_option maxHeartbeats 4000000 in
theorem depth_no (A : Option Addr) (n cap : Nat) (t : List Nd) (w : World) (hn : t.length = n) (hm : n ≤ 16777216) (hr : G.RdS w A 7 n (flat t)) (hci : ContIn w) (ht : ∀ x ∈ t, x.text.size ≤ 16777216 ∧ x.kids ≤ 9223372036854775807) (hs : 0 ≤ shapeOf t) :
    Calls Try.prog 11 #[.slice A n cap] w (DepPost 0 w) := by
  have HSH := Lib.hid (shape_any A n cap t w hn hm hr hci ht)
  obtain ⟨R, hR⟩ : ∃ R, R = shapeOf t := ⟨_, rfl⟩
  unfold DepPost
  unfold ShPost at HSH
  rw [← hR] at HSH hs
  clear hn hr ht hci hR
  go_enter Try.func11, Try.ntmps11
  go_wp2_with fail
  refine HSH.out.mono ?_
  rintro e w1 ⟨rfl, hb1⟩
  have HB1 := Lib.hid hb1
  clear hb1
  go_wp2_with fail
  go_ret
  exact ⟨rfl, HB1.out⟩
theorem ends_at {w : World} {b : Nat} {t : List Nd} {p : Nat} {x : Nd} {k r : Fo} (h : G.RdV w b 0 (ints (endsOf t))) (hs : StandsAt t p (.cons x k r)) (hk : x.kids = k.len) (hw : k.wf) : w.cell? ⟨b, p, none⟩ = some (.int .i64 ((p + 1 + k.size : Nat) : Int)) := by
  have hl := hs.get.1
  have h1 := h.2 p (by simp [ints, endsOf_length]; exact hl)
  rw [Nat.zero_add] at h1
  rw [h1, ← stands_behind hs hk hw, ← endsOf_get t hl]
  unfold ints
  rw [List.getD_eq_getElem?_getD, List.getElem?_map, List.getElem?_eq_getElem (by rw [endsOf_length]; exact hl), List.getD_eq_getElem?_getD, List.getElem?_eq_getElem (by rw [endsOf_length]; exact hl)]
  rfl
theorem Fo.len_le : ∀ (f : Fo), f.len ≤ f.size
  | .nil => Nat.le_refl _
  | .cons _ _ r => by have := Fo.len_le r; simp only [Fo.len, Fo.size]; omega
theorem infoTask : (Try.prog.info? 45).map (fun i => (i.zero, i.size, i.bytes)) = some (some (.agg #[.int .i64 0, .int .i64 0, .int .i64 0]), 3, 24) := by kernel_rfl
set_option maxRecDepth 100000 in
set_option maxHeartbeats 8000000 in
theorem depth_yes (A : Option Addr) (n cap : Nat) (t : List Nd) (x : Nd) (k : Fo) (w : World) (hn : t.length = n) (hm : n ≤ 16777216) (hr : G.RdS w A 7 n (flat t)) (hci : ContIn w) (ht : ∀ x ∈ t, x.text.size ≤ 16777216 ∧ x.kids ≤ 9223372036854775807)
    (he : t = (Fo.cons x k .nil).flat) (hok : OkF [0] 0 (.cons x k .nil)) :
    Calls Try.prog 11 #[.slice A n cap] w (DepPost (openT x k 0) w) := by
  obtain ⟨i0, hinf, hz0, hz1, hz2⟩ := info_parts infoTask
  obtain ⟨i1, hinf1, hy0, hy1, hy2⟩ := info_parts infoInt
  have hs : shapeOf t = -1 := shape_tree.2 ⟨x, k, he, hok⟩
  have HSH := Lib.hid (shape_any A n cap t w hn hm hr hci ht)
  have HEN := Lib.hid (fun W (h : G.RdS W A 7 n (flat t)) => ends_any A n cap t W hn hm h)
  unfold ShPost at HSH
  rw [hs] at HSH
  have hst : StandsAt t 0 (.cons x k .nil) := ⟨[], by rw [List.drop_zero, List.append_nil]; exact he⟩
  have hsz : 1 + k.size = n := by rw [← hn, he, Fo.size_flat]; rfl
  have HOK0 := Lib.hid (show ∀ a ∈ [(⟨0, x, k, 0, 1⟩ : TT)], a.Ok t from fun a ha => by
    obtain rfl := List.mem_singleton.1 ha
    exact ⟨hst, hok.good, Int.le_refl 0, by rw [hn]; show (0 : Int) + 3 * (1 + k.size : Nat) ≤ _; omega, Int.le_refl 1, show (1 : Int) ≤ 8 by decide⟩)
  have HR0 := Lib.hid (show max 0 (maxV [(⟨0, x, k, 0, 1⟩ : TT)]) = openT x k 0 by
    have h1 := openT_ge x k 0
    have h2 := (inc_nn x.op).1
    show max 0 (max (openT x k (0 + lowI x.op 1)) 0) = openT x k 0
    rw [low_one, Int.add_zero]
    omega)
  have HT0 := Lib.hid (show totS [(⟨0, x, k, 0, 1⟩ : TT)] = n from hsz)
  have HN := Lib.hid hn
  have HR := Lib.hid hr
  obtain ⟨R, hR⟩ : ∃ R, R = openT x k 0 := ⟨_, rfl⟩
  unfold DepPost
  rw [← hR] at HR0 ⊢
  clear hn hr ht hci hR he hok hs hst hsz
  go_enter Try.func11, Try.ntmps11
  go_wp2_with fail
  refine HSH.out.mono ?_
  rintro e w1 ⟨rfl, hb1⟩
  have HB1 := Lib.hid hb1
  have hz1w := hb1.size
  have HR1 := Lib.hid (HR.out.below hb1)
  clear hb1
  go_wp2_with fail
  refine (HEN.out w1 HR1.out).mono ?_
  rintro e w2 he
  unfold EndsPost at he
  obtain ⟨rfl, ho2, hb2⟩ := he
  have HB2 := Lib.hid (G.bl_trans HB1.out hb2)
  have HR2 := Lib.hid (HR1.out.below hb2)
  have HE2 := Lib.hid (G.RdS.of_own ho2)
  have hz2w := hb2.size
  obtain ⟨ge, hge⟩ : ∃ ge, ge = w1.heap.size := ⟨_, rfl⟩
  rw [← hge] at HE2 ⊢
  clear hb2 ho2 hge
  go_wp2_with fail
  obtain ⟨gt, hgt⟩ : ∃ gt, gt = w2.heap.size := ⟨_, rfl⟩
  have HO0 := Lib.hid (show (w2.alloc (.cells #[.int .i64 0, .int .i64 0, .int .i64 1] 45)).ownsRow w2.heap.size 45 3 (.slice (some ⟨gt, 0, none⟩) 1 1) 1 ([(⟨0, x, k, 0, 1⟩ : TT)].flatMap TT.cells) by
    rw [hgt]
    exact (G.Blk.new w2 45 #[.int .i64 0, .int .i64 0, .int .i64 1]).own (base := w2.heap.size) (sz := 3) (n := 1) (cap := 1) (Nat.le_refl _) (Nat.le_refl _) (by simp [maxLen]) rfl)
  rw [← hgt]
  clear hgt
  go_loopg [4, 5] n (fun gk s4 s5 wr => ∃ (l : List TT) (m : Int) (g c : Nat), totS l = gk ∧ s4 = .int .i64 m ∧ s5 = .slice (some ⟨g, 0, none⟩) l.length c ∧ Below w2.heap.size w2 wr ∧ wr.ownsRow w2.heap.size 45 3 (.slice (some ⟨g, 0, none⟩) l.length c) l.length (l.flatMap TT.cells) ∧ 0 ≤ m ∧ m ≤ 3 * n ∧ gk ≤ n ∧ Hid (max m (maxV l) = R) ∧ Hid (∀ a ∈ l, a.Ok t))
  case atStart => exact ⟨_, 0, gt, 1, HT0.out, rfl, rfl, G.bl_alloc (Below.refl _ _) _, HO0.out, by omega, by omega, Nat.le_refl _, HR0, HOK0⟩
  case round =>
    obtain ⟨l, m, g, c, hgk, rfl, rfl, hbel, hown, hm0, hmn, hgn, HMX, HOK⟩ := hrel
    obtain ⟨gO, rfl⟩ : ∃ gO : Nat, gO = gk := ⟨_, rfl⟩
    have HOWN := Lib.hid hown
    have HBEL := Lib.hid hbel
    have hwr := hbel.size
    have hll := totS_len l
    clear hown hbel
    rcases List.eq_nil_or_concat l with rfl | ⟨l', a, rfl⟩
    · have HRR := Lib.hid (show m = R by rw [← HMX.out]; simp only [maxV]; omega)
      go_wp2_with fail
      go_ret
      exact ⟨ret_int HRR.out, G.bl_trans HB2.out HBEL.out⟩
    · rw [List.concat_eq_append] at HOWN HMX HOK hgk hll ⊢
      obtain ⟨p, x1, k1, d, wt⟩ := a
      have hfl : (l' ++ [(⟨p, x1, k1, d, wt⟩ : TT)]).flatMap TT.cells = l'.flatMap TT.cells ++ [.int .i64 p, .int .i64 d, .int .i64 wt] := by rw [List.flatMap_append]; rfl
      have hyl : (l'.flatMap TT.cells).length = l'.length * 3 := G.flat_len TT.cells 3 (fun _ => rfl) l'
      rw [hfl] at HOWN
      rw [List.length_append, List.length_singleton] at HOWN hll ⊢
      have hown := HOWN.out
      have e0 := (hown.cellAt (l'.length * 3) (by omega)).trans (show (l'.flatMap TT.cells ++ [.int .i64 p, .int .i64 d, .int .i64 wt])[l'.length * 3]? = some (.int .i64 p) by rw [List.getElem?_append_right (by omega), hyl, Nat.sub_self]; rfl)
      have e1 := (hown.cellAt (l'.length * 3 + 1) (by omega)).trans (show (l'.flatMap TT.cells ++ [.int .i64 p, .int .i64 d, .int .i64 wt])[l'.length * 3 + 1]? = some (.int .i64 d) by rw [List.getElem?_append_right (by omega), hyl, show l'.length * 3 + 1 - l'.length * 3 = 1 by omega]; rfl)
      have e2 := (hown.cellAt (l'.length * 3 + 2) (by omega)).trans (show (l'.flatMap TT.cells ++ [.int .i64 p, .int .i64 d, .int .i64 wt])[l'.length * 3 + 2]? = some (.int .i64 wt) by rw [List.getElem?_append_right (by omega), hyl, show l'.length * 3 + 2 - l'.length * 3 = 2 by omega]; rfl)
      have HO1 := Lib.hid (show wr.ownsRow w2.heap.size 45 3 (.slice (some ⟨g, 0, none⟩) l'.length c) l'.length (l'.flatMap TT.cells) by
        have h := own_take_pre (m := l'.length) hown (by omega) (by simp)
        rwa [List.take_left' (by rw [← hyl])] at h)
      obtain ⟨hcap, hcap2⟩ := own_caps hown
      have hA := HOK.out ⟨p, x1, k1, d, wt⟩ (by simp)
      have HL' := Lib.hid (show ∀ b ∈ l', b.Ok t from fun b hb => HOK.out b (by simp [hb]))
      have HTS := Lib.hid (show totS l' + (1 + k1.size) = gO by rw [← hgk, totS_append]; rfl)
      have HMV := Lib.hid (show max m (max (maxV l') (openT x1 k1 (d + lowI x1.op wt))) = R by
        have := maxV_nn l'
        rw [← HMX.out, maxV_append]
        show _ = max m (max (maxV l') (max (openT x1 k1 (d + lowI x1.op wt)) 0))
        have := openT_ge x1 k1 (d + lowI x1.op wt)
        have := (inc_nn x1.op).1
        have := (low_nn x1.op wt).1
        have := hA.d0
        simp only at this
        omega)
      obtain ⟨hp0, hget⟩ := hA.st.get
      simp only at hp0 hget
      have hd0 : 0 ≤ d := hA.d0
      have hdn : d + 3 * (1 + k1.size : Nat) ≤ 3 * n := by have := hA.dn; rw [HN.out] at this; exact this
      have hw1 : 1 ≤ wt := hA.w1
      have hw8 : wt ≤ 8 := hA.w8
      have HGD := Lib.hid hA.good
      have HST := Lib.hid hA.st
      have hpn : p < n := by rw [← HN.out]; exact hp0
      have hpn1 : (p : Int) < n := by omega
      have hp1 : (0 : Int) ≤ p := by omega
      obtain ⟨b, off, hA2, hr⟩ := (HR2.out.below HBEL.out).2 (by omega)
      subst hA2
      obtain ⟨c0, c1, c2, c3, c4, c5, c6⟩ := nd_at hr hp0 hget
      have HK1 := Lib.hid (show x1.kids = k1.len from hA.good.1)
      have hbw := World.block_lt_of_cell? _ _ c0
      have hgw := World.block_lt_of_cell? _ _ e0
      obtain ⟨xo, xk, xn, xm, xt, xa, xq⟩ := x1
      simp only at c0 c1 c2 c3 c4 c5 c6 HMV HK1
      obtain ⟨q, hq⟩ : ∃ q, q = l'.length := ⟨_, rfl⟩
      obtain ⟨xs, hxs⟩ : ∃ xs, xs = l'.flatMap TT.cells := ⟨_, rfl⟩
      rw [← hq] at e0 e1 e2 hcap hll ⊢
      have HQ := Lib.hid hq
      have HXS := Lib.hid hxs
      have hq1 : ((q : Int) + 1 == 0) = false := by simpa using (show ¬ (q : Int) + 1 = 0 by omega)
      clear hA hget hr hfl hyl hq hxs hown hgk HOK HOWN HMX hp0 HSH HR0 HT0 HOK0
      go_upto_region 12 with (fail)
      obtain ⟨bx, hbx⟩ : ∃ bx, bx = wr.heap.size := ⟨_, rfl⟩
      obtain ⟨wn, hwn⟩ : ∃ wn, wn = (wr.alloc (.cells #[.int .i64 p, .int .i64 d, .int .i64 wt] 45)).alloc (.cells #[.int .i8 xo, .int .i8 xk, .int .i64 xn, .int .i64 xm, .string xt, .int .i64 xa, .int .i64 xq] 33) := ⟨_, rfl⟩
      have HBT := Lib.hid (show G.Blk wn bx 45 #[.int .i64 p, .int .i64 d, .int .i64 wt] by rw [hwn, hbx]; exact (G.Blk.new wr _ _).alloc _)
      have HBN := Lib.hid (show G.Blk wn (bx + 1) 33 #[.int .i8 xo, .int .i8 xk, .int .i64 xn, .int .i64 xm, .string xt, .int .i64 xa, .int .i64 xq] by
        rw [hwn, hbx, show wr.heap.size + 1 = (wr.alloc (.cells #[.int .i64 p, .int .i64 d, .int .i64 wt] 45)).heap.size by simp]
        exact G.Blk.new _ _ _)
      have HBW := Lib.hid (show Below w2.heap.size w2 wn by rw [hwn]; exact G.bl_alloc (HBEL.out.alloc hwr _) _)
      have HOW := Lib.hid (show wn.ownsRow w2.heap.size 45 3 (.slice (some ⟨g, 0, none⟩) q c) q xs by rw [hwn, HQ.out, HXS.out]; exact (HO1.out.alloc _).alloc _)
      have hbx2 : w2.heap.size ≤ bx := by omega
      rw [← hwn, ← hbx]
      clear hwn c0 c1 c2 c3 c4 c5 c6 hbx HBEL HO1 e0 e1 e2
      go_cut [62] from 30 to 227 (fun s62 wx => s62 = .bool (exprB xo && decide (rankOf xo < wt)) ∧ Below w2.heap.size w2 wx ∧ wx.ownsRow w2.heap.size 45 3 (.slice (some ⟨g, 0, none⟩) q c) q xs ∧ G.Blk wx bx 45 #[.int .i64 p, .int .i64 d, .int .i64 wt] ∧ G.Blk wx (bx + 1) 33 #[.int .i8 xo, .int .i8 xk, .int .i64 xn, .int .i64 xm, .string xt, .int .i64 xa, .int .i64 xq])
      case first =>
        --[
        as_aux_lemma =>
          have a0 : wn.cell? ⟨bx + 1, 0, none⟩ = some (.int .i8 xo) := HBN.out.cell 0
          have a2 : wn.cell? ⟨bx, 2, none⟩ = some (.int .i64 wt) := HBT.out.cell 2
          cases hx : exprB xo with
          | false =>
            have HX := Lib.hid (fun W => flip_call (depth1_any xo W))
            rw [hx] at HX
            go_quiet ((go_at_call 30; exact Calls.quiet_of_same (HX.out _)))
            go_wp2
            go_meet
            case rel => exact ⟨by rw [hx]; rfl, G.bl_drewN HBW.out _, HOW.out, HBT.out, HBN.out⟩
          | true =>
            have HX := Lib.hid (fun W => flip_call (depth1_any xo W))
            have HRK := Lib.hid (fun W => flip_call (rank_any xo W))
            rw [hx] at HX
            go_quiet ((first | (go_at_call 30; exact Calls.quiet_of_same (HX.out _)) | (go_at_call 32; exact Calls.quiet_of_same (HRK.out _))))
            go_wp2
            go_meet
            case rel => exact ⟨by rw [hx]; rfl, G.bl_drewN HBW.out _, HOW.out, HBT.out, HBN.out⟩
        --]
      case rest =>
        obtain ⟨rfl, hbc, hoc, hxc, hnc⟩ := hcut
        have HBC := Lib.hid hbc
        have HOC := Lib.hid hoc
        have HXC := Lib.hid hxc
        have HNC := Lib.hid hnc
        clear hbc hoc hxc hnc HBW HOW HBT HBN
        obtain ⟨lb, hlb⟩ : ∃ lb, lb = (exprB xo && decide (rankOf xo < wt)) := ⟨_, rfl⟩
        obtain ⟨dl, hdl⟩ : ∃ dl, dl = lowI xo wt := ⟨_, rfl⟩
        have hdl2 := low_nn xo wt
        have HLB := Lib.hid (show dl = if lb then 1 else 0 by rw [hdl, hlb]; rfl)
        rw [← hdl] at HMV hdl2
        rw [← hlb]
        clear hdl hlb
        go_upto_if 62 with (fail)
        go_cut [9] from 30 to 227 (fun s9 wx => s9 = .int .i64 (d + dl) ∧ wx = wc)
        case first =>
          --[
          as_aux_lemma =>
            cases lb with
            | false =>
              have h0 : dl = 0 := HLB.out
              go_wp2_with fail
              go_meet
              case rel => exact ⟨by rw [h0, Int.add_zero], rfl⟩
            | true =>
              have h0 := Lib.hid (show dl = 1 from HLB.out)
              go_wp2_with fail
              go_meet
              case rel => exact ⟨by rw [h0.out], rfl⟩
          --]
        case rest =>
          obtain ⟨rfl, rfl⟩ := hcut
          have hn0 : wc.cell? ⟨bx + 1, 0, none⟩ = some (.int .i8 xo) := HNC.out.cell 0
          have hdd0 : 0 ≤ d + dl := by omega
          obtain ⟨d1, hd1⟩ : ∃ d1, d1 = d + dl := ⟨_, rfl⟩
          have hd1n : d1 ≤ d + 1 := by omega
          rw [← hd1] at HMV hdd0 ⊢
          clear HLB hdl2 hd1
          go_upto_block 2 with (fail)
          obtain ⟨di, hdi⟩ : ∃ di, di = incI xo := ⟨_, rfl⟩
          have hdi2 := inc_nn xo
          rw [← hdi] at hdi2
          go_cut [9] from 30 to 227 (fun s9 wx => s9 = .int .i64 (d1 + di) ∧ wx = wc)
          case first =>
            --[
            as_aux_lemma =>
              by_cases h1 : xo = 10
              · have HI := Lib.hid (show di = 1 by rw [hdi, h1]; decide)
                clear hdi
                go_wp2_with fail
                go_meet
                case rel => exact ⟨by rw [HI.out], rfl⟩
              · by_cases h2 : xo = 19
                · have HI := Lib.hid (show di = 1 by rw [hdi, h2]; decide)
                  have g1 := ne_b h1
                  clear h1
                  clear hdi
                  go_wp2_with fail
                  go_meet
                  case rel => exact ⟨by rw [HI.out], rfl⟩
                · by_cases h3 : xo = 50
                  · have HI := Lib.hid (show di = 1 by rw [hdi, h3]; decide)
                    have g1 := ne_b h1
                    have g2 := ne_b h2
                    clear h1 h2
                    clear hdi
                    go_wp2_with fail
                    go_meet
                    case rel => exact ⟨by rw [HI.out], rfl⟩
                  · by_cases h4 : xo = 34
                    · have HI := Lib.hid (show di = 1 by rw [hdi, h4]; decide)
                      have g1 := ne_b h1
                      have g2 := ne_b h2
                      have g3 := ne_b h3
                      clear h1 h2 h3
                      clear hdi
                      go_wp2_with fail
                      go_meet
                      case rel => exact ⟨by rw [HI.out], rfl⟩
                    · by_cases h5 : xo = 35
                      · have HI := Lib.hid (show di = 1 by rw [hdi, h5]; decide)
                        have g1 := ne_b h1
                        have g2 := ne_b h2
                        have g3 := ne_b h3
                        have g4 := ne_b h4
                        clear h1 h2 h3 h4
                        clear hdi
                        go_wp2_with fail
                        go_meet
                        case rel => exact ⟨by rw [HI.out], rfl⟩
                      · have HI := Lib.hid (show di = 0 by rw [hdi]; unfold incI incB; rw [ne_b h1, ne_b h2, ne_b h3, ne_b h4, ne_b h5]; rfl)
                        have g1 := ne_b h1
                        have g2 := ne_b h2
                        have g3 := ne_b h3
                        have g4 := ne_b h4
                        have g5 := ne_b h5
                        clear h1 h2 h3 h4 h5 hdi
                        go_wp2_with fail
                        go_meet
                        case rel => exact ⟨by rw [HI.out, Int.add_zero], rfl⟩
            --]
          case rest =>
            obtain ⟨rfl, rfl⟩ := hcut
            have HDI := Lib.hid hdi
            clear hdi
            obtain ⟨d9, hd9⟩ : ∃ d9, d9 = d1 + di := ⟨_, rfl⟩
            have hd90 : 0 ≤ d9 := by omega
            have hd9n : d9 ≤ d + 2 := by omega
            have HD9 := Lib.hid hd9
            rw [← hd9]
            have HRK := Lib.hid (fun W => rank_any xo W)
            have HWA := Lib.hid (fun W => wants_any xo W)
            clear hdi2 hd9
            by_cases h49 : xo = 49
            · skip
              --[
              as_aux_lemma =>
                subst h49
                have HKM := Lib.hid (show max m (max d9 (max (maxV l') (chainF (.cons ⟨49, xk, xn, xm, xt, xa, xq⟩ k1 .nil) d9 0))) = R by
                  have h := HMV.out
                  have h2 := HDI.out
                  have h3 := HD9.out
                  have h4 : incI 49 = 0 := by decide
                  rw [h4] at h2
                  have h5 : d9 = d1 := by omega
                  have h6 := chain_ge k1 d1 1
                  rw [openT_field rfl] at h
                  rw [chain_step _ _ _ _ rfl, h5, show (0 : Int) + 1 = 1 from rfl, ← h]
                  omega)
                go_wp2_with fail
                refine (HWA.out _).mono ?_
                rintro e wq ⟨rfl, rfl⟩
                go_wp2_with fail
                refine (HRK.out _).mono ?_
                rintro e wq ⟨rfl, rfl⟩
                have ha0 : wc.cell? ⟨bx, 0, none⟩ = some (.int .i64 p) := HXC.out.cell 0
                go_wp2_with fail
                go_loopg [13, 14] (1 + k1.size) (fun gk s13 s14 wx => ∃ (y : Nd) (ky : Fo) (pa nf : Nat), 1 + ky.size = gk ∧ s13 = .int .i64 pa ∧ s14 = .int .i64 nf ∧ wc = wx ∧ nf + gk ≤ 1 + k1.size ∧ (nf = 0 → y.op = 49) ∧ Hid (StandsAt t pa (.cons y ky .nil) ∧ Good (.cons y ky .nil)) ∧ Hid (max m (max d9 (max (maxV l') (chainF (.cons y ky .nil) d9 nf))) = R))
                case atStart => exact ⟨_, k1, p, 0, rfl, rfl, rfl, rfl, by omega, fun _ => rfl, Lib.hid ⟨HST.out, HGD.out⟩, HKM⟩
                case round =>
                  obtain ⟨y, ky, pa, nf, hgy, rfl, rfl, rfl, hnf, hn0, HSY, HCH⟩ := hrel
                  obtain ⟨hst, hgd⟩ := HSY.out
                  obtain ⟨hpk, hgety⟩ := hst.get
                  obtain ⟨by', offy, hby, hry⟩ := (HR2.out.below HBC.out).2 (by omega)
                  obtain ⟨rfl, rfl⟩ : b = by' ∧ off = offy := by simpa using hby
                  have c0 := (nd_at hry hpk hgety).1
                  have hbw2 := World.block_lt_of_cell? _ _ c0
                  have hpn2 : pa < n := by rw [← HN.out]; exact hpk
                  have hpk1 : (pa : Int) < n := by omega
                  have h0pk : (0 : Int) ≤ pa := by omega
                  have h0nf : (0 : Int) ≤ nf := by omega
                  have hnfb : (nf : Int) ≤ 16777217 := by omega
                  clear hst hgd hgety hpk hry hby
                  by_cases hy : y.op = 49
                  · obtain ⟨y2, ky2, rfl⟩ := one_of (HSY.out.2.2.2.1 hy)
                    have HSY2 := Lib.hid (show StandsAt t (pa + 1) (.cons y2 ky2 .nil) ∧ Good (.cons y2 ky2 .nil) from ⟨HSY.out.1.kids, HSY.out.2.2.2.2.1⟩)
                    have HCH2 := Lib.hid (show max m (max d9 (max (maxV l') (chainF (.cons y2 ky2 .nil) d9 ((nf + 1 : Nat) : Int)))) = R by
                      have h := HCH.out
                      rw [chain_step _ _ _ _ hy] at h
                      exact h)
                    have hs2 : (Fo.cons y2 ky2 .nil).size = 1 + ky2.size + 0 := rfl
                    rw [hy] at c0
                    clear hy
                    go_wp2_with fail
                    go_roundg (1 + ky2.size)
                    case rel => exact ⟨y2, ky2, pa + 1, nf + 1, rfl, by go_num, by go_num, rfl, by omega, fun h => by omega, HSY2, HCH2⟩
                    case measure => omega
                  · have hn1 : 1 ≤ nf := by
                      rcases Nat.eq_zero_or_pos nf with h | h
                      · exact absurd (hn0 h) hy
                      · exact h
                    have hy2 := ne_b hy
                    have HCH2 := Lib.hid (show max (max m (max d9 (d9 + nf - 1))) (max (maxV l') (TT.val ⟨pa, y, ky, d9, 8⟩)) = R by
                      have h := HCH.out
                      rw [chain_end _ _ _ _ hy] at h
                      rw [← h]
                      show max _ (max _ (openT y ky (d9 + lowI y.op 8))) = _
                      omega)
                    obtain ⟨yo, hyo⟩ : ∃ yo, yo = y.op := ⟨_, rfl⟩
                    rw [← hyo] at c0 hy2
                    clear hy hyo hn0
                    have hqn : q + 1 ≤ n := by have h1 := totS_len l'; have h2 := HTS.out; rw [← HQ.out] at h1; omega
                    have hq0 : 0 < q + 1 := by omega
                    have hq6 : ∀ u ∈ [Value.int .i64 pa, .int .i64 d9, .int .i64 8], u.oneCell' = true := by intro u hu; simp only [List.mem_cons, List.mem_nil_iff, or_false] at hu; rcases hu with rfl | rfl | rfl <;> rfl
                    have hqj : q + 1 ≤ 16777216 := Nat.le_trans hqn hm
                    have hq3 : q + 1 ≤ maxLen := Nat.le_trans hqj (by decide)
                    have hq4 : (q + 1) * 24 ≤ 140737488355328 := Nat.le_trans (Nat.mul_le_mul_right 24 hqj) (by decide)
                    have hbcs := HBC.out.size
                    have hq5 : w2.heap.size ≤ (wc.alloc (.cells #[.int .i64 pa, .int .i64 d9, .int .i64 8] 45)).heap.size := Nat.le_trans hbcs (by simp)
                    have HOD := Lib.hid (HOC.out.alloc (.cells #[.int .i64 pa, .int .i64 d9, .int .i64 8] 45))
                    have HBD := Lib.hid (show Below w2.heap.size w2 (wc.alloc (.cells #[.int .i64 pa, .int .i64 d9, .int .i64 8] 45)) from HBC.out.alloc hbcs _)
                    go_wp2_with (at_builtin; refine wpList_append_own _ rfl (.tmp 151) (.tmp 155) 46 rfl w2.heap.size 45 i0 _ 3 24 Try.underlying46 hinf hz0 hz1 hz2 rfl (by decide) _ _ _ rfl HOD.out ⟨wc.heap.size, 0, none⟩ 1 1 [.int .i64 pa, .int .i64 d9, .int .i64 8] rfl rfl (G.cells_new _ _ _ _ rfl) hq6 hq3 hq4 hq5 ?_; intro v7 w7 hown7 hg7 _q; obtain ⟨g7, c7, hv7, _⟩ := G.own_addr hown7 hq0; subst hv7; have HO7 := Lib.hid hown7; have HB7 := Lib.hid (bl_grown HBD.out HOD.out hg7); clear hown7 hg7)
                    have hts := HTS.out
                    have htot : totS (l' ++ [(⟨pa, y, ky, d9, 8⟩ : TT)]) = totS l' + (1 + ky.size) := by rw [totS_append]; rfl
                    go_roundg (totS (l' ++ [(⟨pa, y, ky, d9, 8⟩ : TT)]))
                    case rel =>
                      have hlen : (l' ++ [(⟨pa, y, ky, d9, 8⟩ : TT)]).length = q + 1 := by rw [List.length_append, List.length_singleton, HQ.out]
                      refine ⟨l' ++ [⟨pa, y, ky, d9, 8⟩], max m (max d9 (d9 + nf - 1)), g7, c7, rfl, rfl, by rw [hlen], HB7.out, ?_, by omega, by omega, by omega, Lib.hid ?_, Lib.hid ?_⟩
                      · rw [hlen, List.flatMap_append, ← HXS.out]
                        exact HO7.out
                      · rw [maxV_append, maxV_one, ← HCH2.out]
                        have h2 := openT_ge y ky (d9 + lowI y.op 8)
                        have h3 := (inc_nn y.op).1
                        have h4 := (low_nn y.op 8).1
                        have h5 : TT.val ⟨pa, y, ky, d9, 8⟩ = openT y ky (d9 + lowI y.op 8) := rfl
                        rw [h5]
                        omega
                      · intro b hb
                        rcases List.mem_append.1 hb with hb | hb
                        · exact HL'.out b hb
                        · obtain rfl := List.mem_singleton.1 hb
                          exact ⟨HSY.out.1, HSY.out.2, hd90, by rw [HN.out]; show d9 + 3 * (1 + ky.size : Nat) ≤ _; omega, show (1 : Int) ≤ 8 by decide, show (8 : Int) ≤ 8 by decide⟩
                    case measure => omega
              --]
            · skip
              --[
              as_aux_lemma =>
                have h49' := ne_b h49
                have H49 := Lib.hid h49
                clear h49
                go_wp2_with fail
                refine (HWA.out _).mono ?_
                rintro e wq ⟨rfl, rfl⟩
                go_wp2_with fail
                refine (HRK.out _).mono ?_
                rintro e wq ⟨rfl, rfl⟩
                obtain ⟨m9, hm9⟩ : ∃ m9, m9 = max m d9 := ⟨_, rfl⟩
                have hm90 : 0 ≤ m9 ∧ d9 ≤ m9 ∧ m9 ≤ 3 * n := by omega
                have HMV9 := Lib.hid (show max m9 (max (maxV l') (openT ⟨xo, xk, xn, xm, xt, xa, xq⟩ k1 d1)) = R by
                  have h := openT_ge ⟨xo, xk, xn, xm, xt, xa, xq⟩ k1 d1
                  have h2 := HDI.out
                  have h3 := HD9.out
                  simp only at h
                  rw [← HMV.out, hm9]
                  omega)
                rw [← hm9]
                clear hm9
                obtain ⟨rb, hrb⟩ : ∃ rb, rb = rowB xo := ⟨_, rfl⟩
                have HRB := Lib.hid hrb
                clear hrb
                go_upto_region 44 with (fail)
                go_cut [157] from 30 to 227 (fun s157 wx => s157 = .bool rb ∧ wc = wx)
                case first =>
                  as_aux_lemma =>
                    cases hx : exprB xo with
                    | false =>
                      have h1 := Lib.hid (show rb = false by rw [HRB.out]; unfold rowB; rw [hx]; rfl)
                      have HX := Lib.hid (fun W => depth1_any xo W)
                      rw [hx] at HX
                      clear hx
                      go_wp2_with (go_at_call 30; refine (HX.out _).mono ?_; rintro e wq ⟨rfl, rfl⟩)
                      go_meet
                      case rel => exact ⟨by rw [h1.out], rfl⟩
                    | true =>
                      have h1 := Lib.hid (show rb = (rankOf xo == 1 || rankOf xo == 2 || rankOf xo == 5 || rankOf xo == 6) by rw [HRB.out]; unfold rowB; rw [hx]; simp)
                      have HX := Lib.hid (fun W => depth1_any xo W)
                      rw [hx] at HX
                      obtain ⟨b1, g1⟩ : ∃ b, (rankOf xo == 1) = b := ⟨_, rfl⟩
                      obtain ⟨b2, g2⟩ : ∃ b, (rankOf xo == 2) = b := ⟨_, rfl⟩
                      obtain ⟨b5, g5⟩ : ∃ b, (rankOf xo == 5) = b := ⟨_, rfl⟩
                      obtain ⟨b6, g6⟩ : ∃ b, (rankOf xo == 6) = b := ⟨_, rfl⟩
                      rw [g1, g2, g5, g6] at h1
                      clear hx
                      cases b1 with
                      | true =>
                        clear g2 g5 g6
                        go_wp2_with (go_at_call 30; refine (HX.out _).mono ?_; rintro e wq ⟨rfl, rfl⟩)
                        go_meet
                        case rel => exact ⟨by rw [h1.out]; rfl, rfl⟩
                      | false =>
                        cases b2 with
                        | true =>
                          clear g5 g6
                          go_wp2_with (go_at_call 30; refine (HX.out _).mono ?_; rintro e wq ⟨rfl, rfl⟩)
                          go_meet
                          case rel => exact ⟨by rw [h1.out]; rfl, rfl⟩
                        | false =>
                          cases b5 with
                          | true =>
                            clear g6
                            go_wp2_with (go_at_call 30; refine (HX.out _).mono ?_; rintro e wq ⟨rfl, rfl⟩)
                            go_meet
                            case rel => exact ⟨by rw [h1.out]; rfl, rfl⟩
                          | false =>
                            go_wp2_with (go_at_call 30; refine (HX.out _).mono ?_; rintro e wq ⟨rfl, rfl⟩)
                            go_meet
                            case rel => exact ⟨by rw [h1.out]; rfl, rfl⟩
                case rest =>
                  obtain ⟨rfl, rfl⟩ := hcut
                  have ha0 : wc.cell? ⟨bx, 0, none⟩ = some (.int .i64 p) := HXC.out.cell 0
                  have hn6 : wc.cell? ⟨bx + 1, 6, none⟩ = some (.int .i64 xq) := HNC.out.cell 6
                  have hxq := HK1.out
                  subst hxq
                  have hbcs := HBC.out.size
                  cases rb with
                  | false =>
                    as_aux_lemma =>
                      have HKM := Lib.hid (show max (max m9 (maxV l')) (kidsMax xo 0 d9 k1 d9) = R by
                        have h := HMV9.out
                        rw [openT_kids H49.out HRB.out.symm, ← HDI.out, ← HD9.out] at h
                        have h' : max m9 (max (maxV l') (kidsMax xo 0 d9 k1 d9)) = R := h
                        rw [← h']
                        omega)
                      have hk1s : totS l' + k1.size < gO := by have := HTS.out; omega
                      go_wp2_with fail
                      go_loopg [5, 19, 92] k1.len (fun gi s5 s19 s92 wx => ∃ (i pk : Nat) (f : Fo) (l2 : List TT) (g2 c2 : Nat), i + gi = k1.len ∧ f.len = gi ∧ s92 = .int .i64 i ∧ s19 = .int .i64 pk ∧ s5 = .slice (some ⟨g2, 0, none⟩) l2.length c2 ∧ Below w2.heap.size w2 wx ∧ wx.ownsRow w2.heap.size 45 3 (.slice (some ⟨g2, 0, none⟩) l2.length c2) l2.length (l2.flatMap TT.cells) ∧
                        G.Blk wx (bx + 1) 33 #[.int .i8 xo, .int .i8 xk, .int .i64 xn, .int .i64 xm, .string xt, .int .i64 xa, .int .i64 k1.len] ∧ totS l2 + f.size < gO ∧ Hid (∀ b ∈ l2, b.Ok t) ∧ Hid (StandsAt t pk f ∧ Good f ∧ d9 + 1 + 3 * f.size ≤ 3 * n) ∧ Hid (max (max m9 (maxV l2)) (kidsMax xo i d9 f d9) = R))
                      case atStart => exact ⟨0, p + 1, k1, l', g, c, by omega, rfl, rfl, by go_num, by rw [← HQ.out], HBC.out, by rw [← HQ.out, ← HXS.out]; exact HOC.out, HNC.out, hk1s, HL', Lib.hid ⟨HST.out.kids, HGD.out.2.2.2.1, by omega⟩, HKM⟩
                      case round =>
                        obtain ⟨i, pk, f, l2, g2, c2, hig, hfl, rfl, rfl, rfl, hbx2', hox2, hnx2, htot, HOKS, HSTD, HKI⟩ := hrel
                        have HBX := Lib.hid hbx2'
                        have HOX := Lib.hid hox2
                        have HNX := Lib.hid hnx2
                        have h0i : (0 : Int) ≤ i := by omega
                        have hl2 := totS_len l2
                        have hwx := hbx2'.size
                        clear hbx2' hox2 hnx2
                        cases f with
                        | nil =>
                          have hgi : gk = 0 := hfl.symm
                          have hi1 : ¬ (i : Int) < k1.len := by omega
                          have HEND := Lib.hid (show max m9 (maxV l2) = R by have h := HKI.out; rw [kidsMax_nil] at h; rw [← h]; omega)
                          go_wp2_with fail
                          go_roundg (totS l2)
                          case rel => exact ⟨l2, m9, g2, c2, rfl, rfl, rfl, HBX.out, HOX.out, hm90.1, hm90.2.2, by omega, HEND, HOKS⟩
                          case measure => omega
                        | cons y ky r =>
                          simp only [Fo.len] at hfl
                          have hi1 : (i : Int) < k1.len := by omega
                          have hkl := Fo.len_le k1
                          have hib : (i : Int) ≤ 16777216 := by omega
                          obtain ⟨hst, hgd, hdb⟩ := HSTD.out
                          have hsz1 : (Fo.cons y ky r).size = 1 + ky.size + r.size := rfl
                          obtain ⟨hpk, hgety⟩ := hst.get
                          obtain ⟨by', offy, hby, hry⟩ := (HR2.out.below HBX.out).2 (by omega)
                          obtain ⟨rfl, rfl⟩ : b = by' ∧ off = offy := by simpa using hby
                          have c0 := (nd_at hry hpk hgety).1
                          obtain ⟨be, oe, hbe, hre⟩ := (HE2.out.below HBX.out).2 (by omega)
                          obtain ⟨rfl, rfl⟩ : ge = be ∧ 0 = oe := by simpa using hbe
                          have ce := ends_at hre hst hgd.1 (Good.wf hgd.2.2.2.1)
                          have hpn2 : pk < n := by rw [← HN.out]; exact hpk
                          have hpk1 : (pk : Int) < n := by omega
                          have h0pk : (0 : Int) ≤ pk := by omega
                          have hm0' : wr.cell? ⟨bx + 1, 0, none⟩ = some (.int .i8 xo) := HNX.out.cell 0
                          have hbw2 := World.block_lt_of_cell? _ _ c0
                          have hbe2 := World.block_lt_of_cell? _ _ ce
                          obtain ⟨yo, hyo⟩ : ∃ yo, yo = y.op := ⟨_, rfl⟩
                          rw [← hyo] at c0
                          have HYO := Lib.hid hyo
                          have HSTY := Lib.hid hst
                          have HGDY := Lib.hid hgd
                          have hd9b : d9 ≤ 50331648 := by omega
                          clear hst hgd hgety hry hpk hyo hre hbe hby
                          obtain ⟨W1, hW1⟩ : ∃ W1, W1 = if i = 0 then wantsOf xo 0 else wantsOf xo 1 := ⟨_, rfl⟩
                          obtain ⟨O1, hO1⟩ : ∃ O1, O1 = if xo = 13 ∧ i = 2 ∧ yo = 13 then d9 + 1 else d9 := ⟨_, rfl⟩
                          have HW1 := Lib.hid hW1
                          have HO1 := Lib.hid hO1
                          clear hW1 hO1
                          go_upto_if 97 with (fail)
                          go_cut [21, 92] from 92 to 128 (fun s21 s92 wx => s21 = .int .i64 W1 ∧ s92 = .int .i64 i ∧ wr = wx)
                          case first =>
                            as_aux_lemma =>
                              by_cases hi0 : i = 0
                              · have h1 := Lib.hid (show W1 = wantsOf xo 0 by rw [HW1.out, if_pos hi0])
                                subst hi0
                                go_wp2_with fail
                                go_meet
                                case rel => exact ⟨by rw [h1.out], rfl, rfl⟩
                              · have h1 := Lib.hid (show W1 = wantsOf xo 1 by rw [HW1.out, if_neg hi0])
                                have hi2 : (0 : Int) < i := by omega
                                clear hi0
                                go_wp2_with fail
                                go_meet
                                case rel => exact ⟨by rw [h1.out], rfl, rfl⟩
                          case rest =>
                            obtain ⟨rfl, rfl, rfl⟩ := hcut
                            go_upto_region 32 with (fail)
                            go_cut [92, 114] from 92 to 128 (fun s92 s114 wx => s92 = .int .i64 i ∧ s114 = .bool (decide (xo = 13 ∧ i = 2 ∧ yo = 13)) ∧ wr = wx)
                            case first =>
                              as_aux_lemma =>
                                by_cases q1 : xo = 13
                                · subst q1
                                  by_cases q2 : i = 2
                                  · subst q2
                                    have h1 := Lib.hid (show decide ((13 : Int) = 13 ∧ 2 = 2 ∧ yo = 13) = (yo == 13) by by_cases h : yo = 13 <;> simp [h])
                                    go_wp2_with fail
                                    go_meet
                                    case rel => exact ⟨rfl, by rw [h1.out], rfl⟩
                                  · have h1 := Lib.hid (show decide ((13 : Int) = 13 ∧ i = 2 ∧ yo = 13) = false by simp [q2])
                                    have q3 : ((i : Int) == 2) = false := by simpa using (show ¬ (i : Int) = 2 by omega)
                                    clear q2
                                    go_wp2_with fail
                                    go_meet
                                    case rel => exact ⟨rfl, by rw [h1.out], rfl⟩
                                · have h1 := Lib.hid (show decide (xo = 13 ∧ i = 2 ∧ yo = 13) = false by simp [q1])
                                  have q3 := ne_b q1
                                  clear q1
                                  go_wp2_with fail
                                  go_meet
                                  case rel => exact ⟨rfl, by rw [h1.out], rfl⟩
                            case rest =>
                              obtain ⟨rfl, rfl, rfl⟩ := hcut
                              obtain ⟨cb, hcb⟩ : ∃ cb, cb = decide (xo = 13 ∧ i = 2 ∧ yo = 13) := ⟨_, rfl⟩
                              have HCB := Lib.hid (show O1 = if cb then d9 + 1 else d9 by rw [HO1.out, hcb]; simp)
                              rw [← hcb]
                              clear hcb
                              go_upto_if 114 with (fail)
                              go_cut [22, 92] from 92 to 128 (fun s22 s92 wx => s22 = .int .i64 O1 ∧ s92 = .int .i64 i ∧ wr = wx)
                              case first =>
                                as_aux_lemma =>
                                  cases cb with
                                  | false =>
                                    have h1 := Lib.hid (show O1 = d9 from HCB.out)
                                    go_wp2_with fail
                                    go_meet
                                    case rel => exact ⟨by rw [h1.out], rfl, rfl⟩
                                  | true =>
                                    have h1 := Lib.hid (show O1 = d9 + 1 from HCB.out)
                                    go_wp2_with fail
                                    go_meet
                                    case rel => exact ⟨by rw [h1.out], rfl, rfl⟩
                              case rest =>
                                obtain ⟨rfl, rfl, rfl⟩ := hcut
                                have HTK := Lib.hid (show kidTask xo pk i d9 y ky = ⟨pk, y, ky, O1, W1⟩ by unfold kidTask; rw [HO1.out, HW1.out, HYO.out])
                                have hO1b : 0 ≤ O1 ∧ O1 ≤ d9 + 1 := by have := HCB.out; split at this <;> omega
                                have hW1b : 1 ≤ W1 ∧ W1 ≤ 8 := by have := HW1.out; have := wants_bd xo 0; have := wants_bd xo 1; split at * <;> omega
                                have HAOK := Lib.hid (show (⟨pk, y, ky, O1, W1⟩ : TT).Ok t from ⟨HSTY.out.one, ⟨HGDY.out.1, HGDY.out.2.1, HGDY.out.2.2.1, HGDY.out.2.2.2.1, trivial⟩, hO1b.1, by rw [HN.out]; show O1 + 3 * (1 + ky.size : Nat) ≤ _; omega, hW1b.1, hW1b.2⟩)
                                have HNEXT := Lib.hid (show max (max m9 (maxV (l2 ++ [(⟨pk, y, ky, O1, W1⟩ : TT)]))) (kidsMax xo (i + 1) d9 r d9) = R by
                                  have h := HKI.out
                                  rw [kids_step xo pk, HTK.out, Int.max_comm d9, kidsMax_max] at h
                                  rw [← h, maxV_append, maxV_one]
                                  have h2 := openT_ge y ky (O1 + lowI y.op W1)
                                  have h3 := (inc_nn y.op).1
                                  have h4 := (low_nn y.op W1).1
                                  have h5 : TT.val ⟨pk, y, ky, O1, W1⟩ = openT y ky (O1 + lowI y.op W1) := rfl
                                  have h6 := maxV_nn l2
                                  rw [h5]
                                  omega)
                                have hl3 : l2.length + 1 ≤ maxLen := by unfold maxLen; omega
                                have hl4 : (l2.length + 1) * 24 ≤ 140737488355328 := by omega
                                have hl5 : w2.heap.size ≤ (wr.alloc (.cells #[.int .i64 pk, .int .i64 O1, .int .i64 W1] 45)).heap.size := Nat.le_trans hwx (by simp)
                                have hl6 : ∀ u ∈ [Value.int .i64 pk, .int .i64 O1, .int .i64 W1], u.oneCell' = true := by intro u hu; simp only [List.mem_cons, List.mem_nil_iff, or_false] at hu; rcases hu with rfl | rfl | rfl <;> rfl
                                have hl0 : 0 < l2.length + 1 := by omega
                                have HOA := Lib.hid (show (wr.alloc (.cells #[.int .i64 pk, .int .i64 O1, .int .i64 W1] 45)).ownsRow w2.heap.size 45 3 (.slice (some ⟨g2, 0, none⟩) l2.length c2) l2.length (l2.flatMap TT.cells) from HOX.out.alloc _)
                                have HBA := Lib.hid (show Below w2.heap.size w2 (wr.alloc (.cells #[.int .i64 pk, .int .i64 O1, .int .i64 W1] 45)) from HBX.out.alloc hwx _)
                                have HNA := Lib.hid (show G.Blk (wr.alloc (.cells #[.int .i64 pk, .int .i64 O1, .int .i64 W1] 45)) (bx + 1) 33 #[.int .i8 xo, .int .i8 xk, .int .i64 xn, .int .i64 xm, .string xt, .int .i64 xa, .int .i64 k1.len] from HNX.out.alloc _)
                                have HCE := Lib.hid (fun (W : World) (h : Below w2.heap.size w2 W) => show W.cell? ⟨ge, pk, none⟩ = some (.int .i64 ((pk + 1 + ky.size : Nat) : Int)) from by
                                  obtain ⟨be, oe, hbe, hre⟩ := (HE2.out.below h).2 (by omega)
                                  obtain ⟨rfl, rfl⟩ : ge = be ∧ 0 = oe := by simpa using hbe
                                  exact ends_at hre HSTY.out HGDY.out.1 (Good.wf HGDY.out.2.2.2.1))
                                go_wp2_with (at_builtin; refine wpList_append_own _ rfl (.tmp 117) (.tmp 122) 46 rfl w2.heap.size 45 i0 _ 3 24 Try.underlying46 hinf hz0 hz1 hz2 rfl (by decide) _ _ _ rfl HOA.out ⟨wr.heap.size, 0, none⟩ 1 1 [.int .i64 pk, .int .i64 O1, .int .i64 W1] rfl rfl (G.cells_new _ _ _ _ rfl) hl6 hl3 hl4 hl5 ?_; intro v7 w7 hown7 hg7 _q; obtain ⟨g7, c7, hv7, _⟩ := G.own_addr hown7 hl0; subst hv7; have HO7 := Lib.hid hown7; have HB7 := Lib.hid (bl_grown HBA.out HOA.out hg7); have HN7 := Lib.hid (G.Blk.far_row HNA.out HOA.out hg7 (by decide)); have hce7 := HCE.out w7 HB7.out; clear hown7 hg7)
                                go_roundg r.len
                                case rel => exact ⟨i + 1, pk + 1 + ky.size, r, l2 ++ [⟨pk, y, ky, O1, W1⟩], g7, c7, by omega, rfl, by go_num, by go_num, by rw [List.length_append, List.length_singleton], HB7.out, by rw [List.length_append, List.length_singleton, List.flatMap_append]; exact HO7.out, HN7.out,
                                  by rw [totS_append]; simp only [totS, TT.size]; omega, Lib.hid (fun b hb => (List.mem_append.1 hb).elim (HOKS.out b) (fun hb => by obtain rfl := List.mem_singleton.1 hb; exact HAOK.out)), Lib.hid ⟨HSTY.out.rest, HGDY.out.2.2.2.2, by omega⟩, HNEXT⟩
                                case measure => omega
                  | true =>
                    have hl2 : k1.len = 2 := HGD.out.2.1 HRB.out.symm
                    obtain ⟨ops, hops⟩ : ∃ ops, ops = rowTs xo (p + 1) k1 := ⟨_, rfl⟩
                    obtain ⟨lf, hlf⟩ : ∃ lf, lf = rowL xo (p + 1) k1 := ⟨_, rfl⟩
                    have HLAW := Lib.hid (row_law xo d9 HRB.out.symm t k1.size k1 (p + 1) xo rfl (Nat.le_refl _) HGD.out.2.2.2.1 hl2 HST.out.kids)
                    rw [← hops, ← hlf] at HLAW
                    have HOPS := Lib.hid hops
                    have HLF := Lib.hid hlf
                    have HKK2 := Lib.hid hl2
                    have HROW := Lib.hid (show max m9 (max (maxV l') (max (max d9 (openT lf.2.1 lf.2.2 (d9 + lowI lf.2.1.op (wantsOf xo 0)))) (opsMax xo d9 ops))) = R by
                      have h := HMV9.out
                      rw [openT_row H49.out HRB.out.symm, ← HDI.out, ← HD9.out] at h
                      have h2 := HLAW.out.1
                      have h3 : (rowF xo k1 d9).1 = max (max d9 (openT lf.2.1 lf.2.2 (d9 + lowI lf.2.1.op (wantsOf xo 0)))) (opsMax xo d9 ops) := by rw [h2]
                      rw [← h3]
                      exact h)
                    clear hops hlf hl2
                    go_wp2_with fail
                    go_loopg [15, 16] k1.size (fun gk s15 s16 wx => ∃ (acc : List (Nat × Nd × Fo)) (f : Fo) (pa : Nat), f.size = gk ∧ s16 = .int .i64 pa ∧ G.Touch [3] w2.heap.size wc wx ∧ wx.ownsRow w2.heap.size 3 1 s15 acc.length (ints (acc.map fun a => (a.1 : Int))) ∧ acc.length + f.size ≤ k1.size ∧
                      Hid (f.len = 2 ∧ Good f ∧ StandsAt t (pa + 1) f) ∧ Hid (ops = acc ++ rowTs xo (pa + 1) f) ∧ Hid (lf = rowL xo (pa + 1) f))
                    case atStart => exact ⟨[], k1, p, rfl, rfl, G.Touch.refl _ _ _, World.ownsRow_nil _ _ _ _, by simp, Lib.hid ⟨HKK2.out, HGD.out.2.2.2.1, HST.out.kids⟩, Lib.hid (by rw [HOPS.out]; rfl), HLF⟩
                    case round =>
                      obtain ⟨acc, f, pa, hgf, rfl, hto, hown2, haf, HF, HOE, HLE⟩ := hrel
                      obtain ⟨hf2, hgd, hst⟩ := HF.out
                      obtain ⟨y, ky, q2, kq, rfl⟩ := two_of hf2
                      have hsf : (Fo.cons y ky (.cons q2 kq .nil)).size = 1 + ky.size + (1 + kq.size + 0) := rfl
                      have hbx := hto.below
                      have hwx := hbx.size
                      have hwx2 : w2.heap.size ≤ wr.heap.size := Nat.le_trans hbcs hwx
                      have hbb := HBC.out.trans (hbx.mono (Nat.le_refl _))
                      obtain ⟨hpk, hgety⟩ := hst.get
                      obtain ⟨by', offy, hby, hry⟩ := (HR2.out.below hbb).2 (by omega)
                      obtain ⟨rfl, rfl⟩ : b = by' ∧ off = offy := by simpa using hby
                      have c0 := (nd_at hry hpk hgety).1
                      obtain ⟨be, oe, hbe, hre⟩ := (HE2.out.below hbb).2 (by omega)
                      obtain ⟨rfl, rfl⟩ : ge = be ∧ 0 = oe := by simpa using hbe
                      have ce := ends_at hre hst hgd.1 (Good.wf hgd.2.2.2.1)
                      obtain ⟨E, hE⟩ : ∃ E : Nat, E = pa + 1 + 1 + ky.size := ⟨_, rfl⟩
                      rw [← hE] at ce
                      have HE := Lib.hid hE
                      obtain ⟨yo, hyo⟩ : ∃ yo, yo = y.op := ⟨_, rfl⟩
                      rw [← hyo] at c0
                      have HYO := Lib.hid hyo
                      have hpn2 : pa + 1 < n := by rw [← HN.out]; exact hpk
                      have hpk1 : (pa : Int) + 1 < n := by omega
                      have h0pk : (0 : Int) ≤ pa := by omega
                      have hbw2 := World.block_lt_of_cell? _ _ c0
                      have hbe2 := World.block_lt_of_cell? _ _ ce
                      have HTO := Lib.hid hto
                      have HOW2 := Lib.hid hown2
                      have hal3 : acc.length + 1 ≤ maxLen := by unfold maxLen; omega
                      have hal4 : (acc.length + 1) * 8 ≤ 140737488355328 := by omega
                      have hal5 : w2.heap.size ≤ (wr.alloc (.cells #[.int .i64 E] 3)).heap.size := Nat.le_trans hwx2 (by simp)
                      have HTA := Lib.hid (show G.Touch [3] w2.heap.size wc (wr.alloc (.cells #[.int .i64 E] 3)) from hto.later hwx2 (G.bl_alloc (Below.refl _ _) _))
                      have HOA := Lib.hid (hown2.alloc (.cells #[.int .i64 E] 3))
                      have HB3 := Lib.hid (fun (W : World) (h : Below w2.heap.size w2 W) => show W.cell? ⟨b, off + (pa + 1) * 7, none⟩ = some (.int .i8 yo) from by
                        obtain ⟨by', offy, hby, hry⟩ := (HR2.out.below h).2 (by omega)
                        obtain ⟨rfl, rfl⟩ : b = by' ∧ off = offy := by simpa using hby
                        rw [HYO.out]
                        exact (nd_at hry hpk hgety).1)
                      have HRKY := Lib.hid (fun W => rank_any yo W)
                      have HSTF := Lib.hid hst
                      have HGDF := Lib.hid hgd
                      clear hto hown2 hbx hst hgd hE hyo hgety hpk hry hre hby hbe
                      by_cases hrk : rankOf yo = rankOf xo
                      · have hrk2 : (rankOf yo != rankOf xo) = false := by simpa using hrk
                        have HOE2 := Lib.hid (show ops = (acc ++ [(E, q2, kq)]) ++ rowTs xo (pa + 1 + 1) ky by rw [HOE.out, rowTs, if_pos (by rw [← HYO.out]; exact hrk), HE.out, List.append_assoc]; rfl)
                        have HLE2 := Lib.hid (show lf = rowL xo (pa + 1 + 1) ky by rw [HLE.out, rowL, if_pos (by rw [← HYO.out]; exact hrk)])
                        have HKY := Lib.hid (show ky.len = 2 ∧ Good ky ∧ StandsAt t (pa + 1 + 1) ky from ⟨HGDF.out.2.1 (rowB_of_rank (by rw [← HYO.out]; exact hrk) HRB.out.symm), HGDF.out.2.2.2.1, HSTF.out.kids⟩)
                        clear hrk
                        go_wp2_with (first
                          | (at_builtin; refine wpList_append_own _ rfl (.tmp 180) (.tmp 186) 35 rfl w2.heap.size 3 i1 (.int .i64 0) 1 8 Try.underlying35 hinf1 hy0 hy1 hy2 rfl (by decide) _ _ _ rfl HOA.out ⟨wr.heap.size, 0, none⟩ 1 1 [.int .i64 E] rfl rfl (G.cells_new _ _ _ _ rfl) (ints_one [_]) hal3 hal4 hal5 ?_; intro v3 w3 hown3 hg3 _q; have HT3 := Lib.hid (HTA.out.grown HOA.out hg3 (by decide) (Nat.le_refl _) hal5); have HO3 := Lib.hid hown3; have hc3 := HB3.out w3 (HBC.out.trans HT3.out.below); clear hown3 hg3)
                          | (go_at_call 32; refine (HRKY.out _).mono ?_; rintro e wq ⟨rfl, rfl⟩))
                        go_roundg ky.size
                        case rel => exact ⟨acc ++ [(E, q2, kq)], ky, pa + 1, rfl, by go_num, HT3.out, by rw [List.length_append, List.length_singleton, List.map_append]; unfold ints; rw [List.map_append]; exact HO3.out, by rw [List.length_append, List.length_singleton]; omega, HKY, HOE2, HLE2⟩
                        case measure => omega
                      · have hrk2 : (rankOf yo != rankOf xo) = true := by simpa using hrk
                        have HOE2 := Lib.hid (show ops = acc ++ [(E, q2, kq)] by rw [HOE.out, rowTs, if_neg (by rw [← HYO.out]; exact hrk), HE.out])
                        have HLE2 := Lib.hid (show lf = (pa + 1, y, ky) by rw [HLE.out, rowL, if_neg (by rw [← HYO.out]; exact hrk)])
                        obtain ⟨L, hL⟩ : ∃ L, L = acc.length + 1 := ⟨_, rfl⟩
                        have HL := Lib.hid hL
                        have hL0 : 0 < L := by omega
                        have hLb : L ≤ 16777216 := by omega
                        have HLN := Lib.hid (show ops.length = L by rw [HOE2.out, hL]; simp)
                        clear hrk hL
                        go_upto_region 50 with (first
                          | (at_builtin; refine wpList_append_own _ rfl (.tmp 180) (.tmp 186) 35 rfl w2.heap.size 3 i1 (.int .i64 0) 1 8 Try.underlying35 hinf1 hy0 hy1 hy2 rfl (by decide) _ _ _ rfl HOA.out ⟨wr.heap.size, 0, none⟩ 1 1 [.int .i64 E] rfl rfl (G.cells_new _ _ _ _ rfl) (ints_one [_]) hal3 hal4 hal5 ?_; intro v3 w3 hown3 hg3 _q; have hown3' : w3.ownsRow w2.heap.size 3 1 v3 L (ints (acc.map fun a => (a.1 : Int)) ++ [.int .i64 E]) := (by rw [HL.out]; exact hown3); obtain ⟨g3, c3, hv3, _⟩ := G.own_addr hown3' hL0; subst hv3; have HT3 := Lib.hid (HTA.out.grown HOA.out hg3 (by decide) (Nat.le_refl _) hal5); have HO3 := Lib.hid hown3'; have hc3 := HB3.out w3 (HBC.out.trans HT3.out.below); clear hown3 hown3' hg3)
                          | (go_at_call 32; refine (HRKY.out _).mono ?_; rintro e wq ⟨rfl, rfl⟩))
                        have HIN := Lib.hid (show ints (acc.map fun a => (a.1 : Int)) ++ [.int .i64 E] = ints (ops.map fun a => (a.1 : Int)) by rw [HOE2.out]; simp [ints])
                        have hw3 : w2.heap.size ≤ w3.heap.size := Nat.le_trans hbcs HT3.out.below.size
                        have HBW3 := Lib.hid (HBC.out.trans HT3.out.below)
                        have HOD := Lib.hid ((HT3.out.own HOC.out (by decide)).alloc (.cells #[.int .i64 ((pa : Int) + 1), .int .i64 d9, .int .i64 (wantsOf xo 0)] 45))
                        have HBD := Lib.hid (show Below w2.heap.size w2 (w3.alloc (.cells #[.int .i64 ((pa : Int) + 1), .int .i64 d9, .int .i64 (wantsOf xo 0)] 45)) from HBW3.out.alloc hw3 _)
                        have HOP3 := Lib.hid (HO3.out.alloc (.cells #[.int .i64 ((pa : Int) + 1), .int .i64 d9, .int .i64 (wantsOf xo 0)] 45))
                        have hq0 : 0 < q + 1 := by omega
                        have hq6 : ∀ u ∈ [Value.int .i64 ((pa : Int) + 1), .int .i64 d9, .int .i64 (wantsOf xo 0)], u.oneCell' = true := by intro u hu; simp only [List.mem_cons, List.mem_nil_iff, or_false] at hu; rcases hu with rfl | rfl | rfl <;> rfl
                        have hqn : q + 1 ≤ n := by have h1 := totS_len l'; have h2 := HTS.out; rw [← HQ.out] at h1; omega
                        have hq3 : q + 1 ≤ maxLen := by unfold maxLen; omega
                        have hq4 : (q + 1) * 24 ≤ 140737488355328 := by omega
                        have hq5 : w2.heap.size ≤ (w3.alloc (.cells #[.int .i64 ((pa : Int) + 1), .int .i64 d9, .int .i64 (wantsOf xo 0)] 45)).heap.size := Nat.le_trans hw3 (by simp)
                        clear hc3
                        go_wp2_with (at_builtin; refine wpList_append_own _ rfl (.tmp 199) (.tmp 205) 46 rfl w2.heap.size 45 i0 _ 3 24 Try.underlying46 hinf hz0 hz1 hz2 rfl (by decide) _ _ _ rfl HOD.out ⟨w3.heap.size, 0, none⟩ 1 1 [.int .i64 ((pa : Int) + 1), .int .i64 d9, .int .i64 (wantsOf xo 0)] rfl rfl (G.cells_new _ _ _ _ rfl) hq6 hq3 hq4 hq5 ?_; intro v7 w7 hown7 hg7 _q; obtain ⟨g7, c7, hv7, _⟩ := G.own_addr hown7 hq0; subst hv7; have HO7 := Lib.hid hown7; have HB7 := Lib.hid (bl_grown HBD.out HOD.out hg7); have HP7 := Lib.hid ((G.Touch.grown (G.Touch.refl [45] w2.heap.size _) HOD.out hg7 (by decide) (Nat.le_refl _) hq5).own HOP3.out (by decide)); clear hown7 hg7)
                        have HPW := Lib.hid (show (pa : Int) + 1 = ((pa + 1 : Nat) : Int) from rfl)
                        obtain ⟨lt, hlt⟩ : ∃ lt : TT, lt = ⟨pa + 1, y, ky, d9, wantsOf xo 0⟩ := ⟨_, rfl⟩
                        have HLT := Lib.hid hlt
                        have HLTC := Lib.hid (show lt.cells = [.int .i64 ((pa : Int) + 1), .int .i64 d9, .int .i64 (wantsOf xo 0)] by rw [hlt]; rfl)
                        have HO7' := Lib.hid (show w7.ownsRow w2.heap.size 45 3 (.slice (some ⟨g7, 0, none⟩) (q + 1) c7) (q + 1 + 0) ((l' ++ lt :: rowTasks d9 (wantsOf xo 1) L 0 (ops.take 0)).flatMap TT.cells) by
                          have h : (l' ++ lt :: rowTasks d9 (wantsOf xo 1) L 0 (ops.take 0)).flatMap TT.cells = xs ++ [.int .i64 ((pa : Int) + 1), .int .i64 d9, .int .i64 (wantsOf xo 0)] := by
                            rw [HXS.out, ← HLTC.out, List.take_zero]
                            simp [rowTasks]
                          rw [h]
                          exact HO7.out)
                        have hbop := HP7.out
                        rw [HIN.out] at hbop
                        have HP8 := Lib.hid hbop
                        clear hbop hlt
                        go_loopg [5, 209] L (fun gk s5 s209 wx => ∃ (j g4 c4 : Nat), j + gk = L ∧ s209 = .int .i64 j ∧ s5 = .slice (some ⟨g4, 0, none⟩) (q + 1 + j) c4 ∧ G.Touch [45] w2.heap.size w7 wx ∧ wx.ownsRow w2.heap.size 45 3 (.slice (some ⟨g4, 0, none⟩) (q + 1 + j) c4) (q + 1 + j) ((l' ++ lt :: rowTasks d9 (wantsOf xo 1) L 0 (ops.take j)).flatMap TT.cells))
                        case atStart => exact ⟨0, g7, c7, by omega, rfl, rfl, G.Touch.refl _ _ _, HO7'.out⟩
                        case round =>
                          obtain ⟨j, g4, c4, hj, rfl, rfl, hto4, hown4⟩ := hrel
                          have HT4 := Lib.hid hto4
                          have HO4 := Lib.hid hown4
                          have hw4 : w2.heap.size ≤ wr.heap.size := Nat.le_trans HB7.out.size hto4.below.size
                          have h0j : (0 : Int) ≤ j := by omega
                          clear hto4 hown4
                          by_cases hjL : j < L
                          · have hj1 : (j : Int) < L := by omega
                            have HPJ := Lib.hid (HT4.out.own HP8.out (by decide))
                            have hjl : j < ops.length := by rw [HLN.out]; exact hjL
                            obtain ⟨a, ha⟩ : ∃ a, a = ops[j] := ⟨_, rfl⟩
                            have hcj : wr.cell? ⟨g3, j, none⟩ = some (.int .i64 a.1) := by
                              rw [HPJ.out.cellAt j (by omega), ha]
                              unfold ints
                              rw [List.getElem?_map, List.getElem?_map, List.getElem?_eq_getElem hjl]
                              rfl
                            obtain ⟨a1, aq, ak⟩ := a
                            simp only at hcj
                            have HTKS := Lib.hid (show ops.take (j + 1) = ops.take j ++ [(a1, aq, ak)] by rw [ha, List.take_succ_eq_append_getElem hjl])
                            have hg3w := World.block_lt_of_cell? _ _ hcj
                            obtain ⟨O1, hO1⟩ : ∃ O1, O1 = d9 + (L : Int) - 1 - j := ⟨_, rfl⟩
                            have HO1 := Lib.hid hO1
                            have hLJ : 0 ≤ d9 + (L : Int) - 1 - j := by omega
                            have hLB : d9 + (L : Int) ≤ 100000000 := by omega
                            have hqj0 : 0 < q + 1 + j + 1 := by omega
                            have hqj6 : ∀ u ∈ [Value.int .i64 a1, .int .i64 (d9 + (L : Int) - 1 - j), .int .i64 (wantsOf xo 1)], u.oneCell' = true := by intro u hu; simp only [List.mem_cons, List.mem_nil_iff, or_false] at hu; rcases hu with rfl | rfl | rfl <;> rfl
                            have hqj : q + 1 + j + 1 ≤ 33554433 := Nat.succ_le_succ (Nat.add_le_add (Nat.le_trans hqn hm) (Nat.le_trans (Nat.le_of_lt hjL) hLb))
                            have hqj3 : q + 1 + j + 1 ≤ maxLen := Nat.le_trans hqj (by decide)
                            have hqj4 : (q + 1 + j + 1) * 24 ≤ 140737488355328 := Nat.le_trans (Nat.mul_le_mul_right 24 hqj) (by decide)
                            have hqj5 : w2.heap.size ≤ (wr.alloc (.cells #[.int .i64 a1, .int .i64 (d9 + (L : Int) - 1 - j), .int .i64 (wantsOf xo 1)] 45)).heap.size := Nat.le_trans hw4 (by simp)
                            have HTB := Lib.hid (show G.Touch [45] w2.heap.size w7 (wr.alloc (.cells #[.int .i64 a1, .int .i64 (d9 + (L : Int) - 1 - j), .int .i64 (wantsOf xo 1)] 45)) from HT4.out.later hw4 (G.bl_alloc (Below.refl _ _) _))
                            have HOB := Lib.hid (HO4.out.alloc (.cells #[.int .i64 a1, .int .i64 (d9 + (L : Int) - 1 - j), .int .i64 (wantsOf xo 1)] 45))
                            have HFLT := Lib.hid (show (l' ++ lt :: rowTasks d9 (wantsOf xo 1) L 0 (ops.take (j + 1))).flatMap TT.cells = (l' ++ lt :: rowTasks d9 (wantsOf xo 1) L 0 (ops.take j)).flatMap TT.cells ++ [.int .i64 a1, .int .i64 (d9 + (L : Int) - 1 - j), .int .i64 (wantsOf xo 1)] by
                              rw [HTKS.out, rowTasks_snoc, List.length_take, Nat.min_eq_left (by omega)]
                              simp only [List.flatMap_append, List.flatMap_cons, List.flatMap_nil, List.append_nil, List.append_assoc, Nat.zero_add]
                              rfl)
                            have HQA := Lib.hid (show q + 1 + (j + 1) = q + 1 + j + 1 by omega)
                            clear ha hjl hO1
                            go_wp2_with (at_builtin; refine wpList_append_own _ rfl (.tmp 214) (.tmp 225) 46 rfl w2.heap.size 45 i0 _ 3 24 Try.underlying46 hinf hz0 hz1 hz2 rfl (by decide) _ _ _ rfl HOB.out ⟨wr.heap.size, 0, none⟩ 1 1 [.int .i64 a1, .int .i64 (d9 + (L : Int) - 1 - j), .int .i64 (wantsOf xo 1)] rfl rfl (G.cells_new _ _ _ _ rfl) hqj6 hqj3 hqj4 hqj5 ?_; intro v8 w8 hown8 hg8 _q; obtain ⟨g8, c8, hv8, _⟩ := G.own_addr hown8 hqj0; subst hv8; have HO8 := Lib.hid hown8; have HT8 := Lib.hid (HTB.out.grown HOB.out hg8 (by decide) (Nat.le_refl _) hqj5); clear hown8 hg8)
                            go_roundg (L - (j + 1))
                            case rel => exact ⟨j + 1, g8, c8, by omega, by go_num, by rw [HQA.out], HT8.out, by rw [HFLT.out, HQA.out]; exact HO8.out⟩
                            case measure => omega
                          · have hj1 : ¬ (j : Int) < L := by omega
                            have hjL2 : j = L := by omega
                            have HTK := Lib.hid (show ops.take j = ops by rw [hjL2, ← HLN.out, List.take_length])
                            have HJL := Lib.hid hjL2
                            clear hjL2
                            go_wp2_with fail
                            have hw0 := wants_bd xo 0
                            have hw1 := wants_bd xo 1
                            have hll0 := HLAW.out.2.2.1
                            have hll1 := HLAW.out.2.2.2.1
                            have hll2 := HLAW.out.2.2.2.2
                            have hts := HTS.out
                            rw [HLE2.out] at hll0 hll2
                            simp only at hll0 hll2
                            rw [HLN.out] at hll1
                            have htot : totS (l' ++ lt :: rowTasks d9 (wantsOf xo 1) L 0 ops) = totS l' + ((1 + ky.size) + ops2 ops) := by
                              rw [totS_append, totS, rowTasks_tot, HLT.out]; rfl
                            go_roundg (totS (l' ++ lt :: rowTasks d9 (wantsOf xo 1) L 0 ops))
                            case rel =>
                              have hlen : (l' ++ lt :: rowTasks d9 (wantsOf xo 1) L 0 ops).length = q + 1 + j := by
                                rw [List.length_append, List.length_cons, rowTasks_len, HLN.out, HJL.out, HQ.out]; omega
                              refine ⟨l' ++ lt :: rowTasks d9 (wantsOf xo 1) L 0 ops, m9, g4, c4, rfl, rfl, by rw [hlen], HB7.out.trans HT4.out.below, ?_, hm90.1, hm90.2.2, by omega, Lib.hid ?_, Lib.hid ?_⟩
                              · have h := HO4.out
                                rw [HTK.out] at h
                                rw [hlen]
                                exact h
                              · have h := HROW.out
                                have h2 := rowTasks_max xo d9 hd90 L ops 0 (by rw [HLN.out]; omega)
                                have h3 : lt.val = openT y ky (d9 + lowI y.op (wantsOf xo 0)) := by rw [HLT.out]; rfl
                                rw [HLE2.out] at h
                                simp only at h
                                rw [maxV_append]
                                simp only [maxV]
                                rw [h3, ← h, ← h2]
                                omega
                              · intro b hb
                                rcases List.mem_append.1 hb with hb | hb
                                · exact HL'.out b hb
                                · rcases List.mem_cons.1 hb with rfl | hb
                                  · rw [HLT.out]
                                    exact ⟨hll0.1, hll0.2, hd90, by rw [HN.out]; show d9 + 3 * (1 + ky.size : Nat) ≤ _; omega, hw0.1, hw0.2⟩
                                  · exact rowTasks_ok (M := k1.size) hd90 hw1 (by rw [HN.out]; omega) ops 0 HLAW.out.2.1 (by rw [HLN.out]; omega) hll1 b hb
                            case measure => omega
              --]
end Go.Proofs.Ytamienmbpdbnnaa.T

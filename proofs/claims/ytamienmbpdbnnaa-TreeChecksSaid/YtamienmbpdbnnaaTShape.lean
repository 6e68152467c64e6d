/- The contract of tree.shape. -/
import Derived.Test.YtamienmbpdbnnaaTLevs
import Derived.Deep.LoopGhost
import Derived.StillTailTactics
import Derived.WalkMore
import Derived.Deep.CutRange
import Derived.Deep.CutBlock
namespace Go.Proofs.Ytamienmbpdbnnaa.T
open Go Go.RowKit
set_option linter.unusedVariables false
set_option linter.unusedSimpArgs false
theorem infoLev : (Try.prog.info? 57).map (fun i => (i.zero, i.size, i.bytes)) = some (some (.agg #[.slice none 0 0, .int .i64 0, .int .i64 0]), 3, 40) := by kernel_rfl
theorem lev0_ok (w : World) (h : G.Blk w (w.heap.size - 1) 47 #[.int .i64 0]) : LvOk w [.slice (some ⟨w.heap.size - 1, 0, none⟩) 1 1, .int .i64 0, .int .i64 1] lev0 :=
  ⟨_, 1, 1, rfl, rfl, by omega, by omega, ⟨rfl, fun _ => ⟨_, 0, rfl, h.rdV⟩⟩, by simp [lev0], by simp [lev0], by simp [lev0], by simp [lev0]⟩
theorem own_caps {w : World} {base : Nat} {e : TypeId} {sz n c : Nat} {A : Option Addr} {xs : List Value} (h : w.ownsRow base e sz (.slice A n c) n xs) : n ≤ c ∧ c ≤ 9223372036854775807 := by
  rcases h.2 with ⟨hv, h0⟩ | ⟨g, cap, cur, hv, hb, hgg, hnc, hcc, hcs, ht⟩
  · simp only [Value.slice.injEq] at hv
    omega
  · simp only [Value.slice.injEq] at hv
    obtain ⟨rfl, _, rfl⟩ := hv
    exact ⟨hnc, hcc⟩
def fidOf (tk : Int) : FuncId := if tk = 0 then 54 else if tk = 1 then 55 else if tk = 2 then 53 else if tk = 5 then 56 else 52
def capsOf (B : Nat) (op tk : Int) : Array Value := if tk = 0 then #[] else if tk = 1 then #[] else if tk = 2 then #[] else if tk = 5 then #[] else #[.pointer (some ⟨B + boxIdx op, 0, none⟩)]
theorem fnV_form (B : Nat) (op tk : Int) : fnV B op tk = .func (.func (fidOf tk)) #[] (capsOf B op tk) := by
  unfold fnV fidOf capsOf
  repeat' split
  all_goals rfl
theorem own3 : ∀ x ∈ table, x.2.own.length ≤ 3 := by decide +kernel
theorem ownV_form {W : World} {B : Nat} (h : KOk W B) {op : Int} {r : KRow} (hr : rowOf op = some r) : ∃ A L C, ownV B op r.own = .slice A L C ∧ r.own.length = L ∧ L ≤ C ∧ C ≤ 3 ∧ G.RdS W A 1 L (ints r.own) := by
  unfold ownV
  by_cases h0 : r.own = []
  · rw [if_pos h0, h0]
    exact ⟨_, 0, 0, rfl, rfl, Nat.le_refl _, by omega, G.RdS.nil _⟩
  · rw [if_neg h0]
    refine ⟨_, _, _, rfl, rfl, Nat.le_refl _, own3 _ (row_mem hr), ⟨by simp [ints], fun _ => ⟨_, 0, rfl, ?_⟩⟩⟩
    exact (h.own op r hr h0).rdV
theorem row_range : ∀ x ∈ table, (∀ u ∈ x.2.own, 0 ≤ u ∧ u ≤ 7) ∧ 0 ≤ x.2.rest ∧ x.2.rest ≤ 7 ∧ 0 ≤ x.2.tk ∧ x.2.tk ≤ 5 := by decide +kernel
def ShPost (t : List Nd) (w : World) (e : Ending) (w' : World) : Prop := e = .returned (.int .i64 (shapeOf t)) ∧ Below w.heap.size w w'
set_option maxRecDepth 100000 in
set_option maxHeartbeats 8000000 in
theorem shape_any (A : Option Addr) (n cap : Nat) (t : List Nd) (w : World) (hn : t.length = n) (hm : n ≤ 16777216) (hr : G.RdS w A 7 n (flat t)) (hci : ContIn w) (ht : ∀ x ∈ t, x.text.size ≤ 16777216 ∧ x.kids ≤ 9223372036854775807) :
    Calls Try.prog 28 #[.slice A n cap] w (ShPost t w) := by
  obtain ⟨i0, hinf, hz0, hz1, hz2⟩ := info_parts infoLev
  have HN := Lib.hid hn
  have HR := Lib.hid hr
  have HT := Lib.hid ht
  have HCI := Lib.hid hci
  obtain ⟨R, hR⟩ : ∃ R, R = shapeOf t := ⟨_, rfl⟩
  unfold ShPost
  rw [← hR]
  have HRR := Lib.hid hR.symm
  clear hn hr ht hci hR
  go_enter Try.func28, Try.ntmps28
  go_wp2_with fail
  go_step3
  go_wp2_with fail
  refine (kinds_any w).mono ?_
  rintro e w1 ⟨rfl, hw1⟩
  have HK1 := Lib.hid (hw1 ▸ kWorld_ok w)
  have HB1 := Lib.hid (hw1 ▸ kWorld_below w)
  have hzw1 : w.heap.size < w1.heap.size := HK1.out.lt
  obtain ⟨B, hB⟩ : ∃ B, B = w.heap.size := ⟨_, rfl⟩
  rw [← hB] at HK1 ⊢
  have HBB := Lib.hid hB
  clear hw1 hB
  go_wp2_with fail
  go_step3
  go_wp2_with fail
  obtain ⟨w2, hw2⟩ : ∃ w2, w2 = w1.alloc (.cells #[.int .i64 0] 47) := ⟨_, rfl⟩
  have hz2w : w2.heap.size = w1.heap.size + 1 := by rw [hw2]; simp
  have HS0 := Lib.hid (show G.Blk w2 (w2.heap.size - 1) 47 #[.int .i64 0] by rw [hz2w, hw2]; exact G.Blk.new _ _ _)
  have HB2 := Lib.hid (show Below w.heap.size w w2 by rw [hw2]; exact G.bl_alloc HB1.out _)
  have HK2 := Lib.hid (show KOk w2 B by rw [hw2]; exact HK1.out.below (G.bl_alloc (Below.refl _ _) _))
  have hgs : w1.heap.size = w2.heap.size - 1 := by omega
  have HLV0 := Lib.hid (show Lvs w2 [lev0] [.slice (some ⟨w1.heap.size, 0, none⟩) 1 1, .int .i64 0, .int .i64 1] from ⟨[], _, rfl, by rw [hgs]; exact lev0_ok w2 HS0.out, rfl⟩)
  rw [← hw2, ← hz2w]
  obtain ⟨cs0, hcs0⟩ : ∃ cs0 : Array Value, cs0 = #[.slice (some ⟨w1.heap.size, 0, none⟩) 1 1, .int .i64 0, .int .i64 1] := ⟨_, rfl⟩
  have HW3 := Lib.hid (show (w2.alloc (.cells cs0 57)).ownsRow w2.heap.size 57 3 (.slice (some ⟨w2.heap.size, 0, none⟩) 1 1) 1 cs0.toList by
    have h := (G.Blk.new w2 57 cs0).own (base := w2.heap.size) (sz := 3) (n := 1) (cap := 1) (Nat.le_refl _) (Nat.le_refl _) (by simp [maxLen]) (by rw [hcs0]; rfl)
    rw [hcs0] at h ⊢
    exact h)
  have HC0 := Lib.hid (show cs0.toList = [.slice (some ⟨w1.heap.size, 0, none⟩) 1 1, .int .i64 0, .int .i64 1] by rw [hcs0])
  rw [← hcs0]
  have hwB : w.heap.size < w2.heap.size := by omega
  have HX1 := Lib.hid hgs
  clear hw2 hz2w hcs0 hgs
  go_loopg [4, 21] n (fun gk s4 s21 wr => ∃ (k : Nat) (st : List Lev) (xs : List Value) (g c : Nat), k + gk = n ∧ s21 = .int .i64 k ∧ s4 = .slice (some ⟨g, 0, none⟩) st.length c ∧ Below w2.heap.size w2 wr ∧ wr.ownsRow w2.heap.size 57 3 (.slice (some ⟨g, 0, none⟩) st.length c) st.length xs ∧ Lvs w2 st xs ∧ Hid (shapeGo st k (t.drop k) = R) ∧ st.length ≤ k + 1)
  case atStart => exact ⟨0, [lev0], cs0.toList, w2.heap.size, 1, by omega, rfl, rfl, G.bl_alloc (Below.refl _ _) _, HW3.out, by rw [HC0.out]; exact HLV0.out, Lib.hid HRR.out, by simp⟩
  case round =>
    obtain ⟨k, st, xs, g, c, hkg, rfl, rfl, hbel, hown, hlv, HSG, hst⟩ := hrel
    have HOWN := Lib.hid hown
    have HLV := Lib.hid hlv
    have HBEL := Lib.hid hbel
    have h0k : (0 : Int) ≤ k := by omega
    have hwr := hbel.size
    clear hown hlv
    cases gk with
    | zero =>
      --[
      as_aux_lemma =>
        have hkn : k = n := by omega
        have hk1 : ¬ (k : Int) < n := by omega
        have HRE := Lib.hid (show R = if ∀ f ∈ st, f.left = 0 then -1 else (n : Int) by
          have h := HSG.out
          rw [hkn, List.drop_eq_nil_of_le (by rw [HN.out]; exact Nat.le_refl _), shapeGo_end] at h
          exact h.symm)
        have HBW := Lib.hid (G.bl_trans HB2.out HBEL.out)
        go_wp2_with fail
        go_loopw [151] (fun j wx => ∃ q : Nat, q ≤ st.length ∧ j = .int .i64 q ∧ Below w2.heap.size w2 wx ∧ wx.ownsRow w2.heap.size 57 3 (.slice (some ⟨g, 0, none⟩) st.length c) st.length xs ∧ ∀ j, j < q → xs[j * 3 + 2]? = some (.int .i64 0)) (fun j _ => st.length - (intOf j).toNat)
        case atStart => exact ⟨0, Nat.zero_le _, rfl, HBEL.out, HOWN.out, fun j hj => by omega⟩
        case round =>
          obtain ⟨q, hq, rfl, hbx, hox, hall⟩ := hrel
          have HALL := Lib.hid hall
          have HOX := Lib.hid hox
          have HBX := Lib.hid hbx
          have h0q : (0 : Int) ≤ q := by omega
          have hstm : st.length ≤ 16777217 := by omega
          clear hall hox hbx
          by_cases hqs : q < st.length
          · have hq1 : (q : Int) < st.length := by omega
            obtain ⟨A', L', C', re, f, hf, d0, d1, d2, hf0⟩ := HLV.out.left_at q hqs
            have hxl := HLV.out.len
            have e0 := (HOX.out.cellAt (q * 3) (by omega)).trans d0
            have e1 := (HOX.out.cellAt (q * 3 + 1) (by omega)).trans d1
            have e2 := (HOX.out.cellAt (q * 3 + 2) (by omega)).trans d2
            have D2 := Lib.hid d2
            clear d0 d1 d2 hxl
            obtain ⟨le, hle⟩ : ∃ le, le = f.left := ⟨_, rfl⟩
            rw [← hle] at e2 hf0 D2
            have HLE := Lib.hid hle
            clear hle
            by_cases hpos : 0 < le
            · have HRN := Lib.hid (show R = (n : Int) by rw [HRE.out, if_neg (fun h => by have := h f hf; have := HLE.out; omega)])
              go_wp2_with fail
              try rw [Exit.noGoto_ret]
              go_ret
              exact ⟨ret_int HRN.out.symm, G.bl_alloc (HB2.out.trans (HBX.out.mono (by omega))) _⟩
            · obtain rfl : le = 0 := by omega
              go_wp2_with fail
              go_roundw
              case rel => exact ⟨q + 1, by omega, by go_num, HBX.out.alloc HBX.out.size _, HOX.out.alloc _, fun j hj => by
                by_cases e : j = q
                · subst e; exact D2.out
                · exact HALL.out j (by omega)⟩
              case measure => simp [intOf]; omega
          · have hq1 : ¬ (q : Int) < st.length := by omega
            have hqe : q = st.length := by omega
            have HRN := Lib.hid (show R = -1 by rw [HRE.out, if_pos (HLV.out.all_zero (fun j hj => HALL.out j (by omega)))])
            clear hqe
            go_wp2_with fail
            try rw [Exit.noGoto_ret]
            go_ret
            exact ⟨ret_int HRN.out.symm, HB2.out.trans (HBX.out.mono (by omega))⟩
      --]
    | succ gO =>
      have hkn : k < n := by omega
      have hk1 : (k : Int) < n := by omega
      obtain ⟨b, off, hA, hr⟩ := (HR.out.below (G.bl_trans HB2.out (HBEL.out))).2 (by omega)
      subst hA
      obtain ⟨x, hx⟩ : ∃ x, x = t.getD k zeroNd := ⟨_, rfl⟩
      have HDR := Lib.hid (show t.drop k = x :: t.drop (k + 1) by rw [hx]; exact drop_nd (by rw [HN.out]; exact hkn))
      obtain ⟨c0, c1, c2, c3, c4, c5, c6⟩ := nd_at hr (by rw [HN.out]; exact hkn) hx.symm
      have hxt := HT.out x (by rw [hx, List.getD_eq_getElem?_getD, List.getElem?_eq_getElem (by rw [HN.out]; exact hkn)]; exact List.getElem_mem _)
      clear hr hx
      have HSX := Lib.hid (show shapeGo st k (x :: t.drop (k + 1)) = R by rw [← HDR.out]; exact HSG.out)
      obtain ⟨xo, xk, xn, xm, xt, xa, xq⟩ := x
      simp only at c0 c1 c2 c3 c4 c5 c6 hxt
      go_wp2_with fail
      obtain ⟨wn, hwn⟩ : ∃ wn, wn = wr.alloc (.cells #[.int .i8 xo, .int .i8 xk, .int .i64 xn, .int .i64 xm, .string xt, .int .i64 xa, .int .i64 xq] 33) := ⟨_, rfl⟩
      obtain ⟨nb, hnb⟩ : ∃ nb, nb = wr.heap.size := ⟨_, rfl⟩
      have HNB := Lib.hid (show G.Blk wn nb 33 #[.int .i8 xo, .int .i8 xk, .int .i64 xn, .int .i64 xm, .string xt, .int .i64 xa, .int .i64 xq] by rw [hwn, hnb]; exact G.Blk.new _ _ _)
      have HBN := Lib.hid (show Below w2.heap.size w2 wn by rw [hwn]; exact HBEL.out.alloc hwr _)
      have HON := Lib.hid (show wn.ownsRow w2.heap.size 57 3 (.slice (some ⟨g, 0, none⟩) st.length c) st.length xs by rw [hwn]; exact HOWN.out.alloc _)
      rw [← hwn, ← hnb]
      clear hwn c0 c1 c2 c3 c4 c5 c6 hnb hbel
      go_loopg [4] st.length (fun gj s4 wx => ∃ (st' : List Lev) (xs' : List Value), st'.length = gj ∧ s4 = .slice (some ⟨g, 0, none⟩) st'.length c ∧ wx = wn ∧ wn.ownsRow w2.heap.size 57 3 (.slice (some ⟨g, 0, none⟩) st'.length c) st'.length xs' ∧ Lvs w2 st' xs' ∧ Hid (shapeGo st' k (⟨xo, xk, xn, xm, xt, xa, xq⟩ :: t.drop (k + 1)) = R) ∧ st'.length ≤ k + 1)
      case atStart => exact ⟨st, xs, rfl, rfl, rfl, HON.out, HLV.out, HSX, hst⟩
      case round =>
        obtain ⟨st', xs', hgj, rfl, rfl, hown', hlv', HSG', hst'⟩ := hrel
        have HOW := Lib.hid hown'
        have HLW := Lib.hid hlv'
        clear hown' hlv'
        subst hgj
        cases st' with
        | nil =>
          --[
          as_aux_lemma =>
            have HRK := Lib.hid (show R = (k : Int) by rw [← HSG'.out]; exact shapeGo_empty _ _ _)
            go_wp2_with fail
            try rw [Exit.noGoto_ret]
            go_ret
            exact ⟨ret_int HRK.out.symm, HB2.out.trans (HBN.out.mono (by omega))⟩
          --]
        | cons f s =>
          have hxl := HLW.out.len
          obtain ⟨ys, top, hxe, hlo, hls⟩ := HLW.out
          have HLS := Lib.hid hls
          have hyl := hls.len
          obtain ⟨LA, LL, LC, htop, hol, hLC, hC3, hrs, hor, hrr, hle0, hle1⟩ := hlo
          have e0 := (HOW.out.cellAt (s.length * 3) (by rw [List.length_cons]; omega)).trans (show xs'[s.length * 3]? = some (.slice LA LL LC) by rw [hxe, htop, List.getElem?_append_right (by omega), hyl, Nat.sub_self]; rfl)
          have e1 := (HOW.out.cellAt (s.length * 3 + 1) (by rw [List.length_cons]; omega)).trans (show xs'[s.length * 3 + 1]? = some (.int .i64 f.rest) by rw [hxe, htop, List.getElem?_append_right (by omega), hyl, show s.length * 3 + 1 - s.length * 3 = 1 by omega]; rfl)
          have e2 := (HOW.out.cellAt (s.length * 3 + 2) (by rw [List.length_cons]; omega)).trans (show xs'[s.length * 3 + 2]? = some (.int .i64 f.left) by rw [hxe, htop, List.getElem?_append_right (by omega), hyl, show s.length * 3 + 2 - s.length * 3 = 2 by omega]; rfl)
          obtain ⟨hcap, hcap2⟩ := own_caps HOW.out
          simp only [List.length_cons] at hcap
          have hfz0 := HOW.out.frozenAt (s.length * 3)
          have hfz2 := HOW.out.frozenAt (s.length * 3 + 2)
          have HXE := Lib.hid (show xs' = ys ++ [.slice LA LL LC, .int .i64 f.rest, .int .i64 f.left] by rw [hxe, htop])
          have HOL := Lib.hid hol
          have HRS := Lib.hid hrs
          have HOR := Lib.hid hor
          have HYL := Lib.hid hyl
          have hslen : s.length + 1 ≤ k + 1 := by simpa using hst'
          have hs1 : ((s.length : Int) + 1 == 0) = false := by simpa using (show ¬ (s.length : Int) + 1 = 0 by omega)
          simp only [List.length_cons] at ⊢
          by_cases hz : f.left = 0
          · skip
            --[
            as_aux_lemma =>
              have HS1 := Lib.hid (show shapeGo s k (⟨xo, xk, xn, xm, xt, xa, xq⟩ :: t.drop (k + 1)) = R by rw [← HSG'.out, shapeGo_pop _ _ _ hz])
              rw [hz] at e2
              have HTK := Lib.hid (show wr.ownsRow w2.heap.size 57 3 (.slice (some ⟨g, 0, none⟩) s.length c) s.length ys by
                have h := own_take_pre (m := s.length) HOW.out (by simp) (by simp)
                rwa [HXE.out, List.take_left' (by rw [← HYL.out])] at h)
              clear hz hle0 hle1 hxl hxe htop hrs hor hol hyl hls
              go_wp2_with fail
              go_roundg s.length
              case rel => exact ⟨s, ys, rfl, rfl, rfl, HTK.out, HLS.out, HS1, by omega⟩
              case measure => simp
            --]
          · have HZ := Lib.hid hz
            have hz' : (f.left == 0) = false := by simpa using hz
            have HWANT := Lib.hid (show f.want = match f.own with | [] => f.rest | u :: _ => u from rfl)
            obtain ⟨fw, hfw⟩ : ∃ fw, fw = f.want := ⟨_, rfl⟩
            rw [← hfw] at HWANT
            have HFW := Lib.hid hfw
            have hbs : w2.heap.size ≤ g := by
              rcases HOW.out.2 with ⟨hv, _⟩ | ⟨g', cap', cur, hv, hb', _⟩
              · cases hv
              · simp only [Value.slice.injEq, Option.some.injEq, Addr.mk.injEq, and_true, true_and] at hv
                obtain ⟨rfl, _⟩ := hv
                exact hb'
            have HNE := Lib.hid (show nb ≠ g from fun e => by
              subst e
              have h1 := HNB.out
              unfold G.Blk at h1
              rcases HOW.out.2 with ⟨hv, _⟩ | ⟨g', cap', cur, hv, hb', hgg, _⟩
              · cases hv
              · simp only [Value.slice.injEq, Option.some.injEq, Addr.mk.injEq, and_true, true_and] at hv
                obtain ⟨rfl, _⟩ := hv
                rw [h1] at hgg
                simp only [Option.some.injEq, Obj.cells.injEq] at hgg
                exact absurd hgg.2.1 (by decide))
            clear hz hfw hxl hxe htop hls
            go_upto_if 54 with (fail)
            go_cut [8] from 26 to 147 (fun s8 wx => s8 = .int .i64 fw ∧ Below w2.heap.size w2 wx ∧ G.Blk wx nb 33 #[.int .i8 xo, .int .i8 xk, .int .i64 xn, .int .i64 xm, .string xt, .int .i64 xa, .int .i64 xq] ∧
              ∃ A L C, wx.ownsRow w2.heap.size 57 3 (.slice (some ⟨g, 0, none⟩) (s.length + 1) c) (s.length + 1) (ys ++ [.slice A L C, .int .i64 f.rest, .int .i64 f.left]) ∧ f.own.tail.length = L ∧ L ≤ C ∧ C ≤ 3 ∧ G.RdS w2 A 1 L (ints f.own.tail))
            case first =>
              --[
              as_aux_lemma =>
                rcases Nat.eq_zero_or_pos LL with hL0 | hL0
                · subst hL0
                  have hown0 : f.own = [] := List.eq_nil_of_length_eq_zero HOL.out
                  have HFR := Lib.hid (show fw = f.rest by rw [HWANT.out, hown0])
                  have HO0 := Lib.hid hown0
                  clear hown0 hol
                  go_wp2_with fail
                  go_meet
                  case rel => exact ⟨by rw [HFR.out], HBN.out, HNB.out, LA, 0, LC, by rw [← HXE.out]; exact HOW.out, by rw [HO0.out]; rfl, by omega, hC3, by rw [HO0.out]; exact G.RdS.nil _⟩
                · obtain ⟨ob, oo, hLA, hro⟩ := hrs.2 hL0
                  subst hLA
                  obtain ⟨u, us, hus⟩ : ∃ u us, f.own = u :: us := by
                    cases hf : f.own with
                    | nil => rw [hf] at hol; simp at hol; omega
                    | cons u us => exact ⟨u, us, rfl⟩
                  have HU := Lib.hid hus
                  have HFR := Lib.hid (show fw = u by rw [HWANT.out, hus])
                  have hL1 : (0 : Int) < LL := by omega
                  have ho0 := hro.2 0 (by simp [ints]; omega)
                  rw [Nat.add_zero, hus] at ho0
                  have ho1 : wr.cell? ⟨ob, oo, none⟩ = some (.int .i64 u) := (HBN.out.cell (p := ⟨ob, oo, none⟩) hro.1).trans ho0
                  have hobw := hro.1
                  have HST := Lib.hid (fun v => HOW.out.stored (s.length * 3) v)
                  have hset : ∀ v, xs'.set (s.length * 3) v = ys ++ [v, .int .i64 f.rest, .int .i64 f.left] := fun v => by
                    rw [HXE.out, List.set_append_right _ _ (by rw [HYL.out]; exact Nat.le_refl _), HYL.out, Nat.sub_self]
                    rfl
                  have HSET := Lib.hid hset
                  have HTL := Lib.hid (show f.own.tail.length = LL - 1 by rw [List.length_tail, HOL.out])
                  have HRT := Lib.hid (show G.RdS w2 (some ⟨ob, oo + 1, none⟩) 1 (LL - 1) (ints f.own.tail) from rdS_tail (by rw [show LL - 1 + 1 = LL by omega]; exact HRS.out))
                  clear hus hro ho0 hset hol hrs
                  by_cases hC1 : LC = 1
                  · subst hC1
                    obtain rfl : LL = 1 := by omega
                    have HTN := Lib.hid (show f.own.tail = [] from List.eq_nil_of_length_eq_zero HTL.out)
                    go_wp2_with fail
                    go_still_tail 15, (by kernel_rfl)
                    change wpList _ _ _ _ _ wr.drew
                    go_wp2_with fail
                    go_meet
                    case rel => exact ⟨by rw [HFR.out], (G.bl_drewN HBN.out 1).setCell (p := ⟨g, s.length * 3, none⟩) hbs _, (HNB.out : G.Blk wr.drew nb _ _).same (Below.heap_setCell wr.drew ⟨g, s.length * 3, none⟩ _ nb HNE.out), some ⟨ob, oo, none⟩, 0, 0, by have := (HST.out (.slice (some ⟨ob, oo, none⟩) (0) (0))).1; rw [HSET.out] at this; exact this, by rw [HTL.out], by omega, by omega, by rw [HTN.out]; exact G.RdS.nil _⟩
                  · have hC2 : ¬ LC = 1 := hC1
                    have hL2 : (1 : Int) ≤ LL := by omega
                    have hL3 : (LL : Int) ≤ LC := by omega
                    have hL4 : 1 ≤ LL := by omega
                    go_wp2_with fail
                    go_still_tail 15, (by kernel_rfl)
                    change wpList _ _ _ _ _ wr.drew
                    go_wp2_with fail
                    go_meet
                    case rel => exact ⟨by rw [HFR.out], (G.bl_drewN HBN.out 1).setCell (p := ⟨g, s.length * 3, none⟩) hbs _, (HNB.out : G.Blk wr.drew nb _ _).same (Below.heap_setCell wr.drew ⟨g, s.length * 3, none⟩ _ nb HNE.out), some ⟨ob, oo + 1, none⟩, LL - 1, LC - 1, by have := (HST.out (.slice (some ⟨ob, oo + 1, none⟩) (LL - 1) (LC - 1))).1; rw [HSET.out] at this; exact this, by rw [HTL.out], by omega, by omega, HRT.out⟩
              --]
            case rest =>
              obtain ⟨rfl, hbc, hnc, A2, L2, C2, hoc, htl, hL2C, hC23, hrt⟩ := hcut
              have hyr : (ys ++ [.slice A2 L2 C2, .int .i64 f.rest, .int .i64 f.left])[s.length * 3 + 2]? = some (.int .i64 f.left) := by
                rw [List.getElem?_append_right (by rw [HYL.out]; omega), HYL.out, show s.length * 3 + 2 - s.length * 3 = 2 by omega]; rfl
              have e2' := (hoc.cellAt (s.length * 3 + 2) (by omega)).trans hyr
              have hf2 := hoc.frozenAt (s.length * 3 + 2)
              have HO4 := Lib.hid (show (wc.setCell ⟨g, s.length * 3 + 2, none⟩ (.int .i64 (f.left - 1))).ownsRow w2.heap.size 57 3 (.slice (some ⟨g, 0, none⟩) (s.length + 1) c) (s.length + 1) (ys ++ [.slice A2 L2 C2, .int .i64 f.rest, .int .i64 (f.left - 1)]) by
                have h := (hoc.stored (s.length * 3 + 2) (.int .i64 (f.left - 1))).1
                rw [List.set_append_right _ _ (by rw [HYL.out]; omega), HYL.out, show s.length * 3 + 2 - s.length * 3 = 2 by omega] at h
                exact h)
              have HB4 := Lib.hid (show Below w2.heap.size w2 (wc.setCell ⟨g, s.length * 3 + 2, none⟩ (.int .i64 (f.left - 1))) from hbc.setCell (p := ⟨g, s.length * 3 + 2, none⟩) hbs _)
              have HN4 := Lib.hid (show G.Blk (wc.setCell ⟨g, s.length * 3 + 2, none⟩ (.int .i64 (f.left - 1))) nb 33 #[.int .i8 xo, .int .i8 xk, .int .i64 xn, .int .i64 xm, .string xt, .int .i64 xa, .int .i64 xq] from hnc.same (Below.heap_setCell wc ⟨g, s.length * 3 + 2, none⟩ _ nb HNE.out))
              have HF2 := Lib.hid (show Lvs w2 (f.step :: s) (ys ++ [.slice A2 L2 C2, .int .i64 f.rest, .int .i64 (f.left - 1)]) from ⟨ys, _, rfl, ⟨A2, L2, C2, rfl, htl, hL2C, hC23, hrt, fun u hu => HOR.out u (List.mem_of_mem_tail hu), hrr, by have := HZ.out; show 0 ≤ f.left - 1; omega, by show f.left - 1 ≤ _; omega⟩, HLS.out⟩)
              have hle2 : 1 ≤ f.left := by have := HZ.out; omega
              clear hbc hnc hoc htl hL2C hC23 hrt hyr
              go_upto_region 15 with (fail)
              obtain ⟨w4, hw4⟩ : ∃ w4, w4 = wc.setCell ⟨g, s.length * 3 + 2, none⟩ (.int .i64 (f.left - 1)) := ⟨_, rfl⟩
              rw [← hw4] at HO4 HB4 HN4 ⊢
              clear hw4 e2' hf2
              have HK4 := Lib.hid (HK2.out.below HB4.out)
              have hd0 : w4.cell? ⟨nb, 0, none⟩ = some (.int .i8 xo) := HN4.out.cell 0
              have hd6 : w4.cell? ⟨nb, 6, none⟩ = some (.int .i64 xq) := HN4.out.cell 6
              have hz4 : nb < w4.heap.size := HN4.out.lt
              cases hrow : rowOf xo with
              | none =>
                --[
                as_aux_lemma =>
                  have HRK := Lib.hid (show R = (k : Int) by
                    rw [← HSG'.out, shapeGo_step _ _ _ _ HZ.out, if_neg (by unfold nodeOk; rw [hrow]; simp)])
                  have hlk := lookup_no HK4.out hrow
                  unfold zeroKind at hlk
                  have HKK := Lib.hid (fun W => kkids_any .nilFunc ⟨0, 0, [], 0, false, 0⟩ none 0 0 xq W rfl (Nat.le_refl _) (by omega) (G.RdS.nil _))
                  clear hrow
                  go_wp2_with fail
                  refine (HKK.out _).mono ?_
                  rintro e w5 ⟨A5, L5, C5, rfl, hb5, _, _, _⟩
                  go_wp2_with fail
                  try rw [Exit.noGoto_ret]
                  go_ret
                  exact ⟨ret_int HRK.out.symm, HB2.out.trans ((HB4.out.mono (by omega)).trans (((Below.refl _ _).alloc (Nat.le_refl _) _).trans (hb5.mono (by simp)) |>.mono (by have := HB4.out.size; omega)))⟩
                --]
              | some r =>
                have hmem := row_mem hrow
                have HRNG := Lib.hid (row_range _ hmem)
                obtain ⟨A5, L5, C5, hov, hol5, hLC5, hC35, hrs5⟩ := ownV_form HK2.out hrow
                have hlk := lookup_yes HK4.out hrow
                unfold rowV at hlk
                rw [hov] at hlk
                have HKK := Lib.hid (fun fv W (h : G.RdS W A5 1 L5 (ints r.own)) => kkids_any fv r A5 L5 C5 xq W hol5 hLC5 hC35 h)
                have HRS5 := Lib.hid hrs5
                rw [fnV_form] at hlk
                obtain ⟨fid, hfid⟩ : ∃ fid, fid = fidOf r.tk := ⟨_, rfl⟩
                obtain ⟨caps, hcaps⟩ : ∃ caps, caps = capsOf B xo r.tk := ⟨_, rfl⟩
                rw [← hfid, ← hcaps] at hlk
                have HFID := Lib.hid hfid
                have HCAPS := Lib.hid hcaps
                have HROW := Lib.hid hrow
                have HMB := Lib.hid (show ∃ M, M = mayB r xq from ⟨_, rfl⟩)
                clear hrow hov hol5 hrs5 hfid hcaps hmem
                obtain ⟨tk, most, own, least, more, rest⟩ := r
                simp only at hlk HKK HRS5 HFID HCAPS HRNG HMB
                go_wp2_with fail
                refine (HKK.out _ _ (HRS5.out.below (HB4.out.alloc HB4.out.size _))).mono ?_
                rintro e w5 ⟨A6, L6, C6, rfl, hb5, hL6, hC6, hmy⟩
                obtain ⟨M, hM⟩ : ∃ M, M = mayB ⟨tk, most, own, least, more, rest⟩ xq := ⟨_, rfl⟩
                rw [← hM] at hmy ⊢
                have hkb := (G.Blk.new w4 62 #[.func (.func fid) #[] caps, .int .i64 most, .slice A5 L5 C5, .int .i64 least, .bool more, .int .i64 rest]).below hb5 (by simp)
                have hnb := (HN4.out.alloc (.cells #[.func (.func fid) #[] caps, .int .i64 most, .slice A5 L5 C5, .int .i64 least, .bool more, .int .i64 rest] 62)).below hb5 (by simp; omega)
                have HO5 := Lib.hid (G.own_below (HO4.out.alloc (.cells #[.func (.func fid) #[] caps, .int .i64 most, .slice A5 L5 C5, .int .i64 least, .bool more, .int .i64 rest] 62)) hb5)
                have hb45 : Below w4.heap.size w4 w5 := G.bl_trans (G.bl_alloc (Below.refl _ _) _) hb5
                have HB5 := Lib.hid (show Below w2.heap.size w2 w5 from HB4.out.trans (hb45.mono HB4.out.size))
                have HBF := Lib.hid (show Below w.heap.size w w5 from HB2.out.trans (HB5.out.mono (by omega)))
                have HK5 := Lib.hid (HK2.out.below HB5.out)
                have HMY := Lib.hid (show M = true → (ownsOf ⟨tk, most, own, least, more, rest⟩ xq).length = L6 ∧ G.RdS w2 A6 1 L6 (ints (ownsOf ⟨tk, most, own, least, more, rest⟩ xq)) from fun h => ⟨(hmy h).1, (hmy h).2 w2 HRS5.out⟩)
                have HXQ0 := Lib.hid (show M = true → 0 ≤ xq from fun h => Classical.byContradiction fun hn => by rw [hM] at h; unfold mayB at h; rw [if_pos (by omega)] at h; cases h)
                have HNK := Lib.hid (show nodeOk ⟨xo, xk, xn, xm, xt, xa, xq⟩ fw = (M && takesB fw xo && xk == 0 && xm == 0 && decide (0 ≤ xa) && decide (0 ≤ xn) && decide (xn ≤ most) && textOk tk xt.data.toList) by
                  unfold nodeOk
                  rw [HROW.out, hM])
                have HSTEP := Lib.hid (show R = if nodeOk ⟨xo, xk, xn, xm, xt, xa, xq⟩ fw then shapeGo (levOf ⟨xo, xk, xn, xm, xt, xa, xq⟩ :: f.step :: s) (k + 1) (t.drop (k + 1)) else (k : Int) by
                  rw [HFW.out, ← HSG'.out, shapeGo_step _ _ _ _ HZ.out])
                have HBAD := Lib.hid (show nodeOk ⟨xo, xk, xn, xm, xt, xa, xq⟩ fw = false → R = (k : Int) from fun h => by rw [HSTEP.out, h]; rfl)
                have hd0 : w5.cell? ⟨nb, 0, none⟩ = some (.int .i8 xo) := hnb.cell 0
                have hd1 : w5.cell? ⟨nb, 1, none⟩ = some (.int .i8 xk) := hnb.cell 1
                have hd2 : w5.cell? ⟨nb, 2, none⟩ = some (.int .i64 xn) := hnb.cell 2
                have hd3 : w5.cell? ⟨nb, 3, none⟩ = some (.int .i64 xm) := hnb.cell 3
                have hd4 : w5.cell? ⟨nb, 4, none⟩ = some (.string xt) := hnb.cell 4
                have hd5 : w5.cell? ⟨nb, 5, none⟩ = some (.int .i64 xa) := hnb.cell 5
                have hd6 : w5.cell? ⟨nb, 6, none⟩ = some (.int .i64 xq) := hnb.cell 6
                have hk0 : w5.cell? ⟨w4.heap.size, 0, none⟩ = some (.func (.func fid) #[] caps) := hkb.cell 0
                have hk1 : w5.cell? ⟨w4.heap.size, 1, none⟩ = some (.int .i64 most) := hkb.cell 1
                have hk5 : w5.cell? ⟨w4.heap.size, 5, none⟩ = some (.int .i64 rest) := hkb.cell 5
                have hfw7 : 0 ≤ fw ∧ fw ≤ 7 := by
                  rw [HWANT.out]
                  split
                  · exact hrr
                  · rename_i u us hfo
                    exact HOR.out u (by rw [hfo]; simp)
                clear hM hkb hnb hb5 hb45 hmy hlk
                have HTXB := Lib.hid (HK5.out.box xo _ HROW.out)
                have HTK := Lib.hid (fun W => takes_any fw xo hfw7.1 hfw7.2 W)
                obtain ⟨T, hT⟩ : ∃ T, T = takesB fw xo := ⟨_, rfl⟩
                rw [← hT] at HTK HNK
                obtain ⟨NK, hNK⟩ : ∃ NK, NK = nodeOk ⟨xo, xk, xn, xm, xt, xa, xq⟩ fw := ⟨_, rfl⟩
                rw [← hNK] at HNK HSTEP
                have htk6 : tk = 0 ∨ tk = 1 ∨ tk = 2 ∨ tk = 3 ∨ tk = 4 ∨ tk = 5 := by
                  have := HRNG.out.2.2.2
                  omega
                have htx := hxt.1
                have hsz5 : w2.heap.size ≤ w5.heap.size := HB5.out.size
                clear hT hNK HBAD
                go_upto_region 17 with (fail)
                go_cut [137] from 26 to 147 (fun s137 wx => s137 = .bool (!NK) ∧ w5 = wx)
                case first =>
                  --[
                  as_aux_lemma =>
                    cases M with
                    | false =>
                      have HNF := Lib.hid (show NK = false by rw [HNK.out]; rfl)
                      go_wp2_with fail
                      go_meet
                      case rel => exact ⟨by rw [HNF.out]; rfl, rfl⟩
                    | true =>
                      cases T with
                      | false =>
                        have HNF := Lib.hid (show NK = false by rw [HNK.out]; rfl)
                        go_wp2_with (go_at_call 31; refine (HTK.out _).mono ?_; rintro e wq ⟨rfl, rfl⟩)
                        go_meet
                        case rel => exact ⟨by rw [HNF.out]; rfl, rfl⟩
                      | true =>
                        by_cases b3 : xk = 0
                        · subst b3
                          by_cases b4 : xm = 0
                          · subst b4
                            by_cases b5 : 0 ≤ xa
                            · by_cases b6 : 0 ≤ xn
                              · by_cases b7 : xn ≤ most
                                · have HNT := Lib.hid (show NK = textOk tk xt.data.toList by rw [HNK.out, decide_eq_true b5, decide_eq_true b6, decide_eq_true b7]; rfl)
                                  rcases htk6 with rfl | rfl | rfl | rfl | rfl | rfl
                                  · have hfid : fid = 54 := HFID.out
                                    subst hfid
                                    have hcaps : caps = #[] := HCAPS.out
                                    subst hcaps
                                    have HTX := Lib.hid (show Calls Try.prog 54 #[.string xt] w5 fun e w' => e = .returned (.bool (textOk 0 xt.data.toList)) ∧ w5 = w' from empty_any xt w5)
                                    obtain ⟨X, hX⟩ : ∃ X, X = textOk 0 xt.data.toList := ⟨_, rfl⟩
                                    rw [← hX] at HTX HNT
                                    clear hX
                                    go_wp2_with (first
                                      | (go_at_call 31; refine (HTK.out _).mono ?_; rintro e wq ⟨rfl, rfl⟩)
                                      | (go_at_call 54; refine HTX.out.mono ?_; rintro e wq ⟨rfl, rfl⟩))
                                    go_meet
                                    case rel => exact ⟨by rw [HNT.out, decide_eq_false (show ¬ xa < 0 by omega), decide_eq_false (show ¬ xn < 0 by omega), decide_eq_false (show ¬ most < xn by omega)]; rfl, rfl⟩
                                  · have hfid : fid = 55 := HFID.out
                                    subst hfid
                                    have hcaps : caps = #[] := HCAPS.out
                                    subst hcaps
                                    have HTX := Lib.hid (show Calls Try.prog 55 #[.string xt] w5 fun e w' => e = .returned (.bool (textOk 1 xt.data.toList)) ∧ w5 = w' from isText_any xt w5 (by unfold maxLen; omega))
                                    obtain ⟨X, hX⟩ : ∃ X, X = textOk 1 xt.data.toList := ⟨_, rfl⟩
                                    rw [← hX] at HTX HNT
                                    clear hX
                                    go_wp2_with (first
                                      | (go_at_call 31; refine (HTK.out _).mono ?_; rintro e wq ⟨rfl, rfl⟩)
                                      | (go_at_call 55; refine HTX.out.mono ?_; rintro e wq ⟨rfl, rfl⟩))
                                    go_meet
                                    case rel => exact ⟨by rw [HNT.out, decide_eq_false (show ¬ xa < 0 by omega), decide_eq_false (show ¬ xn < 0 by omega), decide_eq_false (show ¬ most < xn by omega)]; rfl, rfl⟩
                                  · have hfid : fid = 53 := HFID.out
                                    subst hfid
                                    have hcaps : caps = #[] := HCAPS.out
                                    subst hcaps
                                    have HTX := Lib.hid (show Calls Try.prog 53 #[.string xt] w5 fun e w' => e = .returned (.bool (textOk 2 xt.data.toList)) ∧ w5 = w' from isFree_any xt w w5 (by omega) HCI.out HBF.out)
                                    obtain ⟨X, hX⟩ : ∃ X, X = textOk 2 xt.data.toList := ⟨_, rfl⟩
                                    rw [← hX] at HTX HNT
                                    clear hX
                                    go_wp2_with (first
                                      | (go_at_call 31; refine (HTK.out _).mono ?_; rintro e wq ⟨rfl, rfl⟩)
                                      | (go_at_call 53; refine HTX.out.mono ?_; rintro e wq ⟨rfl, rfl⟩))
                                    go_meet
                                    case rel => exact ⟨by rw [HNT.out, decide_eq_false (show ¬ xa < 0 by omega), decide_eq_false (show ¬ xn < 0 by omega), decide_eq_false (show ¬ most < xn by omega)]; rfl, rfl⟩
                                  · have hfid : fid = 52 := HFID.out
                                    subst hfid
                                    have hcaps : caps = #[.pointer (some ⟨B + boxIdx xo, 0, none⟩)] := HCAPS.out
                                    subst hcaps
                                    have HTX := Lib.hid (show Calls Try.prog 52 #[.string xt, .pointer (some ⟨B + boxIdx xo, 0, none⟩)] w5 fun e w' => e = .returned (.bool (textOk 3 xt.data.toList)) ∧ w5 = w' from orc_any xt (B + boxIdx xo) (B + boxIdx xo - 1) selfL meL w w5 (by omega) HCI.out HBF.out (HTXB.out (by decide)).1 (HTXB.out (by decide)).2)
                                    obtain ⟨X, hX⟩ : ∃ X, X = textOk 3 xt.data.toList := ⟨_, rfl⟩
                                    rw [← hX] at HTX HNT
                                    clear hX
                                    go_wp2_with (first
                                      | (go_at_call 31; refine (HTK.out _).mono ?_; rintro e wq ⟨rfl, rfl⟩)
                                      | (go_at_call 52; refine HTX.out.mono ?_; rintro e wq ⟨rfl, rfl⟩))
                                    go_meet
                                    case rel => exact ⟨by rw [HNT.out, decide_eq_false (show ¬ xa < 0 by omega), decide_eq_false (show ¬ xn < 0 by omega), decide_eq_false (show ¬ most < xn by omega)]; rfl, rfl⟩
                                  · have hfid : fid = 52 := HFID.out
                                    subst hfid
                                    have hcaps : caps = #[.pointer (some ⟨B + boxIdx xo, 0, none⟩)] := HCAPS.out
                                    subst hcaps
                                    have HTX := Lib.hid (show Calls Try.prog 52 #[.string xt, .pointer (some ⟨B + boxIdx xo, 0, none⟩)] w5 fun e w' => e = .returned (.bool (textOk 4 xt.data.toList)) ∧ w5 = w' from orc_any xt (B + boxIdx xo) (B + boxIdx xo - 1) hitL drawL w w5 (by omega) HCI.out HBF.out (HTXB.out (by decide)).1 (HTXB.out (by decide)).2)
                                    obtain ⟨X, hX⟩ : ∃ X, X = textOk 4 xt.data.toList := ⟨_, rfl⟩
                                    rw [← hX] at HTX HNT
                                    clear hX
                                    go_wp2_with (first
                                      | (go_at_call 31; refine (HTK.out _).mono ?_; rintro e wq ⟨rfl, rfl⟩)
                                      | (go_at_call 52; refine HTX.out.mono ?_; rintro e wq ⟨rfl, rfl⟩))
                                    go_meet
                                    case rel => exact ⟨by rw [HNT.out, decide_eq_false (show ¬ xa < 0 by omega), decide_eq_false (show ¬ xn < 0 by omega), decide_eq_false (show ¬ most < xn by omega)]; rfl, rfl⟩
                                  · have hfid : fid = 56 := HFID.out
                                    subst hfid
                                    have hcaps : caps = #[] := HCAPS.out
                                    subst hcaps
                                    have HTX := Lib.hid (show Calls Try.prog 56 #[.string xt] w5 fun e w' => e = .returned (.bool (textOk 5 xt.data.toList)) ∧ w5 = w' from isName_any xt w5 (by unfold maxLen; omega))
                                    obtain ⟨X, hX⟩ : ∃ X, X = textOk 5 xt.data.toList := ⟨_, rfl⟩
                                    rw [← hX] at HTX HNT
                                    clear hX
                                    go_wp2_with (first
                                      | (go_at_call 31; refine (HTK.out _).mono ?_; rintro e wq ⟨rfl, rfl⟩)
                                      | (go_at_call 56; refine HTX.out.mono ?_; rintro e wq ⟨rfl, rfl⟩))
                                    go_meet
                                    case rel => exact ⟨by rw [HNT.out, decide_eq_false (show ¬ xa < 0 by omega), decide_eq_false (show ¬ xn < 0 by omega), decide_eq_false (show ¬ most < xn by omega)]; rfl, rfl⟩
                                · have HNF := Lib.hid (show NK = false by rw [HNK.out, decide_eq_false b7]; simp)
                                  go_wp2_with (go_at_call 31; refine (HTK.out _).mono ?_; rintro e wq ⟨rfl, rfl⟩)
                                  go_meet
                                  case rel => exact ⟨by rw [HNF.out]; rfl, rfl⟩
                              · have HNF := Lib.hid (show NK = false by rw [HNK.out, decide_eq_false b6]; simp)
                                go_wp2_with (go_at_call 31; refine (HTK.out _).mono ?_; rintro e wq ⟨rfl, rfl⟩)
                                go_meet
                                case rel => exact ⟨by rw [HNF.out]; rfl, rfl⟩
                            · have HNF := Lib.hid (show NK = false by rw [HNK.out, decide_eq_false b5]; simp)
                              go_wp2_with (go_at_call 31; refine (HTK.out _).mono ?_; rintro e wq ⟨rfl, rfl⟩)
                              go_meet
                              case rel => exact ⟨by rw [HNF.out]; rfl, rfl⟩
                          · have b4' : (xm != 0) = true := by simpa using b4
                            have HNF := Lib.hid (show NK = false by rw [HNK.out, ne_b b4]; simp)
                            clear b4
                            go_wp2_with (go_at_call 31; refine (HTK.out _).mono ?_; rintro e wq ⟨rfl, rfl⟩)
                            go_meet
                            case rel => exact ⟨by rw [HNF.out]; rfl, rfl⟩
                        · have b3' : (xk != 0) = true := by simpa using b3
                          have HNF := Lib.hid (show NK = false by rw [HNK.out, ne_b b3]; simp)
                          clear b3
                          go_wp2_with (go_at_call 31; refine (HTK.out _).mono ?_; rintro e wq ⟨rfl, rfl⟩)
                          go_meet
                          case rel => exact ⟨by rw [HNF.out]; rfl, rfl⟩
                  --]
                case rest =>
                  obtain ⟨rfl, rfl⟩ := hcut
                  cases NK with
                  | false =>
                    --[
                    as_aux_lemma =>
                      have HRK := Lib.hid (show R = (k : Int) from HSTEP.out)
                      go_wp2_with fail
                      try rw [Exit.noGoto_ret]
                      go_ret
                      exact ⟨ret_int HRK.out.symm, HBF.out⟩
                    --]
                  | true =>
                    have HM1 := Lib.hid (show M = true by
                      have h := HNK.out
                      cases M with
                      | true => rfl
                      | false => simp at h)
                    have HLEV := Lib.hid (show levOf ⟨xo, xk, xn, xm, xt, xa, xq⟩ = ⟨ownsOf ⟨tk, most, own, least, more, rest⟩ xq, rest, xq⟩ by unfold levOf; rw [HROW.out])
                    obtain ⟨O, hO⟩ : ∃ O, O = ownsOf ⟨tk, most, own, least, more, rest⟩ xq := ⟨_, rfl⟩
                    rw [← hO] at HLEV
                    have HOW2 := Lib.hid (show O.length = L6 ∧ G.RdS w2 A6 1 L6 (ints O) by rw [hO]; exact HMY.out HM1.out)
                    have HOR2 := Lib.hid (show ∀ u ∈ O, 0 ≤ u ∧ u ≤ 7 from fun u hu => by
                      rw [hO] at hu
                      unfold ownsOf at hu
                      refine HRNG.out.1 u ?_
                      split at hu
                      · cases hu
                      · split at hu
                        · exact List.mem_of_mem_tail hu
                        · exact List.mem_of_mem_take hu)
                    have HXQ := Lib.hid (show 0 ≤ xq from HXQ0.out HM1.out)
                    have HLVN := Lib.hid (show Lvs w2 (⟨O, rest, xq⟩ :: f.step :: s) ((ys ++ [.slice A2 L2 C2, .int .i64 f.rest, .int .i64 (f.left - 1)]) ++ [.slice A6 L6 C6, .int .i64 rest, .int .i64 xq]) from ⟨_, _, rfl, ⟨A6, L6, C6, rfl, HOW2.out.1, hL6, hC6, HOW2.out.2, HOR2.out, ⟨HRNG.out.2.1, HRNG.out.2.2.1⟩, HXQ.out, hxt.2⟩, HF2.out⟩)
                    have HGOOD := Lib.hid (show shapeGo (⟨O, rest, xq⟩ :: f.step :: s) (k + 1) (t.drop (k + 1)) = R by
                      rw [← HLEV.out]
                      exact HSTEP.out.symm)
                    clear hO
                    have hL0 : 0 < s.length + 1 + 1 := by omega
                    have hL1 : ∀ u ∈ [Value.slice A6 L6 C6, .int .i64 rest, .int .i64 xq], u.oneCell' = true := by intro u hu; simp only [List.mem_cons, List.mem_nil_iff, or_false] at hu; rcases hu with rfl | rfl | rfl <;> rfl
                    have hL2 : s.length + 1 + 1 ≤ maxLen := by unfold maxLen; omega
                    have hL3 : (s.length + 1 + 1) * 40 ≤ 140737488355328 := by omega
                    have HA5 := Lib.hid (show (w5.alloc (.cells #[.slice A6 L6 C6, .int .i64 rest, .int .i64 xq] 57)).ownsRow w2.heap.size 57 3 (.slice (some ⟨g, 0, none⟩) (s.length + 1) c) (s.length + 1) (ys ++ [.slice A2 L2 C2, .int .i64 f.rest, .int .i64 (f.left - 1)]) from HO5.out.alloc _)
                    have HBA := Lib.hid (show Below w2.heap.size w2 (w5.alloc (.cells #[.slice A6 L6 C6, .int .i64 rest, .int .i64 xq] 57)) from HB5.out.alloc hsz5 _)
                    go_wp2_with (at_builtin; refine wpList_append_own _ rfl (.tmp 139) (.tmp 146) 58 rfl w2.heap.size 57 i0 _ 3 40 Try.underlying58 hinf hz0 hz1 hz2 rfl (by decide) _ _ _ rfl (HO5.out.alloc _) ⟨w5.heap.size, 0, none⟩ 1 1 [.slice A6 L6 C6, .int .i64 rest, .int .i64 xq] rfl rfl (G.cells_new _ _ _ _ rfl) hL1 hL2 hL3 (Nat.le_trans hsz5 (by simp)) ?_; intro v7 w7 hown7 hg7 _q; obtain ⟨g7, c7, hv7, _⟩ := G.own_addr hown7 hL0; subst hv7; have HO7 := Lib.hid hown7; have HB7 := Lib.hid (bl_grown HBA.out HA5.out hg7); clear hown7 hg7)
                    go_roundg gO
                    case rel => exact ⟨k + 1, ⟨O, rest, xq⟩ :: f.step :: s, _, g7, c7, by omega, by go_num, rfl, HB7.out, HO7.out, HLVN.out, HGOOD, by simp only [List.length_cons]; omega⟩
                    case measure => omega
end Go.Proofs.Ytamienmbpdbnnaa.T

/- The contracts of the reference's Row and Text, and of code.Text where Put refuses. -/
import Derived.Test.YtfldicaaaadgaaaDoorCRefPut
import Derived.Test.YtfldicaaaadgaaaDoorCText
import Derived.Lib.AppendStr
import Derived.Lib.BufferRead
namespace Go.Proofs.YtfldicaaaadgaaaDoor.Code
open Go.RowKit
set_option linter.unusedVariables false
set_option linter.unusedSimpArgs false
theorem digits_int (n : Int) (h0 : 0 ≤ n) (h1 : n < 100000) (w : World) : Calls Tryd.prog 80 #[.int .i64 n] w fun e w' => e = .returned (.string ⟨(Lib.itoa n).toArray⟩) ∧ w = w' := by
  obtain ⟨m, rfl⟩ := Int.eq_ofNat_of_zero_le h0
  rw [Lib.itoa_nonneg]
  exact digits_any m w (by omega)
def rowBody (x : Ins) : List UInt8 := Lib.itoa x.at_ ++ [32] ++ nameOf x.op ++ opsText (numsOf x (kindOf x.op))
theorem rowText_body (x : Ins) : rowText x = rowBody x ++ [10] := rfl
theorem nums_eq (x : Ins) (k : Int) (hk4 : k = 0 ∨ k = 1 ∨ k = 2 ∨ k = 3) : (numsOf x k).length = (widthsOf k).length ∧ ∀ q, q < (widthsOf k).length → [x.a, x.b, x.c].getD q 0 = (numsOf x k).getD q 0 := by
  rcases hk4 with rfl | rfl | rfl | rfl
  · exact ⟨rfl, fun q hq => by simp [widthsOf] at hq⟩
  · refine ⟨rfl, fun q hq => ?_⟩
    obtain rfl : q = 0 := by simp [widthsOf] at hq; omega
    rfl
  · refine ⟨rfl, fun q hq => ?_⟩
    obtain rfl : q = 0 := by simp [widthsOf] at hq; omega
    rfl
  · exact ⟨rfl, fun q hq => rfl⟩
theorem opsText_snoc (ns : List Int) {q : Nat} (h : q < ns.length) : opsText (ns.take (q + 1)) = opsText (ns.take q) ++ 32 :: Lib.itoa (ns.getD q 0) := by
  have e1 : ns.take (q + 1) = ns.take q ++ [ns.getD q 0] := by
    rw [List.take_succ_eq_append_getElem h, List.getD_eq_getElem?_getD, List.getElem?_eq_getElem h]; rfl
  rw [e1]
  unfold opsText
  rw [List.flatMap_append, List.flatMap_cons, List.flatMap_nil, List.append_nil]
set_option maxRecDepth 100000 in
set_option maxHeartbeats 4000000 in
theorem Row_any (x : Ins) (w : World) (hr : RightI x) (h0 : 0 ≤ x.at_) (h1 : x.at_ < 100000) (hop : 0 ≤ x.op ∧ x.op < 256) :
    Calls Tryd.prog 66 #[x.val] w fun e w' => e = .returned (.string ⟨(rowBody x).toArray⟩) ∧ Below w.heap.size w w' := by
  have hk4 := hr.kind
  obtain ⟨k, hk⟩ : ∃ k, k = kindOf x.op := ⟨_, rfl⟩
  rw [← hk] at hk4
  have HW := Lib.hid (fun W => wd_some x.op hop.1 hop.2 k hk.symm (by omega) W)
  have HNM := Lib.hid (fun W => refName_any x.op W hop.1 hop.2)
  have HNU := Lib.hid (fun W => refNumbers_any x W)
  have HNE := Lib.hid (nums_eq x k hk4)
  have hnr := hr.nums
  rw [← hk] at hnr
  have HNR := Lib.hid hnr
  have hi0 := Lib.itoa_length_le x.at_ (by omega) (by omega)
  have hn6 := name_le x.op
  have HAT := Lib.hid (fun W => digits_int x.at_ h0 h1 W)
  have HRB := Lib.hid (show rowBody x = Lib.itoa x.at_ ++ [32] ++ nameOf x.op ++ opsText (numsOf x k) by rw [hk]; rfl)
  obtain ⟨RB, hRB⟩ : ∃ RB, RB = rowBody x := ⟨_, rfl⟩
  rw [← hRB] at HRB ⊢
  obtain ⟨ns, hns⟩ : ∃ ns, ns = numsOf x k := ⟨_, rfl⟩
  rw [← hns] at HNE HNR HRB
  obtain ⟨ws, hws⟩ : ∃ ws, ws = widthsOf k := ⟨_, rfl⟩
  rw [← hws] at HW HNE
  have hws3 : ws.length ≤ 3 := by rw [hws]; exact (widths_bd k).1
  clear hr h0 h1 hop hk hk4 hnr hRB hns hws
  obtain ⟨xa, xo, a, b, c⟩ := x
  simp only [Ins.val] at HW HNM HNU HAT hi0 hn6 HRB HNE ⊢
  have hcat1 := fun W => run_cat (P := Tryd.prog) W (Lib.itoa xa) [32] (by simp; omega)
  have hcat2 := fun W => run_cat (P := Tryd.prog) W (Lib.itoa xa ++ [32]) (nameOf xo) (by simp; omega)
  go_enter Tryd.func66, Tryd.ntmps66
  go_wp2_with fail
  refine (HW.out _).mono ?_
  rintro e w1 ⟨v1, rfl, ho1, hb1⟩
  obtain ⟨av, cv, hv⟩ := own_shape ho1
  subst hv
  have HX1 := Lib.hid ((G.Blk.new w 26 #[.int .i64 xa, .int .u8 xo, .int .i64 a, .int .i64 b, .int .i64 c]).below hb1 (by simp))
  have HB1 := Lib.hid (Bl.tr (Bl.al (Below.refl _ w) _) hb1)
  have HO1 := Lib.hid ho1
  obtain ⟨X, hX⟩ : ∃ X, X = w.heap.size := ⟨_, rfl⟩
  rw [← hX] at HX1 HB1 ⊢
  have hx0 : w1.cell? ⟨X, 0, none⟩ = some (.int .i64 xa) := HX1.out.cell 0
  have hx1 : w1.cell? ⟨X, 1, none⟩ = some (.int .u8 xo) := HX1.out.cell 1
  have hXl : X < w1.heap.size := HX1.out.lt
  have HXE := Lib.hid hX
  clear hb1 ho1 hX
  go_wp2_with fail
  go_region_held3 (fun w' => w'.cell? ⟨X, 0, none⟩ = some (.int .i64 xa) ∧ w'.cell? ⟨X, 1, none⟩ = some (.int .u8 xo)) (go_keep) ((first | (go_at_call 80; refine (HAT.out _).mono ?_; rintro e w2 ⟨rfl, rfl⟩) | (go_at_call 30; refine (HNM.out _).mono ?_; rintro e w3 ⟨rfl, hb3⟩; have d0 : w3.cell? ⟨X, 0, none⟩ = some (.int .i64 xa) := (hb3.cell (p := ⟨X, 0, none⟩) (show X < w1.heap.size from by omega)).trans hx0; have d1 : w3.cell? ⟨X, 1, none⟩ = some (.int .u8 xo) := (hb3.cell (p := ⟨X, 1, none⟩) (show X < w1.heap.size from by omega)).trans hx1)))
  have HB3 := Lib.hid (HB1.out.trans ((show Below w1.heap.size w1 w3 from ⟨hb3.os, hb3.tape, hb3.output, hb3.size, hb3.block⟩).mono (by have := HB1.out.size; omega)))
  have HX3 := Lib.hid (G.Blk.below HX1.out (show Below w1.heap.size w1 w3 from ⟨hb3.os, hb3.tape, hb3.output, hb3.size, hb3.block⟩) hXl)
  have HO3 := Lib.hid (Bl.own HO1.out (show Below w1.heap.size w1 w3 from ⟨hb3.os, hb3.tape, hb3.output, hb3.size, hb3.block⟩))
  have hx2 : w3.cell? ⟨X, 2, none⟩ = some (.int .i64 a) := HX3.out.cell 2
  have hx3 : w3.cell? ⟨X, 3, none⟩ = some (.int .i64 b) := HX3.out.cell 3
  have hx4 : w3.cell? ⟨X, 4, none⟩ = some (.int .i64 c) := HX3.out.cell 4
  clear hb3 hcat1 hcat2 hx0 hx1
  go_wp2_with fail
  refine (HNU.out _).mono ?_
  rintro e w5 ⟨v5, rfl, ho5, hb5⟩
  obtain ⟨a5, c5, hv5⟩ := own_shape ho5
  subst hv5
  have HB5 := Lib.hid (HB3.out.trans (hb5.mono (Nat.le_of_lt HX3.out.lt)))
  have HO5 := Lib.hid (Bl.own HO3.out hb5)
  have HN5 := Lib.hid ho5
  obtain ⟨T0, hT0⟩ : ∃ T0, T0 = Lib.itoa xa ++ 32 :: nameOf xo := ⟨_, rfl⟩
  have hT0l : T0.length ≤ 40 := by rw [hT0]; simp; omega
  have HT0 := Lib.hid hT0
  have hnl := HNE.out.1
  have HNL := Lib.hid hnl
  clear ho5 hb5 d0 d1 hx2 hx3 hx4 hnl
  go_wp2_with fail
  go_loop [5, 7] (fun s j => ∃ q : Nat, q ≤ ws.length ∧ j = .int .i64 q ∧ s = .string ⟨(T0 ++ opsText (ns.take q)).toArray⟩) (fun _ j => ws.length - (intOf j).toNat)
  case atStart => exact ⟨0, Nat.zero_le _, rfl, by rw [HT0.out]; simp [opsText]⟩
  case round =>
    obtain ⟨q, hq, rfl, rfl⟩ := hrel
    have h0q : (0 : Int) ≤ q := by omega
    by_cases hql : q < ws.length
    · have hq3 : (q : Int) < ws.length := by omega
      refine G.own_use HN5.out (by simp) ?_
      intro g2 hg2
      subst hg2
      refine G.own_use HO5.out (by omega) ?_
      intro g1 hg1
      subst hg1
      have hc2 := i64s_cell HN5.out (j := q) (by simp; omega)
      rw [HNE.out.2 q hql] at hc2
      have hsn := opsText_snoc ns (q := q) (by rw [HNL.out]; exact hql)
      obtain ⟨z, hz⟩ : ∃ z, z = ns.getD q 0 := ⟨_, rfl⟩
      have hmem : z ∈ ns := by rw [hz, List.getD_eq_getElem?_getD, List.getElem?_eq_getElem (by rw [HNL.out]; exact hql)]; exact List.getElem_mem _
      obtain ⟨hz0, hz1⟩ := HNR.out z hmem
      rw [← hz] at hc2 hsn
      have hi1 := Lib.itoa_length_le z (by omega) (by omega)
      have hlo := opsText_le (ns.take q) (fun m hm => HNR.out m (List.mem_of_mem_take hm))
      have hlt3 : (ns.take q).length ≤ 3 := by rw [List.length_take]; omega
      obtain ⟨T1, hT1⟩ : ∃ T1, T1 = T0 ++ opsText (ns.take q) := ⟨_, rfl⟩
      have hT1l : T1.length ≤ 110 := by rw [hT1, List.length_append]; omega
      rw [← hT1]
      have HSN := Lib.hid (show T1 ++ 32 :: Lib.itoa z = T0 ++ opsText (ns.take (q + 1)) by rw [hsn, hT1]; simp)
      have hcat1 := fun W => run_cat (P := Tryd.prog) W T1 [32] (by simp; omega)
      have hcat2 := fun W => run_cat (P := Tryd.prog) W (T1 ++ [32]) (Lib.itoa z) (by simp; omega)
      have HZ := Lib.hid (fun W => digits_int z hz0 hz1 W)
      clear hz hmem hsn hT1 hlo hlt3
      go_wp2_with (go_at_call 80; refine (HZ.out _).mono ?_; rintro e wq ⟨rfl, rfl⟩)
      go_round
      case rel => exact ⟨q + 1, by omega, by go_num, by rw [← HSN.out]⟩
      case measure => simp [intOf]; omega
    · have hq3 : ¬ (q : Int) < ws.length := by omega
      have hqe : q = ws.length := by omega
      have HQE := Lib.hid hqe
      clear hqe
      go_wp2
      go_ret
      refine ⟨?_, ?_⟩
      · rw [List.take_of_length_le (by rw [HNL.out, HQE.out]; exact Nat.le_refl _), HRB.out]
        exact congrArg (fun s : List UInt8 => Ending.returned (.string ⟨s.toArray⟩)) (by simp)
      · have h := HB5.out
        rw [HXE.out] at h
        exact h
theorem putGo_ok : ∀ (l : List Ins) (b : List Int) (i : Nat), (putGo l b i).2.1 = 0 → PutOk b.length l
  | [], _, _, _ => trivial
  | x :: l, b, i, h => by
    rw [putGo] at h
    split at h
    · simp at h
    · split at h
      · simp at h
      · split at h
        · simp at h
        · rename_i h1 h2 h3
          have hri : RightI x := Classical.byContradiction fun hn => h2 (.inl hn)
          have hat : x.at_ = (b.length : Int) := Classical.byContradiction fun hn => h2 (.inr hn)
          have ih := putGo_ok l _ _ h
          rw [List.length_append] at ih
          have hl := hri.len.1
          refine ⟨hat, hri, by omega, ?_⟩
          have e : ((b.length + (encOf x).length : Nat) : Int) = (b.length : Int) + sizeOf x.op := by omega
          rw [← e]
          exact ih
def textSpec (l : List Ins) : List UInt8 := if (putOf l).2.1 = 0 then textOf l else []
set_option maxRecDepth 100000 in
set_option maxHeartbeats 1000000 in
theorem Text_any (b off cap : Nat) (l : List Ins) (w : World) (hm : l.length * 64 ≤ 140737488351232) (hr : RdV w b off (flat l)) (hop : ∀ x ∈ l, 0 ≤ x.op ∧ x.op < 256) (hit : ItoaIn w) :
    Calls Tryd.prog 22 #[.slice (some ⟨b, off, none⟩) l.length cap] w fun e w' => e = .returned (.string ⟨(textSpec l).toArray⟩) ∧ Below w.heap.size w w' := by
  by_cases h0 : (putOf l).2.1 = 0
  · have e : textSpec l = textOf l := if_pos h0
    rw [e]
    exact Text_ok b off cap l w hm hr (putGo_ok l [] 0 h0) hit
  · have e : textSpec l = [] := if_neg h0
    rw [e]
    have HP := Lib.hid (Put_any b off cap l w hm hr hop)
    unfold PutAPost at HP
    obtain ⟨p, hp⟩ : ∃ p, p = putOf l := ⟨_, rfl⟩
    rw [← hp] at HP h0
    have hne : (p.2.1 != 0) = true := by simpa using h0
    clear hm hr hop hit e hp h0
    go_enter Tryd.func22, Tryd.ntmps22
    go_wp2_with (go_at_call 21; refine (HP.out).mono ?_; rintro e w1 ⟨v0, rfl, ho1, hb1⟩)
    go_ret
    exact ⟨rfl, hb1⟩
set_option maxRecDepth 100000 in
set_option maxHeartbeats 4000000 in
theorem refText_any (b off cap : Nat) (l : List Ins) (w : World) (hm : l.length * 64 ≤ 140737488351232) (hr : RdV w b off (flat l)) (hop : ∀ x ∈ l, 0 ≤ x.op ∧ x.op < 256) :
    Calls Tryd.prog 25 #[.slice (some ⟨b, off, none⟩) l.length cap] w fun e w' => e = .returned (.string ⟨(textSpec l).toArray⟩) ∧ Below w.heap.size w w' := by
  have HP := Lib.hid (refPut_any b off cap l w hm hr hop)
  unfold PutAPost at HP
  by_cases h0 : (putOf l).2.1 = 0
  · have e : textSpec l = textOf l := if_pos h0
    rw [e]
    have HOK := Lib.hid (putGo_ok l [] 0 h0)
    obtain ⟨p, hp⟩ : ∃ p, p = putOf l := ⟨_, rfl⟩
    rw [← hp] at HP h0
    obtain ⟨p1, p2, p3⟩ := p
    simp only at h0 HP
    subst h0
    have hz : PutOk 0 l := HOK.out
    have hsmall : ∀ pre suf, l = pre ++ suf → (textOf pre).length ≤ 8400000 := fun pre suf h => by
      subst h
      have h1 := textOf_le pre 0 (by omega) hz.pre
      rcases PutOk.len (by omega) hz.pre with rfl | h2
      · simp [textOf]
      · omega
    have HSM := Lib.hid hsmall
    have HOP := Lib.hid hop
    obtain ⟨i0, hi, hz0, hz1, hz2⟩ := info_parts info5
    obtain ⟨n, hn⟩ : ∃ n, n = l.length := ⟨_, rfl⟩
    have HN := Lib.hid hn
    rw [← hn] at hm HP ⊢
    clear hsmall hop e hp hz hn
    go_enter Tryd.func25, Tryd.ntmps25
    go_wp2_with (go_at_call 23; refine (HP.out).mono ?_; rintro e w1 ⟨v0, rfl, ho1, hb1⟩)
    have hr1 := hr.below hb1
    have hb1w := hb1.size
    go_loopw [6, 7] (fun v i wr => ∃ pre suf, l = pre ++ suf ∧ i = .int .i64 (pre.length : Nat) ∧ Below w1.heap.size w1 wr ∧ PutOk (bytesOf pre).length suf ∧ wr.ownsRow w1.heap.size 5 1 v (textOf pre).length (Lib.byteCells (textOf pre)))
      (fun _ i _ => n - (intOf i).toNat)
    case atStart => exact ⟨[], l, rfl, rfl, Below.refl _ _, HOK.out, World.ownsRow_nil _ _ _ _⟩
    case round =>
      obtain ⟨pre, suf, hl, rfl, hbel, hok, hown⟩ := hrel
      cases suf with
      | nil =>
        have hnl : ¬ (pre.length : Nat) < n := by rw [HN.out, hl]; simp
        simp only [List.append_nil] at hl
        have HL := Lib.hid hl
        have hcv : ∀ v, wr.ownsRow w1.heap.size 5 1 v (textOf pre).length (Lib.byteCells (textOf pre)) → (convert 22 9 v).run Tryd.prog wr = .ok (.string ⟨(textOf pre).toArray⟩) wr := by
          intro v hv
          rcases hv.2 with ⟨rfl, hx⟩ | ⟨g, cap', cur, rfl, _⟩
          · have : textOf pre = [] := by simpa [Lib.byteCells] using hx
            rw [this]
            exact Lib.run_convert_nil_bytes wr 22 9 5 0 Tryd.underlying22 Tryd.underlying5 Tryd.underlying9
          · refine run_convert_bytes_back wr 22 9 5 _ _ _ Tryd.underlying22 Tryd.underlying5 Tryd.underlying9 (fun j hj => ?_)
            rw [Addr.add_lit, Nat.zero_add, hv.cellAt j (by omega)]
            simp [Lib.byteCells, hj]
        have hcv1 := hcv _ hown
        obtain ⟨av, cv, hv⟩ := own_shape hown
        subst hv
        clear hl hr hr1 hok hcv
        go_wp2
        go_ret
        exact ⟨by rw [HL.out]; rfl, Bl.tr hb1 hbel⟩
      | cons x suf =>
        have hrw := (hr1.below hbel)
        rw [hl] at hrw
        have hins := hrw.ins
        have hlt : (pre.length : Nat) < n := by rw [HN.out, hl]; simp
        obtain ⟨q1, q2, q3, q4⟩ := hok
        have hx1 : x.at_ < 100000 := by
          have := q2.len.1
          unfold encOf at this
          simp only [List.length_cons] at this
          omega
        have HROW := Lib.hid (fun W => Row_any x W q2 (by omega) hx1 (HOP.out x (by rw [hl]; simp)))
        have hrl := rowText_le q2 (by omega) hx1
        have HRT := Lib.hid (rowText_body x)
        have hsm := HSM.out pre _ hl
        have e2 : (bytesOf (pre ++ [x])).length = (((bytesOf pre).length : Nat) : Int) + sizeOf x.op := by
          rw [bytesOf_snoc, List.length_append]
          have := q2.len.1
          unfold encOf at this
          omega
        have Q4 := Lib.hid (show PutOk (bytesOf (pre ++ [x])).length suf by rw [e2]; exact q4)
        have HL := Lib.hid (show l = (pre ++ [x]) ++ suf by rw [hl]; simp)
        have HTX := Lib.hid (show textOf (pre ++ [x]) = textOf pre ++ rowText x by simp [textOf])
        obtain ⟨rb, hrb⟩ : ∃ rb, rb = rowBody x := ⟨_, rfl⟩
        rw [← hrb] at HROW HRT
        have hrbl : rb.length + 1 ≤ 128 := by have := HRT.out; rw [this, List.length_append] at hrl; simpa using hrl
        clear hrw hr hr1 hl q1 q2 q4 q3 hx1 hrl e2 hrb
        obtain ⟨ao, cp, hv⟩ := own_shape hown
        subst hv
        have HOWN := Lib.hid hown
        have HBEL := Lib.hid hbel
        have hwr : w1.heap.size ≤ wr.heap.size := hbel.size
        obtain ⟨tp, htp⟩ : ∃ tp, tp = textOf pre := ⟨_, rfl⟩
        rw [← htp] at HOWN HTX hsm ⊢
        obtain ⟨Y, hY⟩ : ∃ Y, Y = pre ++ [x] := ⟨_, rfl⟩
        rw [← hY] at HTX Q4 HL
        have HY := Lib.hid hY
        clear hown hbel htp hY
        obtain ⟨xa, xo, a, b', c⟩ := x
        obtain ⟨c0, c1, c2, c3, c4⟩ := hins
        simp only [Ins.val] at c0 c1 c2 c3 c4 HROW
        go_wp2_with fail
        refine (HROW.out _).mono ?_
        rintro e w2 ⟨rfl, hb2⟩
        have HOWN2 := Lib.hid (Bl.own HOWN.out hb2)
        have HB2 := Lib.hid (Bl.tr HBEL.out hb2)
        have hwr2 : w1.heap.size ≤ w2.heap.size := by have := hb2.size; omega
        have hszs : ByteArray.size ⟨rb.toArray⟩ = rb.length := by simp [ByteArray.size]
        have HSZS := Lib.hid hszs
        clear hb2 c0 c1 c2 c3 c4 hszs
        go_wp2_with (first
          | (at_builtin; refine Lib.wpList_append_own_string _ rfl (.tmp 22) (.tmp 27) 22 9 rfl w1.heap.size 5 i0 Tryd.underlying22 Tryd.underlying9 hi hz0 hz1 hz2 _ _ _ rfl HOWN2.out _ rfl (by rw [HSZS.out]; unfold maxLen; omega) (by rw [HSZS.out]; omega) (by omega) ?_; intro v3 w3 hown3 hg3 _q; rw [HSZS.out] at hown3; obtain ⟨a3, c3, hv3⟩ := own_shape hown3; subst hv3; have HO3 := Lib.hid hown3; have HB3 := Lib.hid (Bl.grown HB2.out HOWN2.out hg3); have hs3 : w1.heap.size ≤ w3.heap.size := HB3.out.size; clear hown3 hg3)
          | (at_builtin; refine wpList_append_own _ rfl (.tmp 29) (.tmp 30) 22 rfl w1.heap.size 5 i0 (.int .u8 0) 1 1 Tryd.underlying22 hi hz0 hz1 hz2 rfl (by decide) _ _ _ rfl (HO3.out.alloc _) ⟨w3.heap.size, 0, none⟩ 1 1 [.int .u8 10] rfl rfl (cells_new _ _ _ _ rfl) (u8s_one [10]) (by unfold maxLen; omega) (by omega) (by simp; omega) ?_; intro v4 w4 hown4 hg4 _q; have HO4 := Lib.hid hown4; have HB4 := Lib.hid (Bl.grown (Bl.al HB3.out _) (HO3.out.alloc _) hg4); clear hown4 hg4))
        go_roundw
        case rel =>
          refine ⟨Y, suf, HL.out, by rw [HY.out]; simp, HB4.out, Q4.out, ?_⟩
          have e5 : textOf Y = tp ++ (rb ++ [10]) := by rw [HTX.out, HRT.out]
          have e6 : (textOf Y).length = tp.length + rb.length + 1 := by rw [e5]; simp; omega
          rw [e6, e5]
          have := HO4.out
          simpa [Lib.byteCells, Lib.strCells, List.append_assoc] using this
        case measure => simp [intOf]; omega
  · have e : textSpec l = [] := if_neg h0
    rw [e]
    obtain ⟨p, hp⟩ : ∃ p, p = putOf l := ⟨_, rfl⟩
    rw [← hp] at HP h0
    have hne : (p.2.1 != 0) = true := by simpa using h0
    clear hm hr hop e hp h0
    go_enter Tryd.func25, Tryd.ntmps25
    go_wp2_with (go_at_call 23; refine (HP.out).mono ?_; rintro e w1 ⟨v0, rfl, ho1, hb1⟩)
    go_ret
    exact ⟨rfl, hb1⟩
end Go.Proofs.YtfldicaaaadgaaaDoor.Code

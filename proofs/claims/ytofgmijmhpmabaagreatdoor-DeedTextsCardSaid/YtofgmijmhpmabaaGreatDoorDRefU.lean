/- The contract of tableauref06.Text, whatever the kind. -/
import Derived.Test.YtofgmijmhpmabaaGreatDoorDRefT
import Derived.Test.YtofgmijmhpmabaaGreatDoorDPlain
import Derived.Test.YtofgmijmhpmabaaGreatDoorDStep
namespace Go.Proofs.YtofgmijmhpmabaaGreatDoor.D
open Go Go.RowKit
set_option linter.unusedVariables false
set_option linter.unusedSimpArgs false
structure TextFn (k : Int) (d : FuncId) : Prop where
  e : ∀ args w, (callFunc d args).run Tryz.prog w = .ok (.enter d args) w
  t : ∀ (w : World) (y : EV) (e : Ev), e.kind = k → e.Fits → RdEv w y e → e.order.length ≤ 33554432 → (∀ i ∈ e.order, InR i) → ItoaIn w → Calls Tryz.prog d #[y.val e] w (StrPost (textE e) w)
theorem text_fns {k : Int} (h1 : 1 ≤ k) (h7 : k ≤ 7) : ∃ a b c d, kindK k = #[.func (.func a) #[] #[], .func (.func b) #[] #[], .func (.func c) #[] #[], .func (.func d) #[] #[]] ∧ TextFn k d := by
  have hk : k = 1 ∨ k = 2 ∨ k = 3 ∨ k = 4 ∨ k = 5 ∨ k = 6 ∨ k = 7 := by omega
  rcases hk with rfl | rfl | rfl | rfl | rfl | rfl | rfl
  · exact ⟨_, _, _, _, rfl, Tryz.call162, fun w y e hk hf hr hl ho hi => by
      rw [show textE e = wordsL (words1 e) by unfold textE; rw [if_pos hk]]
      exact text1_any w y e hf hi⟩
  · exact ⟨_, _, _, _, rfl, Tryz.call167, fun w y e hk hf hr hl ho hi => by
      rw [show textE e = wordsL (words2 e) by unfold textE; rw [if_neg (by omega), if_pos hk]]
      exact text2_any w y e hf hi⟩
  · exact ⟨_, _, _, _, rfl, Tryz.call172, fun w y e hk hf hr hl ho hi => by
      rw [show textE e = wordsL (words3 e) by unfold textE; rw [if_neg (by omega), if_neg (by omega), if_pos hk]]
      exact text3_any w y e hf hi⟩
  · exact ⟨_, _, _, _, rfl, Tryz.call177, fun w y e hk hf hr hl ho hi => by
      rw [show textE e = shufT e by unfold textE; rw [if_neg (by omega), if_neg (by omega), if_neg (by omega), if_pos hk]]
      exact text4_any w y e hf hr hl ho hi⟩
  · exact ⟨_, _, _, _, rfl, Tryz.call182, fun w y e hk hf hr hl ho hi => by
      rw [show textE e = wordsL (words5 e) by unfold textE; rw [if_neg (by omega), if_neg (by omega), if_neg (by omega), if_neg (by omega), if_pos hk]]
      exact text5_any w y e hf hi⟩
  · exact ⟨_, _, _, _, rfl, Tryz.call187, fun w y e hk hf hr hl ho hi => by
      rw [show textE e = wordsL (words6 e) by unfold textE; rw [if_neg (by omega), if_neg (by omega), if_neg (by omega), if_neg (by omega), if_neg (by omega), if_pos hk]]
      exact text6_any w y e hf hi⟩
  · exact ⟨_, _, _, _, rfl, Tryz.call191, fun w y e hk hf hr hl ho hi => by
      rw [show textE e = wordsL (words7 e) by unfold textE; rw [if_neg (by omega), if_neg (by omega), if_neg (by omega), if_neg (by omega), if_neg (by omega), if_neg (by omega), if_pos hk]]
      exact text7_any w y e hf hi⟩
theorem textE_out {e : Ev} (h : e.kind < 1 ∨ 7 < e.kind) : textE e = wordsL [.s [101, 118, 101, 110, 116], .n e.kind] := by
  unfold textE
  rw [if_neg (by omega), if_neg (by omega), if_neg (by omega), if_neg (by omega), if_neg (by omega), if_neg (by omega), if_neg (by omega)]
set_option maxRecDepth 100000 in
set_option maxHeartbeats 8000000 in
theorem text_any (w : World) (y : EV) (e : Ev) (hf : e.Fits) (hr : RdEv w y e) (hl : e.order.length ≤ 33554432) (ho : ∀ i ∈ e.order, InR i) (hit : ItoaIn w) : Calls Tryz.prog 32 #[y.val e] w (StrPost (textE e) w) := by
  obtain ⟨fsE, hfsE⟩ := undEv
  have HFE := Lib.hid hfsE
  have HOF := Lib.hid (fun W => of_any W y e hf)
  have HIT := Lib.hid hit
  obtain ⟨k, hk⟩ : ∃ k, k = e.kind := ⟨_, rfl⟩
  have hkr : -128 ≤ k ∧ k ≤ 127 := by rw [hk]; exact hf.kind
  have HTX := Lib.hid (fun d (hd : TextFn k d) W (hW : Below w.heap.size w W) => hd.t W y e hk.symm hf (RdEv.below hr hW) hl ho (hit.below hW))
  have HOUT := Lib.hid (fun h : k < 1 ∨ 7 < k => (show textE e = wordsL [.s [101, 118, 101, 110, 116], .n k] by rw [hk]; exact textE_out (by rw [← hk]; exact h)))
  rw [← hk] at HOF
  obtain ⟨ce, hce⟩ : ∃ ce, ce = y.arr e := ⟨_, rfl⟩
  have HSE := Lib.hid (show ce.size = 12 by rw [hce]; rfl)
  have HC0 := Lib.hid (show ce[0]? = some (.int .i8 k) by rw [hce, hk]; rfl)
  have hv : y.val e = .agg ce := by rw [hce]; rfl
  rw [hv] at HOF HTX ⊢
  obtain ⟨fsK, hfsK⟩ := undKind
  have HFK := Lib.hid hfsK
  generalize textE e = T at *
  clear hf hr hl ho hit hk hce hv hfsE hfsK
  have h1 : G.Blk (w.alloc (.cells ce 30)) w.heap.size 30 ce := G.Blk.new _ _ _
  have hbl0 : Below w.heap.size w (w.alloc (.cells ce 30)) := G.bl_alloc (Below.refl _ _) _
  go_enter Tryz.func32, Tryz.ntmps32
  go_upto_region 1 with (fail)
  obtain ⟨w0, hw0⟩ : ∃ w0, w0 = w.alloc (.cells ce 30) := ⟨_, rfl⟩
  rw [← hw0] at h1 hbl0 ⊢
  clear hw0
  have HE0 := Lib.hid h1
  have HB0 := Lib.hid hbl0
  obtain ⟨g, hg⟩ : ∃ g, g = w.heap.size := ⟨_, rfl⟩
  rw [← hg] at HE0 ⊢
  clear h1 hbl0 hg
  by_cases hin : 1 ≤ k ∧ k ≤ 7
  · obtain ⟨a, b, c, d, hkk, hfn⟩ := text_fns hin.1 hin.2
    rw [hkk, decide_eq_true hin] at HOF
    have eg := hfn.e
    have HFN := Lib.hid (HTX.out d hfn)
    clear hkk hfn
    go_upto_region 2 with (first | (refine wpList_load_row rfl 30 _ rfl g rfl _ ce (0, 0) _ HE0.out HFE.out rfl (by rw [HSE.out]; exact sizeEv) ?_) | ((with_reducible refine (HOF.out _).mono ?_); rintro e1 w1 ⟨rfl, hb1⟩; have HB1 := Lib.hid hb1; clear hb1))
    have hw2 := G.bl_alloc HB1.out (.cells #[.func (.func a) #[] #[], .func (.func b) #[] #[], .func (.func c) #[] #[], .func (.func d) #[] #[]] 114)
    have HE2 := Lib.hid (HE0.out.below hw2 HE0.out.lt)
    have HB2 := Lib.hid (G.bl_trans HB0.out hw2)
    have hk3 := (G.Blk.new w1 114 #[.func (.func a) #[] #[], .func (.func b) #[] #[], .func (.func c) #[] #[], .func (.func d) #[] #[]]).cell 3
    have hkl := (G.Blk.new w1 114 #[.func (.func a) #[] #[], .func (.func b) #[] #[], .func (.func c) #[] #[], .func (.func d) #[] #[]]).lt
    obtain ⟨w2, hw2e⟩ : ∃ w2, w2 = w1.alloc (.cells #[.func (.func a) #[] #[], .func (.func b) #[] #[], .func (.func c) #[] #[], .func (.func d) #[] #[]] 114) := ⟨_, rfl⟩
    rw [← hw2e] at HE2 HB2 hk3 hkl ⊢
    obtain ⟨g3, hg3⟩ : ∃ g3, g3 = w1.heap.size := ⟨_, rfl⟩
    rw [← hg3] at hk3 hkl ⊢
    clear hw2 hw2e hg3
    go_wp2_with (refine wpList_load_row rfl 30 _ rfl g rfl _ ce (0, 0) _ HE2.out HFE.out rfl (by rw [HSE.out]; exact sizeEv) ?_)
    refine (HFN.out _ HB2.out).mono ?_
    rintro e3 w3 ⟨rfl, hb3⟩
    go_wp2_with fail
    go_ret
    exact ⟨rfl, G.bl_trans HB2.out hb3⟩
  · have hko : k < 1 ∨ 8 ≤ k := by omega
    have HT := Lib.hid (HOUT.out (by omega))
    rw [kindK_out hko, decide_eq_false hin] at HOF
    have hwk : IntKind.i64.wrap k = k := IntWalk.i64_in _ (by omega)
    clear hko hin
    unfold nilK at HOF
    go_upto_region 2 with (first | (refine wpList_load_row rfl 30 _ rfl g rfl _ ce (0, 0) _ HE0.out HFE.out rfl (by rw [HSE.out]; exact sizeEv) ?_) | ((with_reducible refine (HOF.out _).mono ?_); rintro e1 w1 ⟨rfl, hb1⟩; have HB1 := Lib.hid hb1; clear hb1))
    have hw2 := G.bl_alloc HB1.out (.cells #[Value.nilFunc, Value.nilFunc, Value.nilFunc, Value.nilFunc] 114)
    have HE2 := Lib.hid (HE0.out.below hw2 HE0.out.lt)
    have HB2 := Lib.hid (G.bl_trans HB0.out hw2)
    obtain ⟨w2, hw2e⟩ : ∃ w2, w2 = w1.alloc (.cells #[Value.nilFunc, Value.nilFunc, Value.nilFunc, Value.nilFunc] 114) := ⟨_, rfl⟩
    rw [← hw2e] at HE2 HB2 ⊢
    have c0 := (HE2.out.cell 0).trans HC0.out
    have hl2 := HE2.out.lt
    have HWD := Lib.hid (words_any (some ⟨w2.heap.size, 0, none⟩) 2 2 [.s [101, 118, 101, 110, 116], .n k] (w2.alloc (.cells #[.iface 9 (.string ⟨#[101, 118, 101, 110, 116]⟩), .iface 3 (.int .i64 k)] 20)) rfl (rd_blk (sz := 1) (n := 2) (G.Blk.new w2 20 #[.iface 9 (.string ⟨#[101, 118, 101, 110, 116]⟩), .iface 3 (.int .i64 k)]) rfl) (by
      intro a ha
      simp only [List.mem_cons, List.mem_nil_iff, or_false] at ha
      rcases ha with rfl | rfl
      · simp [Wd.Ok]
      · simp only [Wd.Ok]; omega) (by omega) (HIT.out.below (G.bl_alloc HB2.out _)))
    clear hw2 hw2e
    go_wp2_with fail
    refine (HWD.out).mono ?_
    rintro e3 w3 ⟨rfl, hb3⟩
    go_wp2_with fail
    go_ret
    exact ⟨str_ret HT.out.symm, G.bl_trans (G.bl_alloc HB2.out _) hb3⟩
end Go.Proofs.YtofgmijmhpmabaaGreatDoor.D
namespace Go.Proofs.YtofgmijmhpmabaaGreatDoor.D
open Go Go.RowKit
set_option linter.unusedVariables false
set_option linter.unusedSimpArgs false
set_option maxRecDepth 100000 in
set_option maxHeartbeats 8000000 in
theorem refText4 (w : World) (y : EV) (e : Ev) (hk : e.kind = 4) (hf : e.Fits) (hr : RdEv w y e) (hl : e.order.length ≤ 33554432) (ho : ∀ i ∈ e.order, InR i) (hit : ItoaIn w) : Calls Tryz.prog 33 #[y.val e] w (StrPost (shufT e) w) := by
  have HIT := Lib.hid hit
  have HO := Lib.hid ho
  have HR := Lib.hid (show G.RdS w y.oa 1 e.order.length (i64s e.order) from hr)
  have HSRC := Lib.hid (show InR e.src from hf.src)
  obtain ⟨ce, hce⟩ : ∃ ce, ce = y.arr e := ⟨_, rfl⟩
  obtain ⟨n, hn⟩ : ∃ n, n = e.order.length := ⟨_, rfl⟩
  have HN := Lib.hid hn
  obtain ⟨src, hs⟩ : ∃ src, src = e.src := ⟨_, rfl⟩
  have HFIN := Lib.hid (show shufT e = shufP src e.order n by unfold shufT shufP shW; rw [hs, hn, List.take_length])
  have hv : y.val e = .agg ce := by rw [hce]; rfl
  rw [hv]
  have c0 := (G.Blk.new w 30 ce).cell 0
  have c5 := (G.Blk.new w 30 ce).cell 5
  have c11 := (G.Blk.new w 30 ce).cell 11
  rw [show ce[0]? = some (.int .i8 4) by rw [hce, ← hk]; rfl] at c0
  rw [show ce[5]? = some (.int .i64 src) by rw [hce, hs]; rfl] at c5
  rw [show ce[11]? = some (.slice y.oa n y.oc) by rw [hce, hn]; rfl] at c11
  have hlt := (G.Blk.new w 30 ce).lt
  have HB0 := Lib.hid (G.bl_alloc (Below.refl w.heap.size w) (.cells ce 30))
  rw [← hn] at HR hl
  rw [← hs] at HSRC
  generalize e.order = order at *
  generalize y.oa = A at *
  generalize y.oc = oc at *
  obtain ⟨w0, hw0⟩ : ∃ w0, w0 = w.alloc (.cells ce 30) := ⟨_, rfl⟩
  have HW0 := Lib.hid hw0
  rw [← hw0] at c0 c5 c11 hlt HB0
  obtain ⟨g, hg⟩ : ∃ g, g = w.heap.size := ⟨_, rfl⟩
  have HGG := Lib.hid hg
  rw [← hg] at c0 c5 c11 hlt
  have HI0 := Lib.hid (HIT.out src w0 HSRC.out.1 HSRC.out.2 HB0.out)
  have h21 := Lib.itoa_length_le src HSRC.out.1 HSRC.out.2
  obtain ⟨P1, hP1⟩ : ∃ P, P = shW ++ Lib.itoa src := ⟨_, rfl⟩
  obtain ⟨P2, hP2⟩ : ∃ P, P = P1 ++ [58] := ⟨_, rfl⟩
  have hcat1 := fun W => run_cat (P := Tryz.prog) W [115, 104, 117, 102, 102, 108, 101, 32] (Lib.itoa src) (by simp; omega)
  have hl1 : P1.length ≤ 30 := by rw [hP1]; simp [shW]; omega
  have hcat2 := fun W => run_cat (P := Tryz.prog) W P1 [58] (by simp; omega)
  rw [← hP2] at hcat2
  rw [show [115, 104, 117, 102, 102, 108, 101, 32] ++ Lib.itoa src = P1 from hP1.symm] at hcat1
  have HP2 := Lib.hid (show P2 = shufP src order 0 by rw [hP2, hP1]; simp [shufP])
  clear hit ho hr hce hv hw0 hg hn hs hf hP1 hP2 hl1 h21 hk
  go_enter Tryz.func33, Tryz.ntmps33
  go_upto_region 1 with (fail)
  rw [← HGG.out, ← HW0.out]
  go_wp2_with fail
  refine (HI0.out).mono ?_
  rintro e2 w2 ⟨rfl, hb2⟩
  have HB2 := Lib.hid hb2
  have d11 : w2.cell? ⟨g, 11, none⟩ = some (.slice A n oc) := (hb2.cell (p := ⟨g, 11, none⟩) hlt).trans c11
  clear hb2
  go_wp2_with fail
  go_loopw [3, 4] (fun q i wr => ∃ (k : Nat) (P : List UInt8), k ≤ n ∧ i = .int .i64 k ∧ q = .string ⟨P.toArray⟩ ∧ Hid (P = shufP src order k) ∧ Below w0.heap.size w0 wr) (fun _ i _ => n - (intOf i).toNat)
  case atStart => exact ⟨0, P2, Nat.zero_le _, rfl, rfl, HP2, HB2.out⟩
  case round =>
    obtain ⟨k, P, hk, rfl, rfl, HP, hbl⟩ := hrel
    have HBL := Lib.hid hbl
    have e11 : wr.cell? ⟨g, 11, none⟩ = some (.slice A n oc) := (hbl.cell (p := ⟨g, 11, none⟩) hlt).trans c11
    have hltv := Nat.lt_of_lt_of_le hlt hbl.size
    have hk0 : (0 : Int) ≤ k := by omega
    clear hbl
    by_cases hkn : k < n
    · have hkI : (k : Int) < n := by omega
      obtain ⟨b, off, hA, hrv⟩ := (HR.out.below (G.bl_trans HB0.out HBL.out)).2 (by omega)
      subst hA
      have hc := i64_at hrv (k := k) (by rw [← HN.out]; exact hkn)
      obtain ⟨z, hz⟩ : ∃ z, z = order.getD k 0 := ⟨_, rfl⟩
      rw [← hz] at hc
      have hbs := World.block_lt_of_cell? _ _ hc
      have hzr : InR z := by rw [hz]; exact HO.out _ (mem_getD (by rw [← HN.out]; exact hkn))
      obtain ⟨z0, z1⟩ := hzr
      have h21 := Lib.itoa_length_le z z0 z1
      have hpl : P.length ≤ 800000000 := by rw [HP.out]; exact shufP_len HSRC.out HO.out (by omega)
      obtain ⟨Q1, hQ1⟩ : ∃ Q, Q = P ++ [32] := ⟨_, rfl⟩
      have hql : Q1.length ≤ 800000001 := by rw [hQ1]; simp; omega
      obtain ⟨Q2, hQ2⟩ : ∃ Q, Q = Q1 ++ Lib.itoa z := ⟨_, rfl⟩
      have hcat3 := fun W => run_cat (P := Tryz.prog) W P [32] (by simp; omega)
      have hcat4 := fun W => run_cat (P := Tryz.prog) W Q1 (Lib.itoa z) (by omega)
      rw [← hQ1] at hcat3
      rw [← hQ2] at hcat4
      have HNX := Lib.hid (show Q2 = shufP src order (k + 1) by rw [shufP_next (by rw [← HN.out]; exact hkn), hQ2, hQ1, HP.out, hz, List.append_assoc])
      have HII := Lib.hid (HIT.out z wr z0 z1 (G.bl_trans HB0.out HBL.out))
      clear hrv hz hQ1 hQ2 hpl hql
      go_wp2_with fail
      refine (HII.out).mono ?_
      rintro e5 w5 ⟨rfl, hb5⟩
      have HB5 := Lib.hid (G.bl_trans HBL.out hb5)
      clear hb5
      go_wp2_with fail
      go_roundw
      case rel => exact ⟨k + 1, Q2, by omega, by go_num, rfl, HNX, HB5.out⟩
      case measure => simp [intOf]; omega
    · have hkI : ¬ (k : Int) < n := by omega
      obtain rfl : k = n := by omega
      go_wp2_with fail
      go_ret
      exact ⟨str_ret (by rw [HP.out]; exact HFIN.out.symm), G.bl_trans HB0.out HBL.out⟩
/-- A text of one number behind a word: where no order is drawn. -/
theorem refText5 (w : World) (y : EV) (e : Ev) (hk : e.kind = 5) (hf : e.Fits) (hit : ItoaIn w) : Calls Tryz.prog 33 #[y.val e] w (StrPost (wordsL (words5 e)) w) := by
  have HIT := Lib.hid hit
  obtain ⟨ce, hce⟩ : ∃ ce, ce = y.arr e := ⟨_, rfl⟩
  obtain ⟨z, hz⟩ : ∃ z, z = e.player := ⟨_, rfl⟩
  have hzr : InR z := by rw [hz]; exact hf.player
  obtain ⟨z0, z1⟩ := hzr
  have hv : y.val e = .agg ce := by rw [hce]; rfl
  rw [hv]
  have c0 := (G.Blk.new w 30 ce).cell 0
  have c3 := (G.Blk.new w 30 ce).cell 3
  rw [show ce[0]? = some (.int .i8 5) by rw [hce, ← hk]; rfl] at c0
  rw [show ce[3]? = some (.int .i64 z) by rw [hce, hz]; rfl] at c3
  have hlt := (G.Blk.new w 30 ce).lt
  have HB0 := Lib.hid (G.bl_alloc (Below.refl w.heap.size w) (.cells ce 30))
  obtain ⟨w0, hw0⟩ : ∃ w0, w0 = w.alloc (.cells ce 30) := ⟨_, rfl⟩
  have HW0 := Lib.hid hw0
  rw [← hw0] at c0 c3 hlt HB0
  obtain ⟨g, hg⟩ : ∃ g, g = w.heap.size := ⟨_, rfl⟩
  have HGG := Lib.hid hg
  rw [← hg] at c0 c3 hlt
  have HI0 := Lib.hid (HIT.out z w0 z0 z1 HB0.out)
  have h21 := Lib.itoa_length_le z z0 z1
  have hcat1 := fun W => run_cat (P := Tryz.prog) W [111, 117, 116, 32] (Lib.itoa z) (by simp; omega)
  obtain ⟨P1, hP1⟩ : ∃ P, P = [111, 117, 116, 32] ++ Lib.itoa z := ⟨_, rfl⟩
  rw [← hP1] at hcat1
  have HFIN := Lib.hid (show P1 = wordsL (words5 e) by rw [hP1, hz]; simp [wordsL, words5, Wd.bytes])
  clear hit hce hv hw0 hg hf hP1 h21 hk hz
  go_enter Tryz.func33, Tryz.ntmps33
  go_upto_region 1 with (fail)
  rw [← HGG.out, ← HW0.out]
  go_wp2_with fail
  refine (HI0.out).mono ?_
  rintro e2 w2 ⟨rfl, hb2⟩
  have HB2 := Lib.hid hb2
  clear hb2
  go_wp2_with fail
  go_ret
  exact ⟨str_ret HFIN.out, G.bl_trans HB0.out HB2.out⟩
theorem refText0 (w : World) (y : EV) (e : Ev) (hk : e.kind < 1 ∨ 7 < e.kind) (hf : e.Fits) (hit : ItoaIn w) : Calls Tryz.prog 33 #[y.val e] w (StrPost (wordsL [.s [101, 118, 101, 110, 116], .n e.kind]) w) := by
  have HIT := Lib.hid hit
  obtain ⟨ce, hce⟩ : ∃ ce, ce = y.arr e := ⟨_, rfl⟩
  obtain ⟨z, hz⟩ : ∃ z, z = e.kind := ⟨_, rfl⟩
  have hzr := hf.kind
  rw [← hz] at hzr hk ⊢
  obtain ⟨z0, z1⟩ := hzr
  have hv : y.val e = .agg ce := by rw [hce]; rfl
  rw [hv]
  have c0 := (G.Blk.new w 30 ce).cell 0
  rw [show ce[0]? = some (.int .i8 z) by rw [hce, hz]; rfl] at c0
  have hlt := (G.Blk.new w 30 ce).lt
  have HB0 := Lib.hid (G.bl_alloc (Below.refl w.heap.size w) (.cells ce 30))
  obtain ⟨w0, hw0⟩ : ∃ w0, w0 = w.alloc (.cells ce 30) := ⟨_, rfl⟩
  have HW0 := Lib.hid hw0
  rw [← hw0] at c0 hlt HB0
  obtain ⟨g, hg⟩ : ∃ g, g = w.heap.size := ⟨_, rfl⟩
  have HGG := Lib.hid hg
  rw [← hg] at c0 hlt
  have HI0 := Lib.hid (HIT.out z w0 (by omega) (by omega) HB0.out)
  have h21 := Lib.itoa_length_le z (by omega) (by omega)
  have hwz : IntKind.i64.wrap z = z := IntWalk.i64_in _ (by omega)
  have hcat1 := fun W => run_cat (P := Tryz.prog) W [101, 118, 101, 110, 116, 32] (Lib.itoa z) (by simp; omega)
  obtain ⟨P1, hP1⟩ : ∃ P, P = [101, 118, 101, 110, 116, 32] ++ Lib.itoa z := ⟨_, rfl⟩
  rw [← hP1] at hcat1
  have HFIN := Lib.hid (show P1 = wordsL [.s [101, 118, 101, 110, 116], .n z] by rw [hP1]; simp [wordsL, Wd.bytes])
  have b1 : (z == 1) = false := by rw [beq_eq_false_iff_ne]; omega
  have b2 : (z == 2) = false := by rw [beq_eq_false_iff_ne]; omega
  have b3 : (z == 3) = false := by rw [beq_eq_false_iff_ne]; omega
  have b4 : (z == 4) = false := by rw [beq_eq_false_iff_ne]; omega
  have b5 : (z == 5) = false := by rw [beq_eq_false_iff_ne]; omega
  have b6 : (z == 6) = false := by rw [beq_eq_false_iff_ne]; omega
  have b7 : (z == 7) = false := by rw [beq_eq_false_iff_ne]; omega
  clear hit hce hv hw0 hg hf hP1 h21 hk hz
  go_enter Tryz.func33, Tryz.ntmps33
  go_upto_region 1 with (fail)
  rw [← HGG.out, ← HW0.out]
  go_wp2_with fail
  refine (HI0.out).mono ?_
  rintro e2 w2 ⟨rfl, hb2⟩
  have HB2 := Lib.hid hb2
  clear hb2
  go_wp2_with fail
  go_ret
  exact ⟨str_ret HFIN.out, G.bl_trans HB0.out HB2.out⟩
theorem refText_any (w : World) (y : EV) (e : Ev) (hf : e.Fits) (hr : RdEv w y e) (hl : e.order.length ≤ 33554432) (ho : ∀ i ∈ e.order, InR i) (hit : ItoaIn w) : Calls Tryz.prog 33 #[y.val e] w (StrPost (textE e) w) := by
  by_cases k1 : e.kind = 1
  · rw [show textE e = wordsL (words1 e) from if_pos k1]
    exact refText1 w y e k1 hf hit
  by_cases k2 : e.kind = 2
  · rw [show textE e = wordsL (words2 e) by unfold textE; rw [if_neg k1, if_pos k2]]
    exact refText2 w y e k2 hf hit
  by_cases k3 : e.kind = 3
  · rw [show textE e = wordsL (words3 e) by unfold textE; rw [if_neg k1, if_neg k2, if_pos k3]]
    exact refText3 w y e k3 hf hit
  by_cases k4 : e.kind = 4
  · rw [show textE e = shufT e by unfold textE; rw [if_neg k1, if_neg k2, if_neg k3, if_pos k4]]
    exact refText4 w y e k4 hf hr hl ho hit
  by_cases k5 : e.kind = 5
  · rw [show textE e = wordsL (words5 e) by unfold textE; rw [if_neg k1, if_neg k2, if_neg k3, if_neg k4, if_pos k5]]
    exact refText5 w y e k5 hf hit
  by_cases k6 : e.kind = 6
  · rw [show textE e = wordsL (words6 e) by unfold textE; rw [if_neg k1, if_neg k2, if_neg k3, if_neg k4, if_neg k5, if_pos k6]]
    exact refText6 w y e k6 hf hit
  by_cases k7 : e.kind = 7
  · rw [show textE e = wordsL (words7 e) by unfold textE; rw [if_neg k1, if_neg k2, if_neg k3, if_neg k4, if_neg k5, if_neg k6, if_pos k7]]
    exact refText7 w y e k7 hf hit
  · rw [textE_out (by omega)]
    exact refText0 w y e (by omega) hf hit
end Go.Proofs.YtofgmijmhpmabaaGreatDoor.D

/- The contracts of tableauref06.name and tableauref06.Text. Printed by gen_reft.py. -/
import Derived.Test.YtofgmijmhpmabaaGreatDoorDTextS
import Derived.Lib.QuietBelow
import Derived.BigQuiet
namespace Go.Proofs.YtofgmijmhpmabaaGreatDoor.D
open Go Go.RowKit
set_option linter.unusedVariables false
set_option linter.unusedSimpArgs false
set_option maxRecDepth 100000 in
set_option maxHeartbeats 4000000 in
theorem refName_any (f : Int) (w : World) (hf : -128 ≤ f ∧ f ≤ 127) (hit : ItoaIn w) : Calls Tryz.prog 97 #[.int .i8 f] w (StrPost (nameL f) w) := by
  obtain ⟨f0, f1⟩ := hf
  have HIT := Lib.hid hit
  clear hit
  have hwf : IntKind.i64.wrap f = f := IntWalk.i64_in _ (by omega)
  by_cases h6 : f = 1 ∨ f = 2 ∨ f = 3 ∨ f = 4 ∨ f = 5 ∨ f = 6
  · clear f0 f1 hwf
    rcases h6 with rfl | rfl | rfl | rfl | rfl | rfl
    · go_enter Tryz.func97, Tryz.ntmps97
      go_wp2_with fail
      go_ret
      exact ⟨str_ret rfl, Below.refl _ _⟩
    · go_enter Tryz.func97, Tryz.ntmps97
      go_wp2_with fail
      go_ret
      exact ⟨str_ret rfl, Below.refl _ _⟩
    · go_enter Tryz.func97, Tryz.ntmps97
      go_wp2_with fail
      go_ret
      exact ⟨str_ret rfl, Below.refl _ _⟩
    · go_enter Tryz.func97, Tryz.ntmps97
      go_wp2_with fail
      go_ret
      exact ⟨str_ret rfl, Below.refl _ _⟩
    · go_enter Tryz.func97, Tryz.ntmps97
      go_wp2_with fail
      go_ret
      exact ⟨str_ret rfl, Below.refl _ _⟩
    · go_enter Tryz.func97, Tryz.ntmps97
      go_wp2_with fail
      go_ret
      exact ⟨str_ret rfl, Below.refl _ _⟩
  · have HNM := Lib.hid (show Lib.itoa f = nameL f by unfold nameL; repeat' (first | rw [if_neg (by omega)])
      )
    have b1 : (f == 1) = false := by rw [beq_eq_false_iff_ne]; omega
    have b2 : (f == 2) = false := by rw [beq_eq_false_iff_ne]; omega
    have b3 : (f == 3) = false := by rw [beq_eq_false_iff_ne]; omega
    have b4 : (f == 4) = false := by rw [beq_eq_false_iff_ne]; omega
    have b5 : (f == 5) = false := by rw [beq_eq_false_iff_ne]; omega
    have b6 : (f == 6) = false := by rw [beq_eq_false_iff_ne]; omega
    have HII := Lib.hid (HIT.out f w (by omega) (by omega) (Below.refl _ _))
    clear h6
    go_enter Tryz.func97, Tryz.ntmps97
    go_wp2_with fail
    refine (HII.out).mono ?_
    rintro e1 w1 ⟨rfl, hb1⟩
    go_wp2_with fail
    go_ret
    exact ⟨str_ret HNM.out, hb1⟩
set_option maxRecDepth 100000 in
set_option maxHeartbeats 8000000 in
theorem refText1 (w : World) (y : EV) (e : Ev) (hk : e.kind = 1) (hf : e.Fits) (hit : ItoaIn w) : Calls Tryz.prog 33 #[y.val e] w (StrPost (wordsL (words1 e)) w) := by
  have HIT := Lib.hid hit
  obtain ⟨f1, f2, f3, f4, f5, f6, f7, f8, f9, f10, f11⟩ := hf
  obtain ⟨kind, field, card, player, other, src, srcAt, dst, dstAt, was, now, order⟩ := e
  simp only at f1 f2 f3 f4 f5 f6 f7 f8 f9 f10 f11 hk
  subst hk
  obtain ⟨oa, oc⟩ := y
  unfold EV.val EV.arr
  simp only
  generalize hce : (#[.int .i8 1, .int .i8 field, .int .i64 card, .int .i64 player, .int .i64 other, .int .i64 src, .int .i64 srcAt, .int .i64 dst, .int .i64 dstAt, .int .i32 was, .int .i32 now, .slice oa order.length oc] : Array Value) = ce
  have HB0 := Lib.hid (G.bl_alloc (Below.refl w.heap.size w) (.cells ce 30))
  have hbk := G.Blk.new w 30 ce
  have c0 := (hbk.cell 0).trans (show ce[0]? = some (.int .i8 1) by rw [← hce]; rfl)
  have c2 := (hbk.cell 2).trans (show ce[2]? = some (.int .i64 card) by rw [← hce]; rfl)
  have c5 := (hbk.cell 5).trans (show ce[5]? = some (.int .i64 src) by rw [← hce]; rfl)
  have c6 := (hbk.cell 6).trans (show ce[6]? = some (.int .i64 srcAt) by rw [← hce]; rfl)
  have c7 := (hbk.cell 7).trans (show ce[7]? = some (.int .i64 dst) by rw [← hce]; rfl)
  have c8 := (hbk.cell 8).trans (show ce[8]? = some (.int .i64 dstAt) by rw [← hce]; rfl)
  have l_card := Lib.itoa_length_le card (by omega) (by omega)
  obtain ⟨I_card, hI_card⟩ : ∃ I, I = Lib.itoa card := ⟨_, rfl⟩
  have HI_card := Lib.hid (fun W (hW : Below w.heap.size w W) => HIT.out card W (by omega) (by omega) hW)
  rw [← hI_card] at l_card HI_card
  have l_src := Lib.itoa_length_le src (by omega) (by omega)
  obtain ⟨I_src, hI_src⟩ : ∃ I, I = Lib.itoa src := ⟨_, rfl⟩
  have HI_src := Lib.hid (fun W (hW : Below w.heap.size w W) => HIT.out src W (by omega) (by omega) hW)
  rw [← hI_src] at l_src HI_src
  have l_srcAt := Lib.itoa_length_le srcAt (by omega) (by omega)
  obtain ⟨I_srcAt, hI_srcAt⟩ : ∃ I, I = Lib.itoa srcAt := ⟨_, rfl⟩
  have HI_srcAt := Lib.hid (fun W (hW : Below w.heap.size w W) => HIT.out srcAt W (by omega) (by omega) hW)
  rw [← hI_srcAt] at l_srcAt HI_srcAt
  have l_dst := Lib.itoa_length_le dst (by omega) (by omega)
  obtain ⟨I_dst, hI_dst⟩ : ∃ I, I = Lib.itoa dst := ⟨_, rfl⟩
  have HI_dst := Lib.hid (fun W (hW : Below w.heap.size w W) => HIT.out dst W (by omega) (by omega) hW)
  rw [← hI_dst] at l_dst HI_dst
  have l_dstAt := Lib.itoa_length_le dstAt (by omega) (by omega)
  obtain ⟨I_dstAt, hI_dstAt⟩ : ∃ I, I = Lib.itoa dstAt := ⟨_, rfl⟩
  have HI_dstAt := Lib.hid (fun W (hW : Below w.heap.size w W) => HIT.out dstAt W (by omega) (by omega) hW)
  rw [← hI_dstAt] at l_dstAt HI_dstAt
  have hcat1 := fun W => run_cat (P := Tryz.prog) W [109, 111, 118, 101, 32] I_card (by first | omega | (simp; omega))
  obtain ⟨P1, hP1⟩ : ∃ P, P = [109, 111, 118, 101, 32] ++ I_card := ⟨_, rfl⟩
  rw [← hP1] at hcat1
  have pl1 : P1.length ≤ 26 := by rw [hP1]; first | (simp; omega) | omega
  have hcat2 := fun W => run_cat (P := Tryz.prog) W P1 [32, 102, 114, 111, 109, 32] (by first | omega | (simp; omega))
  obtain ⟨P2, hP2⟩ : ∃ P, P = P1 ++ [32, 102, 114, 111, 109, 32] := ⟨_, rfl⟩
  rw [← hP2] at hcat2
  have pl2 : P2.length ≤ 32 := by rw [hP2]; first | (simp; omega) | omega
  have hcat3 := fun W => run_cat (P := Tryz.prog) W P2 I_src (by first | omega | (simp; omega))
  obtain ⟨P3, hP3⟩ : ∃ P, P = P2 ++ I_src := ⟨_, rfl⟩
  rw [← hP3] at hcat3
  have pl3 : P3.length ≤ 53 := by rw [hP3]; first | (simp; omega) | omega
  have hcat4 := fun W => run_cat (P := Tryz.prog) W P3 [32] (by first | omega | (simp; omega))
  obtain ⟨P4, hP4⟩ : ∃ P, P = P3 ++ [32] := ⟨_, rfl⟩
  rw [← hP4] at hcat4
  have pl4 : P4.length ≤ 54 := by rw [hP4]; first | (simp; omega) | omega
  have hcat5 := fun W => run_cat (P := Tryz.prog) W P4 I_srcAt (by first | omega | (simp; omega))
  obtain ⟨P5, hP5⟩ : ∃ P, P = P4 ++ I_srcAt := ⟨_, rfl⟩
  rw [← hP5] at hcat5
  have pl5 : P5.length ≤ 75 := by rw [hP5]; first | (simp; omega) | omega
  have hcat6 := fun W => run_cat (P := Tryz.prog) W P5 [32, 116, 111, 32] (by first | omega | (simp; omega))
  obtain ⟨P6, hP6⟩ : ∃ P, P = P5 ++ [32, 116, 111, 32] := ⟨_, rfl⟩
  rw [← hP6] at hcat6
  have pl6 : P6.length ≤ 79 := by rw [hP6]; first | (simp; omega) | omega
  have hcat7 := fun W => run_cat (P := Tryz.prog) W P6 I_dst (by first | omega | (simp; omega))
  obtain ⟨P7, hP7⟩ : ∃ P, P = P6 ++ I_dst := ⟨_, rfl⟩
  rw [← hP7] at hcat7
  have pl7 : P7.length ≤ 100 := by rw [hP7]; first | (simp; omega) | omega
  have hcat8 := fun W => run_cat (P := Tryz.prog) W P7 [32] (by first | omega | (simp; omega))
  obtain ⟨P8, hP8⟩ : ∃ P, P = P7 ++ [32] := ⟨_, rfl⟩
  rw [← hP8] at hcat8
  have pl8 : P8.length ≤ 101 := by rw [hP8]; first | (simp; omega) | omega
  have hcat9 := fun W => run_cat (P := Tryz.prog) W P8 I_dstAt (by first | omega | (simp; omega))
  obtain ⟨P9, hP9⟩ : ∃ P, P = P8 ++ I_dstAt := ⟨_, rfl⟩
  rw [← hP9] at hcat9
  have pl9 : P9.length ≤ 122 := by rw [hP9]; first | (simp; omega) | omega
  have HFIN := Lib.hid (show wordsL (words1 ⟨1, field, card, player, other, src, srcAt, dst, dstAt, was, now, order⟩) = P9 by rw [hP9, hP8, hP7, hP6, hP5, hP4, hP3, hP2, hP1]; simp [wordsL, words1, Wd.bytes, hI_card, hI_src, hI_srcAt, hI_dst, hI_dstAt])
  clear hP1 hP2 hP3 hP4 hP5 hP6 hP7 hP8 hP9 hI_card l_card hI_src l_src hI_srcAt l_srcAt hI_dst l_dst hI_dstAt l_dstAt f1 f2 f3 f4 f5 f6 f7 f8 f9 f10 f11 pl1 pl2 pl3 pl4 pl5 pl6 pl7 pl8 pl9
  obtain ⟨w0, hw0⟩ : ∃ w0, w0 = w.alloc (.cells ce 30) := ⟨_, rfl⟩
  have HW0 := Lib.hid hw0
  rw [← hw0] at HB0 c0 c2 c5 c6 c7 c8
  obtain ⟨g, hg⟩ : ∃ g, g = w.heap.size := ⟨_, rfl⟩
  have HGG := Lib.hid hg
  rw [← hg] at c0 c2 c5 c6 c7 c8
  clear hw0 hg hce hbk hit
  go_enter Tryz.func33, Tryz.ntmps33
  go_upto_region 1 with (fail)
  rw [← HGG.out, ← HW0.out]
  go_upto_region 3 with (fail)
  have c0q := fun d os => cell_regrown c0 d os
  have c2q := fun d os => cell_regrown c2 d os
  have c5q := fun d os => cell_regrown c5 d os
  have c6q := fun d os => cell_regrown c6 d os
  have c7q := fun d os => cell_regrown c7 d os
  have c8q := fun d os => cell_regrown c8 d os
  clear c0 c2 c5 c6 c7 c8
  refine wp_region_quiet_below (by kernel_rfl) (by kernel_rfl) ?_
  repeat (quiet_step (first | exact Calls.regrown_of (HI_card.out _ (G.bl_trans HB0.out (below_regrown w0 _ _))) | exact Calls.regrown_of (HI_src.out _ (G.bl_trans HB0.out (below_regrown w0 _ _))) | exact Calls.regrown_of (HI_srcAt.out _ (G.bl_trans HB0.out (below_regrown w0 _ _))) | exact Calls.regrown_of (HI_dst.out _ (G.bl_trans HB0.out (below_regrown w0 _ _))) | exact Calls.regrown_of (HI_dstAt.out _ (G.bl_trans HB0.out (below_regrown w0 _ _)))))
  refine wpQuiet_nil ?_
  intro _ hw'
  obtain ⟨⟨dq, osq⟩, hw''⟩ := hw'
  subst hw''
  go_wp2_with fail
  go_ret
  exact ⟨str_ret HFIN.out.symm, G.bl_trans HB0.out (below_regrown w0 dq osq)⟩
set_option maxRecDepth 100000 in
set_option maxHeartbeats 8000000 in
theorem refText2 (w : World) (y : EV) (e : Ev) (hk : e.kind = 2) (hf : e.Fits) (hit : ItoaIn w) : Calls Tryz.prog 33 #[y.val e] w (StrPost (wordsL (words2 e)) w) := by
  have HNMw := Lib.hid (fun W (hW : Below w.heap.size w W) => refName_any e.field W hf.field (hit.below hW))
  have hnl := nameL_len hf.field
  have HIT := Lib.hid hit
  obtain ⟨f1, f2, f3, f4, f5, f6, f7, f8, f9, f10, f11⟩ := hf
  obtain ⟨kind, field, card, player, other, src, srcAt, dst, dstAt, was, now, order⟩ := e
  simp only at f1 f2 f3 f4 f5 f6 f7 f8 f9 f10 f11 hk HNMw hnl
  subst hk
  obtain ⟨oa, oc⟩ := y
  unfold EV.val EV.arr
  simp only
  generalize hce : (#[.int .i8 2, .int .i8 field, .int .i64 card, .int .i64 player, .int .i64 other, .int .i64 src, .int .i64 srcAt, .int .i64 dst, .int .i64 dstAt, .int .i32 was, .int .i32 now, .slice oa order.length oc] : Array Value) = ce
  have HB0 := Lib.hid (G.bl_alloc (Below.refl w.heap.size w) (.cells ce 30))
  have hbk := G.Blk.new w 30 ce
  have c0 := (hbk.cell 0).trans (show ce[0]? = some (.int .i8 2) by rw [← hce]; rfl)
  have c1 := (hbk.cell 1).trans (show ce[1]? = some (.int .i8 field) by rw [← hce]; rfl)
  have c2 := (hbk.cell 2).trans (show ce[2]? = some (.int .i64 card) by rw [← hce]; rfl)
  have c9 := (hbk.cell 9).trans (show ce[9]? = some (.int .i32 was) by rw [← hce]; rfl)
  have c10 := (hbk.cell 10).trans (show ce[10]? = some (.int .i32 now) by rw [← hce]; rfl)
  have h_was : IntKind.i64.wrap was = was := IntWalk.i64_in _ (by omega)
  have h_now : IntKind.i64.wrap now = now := IntWalk.i64_in _ (by omega)
  have l_card := Lib.itoa_length_le card (by omega) (by omega)
  obtain ⟨I_card, hI_card⟩ : ∃ I, I = Lib.itoa card := ⟨_, rfl⟩
  have HI_card := Lib.hid (fun W (hW : Below w.heap.size w W) => HIT.out card W (by omega) (by omega) hW)
  rw [← hI_card] at l_card HI_card
  have l_was := Lib.itoa_length_le was (by omega) (by omega)
  obtain ⟨I_was, hI_was⟩ : ∃ I, I = Lib.itoa was := ⟨_, rfl⟩
  have HI_was := Lib.hid (fun W (hW : Below w.heap.size w W) => HIT.out was W (by omega) (by omega) hW)
  rw [← hI_was] at l_was HI_was
  have l_now := Lib.itoa_length_le now (by omega) (by omega)
  obtain ⟨I_now, hI_now⟩ : ∃ I, I = Lib.itoa now := ⟨_, rfl⟩
  have HI_now := Lib.hid (fun W (hW : Below w.heap.size w W) => HIT.out now W (by omega) (by omega) hW)
  rw [← hI_now] at l_now HI_now
  obtain ⟨NL, hNL⟩ : ∃ NL, NL = nameL field := ⟨_, rfl⟩
  rw [← hNL] at HNMw hnl
  have hcat1 := fun W => run_cat (P := Tryz.prog) W [99, 97, 114, 100, 32] I_card (by first | omega | (simp; omega))
  obtain ⟨P1, hP1⟩ : ∃ P, P = [99, 97, 114, 100, 32] ++ I_card := ⟨_, rfl⟩
  rw [← hP1] at hcat1
  have pl1 : P1.length ≤ 26 := by rw [hP1]; first | (simp; omega) | omega
  have hcat2 := fun W => run_cat (P := Tryz.prog) W P1 [32] (by first | omega | (simp; omega))
  obtain ⟨P2, hP2⟩ : ∃ P, P = P1 ++ [32] := ⟨_, rfl⟩
  rw [← hP2] at hcat2
  have pl2 : P2.length ≤ 27 := by rw [hP2]; first | (simp; omega) | omega
  have hcat3 := fun W => run_cat (P := Tryz.prog) W P2 NL (by first | omega | (simp; omega))
  obtain ⟨P3, hP3⟩ : ∃ P, P = P2 ++ NL := ⟨_, rfl⟩
  rw [← hP3] at hcat3
  have pl3 : P3.length ≤ 48 := by rw [hP3]; first | (simp; omega) | omega
  have hcat4 := fun W => run_cat (P := Tryz.prog) W P3 [32] (by first | omega | (simp; omega))
  obtain ⟨P4, hP4⟩ : ∃ P, P = P3 ++ [32] := ⟨_, rfl⟩
  rw [← hP4] at hcat4
  have pl4 : P4.length ≤ 49 := by rw [hP4]; first | (simp; omega) | omega
  have hcat5 := fun W => run_cat (P := Tryz.prog) W P4 I_was (by first | omega | (simp; omega))
  obtain ⟨P5, hP5⟩ : ∃ P, P = P4 ++ I_was := ⟨_, rfl⟩
  rw [← hP5] at hcat5
  have pl5 : P5.length ≤ 70 := by rw [hP5]; first | (simp; omega) | omega
  have hcat6 := fun W => run_cat (P := Tryz.prog) W P5 [32, 116, 111, 32] (by first | omega | (simp; omega))
  obtain ⟨P6, hP6⟩ : ∃ P, P = P5 ++ [32, 116, 111, 32] := ⟨_, rfl⟩
  rw [← hP6] at hcat6
  have pl6 : P6.length ≤ 74 := by rw [hP6]; first | (simp; omega) | omega
  have hcat7 := fun W => run_cat (P := Tryz.prog) W P6 I_now (by first | omega | (simp; omega))
  obtain ⟨P7, hP7⟩ : ∃ P, P = P6 ++ I_now := ⟨_, rfl⟩
  rw [← hP7] at hcat7
  have pl7 : P7.length ≤ 95 := by rw [hP7]; first | (simp; omega) | omega
  have HFIN := Lib.hid (show wordsL (words2 ⟨2, field, card, player, other, src, srcAt, dst, dstAt, was, now, order⟩) = P7 by rw [hP7, hP6, hP5, hP4, hP3, hP2, hP1, hNL]; simp [wordsL, words2, Wd.bytes, hI_card, hI_was, hI_now])
  clear hP1 hP2 hP3 hP4 hP5 hP6 hP7 hI_card l_card hI_was l_was hI_now l_now f1 f2 f3 f4 f5 f6 f7 f8 f9 f10 f11 hNL hnl pl1 pl2 pl3 pl4 pl5 pl6 pl7
  obtain ⟨w0, hw0⟩ : ∃ w0, w0 = w.alloc (.cells ce 30) := ⟨_, rfl⟩
  have HW0 := Lib.hid hw0
  rw [← hw0] at HB0 c0 c1 c2 c9 c10
  obtain ⟨g, hg⟩ : ∃ g, g = w.heap.size := ⟨_, rfl⟩
  have HGG := Lib.hid hg
  rw [← hg] at c0 c1 c2 c9 c10
  clear hw0 hg hce hbk hit
  go_enter Tryz.func33, Tryz.ntmps33
  go_upto_region 1 with (fail)
  rw [← HGG.out, ← HW0.out]
  go_upto_region 5 with (fail)
  have c0q := fun d os => cell_regrown c0 d os
  have c1q := fun d os => cell_regrown c1 d os
  have c2q := fun d os => cell_regrown c2 d os
  have c9q := fun d os => cell_regrown c9 d os
  have c10q := fun d os => cell_regrown c10 d os
  clear c0 c1 c2 c9 c10
  refine wp_region_quiet_below (by kernel_rfl) (by kernel_rfl) ?_
  repeat (quiet_step (first | exact Calls.regrown_of (HI_card.out _ (G.bl_trans HB0.out (below_regrown w0 _ _))) | exact Calls.regrown_of (HI_was.out _ (G.bl_trans HB0.out (below_regrown w0 _ _))) | exact Calls.regrown_of (HI_now.out _ (G.bl_trans HB0.out (below_regrown w0 _ _))) | exact Calls.regrown_of (HNMw.out _ (G.bl_trans HB0.out (below_regrown w0 _ _)))))
  refine wpQuiet_nil ?_
  intro _ hw'
  obtain ⟨⟨dq, osq⟩, hw''⟩ := hw'
  subst hw''
  go_wp2_with fail
  go_ret
  exact ⟨str_ret HFIN.out.symm, G.bl_trans HB0.out (below_regrown w0 dq osq)⟩
set_option maxRecDepth 100000 in
set_option maxHeartbeats 8000000 in
theorem refText3 (w : World) (y : EV) (e : Ev) (hk : e.kind = 3) (hf : e.Fits) (hit : ItoaIn w) : Calls Tryz.prog 33 #[y.val e] w (StrPost (wordsL (words3 e)) w) := by
  have HNMw := Lib.hid (fun W (hW : Below w.heap.size w W) => refName_any e.field W hf.field (hit.below hW))
  have hnl := nameL_len hf.field
  have HIT := Lib.hid hit
  obtain ⟨f1, f2, f3, f4, f5, f6, f7, f8, f9, f10, f11⟩ := hf
  obtain ⟨kind, field, card, player, other, src, srcAt, dst, dstAt, was, now, order⟩ := e
  simp only at f1 f2 f3 f4 f5 f6 f7 f8 f9 f10 f11 hk HNMw hnl
  subst hk
  obtain ⟨oa, oc⟩ := y
  unfold EV.val EV.arr
  simp only
  generalize hce : (#[.int .i8 3, .int .i8 field, .int .i64 card, .int .i64 player, .int .i64 other, .int .i64 src, .int .i64 srcAt, .int .i64 dst, .int .i64 dstAt, .int .i32 was, .int .i32 now, .slice oa order.length oc] : Array Value) = ce
  have HB0 := Lib.hid (G.bl_alloc (Below.refl w.heap.size w) (.cells ce 30))
  have hbk := G.Blk.new w 30 ce
  have c0 := (hbk.cell 0).trans (show ce[0]? = some (.int .i8 3) by rw [← hce]; rfl)
  have c1 := (hbk.cell 1).trans (show ce[1]? = some (.int .i8 field) by rw [← hce]; rfl)
  have c3 := (hbk.cell 3).trans (show ce[3]? = some (.int .i64 player) by rw [← hce]; rfl)
  have c9 := (hbk.cell 9).trans (show ce[9]? = some (.int .i32 was) by rw [← hce]; rfl)
  have c10 := (hbk.cell 10).trans (show ce[10]? = some (.int .i32 now) by rw [← hce]; rfl)
  have h_was : IntKind.i64.wrap was = was := IntWalk.i64_in _ (by omega)
  have h_now : IntKind.i64.wrap now = now := IntWalk.i64_in _ (by omega)
  have l_player := Lib.itoa_length_le player (by omega) (by omega)
  obtain ⟨I_player, hI_player⟩ : ∃ I, I = Lib.itoa player := ⟨_, rfl⟩
  have HI_player := Lib.hid (fun W (hW : Below w.heap.size w W) => HIT.out player W (by omega) (by omega) hW)
  rw [← hI_player] at l_player HI_player
  have l_was := Lib.itoa_length_le was (by omega) (by omega)
  obtain ⟨I_was, hI_was⟩ : ∃ I, I = Lib.itoa was := ⟨_, rfl⟩
  have HI_was := Lib.hid (fun W (hW : Below w.heap.size w W) => HIT.out was W (by omega) (by omega) hW)
  rw [← hI_was] at l_was HI_was
  have l_now := Lib.itoa_length_le now (by omega) (by omega)
  obtain ⟨I_now, hI_now⟩ : ∃ I, I = Lib.itoa now := ⟨_, rfl⟩
  have HI_now := Lib.hid (fun W (hW : Below w.heap.size w W) => HIT.out now W (by omega) (by omega) hW)
  rw [← hI_now] at l_now HI_now
  obtain ⟨NL, hNL⟩ : ∃ NL, NL = nameL field := ⟨_, rfl⟩
  rw [← hNL] at HNMw hnl
  have hcat1 := fun W => run_cat (P := Tryz.prog) W [112, 108, 97, 121, 101, 114, 32] I_player (by first | omega | (simp; omega))
  obtain ⟨P1, hP1⟩ : ∃ P, P = [112, 108, 97, 121, 101, 114, 32] ++ I_player := ⟨_, rfl⟩
  rw [← hP1] at hcat1
  have pl1 : P1.length ≤ 28 := by rw [hP1]; first | (simp; omega) | omega
  have hcat2 := fun W => run_cat (P := Tryz.prog) W P1 [32] (by first | omega | (simp; omega))
  obtain ⟨P2, hP2⟩ : ∃ P, P = P1 ++ [32] := ⟨_, rfl⟩
  rw [← hP2] at hcat2
  have pl2 : P2.length ≤ 29 := by rw [hP2]; first | (simp; omega) | omega
  have hcat3 := fun W => run_cat (P := Tryz.prog) W P2 NL (by first | omega | (simp; omega))
  obtain ⟨P3, hP3⟩ : ∃ P, P = P2 ++ NL := ⟨_, rfl⟩
  rw [← hP3] at hcat3
  have pl3 : P3.length ≤ 50 := by rw [hP3]; first | (simp; omega) | omega
  have hcat4 := fun W => run_cat (P := Tryz.prog) W P3 [32] (by first | omega | (simp; omega))
  obtain ⟨P4, hP4⟩ : ∃ P, P = P3 ++ [32] := ⟨_, rfl⟩
  rw [← hP4] at hcat4
  have pl4 : P4.length ≤ 51 := by rw [hP4]; first | (simp; omega) | omega
  have hcat5 := fun W => run_cat (P := Tryz.prog) W P4 I_was (by first | omega | (simp; omega))
  obtain ⟨P5, hP5⟩ : ∃ P, P = P4 ++ I_was := ⟨_, rfl⟩
  rw [← hP5] at hcat5
  have pl5 : P5.length ≤ 72 := by rw [hP5]; first | (simp; omega) | omega
  have hcat6 := fun W => run_cat (P := Tryz.prog) W P5 [32, 116, 111, 32] (by first | omega | (simp; omega))
  obtain ⟨P6, hP6⟩ : ∃ P, P = P5 ++ [32, 116, 111, 32] := ⟨_, rfl⟩
  rw [← hP6] at hcat6
  have pl6 : P6.length ≤ 76 := by rw [hP6]; first | (simp; omega) | omega
  have hcat7 := fun W => run_cat (P := Tryz.prog) W P6 I_now (by first | omega | (simp; omega))
  obtain ⟨P7, hP7⟩ : ∃ P, P = P6 ++ I_now := ⟨_, rfl⟩
  rw [← hP7] at hcat7
  have pl7 : P7.length ≤ 97 := by rw [hP7]; first | (simp; omega) | omega
  have HFIN := Lib.hid (show wordsL (words3 ⟨3, field, card, player, other, src, srcAt, dst, dstAt, was, now, order⟩) = P7 by rw [hP7, hP6, hP5, hP4, hP3, hP2, hP1, hNL]; simp [wordsL, words3, Wd.bytes, hI_player, hI_was, hI_now])
  clear hP1 hP2 hP3 hP4 hP5 hP6 hP7 hI_player l_player hI_was l_was hI_now l_now f1 f2 f3 f4 f5 f6 f7 f8 f9 f10 f11 hNL hnl pl1 pl2 pl3 pl4 pl5 pl6 pl7
  obtain ⟨w0, hw0⟩ : ∃ w0, w0 = w.alloc (.cells ce 30) := ⟨_, rfl⟩
  have HW0 := Lib.hid hw0
  rw [← hw0] at HB0 c0 c1 c3 c9 c10
  obtain ⟨g, hg⟩ : ∃ g, g = w.heap.size := ⟨_, rfl⟩
  have HGG := Lib.hid hg
  rw [← hg] at c0 c1 c3 c9 c10
  clear hw0 hg hce hbk hit
  go_enter Tryz.func33, Tryz.ntmps33
  go_upto_region 1 with (fail)
  rw [← HGG.out, ← HW0.out]
  go_upto_region 7 with (fail)
  have c0q := fun d os => cell_regrown c0 d os
  have c1q := fun d os => cell_regrown c1 d os
  have c3q := fun d os => cell_regrown c3 d os
  have c9q := fun d os => cell_regrown c9 d os
  have c10q := fun d os => cell_regrown c10 d os
  clear c0 c1 c3 c9 c10
  refine wp_region_quiet_below (by kernel_rfl) (by kernel_rfl) ?_
  repeat (quiet_step (first | exact Calls.regrown_of (HI_player.out _ (G.bl_trans HB0.out (below_regrown w0 _ _))) | exact Calls.regrown_of (HI_was.out _ (G.bl_trans HB0.out (below_regrown w0 _ _))) | exact Calls.regrown_of (HI_now.out _ (G.bl_trans HB0.out (below_regrown w0 _ _))) | exact Calls.regrown_of (HNMw.out _ (G.bl_trans HB0.out (below_regrown w0 _ _)))))
  refine wpQuiet_nil ?_
  intro _ hw'
  obtain ⟨⟨dq, osq⟩, hw''⟩ := hw'
  subst hw''
  go_wp2_with fail
  go_ret
  exact ⟨str_ret HFIN.out.symm, G.bl_trans HB0.out (below_regrown w0 dq osq)⟩
set_option maxRecDepth 100000 in
set_option maxHeartbeats 8000000 in
theorem refText6 (w : World) (y : EV) (e : Ev) (hk : e.kind = 6) (hf : e.Fits) (hit : ItoaIn w) : Calls Tryz.prog 33 #[y.val e] w (StrPost (wordsL (words6 e)) w) := by
  have HIT := Lib.hid hit
  obtain ⟨f1, f2, f3, f4, f5, f6, f7, f8, f9, f10, f11⟩ := hf
  obtain ⟨kind, field, card, player, other, src, srcAt, dst, dstAt, was, now, order⟩ := e
  simp only at f1 f2 f3 f4 f5 f6 f7 f8 f9 f10 f11 hk
  subst hk
  obtain ⟨oa, oc⟩ := y
  unfold EV.val EV.arr
  simp only
  generalize hce : (#[.int .i8 6, .int .i8 field, .int .i64 card, .int .i64 player, .int .i64 other, .int .i64 src, .int .i64 srcAt, .int .i64 dst, .int .i64 dstAt, .int .i32 was, .int .i32 now, .slice oa order.length oc] : Array Value) = ce
  have HB0 := Lib.hid (G.bl_alloc (Below.refl w.heap.size w) (.cells ce 30))
  have hbk := G.Blk.new w 30 ce
  have c0 := (hbk.cell 0).trans (show ce[0]? = some (.int .i8 6) by rw [← hce]; rfl)
  have c9 := (hbk.cell 9).trans (show ce[9]? = some (.int .i32 was) by rw [← hce]; rfl)
  have c3 := (hbk.cell 3).trans (show ce[3]? = some (.int .i64 player) by rw [← hce]; rfl)
  have c10 := (hbk.cell 10).trans (show ce[10]? = some (.int .i32 now) by rw [← hce]; rfl)
  have c4 := (hbk.cell 4).trans (show ce[4]? = some (.int .i64 other) by rw [← hce]; rfl)
  have h_was : IntKind.i64.wrap was = was := IntWalk.i64_in _ (by omega)
  have h_now : IntKind.i64.wrap now = now := IntWalk.i64_in _ (by omega)
  have l_was := Lib.itoa_length_le was (by omega) (by omega)
  obtain ⟨I_was, hI_was⟩ : ∃ I, I = Lib.itoa was := ⟨_, rfl⟩
  have HI_was := Lib.hid (fun W (hW : Below w.heap.size w W) => HIT.out was W (by omega) (by omega) hW)
  rw [← hI_was] at l_was HI_was
  have l_player := Lib.itoa_length_le player (by omega) (by omega)
  obtain ⟨I_player, hI_player⟩ : ∃ I, I = Lib.itoa player := ⟨_, rfl⟩
  have HI_player := Lib.hid (fun W (hW : Below w.heap.size w W) => HIT.out player W (by omega) (by omega) hW)
  rw [← hI_player] at l_player HI_player
  have l_now := Lib.itoa_length_le now (by omega) (by omega)
  obtain ⟨I_now, hI_now⟩ : ∃ I, I = Lib.itoa now := ⟨_, rfl⟩
  have HI_now := Lib.hid (fun W (hW : Below w.heap.size w W) => HIT.out now W (by omega) (by omega) hW)
  rw [← hI_now] at l_now HI_now
  have l_other := Lib.itoa_length_le other (by omega) (by omega)
  obtain ⟨I_other, hI_other⟩ : ∃ I, I = Lib.itoa other := ⟨_, rfl⟩
  have HI_other := Lib.hid (fun W (hW : Below w.heap.size w W) => HIT.out other W (by omega) (by omega) hW)
  rw [← hI_other] at l_other HI_other
  have hcat1 := fun W => run_cat (P := Tryz.prog) W [116, 117, 114, 110, 32] I_was (by first | omega | (simp; omega))
  obtain ⟨P1, hP1⟩ : ∃ P, P = [116, 117, 114, 110, 32] ++ I_was := ⟨_, rfl⟩
  rw [← hP1] at hcat1
  have pl1 : P1.length ≤ 26 := by rw [hP1]; first | (simp; omega) | omega
  have hcat2 := fun W => run_cat (P := Tryz.prog) W P1 [32, 111, 102, 32] (by first | omega | (simp; omega))
  obtain ⟨P2, hP2⟩ : ∃ P, P = P1 ++ [32, 111, 102, 32] := ⟨_, rfl⟩
  rw [← hP2] at hcat2
  have pl2 : P2.length ≤ 30 := by rw [hP2]; first | (simp; omega) | omega
  have hcat3 := fun W => run_cat (P := Tryz.prog) W P2 I_player (by first | omega | (simp; omega))
  obtain ⟨P3, hP3⟩ : ∃ P, P = P2 ++ I_player := ⟨_, rfl⟩
  rw [← hP3] at hcat3
  have pl3 : P3.length ≤ 51 := by rw [hP3]; first | (simp; omega) | omega
  have hcat4 := fun W => run_cat (P := Tryz.prog) W P3 [32, 116, 111, 32] (by first | omega | (simp; omega))
  obtain ⟨P4, hP4⟩ : ∃ P, P = P3 ++ [32, 116, 111, 32] := ⟨_, rfl⟩
  rw [← hP4] at hcat4
  have pl4 : P4.length ≤ 55 := by rw [hP4]; first | (simp; omega) | omega
  have hcat5 := fun W => run_cat (P := Tryz.prog) W P4 I_now (by first | omega | (simp; omega))
  obtain ⟨P5, hP5⟩ : ∃ P, P = P4 ++ I_now := ⟨_, rfl⟩
  rw [← hP5] at hcat5
  have pl5 : P5.length ≤ 76 := by rw [hP5]; first | (simp; omega) | omega
  have hcat6 := fun W => run_cat (P := Tryz.prog) W P5 [32, 111, 102, 32] (by first | omega | (simp; omega))
  obtain ⟨P6, hP6⟩ : ∃ P, P = P5 ++ [32, 111, 102, 32] := ⟨_, rfl⟩
  rw [← hP6] at hcat6
  have pl6 : P6.length ≤ 80 := by rw [hP6]; first | (simp; omega) | omega
  have hcat7 := fun W => run_cat (P := Tryz.prog) W P6 I_other (by first | omega | (simp; omega))
  obtain ⟨P7, hP7⟩ : ∃ P, P = P6 ++ I_other := ⟨_, rfl⟩
  rw [← hP7] at hcat7
  have pl7 : P7.length ≤ 101 := by rw [hP7]; first | (simp; omega) | omega
  have HFIN := Lib.hid (show wordsL (words6 ⟨6, field, card, player, other, src, srcAt, dst, dstAt, was, now, order⟩) = P7 by rw [hP7, hP6, hP5, hP4, hP3, hP2, hP1]; simp [wordsL, words6, Wd.bytes, hI_was, hI_player, hI_now, hI_other])
  clear hP1 hP2 hP3 hP4 hP5 hP6 hP7 hI_was l_was hI_player l_player hI_now l_now hI_other l_other f1 f2 f3 f4 f5 f6 f7 f8 f9 f10 f11 pl1 pl2 pl3 pl4 pl5 pl6 pl7
  obtain ⟨w0, hw0⟩ : ∃ w0, w0 = w.alloc (.cells ce 30) := ⟨_, rfl⟩
  have HW0 := Lib.hid hw0
  rw [← hw0] at HB0 c0 c9 c3 c10 c4
  obtain ⟨g, hg⟩ : ∃ g, g = w.heap.size := ⟨_, rfl⟩
  have HGG := Lib.hid hg
  rw [← hg] at c0 c9 c3 c10 c4
  clear hw0 hg hce hbk hit
  go_enter Tryz.func33, Tryz.ntmps33
  go_upto_region 1 with (fail)
  rw [← HGG.out, ← HW0.out]
  go_upto_region 18 with (fail)
  have c0q := fun d os => cell_regrown c0 d os
  have c9q := fun d os => cell_regrown c9 d os
  have c3q := fun d os => cell_regrown c3 d os
  have c10q := fun d os => cell_regrown c10 d os
  have c4q := fun d os => cell_regrown c4 d os
  clear c0 c9 c3 c10 c4
  refine wp_region_quiet_below (by kernel_rfl) (by kernel_rfl) ?_
  repeat (quiet_step (first | exact Calls.regrown_of (HI_was.out _ (G.bl_trans HB0.out (below_regrown w0 _ _))) | exact Calls.regrown_of (HI_player.out _ (G.bl_trans HB0.out (below_regrown w0 _ _))) | exact Calls.regrown_of (HI_now.out _ (G.bl_trans HB0.out (below_regrown w0 _ _))) | exact Calls.regrown_of (HI_other.out _ (G.bl_trans HB0.out (below_regrown w0 _ _)))))
  refine wpQuiet_nil ?_
  intro _ hw'
  obtain ⟨⟨dq, osq⟩, hw''⟩ := hw'
  subst hw''
  go_wp2_with fail
  go_ret
  exact ⟨str_ret HFIN.out.symm, G.bl_trans HB0.out (below_regrown w0 dq osq)⟩
set_option maxRecDepth 100000 in
set_option maxHeartbeats 8000000 in
theorem refText7 (w : World) (y : EV) (e : Ev) (hk : e.kind = 7) (hf : e.Fits) (hit : ItoaIn w) : Calls Tryz.prog 33 #[y.val e] w (StrPost (wordsL (words7 e)) w) := by
  have HIT := Lib.hid hit
  obtain ⟨f1, f2, f3, f4, f5, f6, f7, f8, f9, f10, f11⟩ := hf
  obtain ⟨kind, field, card, player, other, src, srcAt, dst, dstAt, was, now, order⟩ := e
  simp only at f1 f2 f3 f4 f5 f6 f7 f8 f9 f10 f11 hk
  subst hk
  obtain ⟨oa, oc⟩ := y
  unfold EV.val EV.arr
  simp only
  generalize hce : (#[.int .i8 7, .int .i8 field, .int .i64 card, .int .i64 player, .int .i64 other, .int .i64 src, .int .i64 srcAt, .int .i64 dst, .int .i64 dstAt, .int .i32 was, .int .i32 now, .slice oa order.length oc] : Array Value) = ce
  have HB0 := Lib.hid (G.bl_alloc (Below.refl w.heap.size w) (.cells ce 30))
  have hbk := G.Blk.new w 30 ce
  have c0 := (hbk.cell 0).trans (show ce[0]? = some (.int .i8 7) by rw [← hce]; rfl)
  have c10 := (hbk.cell 10).trans (show ce[10]? = some (.int .i32 now) by rw [← hce]; rfl)
  have c3 := (hbk.cell 3).trans (show ce[3]? = some (.int .i64 player) by rw [← hce]; rfl)
  have h_now : IntKind.i64.wrap now = now := IntWalk.i64_in _ (by omega)
  have l_now := Lib.itoa_length_le now (by omega) (by omega)
  obtain ⟨I_now, hI_now⟩ : ∃ I, I = Lib.itoa now := ⟨_, rfl⟩
  have HI_now := Lib.hid (fun W (hW : Below w.heap.size w W) => HIT.out now W (by omega) (by omega) hW)
  rw [← hI_now] at l_now HI_now
  have l_player := Lib.itoa_length_le player (by omega) (by omega)
  obtain ⟨I_player, hI_player⟩ : ∃ I, I = Lib.itoa player := ⟨_, rfl⟩
  have HI_player := Lib.hid (fun W (hW : Below w.heap.size w W) => HIT.out player W (by omega) (by omega) hW)
  rw [← hI_player] at l_player HI_player
  have hcat1 := fun W => run_cat (P := Tryz.prog) W [101, 110, 100, 32] I_now (by first | omega | (simp; omega))
  obtain ⟨P1, hP1⟩ : ∃ P, P = [101, 110, 100, 32] ++ I_now := ⟨_, rfl⟩
  rw [← hP1] at hcat1
  have pl1 : P1.length ≤ 25 := by rw [hP1]; first | (simp; omega) | omega
  have hcat2 := fun W => run_cat (P := Tryz.prog) W P1 [32] (by first | omega | (simp; omega))
  obtain ⟨P2, hP2⟩ : ∃ P, P = P1 ++ [32] := ⟨_, rfl⟩
  rw [← hP2] at hcat2
  have pl2 : P2.length ≤ 26 := by rw [hP2]; first | (simp; omega) | omega
  have hcat3 := fun W => run_cat (P := Tryz.prog) W P2 I_player (by first | omega | (simp; omega))
  obtain ⟨P3, hP3⟩ : ∃ P, P = P2 ++ I_player := ⟨_, rfl⟩
  rw [← hP3] at hcat3
  have pl3 : P3.length ≤ 47 := by rw [hP3]; first | (simp; omega) | omega
  have HFIN := Lib.hid (show wordsL (words7 ⟨7, field, card, player, other, src, srcAt, dst, dstAt, was, now, order⟩) = P3 by rw [hP3, hP2, hP1]; simp [wordsL, words7, Wd.bytes, hI_now, hI_player])
  clear hP1 hP2 hP3 hI_now l_now hI_player l_player f1 f2 f3 f4 f5 f6 f7 f8 f9 f10 f11 pl1 pl2 pl3
  obtain ⟨w0, hw0⟩ : ∃ w0, w0 = w.alloc (.cells ce 30) := ⟨_, rfl⟩
  have HW0 := Lib.hid hw0
  rw [← hw0] at HB0 c0 c10 c3
  obtain ⟨g, hg⟩ : ∃ g, g = w.heap.size := ⟨_, rfl⟩
  have HGG := Lib.hid hg
  rw [← hg] at c0 c10 c3
  clear hw0 hg hce hbk hit
  go_enter Tryz.func33, Tryz.ntmps33
  go_upto_region 1 with (fail)
  rw [← HGG.out, ← HW0.out]
  go_upto_region 20 with (fail)
  have c0q := fun d os => cell_regrown c0 d os
  have c10q := fun d os => cell_regrown c10 d os
  have c3q := fun d os => cell_regrown c3 d os
  clear c0 c10 c3
  refine wp_region_quiet_below (by kernel_rfl) (by kernel_rfl) ?_
  repeat (quiet_step (first | exact Calls.regrown_of (HI_now.out _ (G.bl_trans HB0.out (below_regrown w0 _ _))) | exact Calls.regrown_of (HI_player.out _ (G.bl_trans HB0.out (below_regrown w0 _ _)))))
  refine wpQuiet_nil ?_
  intro _ hw'
  obtain ⟨⟨dq, osq⟩, hw''⟩ := hw'
  subst hw''
  go_wp2_with fail
  go_ret
  exact ⟨str_ret HFIN.out.symm, G.bl_trans HB0.out (below_regrown w0 dq osq)⟩
end Go.Proofs.YtofgmijmhpmabaaGreatDoor.D

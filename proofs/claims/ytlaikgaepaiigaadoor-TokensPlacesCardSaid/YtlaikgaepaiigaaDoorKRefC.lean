/- The contract of the reference's Cut. -/
import Derived.Test.YtlaikgaepaiigaaDoorKRefO
namespace Go.Proofs.YtlaikgaepaiigaaDoor.K
open Go Go.RowKit
set_option linter.unusedVariables false
set_option linter.unusedSimpArgs false
theorem oneAt_bad {s : ByteArray} {q p : Nat} (hq : q < s.size) (hb : blankI (bt s q) = false) (hr : remB s q = false) (h : oneAt s q = .bad p) (f : Nat) : cutF s (f + 1) q = .bad p := by
  unfold oneAt at h
  rw [if_neg (by omega)] at h
  exact cf_bad (by omega) hb hr h
theorem oneAt_ok {s : ByteArray} {q p : Nat} {t : Tk} (hq : q < s.size) (hb : blankI (bt s q) = false) (hr : remB s q = false) (h : oneAt s q = .ok t p) (f : Nat) : cutF s (f + 1) q = (cutF s f p).cons t := by
  unfold oneAt at h
  rw [if_neg (by omega)] at h
  exact cf_ok (by omega) hb hr h
theorem oneAt_end {s : ByteArray} {q : Nat} (hq : s.size ≤ q) : oneAt s q = .ok (endTk s) q := if_pos hq
theorem tok_gt {s : ByteArray} {q p : Nat} {t : Tk} (hq : q < s.size) (h : tokAt s q = .ok t p) : q < p ∧ p ≤ s.size ∧ (t.kind == 0) = false := by
  unfold tokAt at h
  split at h
  · rename_i hc
    unfold nameAt at h
    simp only at h
    split at h
    · cases h
    · simp only [OneR.ok.injEq] at h
      obtain ⟨rfl, rfl⟩ := h
      have hp : partI (bt s q) = true := by
        rcases class_cases (bt s q) with ⟨_, a, _⟩ | ⟨_, _, a, b⟩ | ⟨_, _, _, a, _⟩ | ⟨_, _, _, _, a, _⟩ | ⟨_, _, _, _, _, a, _⟩ | ⟨_, _, _, _, _, a, _⟩
        · omega
        · exact b
        all_goals omega
      have h1 := while_step hq hp
      have h2 := while_bd partI s (q + 1)
      have h3 := while_bd partI s q
      exact ⟨by omega, h3.2 (by omega), rfl⟩
  · split at h
    · rename_i hc
      have hd : digitI (bt s q) = true := by
        rcases class_cases (bt s q) with ⟨_, a, _⟩ | ⟨_, _, a, b⟩ | ⟨_, _, _, a, _⟩ | ⟨_, _, _, b, a, _⟩ | ⟨_, _, _, _, _, a, _⟩ | ⟨_, _, _, _, _, a, _⟩
        · omega
        · omega
        · omega
        · exact b
        all_goals omega
      have h2 := digTo_bd hq hd
      rcases num_eq s q with ⟨p', h3, _⟩ | ⟨h3, _⟩
      · rw [h3] at h; cases h
      · rw [h3] at h
        simp only [OneR.ok.injEq] at h
        obtain ⟨rfl, rfl⟩ := h
        exact ⟨h2.1, h2.2.1, rfl⟩
    · split at h
      · unfold textAt at h
        split at h
        · cases h
        · rename_i out q' he
          simp only [OneR.ok.injEq] at h
          obtain ⟨rfl, rfl⟩ := h
          have := textGo_gt _ _ _ _ _ he
          exact ⟨by omega, this.2, rfl⟩
      · unfold markAt at h
        split at h
        · cases h
        · rename_i h0
          simp only [OneR.ok.injEq] at h
          obtain ⟨rfl, rfl⟩ := h
          exact ⟨by omega, (markLen_bd hq).2, rfl⟩
set_option maxRecDepth 100000 in
set_option maxHeartbeats 16000000 in
theorem refCut_any (A : Option Addr) (c : Nat) (s : ByteArray) (w : World) (hs : Src w A s) (hc : s.size ≤ c) :
    Calls Tryd.prog 9 #[.slice A s.size c] w (CutPost s w) := by
  obtain ⟨i0, hinf, hz0, hz1, hz2⟩ := info_parts infoTk
  by_cases hbig : 65536 < s.size
  · have HR := Lib.hid (show resOf s = ([], 20, 65536) from if_pos hbig)
    have hbI : (65536 : Int) < s.size := by omega
    clear hs hc
    go_enter Tryd.func9, Tryd.ntmps9
    go_wp2_with fail
    go_ret3
    exact cutPost_mk HR.out rfl rfl (World.ownsRow_nil _ _ _ _) (Below.refl _ _)
  · have hn : s.size ≤ 65536 := by omega
    have HNS := Lib.hid hn
    have hnI : ¬ (65536 : Int) < s.size := by omega
    obtain ⟨W1, hW1⟩ : ∃ W1, W1 = w.alloc (.cells #[.slice A s.size c, .int .i64 0, .int .i64 (-1)] 74) := ⟨_, rfl⟩
    obtain ⟨g, hg⟩ : ∃ g, g = w.heap.size := ⟨_, rfl⟩
    have hb1 : Below w.heap.size w W1 := by rw [hW1]; exact G.bl_alloc (Below.refl _ _) _
    have HB1 := Lib.hid hb1
    have HG1 := Lib.hid (show Cutter W1 g A s.size c 0 (-1) by rw [hW1, hg]; exact G.Blk.new w _ _)
    have HSR := Lib.hid (fun W (h : Upd g W1 W) => src_upd (hs.below hb1) (fun h0 b o he => by
      obtain ⟨b', o', he', hl, _⟩ := hs h0
      rw [he'] at he
      cases he
      omega) h.1)
    have HA := Lib.hid (fun (h0 : 0 < s.size) b o (he : A = some ⟨b, o, none⟩) => show b < g by
      obtain ⟨b', o', he', hl, _⟩ := hs h0
      rw [he'] at he
      cases he
      omega)
    have HC := Lib.hid hc
    have HGW := Lib.hid hg
    have hgW : g < W1.heap.size := HG1.out.lt
    have HLT := Lib.hid hgW
    have HWE := Lib.hid hW1
    clear hs hc hb1 hbig hn hg hgW hW1
    go_enter Tryd.func9, Tryd.ntmps9
    go_wp2_with fail
    rw [← HGW.out, ← HWE.out]
    go_loopg [6] (s.size + 1) (fun gk l wr => ∃ (v : Value) (q : Nat) (acc : List Tk) (f : Nat), v = l ∧ s.size + 1 - q = gk ∧ q ≤ s.size ∧ acc.length ≤ q ∧ s.size + 1 ≤ f + q ∧ Hid ((cutF s f q).pre acc = cutOf s) ∧ Cutter wr g A s.size c q (-1) ∧ Upd g W1 wr ∧ wr.ownsRow W1.heap.size 65 4 v acc.length (flatT acc))
    case atStart => exact ⟨_, 0, [], s.size + 1, rfl, rfl, by omega, by simp, by omega, Lib.hid (pre_nil _), HG1.out, Upd.refl _ _, World.ownsRow_nil _ _ _ _⟩
    case round =>
      obtain ⟨v, q, acc, f, rfl, hgk, hqn, hal, hf, HG, hcu, hup, hown⟩ := hrel
      have HGK := Lib.hid hgk
      have HCU := Lib.hid hcu
      have HUP := Lib.hid hup
      have HOWN := Lib.hid hown
      have HF := Lib.hid hf
      clear hgk hcu hup hown hf
      go_wp2_with fail
      refine (pass_any A c s q g (-1) wr (HSR.out _ HUP.out) HC.out HNS.out HA.out hqn HCU.out).mono ?_
      rintro e w2 he
      unfold PassPost at he
      obtain ⟨q2, rfl, hcu, hup, hq2, hqn2, hnb, hfu⟩ := he
      obtain ⟨f2, hf2, hfe⟩ := hfu f HF.out
      have HU2 := Lib.hid (HUP.out.trans hup)
      have HO2 := Lib.hid (own_upd HOWN.out HLT.out hup)
      have HC2 := Lib.hid hcu
      have HG2 := Lib.hid (show (cutF s f2 q2).pre acc = cutOf s by rw [← hfe]; exact HG.out)
      have HNB := Lib.hid hnb
      have HF2 := Lib.hid hf2
      clear hcu hup hnb hfu hfe hf2
      go_wp2_with fail
      refine (one_any A c s q2 g w2 (HSR.out _ HU2.out) HC.out HNS.out HA.out hqn2 HC2.out).mono ?_
      rintro e w3 he
      unfold OnePost at he
      obtain ⟨⟨k, x, m, a⟩, rfl, hup, hcase⟩ := he
      have HU3 := Lib.hid (HU2.out.trans hup)
      have HO3 := Lib.hid (own_upd HO2.out HLT.out hup)
      have HCS := Lib.hid hcase
      clear hup hcase
      unfold Tk.val
      obtain ⟨T, hT⟩ : ∃ T, T = w3.heap.size := ⟨_, rfl⟩
      have hcl : ∃ at_ B, Cutter w3 g A s.size c at_ B ∧ Hid ((∃ p : Nat, oneAt s q2 = .bad p ∧ B = p) ∨ (∃ p : Nat, oneAt s q2 = .ok ⟨k, x, m, a⟩ p ∧ at_ = p ∧ B = -1)) := by
        rcases HCS.out with ⟨p, at_, h1, h2⟩ | ⟨p, h1, h2⟩
        · exact ⟨_, _, h2, Lib.hid (.inl ⟨p, h1, rfl⟩)⟩
        · exact ⟨_, _, h2, Lib.hid (.inr ⟨p, h1, rfl, rfl⟩)⟩
      obtain ⟨at_, B, hC3, HCB⟩ := hcl
      obtain ⟨w4, hw4⟩ : ∃ w4, w4 = w3.alloc (.cells #[.int .i8 k, .string x, .int .i64 m, .int .i64 a] 65) := ⟨_, rfl⟩
      have hb4 : Below w3.heap.size w3 w4 := by rw [hw4]; exact G.bl_alloc (Below.refl _ _) _
      have HBT := Lib.hid (show G.Blk w4 T 65 #[.int .i8 k, .string x, .int .i64 m, .int .i64 a] by rw [hw4, hT]; exact G.Blk.new _ _ _)
      have HTW := Lib.hid (show W1.heap.size ≤ T by rw [hT]; exact HU3.out.1.size)
      have HC4 := Lib.hid (hC3.below hb4 hC3.lt)
      have HU4 := Lib.hid (HU3.out.trans (Upd.below hb4 (Nat.le_of_lt hC3.lt)))
      have HO4 := Lib.hid (own_upd HO3.out HLT.out (Upd.below hb4 (Nat.le_of_lt hC3.lt)))
      have HW4 := Lib.hid hw4
      have HTT := Lib.hid hT
      clear hC3 hb4 hw4 hT HCS
      go_upto_region 7 with (fail)
      rw [← HTT.out, ← HW4.out]
      have c2 := HC4.out.cell 2
      simp at c2
      by_cases hB : 0 ≤ B
      · have HBAD := Lib.hid (show ∃ p : Nat, oneAt s q2 = .bad p ∧ B = p by
          rcases HCB.out with h | ⟨p, _, _, h⟩
          · exact h
          · omega)
        go_upto_region 8 with (fail)
        go_quiet (fail)
        have hbd : Below W1.heap.size W1 (w4.drewN nq) ∨ True := .inr trivial
        have HZ := Lib.hid (show resOf s = ([], 21, B) by
          obtain ⟨p, h1, rfl⟩ := HBAD.out
          have hlt : q2 < s.size := by
            rcases Nat.lt_or_ge q2 s.size with h | h
            · exact h
            · rw [oneAt_end h] at h1; cases h1
          obtain ⟨h3, h4⟩ := HNB.out hlt
          obtain ⟨f3, rfl⟩ : ∃ f3, f2 = f3 + 1 := ⟨f2 - 1, by have := HF2.out; omega⟩
          refine resOf_bad HNS.out ?_
          rw [← HG2.out, oneAt_bad hlt h3 h4 h1]
          rfl)
        go_wp2_with fail
        go_ret3
        refine cutPost_mk HZ.out rfl rfl (World.ownsRow_nil _ _ _ _) ?_
        have h1 := HU4.out.1
        rw [HGW.out] at h1
        exact (HB1.out.trans h1).trans (G.bl_drewN (Below.refl _ _) _)
      · have HGD := Lib.hid (show ∃ p : Nat, oneAt s q2 = .ok ⟨k, x, m, a⟩ p ∧ at_ = p ∧ B = -1 by
          rcases HCB.out with ⟨p, _, h⟩ | h
          · omega
          · exact h)
        obtain ⟨p, hone, rfl, rfl⟩ := HGD.out
        obtain ⟨ao, cap, hv⟩ := G.own_shape HO4.out
        subst hv
        have z0 := HBT.out.cell 0
        have z1 := HBT.out.cell 1
        have z2 := HBT.out.cell 2
        have z3 := HBT.out.cell 3
        simp at z0 z1 z2 z3
        have HONE := Lib.hid hone
        clear hone HGD HCB
        obtain ⟨w5, hw5⟩ : ∃ w5, w5 = w4.alloc (.cells #[.int .i8 k, .string x, .int .i64 m, .int .i64 a] 65) := ⟨_, rfl⟩
        go_upto_region 10 with (at_builtin; refine wpList_append_own _ rfl (.tmp 27) (.tmp 29) 25 rfl W1.heap.size 65 i0 (.agg #[.int .i8 0, .string ⟨#[]⟩, .int .i64 0, .int .i64 0]) 4 40 Tryd.underlying25 hinf hz0 hz1 hz2 rfl (by decide) _ _ _ rfl (HO4.out.alloc _) ⟨w4.heap.size, 0, none⟩ 1 1 (Tk.cells ⟨k, x, m, a⟩) rfl rfl (G.cells_new _ _ _ _ (by simp)) (tk_one _) (by unfold maxLen; have := HNS.out; omega) (by have := HNS.out; omega) (by have := HU4.out.1.size; simp; omega) ?_; intro v3 w6 hown3 hg3 _q; have HG3 := Lib.hid hg3; have HO6 := Lib.hid hown3; clear hown3 hg3)
        have HU5 := Lib.hid (show Upd g W1 w5 by rw [hw5]; exact HU4.out.trans (Upd.below (G.bl_alloc (Below.refl _ _) _) (Nat.le_of_lt HC4.out.lt)))
        have hgg := HG3.out
        have HU6 := Lib.hid (upd_grown (w' := w6) HU5.out (v := .slice ao acc.length cap) (n := acc.length) (xs := flatT acc) (by rw [hw5]; exact HO4.out.alloc _) HLT.out (by rw [hw5]; exact hgg))
        have HOT := HO3.out.lt
        have hTn : ∀ i, w6.cell? ⟨T, i, none⟩ = w4.cell? ⟨T, i, none⟩ := fun i => by
          refine (World.cell?_of_block (w := w4.alloc (.cells #[.int .i8 k, .string x, .int .i64 m, .int .i64 a] 65)) (a := ⟨T, i, none⟩) (hgg.block T (by have := HBT.out.lt; simp; omega) (fun e => ?_))).trans ((G.bl_alloc (Below.refl _ _) _).cell (p := ⟨T, i, none⟩) HBT.out.lt)
          have := (HOT T e.symm).2
          have := HTT.out
          omega
        have y0 : w6.cell? ⟨T, 0, none⟩ = some (.int .i8 k) := (hTn 0).trans z0
        have HC6 := Lib.hid (show Cutter w6 g A s.size c p (-1) by
          refine (HC4.out.alloc (.cells #[.int .i8 k, .string x, .int .i64 m, .int .i64 a] 65)).same (hgg.block g (by have := HC4.out.lt; simp; omega) (fun e => ?_))
          have := ((HO4.out).lt g e.symm).1
          have := HLT.out
          omega)
        obtain ⟨ao3, cap3, hv3⟩ := G.own_shape HO6.out
        subst hv3
        clear z0 z1 z2 z3 c2 hTn hgg HOT hw5 HG3
        by_cases hlt : q2 < s.size
        · have ht : tokAt s q2 = .ok ⟨k, x, m, a⟩ p := by
            have := HONE.out
            unfold oneAt at this
            rwa [if_neg (by omega)] at this
          obtain ⟨h1, h2, h3⟩ := tok_gt hlt ht
          simp only at h3
          obtain ⟨h5, h6⟩ := HNB.out hlt
          obtain ⟨f3, rfl⟩ : ∃ f3, f2 = f3 + 1 := ⟨f2 - 1, by have := HF2.out; omega⟩
          have HF3 := Lib.hid HF2.out
          have HGN := Lib.hid (show (cutF s f3 p).pre (acc ++ [⟨k, x, m, a⟩]) = cutOf s by
            rw [← pre_cons, ← oneAt_ok hlt h5 h6 HONE.out f3]
            exact HG2.out)
          clear ht h5 h6
          go_wp2_with fail
          go_roundg (s.size + 1 - p)
          case rel => exact ⟨_, p, acc ++ [⟨k, x, m, a⟩], f3, rfl, rfl, h2, by rw [List.length_append]; simp; omega, by have := HF3.out; omega, HGN, HC6.out, HU6.out, by rw [List.length_append, flatT_snoc]; exact HO6.out⟩
          case measure => have := HGK.out; omega
        · have hend := HONE.out
          rw [oneAt_end (by omega)] at hend
          have hk : k = 0 := by
            simp only [OneR.ok.injEq, endTk, Tk.mk.injEq] at hend
            exact hend.1.1.symm
          have HEND := Lib.hid (show endTk s = ⟨k, x, m, a⟩ by
            simp only [OneR.ok.injEq] at hend
            exact hend.1)
          have HGN := Lib.hid (show resOf s = (acc ++ [⟨k, x, m, a⟩], 0, 0) by
            refine resOf_ok HNS.out ?_
            rw [← HG2.out, cf_end (by omega), HEND.out]
            rfl)
          clear hend
          rw [hk] at y0
          clear hk
          go_wp2_with fail
          go_ret3
          refine cutPost_mk HGN.out rfl rfl ?_ ?_
          · rw [List.length_append, flatT_snoc]
            exact G.own_ge HO6.out HB1.out.size
          · have h1 := HU6.out.1
            rw [HGW.out] at h1
            exact HB1.out.trans h1
end Go.Proofs.YtlaikgaepaiigaaDoor.K

/- The contract of the reference's pass. -/
import Derived.Test.YtlaikgaepaiigaaDoorKRefI
import Derived.Test.YtlaikgaepaiigaaDoorKCut
import Derived.Deep.LoopGhost
import Derived.Handy
namespace Go.Proofs.YtlaikgaepaiigaaDoor.K
open Go Go.RowKit
set_option linter.unusedVariables false
set_option linter.unusedSimpArgs false
theorem src_upd {A : Option Addr} {s : ByteArray} {w w' : World} {g : Nat} (h : Src w A s) (hA : 0 < s.size → ∀ b o, A = some ⟨b, o, none⟩ → b < g) (hu : Below g w w') : Src w' A s := fun h0 => by
  obtain ⟨b, o, e, hl, hs⟩ := h h0
  exact ⟨b, o, e, Nat.lt_of_lt_of_le hl hu.size, fun i hi => (hu.cell (p := ⟨b, o + i, none⟩) (hA h0 b o e)).trans (hs i hi)⟩
theorem isAt_rem {s : ByteArray} {q : Nat} (h : q < s.size) : isAt s q ⟨#[47, 47]⟩ = remB s q := by
  unfold isAt remB
  by_cases h1 : q + 1 < s.size
  · rw [decide_eq_true (show q + (⟨#[47, 47]⟩ : ByteArray).size ≤ s.size from h1), decide_eq_true h1]
    have e : (s.extract q (q + 2)).data.toList = [s[q], s[q + 1]] := by
      have a := extract_snoc (s := s) (p := q) (k := 1) h1
      have b := extract_snoc (s := s) (p := q) (k := 0) h
      rw [a, b]
      simp
    have e2 : ((s.extract q (q + 2)).toList == (⟨#[47, 47]⟩ : ByteArray).toList) = ([s[q], s[q + 1]] == [47, 47]) := by
      rw [ByteArray.toList_eq, ByteArray.toList_eq, e]
    show (true && ((s.extract q (q + 2)).toList == _)) = _
    rw [e2, bt_get h, bt_get h1]
    have k1 : (s[q] == 47) = (((s[q].toNat : Nat) : Int) == 47) := by
      rw [Bool.eq_iff_iff, beq_iff_eq, beq_iff_eq, ← UInt8.toNat_inj]
      show s[q].toNat = 47 ↔ _
      omega
    have k2 : (s[q + 1] == 47) = (((s[q + 1].toNat : Nat) : Int) == 47) := by
      rw [Bool.eq_iff_iff, beq_iff_eq, beq_iff_eq, ← UInt8.toNat_inj]
      show s[q + 1].toNat = 47 ↔ _
      omega
    simp [List.cons_beq_cons, k1, k2]
  · rw [decide_eq_false (show ¬ q + (⟨#[47, 47]⟩ : ByteArray).size ≤ s.size from h1), decide_eq_false h1]
    simp
theorem same' {P : Program} {f : FuncId} {a : Array Value} {W : World} {r : Ending} (h : Calls P f a W fun e w' => e = r ∧ W = w') : Calls P f a W fun e w' => e = r ∧ w' = W := h.mono fun _ _ ⟨a, b⟩ => ⟨a, b.symm⟩
def PassPost (A : Option Addr) (c : Nat) (s : ByteArray) (q g : Nat) (bad : Int) (w : World) (e : Ending) (w' : World) : Prop :=
  ∃ q' : Nat, e = .returned (.tuple #[]) ∧ Cutter w' g A s.size c q' bad ∧ Upd g w w' ∧ q ≤ q' ∧ q' ≤ s.size ∧ (q' < s.size → blankI (bt s q') = false ∧ remB s q' = false) ∧ ∀ f : Nat, s.size + 1 ≤ f + q → ∃ f' : Nat, s.size + 1 ≤ f' + q' ∧ cutF s f q = cutF s f' q'
theorem cut_next {s : ByteArray} {q q' : Nat} (h : q ≤ q') (hq : q < s.size) (hs : ∀ f, cutF s (f + 1) q = cutF s f q') (h1 : q < q') (P : Nat) (hP : ∀ f, s.size + 1 ≤ f + P → ∃ f', s.size + 1 ≤ f' + q ∧ cutF s f P = cutF s f' q) :
    ∀ f, s.size + 1 ≤ f + P → ∃ f', s.size + 1 ≤ f' + q' ∧ cutF s f P = cutF s f' q' := fun f hf => by
  obtain ⟨f', h2, h3⟩ := hP f hf
  obtain ⟨k, rfl⟩ : ∃ k, f' = k + 1 := ⟨f' - 1, by omega⟩
  exact ⟨k, by omega, h3.trans (hs k)⟩
set_option maxRecDepth 100000 in
set_option maxHeartbeats 8000000 in
theorem pass_any (A : Option Addr) (c : Nat) (s : ByteArray) (q g : Nat) (bad : Int) (w : World) (hs : Src w A s) (hc : s.size ≤ c) (hn : s.size ≤ 65536) (hA : 0 < s.size → ∀ b o, A = some ⟨b, o, none⟩ → b < g) (hq : q ≤ s.size) (hg : Cutter w g A s.size c q bad) :
    Calls Tryd.prog 27 #[.pointer (some ⟨g, 0, none⟩)] w (PassPost A c s q g bad w) := by
  have HSR := Lib.hid (fun W (h : Upd g w W) => src_upd hs hA h.1)
  have HC := Lib.hid hc
  have HA := Lib.hid hA
  obtain ⟨n, hns⟩ : ∃ n, n = s.size := ⟨_, rfl⟩
  have HN := Lib.hid hns
  rw [← hns] at hn hg hq
  have hnI : (n : Int) ≤ 65536 := by omega
  clear hs hc hA hns
  go_enter Tryd.func27, Tryd.ntmps27
  go_wp2_with fail
  go_loopg [12] (n - q) (fun gk _ wr => ∃ q' : Nat, n - q' = gk ∧ q ≤ q' ∧ q' ≤ n ∧ Cutter wr g A n c q' bad ∧ Upd g w wr ∧ Hid (∀ f, s.size + 1 ≤ f + q → ∃ f', s.size + 1 ≤ f' + q' ∧ cutF s f q = cutF s f' q'))
  case atStart => exact ⟨q, rfl, Nat.le_refl _, hq, hg, Upd.refl _ _, Lib.hid (fun f hf => ⟨f, hf, rfl⟩)⟩
  case round =>
    obtain ⟨q', hgk, hqq, hqn, hcu, hup, HF⟩ := hrel
    have c0 := hcu.cell 0
    have c1 := hcu.cell 1
    have f1 := hcu.frozen 1
    simp at c0 c1
    have HCU := Lib.hid hcu
    have HUP := Lib.hid hup
    have hq0 : (0 : Int) ≤ q' := by omega
    clear hcu hup
    by_cases hlt : q' < n
    · have hltI : (q' : Int) < n := by omega
      have hd : decide ((q' : Int) < n) = true := decide_eq_true hltI
      obtain ⟨b, o, hAe, hbw, hbs, hce⟩ := (HSR.out wr HUP.out).at (i := q') (by rw [← HN.out]; exact hlt)
      have hbg := HA.out (by have := HN.out; omega) b o hAe
      subst hAe
      have hbr := bt_range s q'
      have HBS := Lib.hid hbs
      have HCB := Lib.hid (fun W (hu : Upd g w W) i (hi : i < n) => show W.cell? ⟨b, o + i, none⟩ = some (.int .u8 (bt s i)) by
        obtain ⟨b', o', he, _, _, hc'⟩ := (HSR.out W hu).at (i := i) (by rw [← HN.out]; exact hi)
        cases he
        exact hc')
      have HBL := Lib.hid (fun W => same' (refBlank_any (bt s q') W))
      cases hB : blankI (bt s q') with
      | true =>
        have HF2 := Lib.hid (cut_next (Nat.le_succ q') (by rw [← HN.out]; exact hlt) (fun f => cf_blank (by have := HN.out; omega) hB) (Nat.lt_succ_self _) q HF.out)
        rw [hB] at HBL
        generalize bt s q' = y at *
        clear hbr hB hbs hbw
        go_wp2_with fail
        go_quiet (fail)
        obtain ⟨w1, hw1⟩ : ∃ w1, w1 = wr.drewN nq := ⟨_, rfl⟩
        have HCU1 := Lib.hid (show Cutter w1 g (some ⟨b, o, none⟩) n c q' bad by rw [hw1]; exact HCU.out.below (G.bl_drewN (Below.refl _ _) nq) HCU.out.lt)
        have HUP1 := Lib.hid (show Upd g w w1 by rw [hw1]; exact HUP.out.trans (Upd.drewN g wr nq))
        have hce1 : w1.cell? ⟨b, o + q', none⟩ = some (.int .u8 y) := by rw [hw1]; simpa using hce
        have d0 := HCU1.out.cell 0
        have d1 := HCU1.out.cell 1
        simp at d0 d1
        go_upto_region 1 with (fail)
        rw [← hw1]
        clear hw1 c0 c1 f1 hce
        go_quiet ((go_at_call 54; exact Calls.quiet_of_same (HBL.out _)))
        obtain ⟨w2, hw2⟩ : ∃ w2, w2 = w1.drewN nq := ⟨_, rfl⟩
        have HCU2 := Lib.hid (show Cutter w2 g (some ⟨b, o, none⟩) n c q' bad by rw [hw2]; exact HCU1.out.below (G.bl_drewN (Below.refl _ _) nq) HCU1.out.lt)
        have HUP2 := Lib.hid (show Upd g w w2 by rw [hw2]; exact HUP1.out.trans (Upd.drewN g w1 nq))
        rw [← hw2]
        clear hw2 d0 d1 hce1 HCU1 HUP1
        have d0 := HCU2.out.cell 0
        have d1 := HCU2.out.cell 1
        have f1 := HCU2.out.frozen 1
        simp at d0 d1
        have HCU3 := Lib.hid (HCU2.out.put 1 (.int .i64 ((q' : Int) + 1)))
        have HUP3 := Lib.hid (HUP2.out.trans (Upd.set (g := g) _ 1 (.int .i64 ((q' : Int) + 1))))
        go_wp2_with fail
        go_roundg (n - (q' + 1))
        case rel => exact ⟨q' + 1, rfl, by omega, by omega, HCU3.out, HUP3.out, HF2⟩
        case measure => omega
      | false =>
        have HRM := isAt_rem (s := s) (q := q') (by rw [← HN.out]; exact hlt)
        rw [hB] at HBL
        obtain ⟨M, hM⟩ : ∃ M, M = remB s q' := ⟨_, rfl⟩
        rw [← hM] at HRM
        have HBB := Lib.hid hB
        have HMM := Lib.hid hM
        have HIS := Lib.hid (fun W (hu : Upd g w W) (hk : Cutter W g (some ⟨b, o, none⟩) s.size c q' bad) => is_any (some ⟨b, o, none⟩) c s ⟨#[47, 47]⟩ q' g bad W (HSR.out W hu) HC.out (by rw [← HN.out]; exact hn) (by decide) (by decide) (by rw [← HN.out]; exact hqn) hk)
        rw [HRM, ← HN.out] at HIS
        obtain ⟨y, hy⟩ : ∃ y, y = bt s q' := ⟨_, rfl⟩
        rw [← hy] at hce HBL
        clear hbr hB hM hbs hbw HRM hy
        go_wp2_with fail
        go_quiet (fail)
        obtain ⟨w1, hw1⟩ : ∃ w1, w1 = wr.drewN nq := ⟨_, rfl⟩
        have HCU1 := Lib.hid (show Cutter w1 g (some ⟨b, o, none⟩) n c q' bad by rw [hw1]; exact HCU.out.below (G.bl_drewN (Below.refl _ _) nq) HCU.out.lt)
        have HUP1 := Lib.hid (show Upd g w w1 by rw [hw1]; exact HUP.out.trans (Upd.drewN g wr nq))
        have hce1 : w1.cell? ⟨b, o + q', none⟩ = some (.int .u8 y) := by rw [hw1]; simpa using hce
        have d0 := HCU1.out.cell 0
        have d1 := HCU1.out.cell 1
        simp at d0 d1
        go_upto_region 1 with (fail)
        rw [← hw1]
        clear hw1 c0 c1 f1 hce
        go_quiet ((go_at_call 54; exact Calls.quiet_of_same (HBL.out _)))
        obtain ⟨w2, hw2⟩ : ∃ w2, w2 = w1.drewN nq := ⟨_, rfl⟩
        have HCU2 := Lib.hid (show Cutter w2 g (some ⟨b, o, none⟩) n c q' bad by rw [hw2]; exact HCU1.out.below (G.bl_drewN (Below.refl _ _) nq) HCU1.out.lt)
        have HUP2 := Lib.hid (show Upd g w w2 by rw [hw2]; exact HUP1.out.trans (Upd.drewN g w1 nq))
        rw [← hw2]
        clear hw2 d0 d1 hce1 HCU1 HUP1
        have d0 := HCU2.out.cell 0
        have d1 := HCU2.out.cell 1
        have f1 := HCU2.out.frozen 1
        simp at d0 d1
        go_wp2_with fail
        refine (HIS.out _ HUP2.out HCU2.out).mono ?_
        rintro e w3 ⟨rfl, hb3⟩
        have HCU3 := Lib.hid (HCU2.out.below hb3 HCU2.out.lt)
        have HUP3 := Lib.hid (HUP2.out.trans (Upd.below hb3 (Nat.le_of_lt HCU2.out.lt)))
        clear hb3 HCU2 HUP2 HBL HIS
        cases M with
        | true =>
          obtain ⟨Q, hQ⟩ : ∃ Q, Q = whileOf notNl s q' := ⟨_, rfl⟩
          have hwb := while_bd notNl s (q' + 1)
          have h47 : bt s q' = 47 := by
            have := HMM.out
            unfold remB at this
            simp only [Bool.true_eq, Bool.and_eq_true, beq_iff_eq] at this
            exact this.1.1
          have hws : whileOf notNl s q' = whileOf notNl s (q' + 1) := while_step (by rw [← HN.out]; exact hlt) (by rw [h47]; rfl)
          have hq1 : q' < Q := by omega
          have hq2 : Q ≤ n := by have := HN.out; omega
          have HF2 := Lib.hid (cut_next (Nat.le_of_lt hq1) (by rw [← HN.out]; exact hlt) (fun f => by rw [hQ]; exact cf_rem (by have := HN.out; omega) HBB.out HMM.out.symm) hq1 q HF.out)
          have HQ := Lib.hid hQ.symm
          obtain ⟨gO, rfl⟩ : ∃ gO : Nat, gO = gk := ⟨_, rfl⟩
          clear hwb h47 hws hQ HCU HUP
          go_wp2_with fail
          go_loopg [34] (n - q') (fun gk _ wx => ∃ p : Nat, n - p = gk ∧ q' ≤ p ∧ p ≤ n ∧ Cutter wx g (some ⟨b, o, none⟩) n c p bad ∧ Upd g w wx ∧ Hid (whileOf notNl s p = Q))
          case atStart => exact ⟨q', rfl, Nat.le_refl _, hqn, HCU3.out, HUP3.out, HQ⟩
          case round =>
            obtain ⟨p, hgp, hqp, hpn, hcu, hup, HG⟩ := hrel
            have c0 := hcu.cell 0
            have c1 := hcu.cell 1
            have f1 := hcu.frozen 1
            simp at c0 c1
            have HCX := Lib.hid hcu
            have HUX := Lib.hid hup
            have hp0 : (0 : Int) ≤ p := by omega
            by_cases hpl : p < n
            · have hpI : (p : Int) < n := by omega
              have hd2 : decide ((p : Int) < n) = true := decide_eq_true hpI
              have hcz := HCB.out wr hup p hpl
              by_cases hz : bt s p = 10
              · have HE := Lib.hid (show p = Q by rw [← HG.out, while_stop (fun h => by rw [hz] at h; exact absurd h.2 (by decide))])
                rw [hz] at hcz
                clear hcu hup hz
                go_wp2_with fail
                go_quiet (fail)
                obtain ⟨w4, hw4⟩ : ∃ w4, w4 = wr.drewN nq := ⟨_, rfl⟩
                have HC4 := Lib.hid (show Cutter w4 g (some ⟨b, o, none⟩) n c p bad by rw [hw4]; exact HCX.out.below (G.bl_drewN (Below.refl _ _) nq) HCX.out.lt)
                have HU4 := Lib.hid (show Upd g w w4 by rw [hw4]; exact HUX.out.trans (Upd.drewN g wr nq))
                rw [← hw4]
                clear hw4
                go_wp2_with fail
                go_roundg (n - Q)
                case rel => exact ⟨Q, rfl, by omega, hq2, by rw [← HE.out]; exact HC4.out, HU4.out, HF2⟩
                case measure => omega
              · have HG2 := Lib.hid (show whileOf notNl s (p + 1) = Q by rw [← HG.out]; exact (while_step (by rw [← HN.out]; exact hpl) (by simpa [notNl] using hz)).symm)
                have nz := ne_b2 hz
                generalize bt s p = z at hcz nz
                clear hcu hup hz
                go_wp2_with fail
                go_quiet (fail)
                obtain ⟨w4, hw4⟩ : ∃ w4, w4 = wr.drewN nq := ⟨_, rfl⟩
                have HC4 := Lib.hid (show Cutter w4 g (some ⟨b, o, none⟩) n c p bad by rw [hw4]; exact HCX.out.below (G.bl_drewN (Below.refl _ _) nq) HCX.out.lt)
                have HU4 := Lib.hid (show Upd g w w4 by rw [hw4]; exact HUX.out.trans (Upd.drewN g wr nq))
                have HC5 := Lib.hid (HC4.out.put 1 (.int .i64 ((p : Int) + 1)))
                have HU5 := Lib.hid (HU4.out.trans (Upd.set (g := g) _ 1 (.int .i64 ((p : Int) + 1))))
                have k1 := HC4.out.cell 1
                have l1 := HC4.out.frozen 1
                simp at k1
                go_upto_region 5 with (fail)
                rw [← hw4]
                clear hw4 c0 c1 f1 hcz
                go_wp2_with fail
                go_roundg (n - (p + 1))
                case rel => exact ⟨p + 1, rfl, by omega, by omega, HC5.out, HU5.out, HG2⟩
                case measure => omega
            · have hpI : ¬ (p : Int) < n := by omega
              have hd2 : decide ((p : Int) < n) = false := decide_eq_false hpI
              have HE := Lib.hid (show p = Q by rw [← HG.out, while_stop (fun h => hpl (by rw [HN.out]; exact h.1))])
              clear hcu hup
              go_wp2_with fail
              go_quiet (fail)
              obtain ⟨w4, hw4⟩ : ∃ w4, w4 = wr.drewN nq := ⟨_, rfl⟩
              have HC4 := Lib.hid (show Cutter w4 g (some ⟨b, o, none⟩) n c p bad by rw [hw4]; exact HCX.out.below (G.bl_drewN (Below.refl _ _) nq) HCX.out.lt)
              have HU4 := Lib.hid (show Upd g w w4 by rw [hw4]; exact HUX.out.trans (Upd.drewN g wr nq))
              rw [← hw4]
              clear hw4
              go_wp2_with fail
              go_roundg (n - Q)
              case rel => exact ⟨Q, rfl, by omega, hq2, by rw [← HE.out]; exact HC4.out, HU4.out, HF2⟩
              case measure => omega
        | false =>
          go_wp2_with fail
          go_returns
          exact ⟨q', rfl, by rw [← HN.out]; exact HCU3.out, HUP3.out, hqq, by rw [← HN.out]; exact hqn, fun _ => ⟨HBB.out, HMM.out.symm⟩, HF.out⟩
    · have hltI : ¬ (q' : Int) < n := by omega
      have hd : decide ((q' : Int) < n) = false := decide_eq_false hltI
      go_wp2_with fail
      go_quiet (fail)
      have HCU1 := Lib.hid (HCU.out.below (G.bl_drewN (Below.refl _ _) nq) HCU.out.lt)
      have HUP1 := Lib.hid (HUP.out.trans (Upd.drewN g wr nq))
      go_wp2_with fail
      go_returns
      exact ⟨q', rfl, by rw [← HN.out]; exact HCU1.out, HUP1.out, hqq, by rw [← HN.out]; exact hqn, fun h => absurd h (by rw [← HN.out]; exact hlt), HF.out⟩
end Go.Proofs.YtlaikgaepaiigaaDoor.K

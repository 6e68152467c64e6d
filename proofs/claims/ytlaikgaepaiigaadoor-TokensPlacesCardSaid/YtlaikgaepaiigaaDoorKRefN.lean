/- The contract of the reference's name. -/
import Derived.Test.YtlaikgaepaiigaaDoorKRefP
namespace Go.Proofs.YtlaikgaepaiigaaDoor.K
open Go Go.RowKit
set_option linter.unusedVariables false
set_option linter.unusedSimpArgs false
def NamePost (A : Option Addr) (c : Nat) (s : ByteArray) (q Q g : Nat) (bad : Int) (w : World) (e : Ending) (w' : World) : Prop :=
  e = .returned (.string (s.extract q Q)) ∧ Cutter w' g A s.size c Q (if 32 < Q - q then (q : Int) else bad) ∧ Upd g w w'
set_option maxRecDepth 100000 in
set_option maxHeartbeats 8000000 in
theorem name_any (A : Option Addr) (c : Nat) (s : ByteArray) (q Q g : Nat) (bad : Int) (w : World) (hs : Src w A s) (hc : s.size ≤ c) (hn : s.size ≤ 65536) (hA : 0 < s.size → ∀ b o, A = some ⟨b, o, none⟩ → b < g) (hq : q < s.size) (hp : partI (bt s q) = true) (hQ : whileOf partI s q = Q) (hg : Cutter w g A s.size c q bad) :
    Calls Tryd.prog 57 #[.pointer (some ⟨g, 0, none⟩)] w (NamePost A c s q Q g bad w) := by
  have HSR := Lib.hid (fun W (h : Upd g w W) => src_upd hs hA h.1)
  have hqQ : q < Q := by
    have := while_bd partI s (q + 1)
    rw [← hQ, while_step hq hp]
    omega
  have HC := Lib.hid hc
  obtain ⟨b, o, hAe, hbw, hbs⟩ := hs (by omega)
  have hbg := hA (by omega) b o hAe
  subst hAe
  have HBY := Lib.hid (fun W (hu : Upd g w W) => (fun i hi => (hu.1.cell (p := ⟨b, o + i, none⟩) hbg).trans (hbs i hi) : Lib.Bytes W b o s))
  have HQ := Lib.hid hQ
  obtain ⟨n, hns⟩ : ∃ n, n = s.size := ⟨_, rfl⟩
  have HN := Lib.hid hns
  have HCB := Lib.hid (fun W (hu : Upd g w W) i (hi : i < n) => show W.cell? ⟨b, o + i, none⟩ = some (.int .u8 (bt s i)) by
    rw [HBY.out W hu i (by rw [← hns]; exact hi), bt_get (by rw [← hns]; exact hi)])
  rw [← hns] at hn hg hq
  have hnI : (n : Int) ≤ 65536 := by omega
  have h0 := hg.cell 0
  have h1 := hg.cell 1
  simp at h0 h1
  have hq0 : (0 : Int) ≤ q := by omega
  have HG0 := Lib.hid hg
  clear hs hc hA hns hbw hbs hQ hg hbg
  go_enter Tryd.func57, Tryd.ntmps57
  go_wp2_with fail
  clear h0 h1
  go_loopg [8] (n - q) (fun gk _ wr => ∃ p : Nat, n - p = gk ∧ q ≤ p ∧ p ≤ n ∧ Cutter wr g (some ⟨b, o, none⟩) n c p bad ∧ Upd g w wr ∧ Hid (whileOf partI s p = Q))
  case atStart => exact ⟨q, rfl, Nat.le_refl _, Nat.le_of_lt hq, HG0.out, Upd.refl _ _, HQ⟩
  case round =>
    obtain ⟨p, hgp, hqp, hpn, hcu, hup, HG⟩ := hrel
    have c0 := hcu.cell 0
    have c1 := hcu.cell 1
    simp at c0 c1
    have HCX := Lib.hid hcu
    have HUX := Lib.hid hup
    have hp0 : (0 : Int) ≤ p := by omega
    by_cases hpl : p < n
    · have hpI : (p : Int) < n := by omega
      have hd2 : decide ((p : Int) < n) = true := decide_eq_true hpI
      have hcz := HCB.out wr hup p hpl
      have HPT := Lib.hid (fun W => same' (refPart_any (bt s p) W))
      cases hz : partI (bt s p) with
      | true =>
        have HG2 := Lib.hid (show whileOf partI s (p + 1) = Q by rw [← HG.out]; exact (while_step (by rw [← HN.out]; exact hpl) hz).symm)
        rw [hz] at HPT
        generalize bt s p = z at hcz HPT
        clear hcu hup hz
        go_wp2_with fail
        go_quiet ((go_at_call 72; exact Calls.quiet_of_same (HPT.out _)))
        obtain ⟨w4, hw4⟩ : ∃ w4, w4 = wr.drewN nq := ⟨_, rfl⟩
        have HC4 := Lib.hid (show Cutter w4 g (some ⟨b, o, none⟩) n c p bad by rw [hw4]; exact HCX.out.below (G.bl_drewN (Below.refl _ _) nq) HCX.out.lt)
        have HU4 := Lib.hid (show Upd g w w4 by rw [hw4]; exact HUX.out.trans (Upd.drewN g wr nq))
        have k0 := HC4.out.cell 0
        have k1 := HC4.out.cell 1
        have l1 := HC4.out.frozen 1
        have k2 := HC4.out.cell 2
        have l2 := HC4.out.frozen 2
        simp at k0 k1 k2
        have HC5 := Lib.hid (HC4.out.put 1 (.int .i64 ((p : Int) + 1)))
        have HU5 := Lib.hid (HU4.out.trans (Upd.set (g := g) _ 1 (.int .i64 ((p : Int) + 1))))
        go_upto_region 3 with (fail)
        rw [← hw4]
        clear hw4 c0 c1 hcz
        go_wp2_with fail
        go_roundg (n - (p + 1))
        case rel => exact ⟨p + 1, rfl, by omega, by omega, HC5.out, HU5.out, HG2⟩
        case measure => omega
      | false =>
        have HE := Lib.hid (show p = Q by rw [← HG.out, while_stop (fun h => by rw [hz] at h; exact absurd h.2 (by decide))])
        rw [hz] at HPT
        generalize bt s p = z at hcz HPT
        clear hcu hup hz
        go_wp2_with fail
        go_quiet ((go_at_call 72; exact Calls.quiet_of_same (HPT.out _)))
        obtain ⟨w4, hw4⟩ : ∃ w4, w4 = wr.drewN nq := ⟨_, rfl⟩
        have HC4 := Lib.hid (show Cutter w4 g (some ⟨b, o, none⟩) n c p bad by rw [hw4]; exact HCX.out.below (G.bl_drewN (Below.refl _ _) nq) HCX.out.lt)
        have HU4 := Lib.hid (show Upd g w w4 by rw [hw4]; exact HUX.out.trans (Upd.drewN g wr nq))
        have k0 := HC4.out.cell 0
        have k1 := HC4.out.cell 1
        have l1 := HC4.out.frozen 1
        have k2 := HC4.out.cell 2
        have l2 := HC4.out.frozen 2
        simp at k0 k1 k2
        go_upto_region 4 with (fail)
        rw [← hw4]
        clear hw4 c0 c1
        have hEQ := HE.out
        subst hEQ
        by_cases h32 : 32 < p - q
        · have h32I : (32 : Int) < p - q := by omega
          obtain ⟨w5, hw5⟩ : ∃ w5, w5 = w4.setCell ⟨g, 2, none⟩ (.int .i64 q) := ⟨_, rfl⟩
          have HC5 := Lib.hid (show Cutter w5 g (some ⟨b, o, none⟩) n c p q by rw [hw5]; exact HC4.out.put 2 (.int .i64 q))
          have HU5 := Lib.hid (show Upd g w w5 by rw [hw5]; exact HU4.out.trans (Upd.set (g := g) w4 2 (.int .i64 q)))
          have e0 := HC5.out.cell 0
          have e1 := HC5.out.cell 1
          simp at e0 e1
          go_upto_region 6 with (fail)
          rw [← hw5]
          clear hw5 k0 k1 k2 l1 l2
          have hsl := fun m : Nat => (win (W := w5.drewN m) (p := q) (k := p - q) (Lib.Bytes.drewN (HBY.out _ HU5.out) m) (by omega) HC.out (by rw [← HN.out]; omega))
          rw [show q + (p - q) = p by omega, show ((q : Nat) : Int) + ((p - q : Nat) : Int) = (p : Int) by omega, ← HN.out] at hsl
          have hs1 := fun m => (hsl m).1
          have hs2 := fun m => (hsl m).2
          clear hsl
          have hpc : p ≤ c := by have := HC.out; have := HN.out; omega
          have hcq : ¬ c = q := by omega
          obtain ⟨X, hX⟩ : ∃ X, X = s.extract q p := ⟨_, rfl⟩
          simp only [← hX] at hs2
          have HX := Lib.hid hX
          clear hX
          go_quiet (fail)
          go_wp2_with fail
          go_ret
          exact ⟨by rw [HX.out]; rfl, by rw [← HN.out, show (if 32 < p - q then (q : Int) else bad) = q from if_pos h32]; exact HC5.out.below (G.bl_drewN (Below.refl _ _) _) HC5.out.lt, HU5.out.trans (Upd.drewN g _ _)⟩
        · have h32I : ¬ (32 : Int) < p - q := by omega
          obtain ⟨w5, hw5⟩ : ∃ w5, w5 = w4 := ⟨_, rfl⟩
          subst hw5
          have HC5 := HC4
          have HU5 := HU4
          go_upto_region 6 with (fail)
          have hsl := fun m : Nat => (win (W := w5.drewN m) (p := q) (k := p - q) (Lib.Bytes.drewN (HBY.out _ HU5.out) m) (by omega) HC.out (by rw [← HN.out]; omega))
          rw [show q + (p - q) = p by omega, show ((q : Nat) : Int) + ((p - q : Nat) : Int) = (p : Int) by omega, ← HN.out] at hsl
          have hs1 := fun m => (hsl m).1
          have hs2 := fun m => (hsl m).2
          clear hsl
          have hpc : p ≤ c := by have := HC.out; have := HN.out; omega
          have hcq : ¬ c = q := by omega
          obtain ⟨X, hX⟩ : ∃ X, X = s.extract q p := ⟨_, rfl⟩
          simp only [← hX] at hs2
          have HX := Lib.hid hX
          clear hX
          go_quiet (fail)
          go_wp2_with fail
          go_ret
          exact ⟨by rw [HX.out]; rfl, by rw [← HN.out, show (if 32 < p - q then (q : Int) else bad) = bad from if_neg h32]; exact HC5.out.below (G.bl_drewN (Below.refl _ _) _) HC5.out.lt, HU5.out.trans (Upd.drewN g _ _)⟩
    · have hpI : ¬ (p : Int) < n := by omega
      have hd2 : decide ((p : Int) < n) = false := decide_eq_false hpI
      have HE := Lib.hid (show p = Q by rw [← HG.out, while_stop (fun h => hpl (by rw [HN.out]; exact h.1))])
      clear hcu hup
      go_wp2_with fail
      go_quiet (fail)
      obtain ⟨w4, hw4⟩ : ∃ w4, w4 = wr.drewN nq := ⟨_, rfl⟩
      have HC4 := Lib.hid (show Cutter w4 g (some ⟨b, o, none⟩) n c p bad by rw [hw4]; exact HCX.out.below (G.bl_drewN (Below.refl _ _) nq) HCX.out.lt)
      have HU4 := Lib.hid (show Upd g w w4 by rw [hw4]; exact HUX.out.trans (Upd.drewN g wr nq))
      have k0 := HC4.out.cell 0
      have k1 := HC4.out.cell 1
      have l1 := HC4.out.frozen 1
      have k2 := HC4.out.cell 2
      have l2 := HC4.out.frozen 2
      simp at k0 k1 k2
      go_upto_region 4 with (fail)
      rw [← hw4]
      clear hw4 c0 c1
      have hEQ := HE.out
      subst hEQ
      by_cases h32 : 32 < p - q
      · have h32I : (32 : Int) < p - q := by omega
        obtain ⟨w5, hw5⟩ : ∃ w5, w5 = w4.setCell ⟨g, 2, none⟩ (.int .i64 q) := ⟨_, rfl⟩
        have HC5 := Lib.hid (show Cutter w5 g (some ⟨b, o, none⟩) n c p q by rw [hw5]; exact HC4.out.put 2 (.int .i64 q))
        have HU5 := Lib.hid (show Upd g w w5 by rw [hw5]; exact HU4.out.trans (Upd.set (g := g) w4 2 (.int .i64 q)))
        have e0 := HC5.out.cell 0
        have e1 := HC5.out.cell 1
        simp at e0 e1
        go_upto_region 6 with (fail)
        rw [← hw5]
        clear hw5 k0 k1 k2 l1 l2
        have hsl := fun m : Nat => (win (W := w5.drewN m) (p := q) (k := p - q) (Lib.Bytes.drewN (HBY.out _ HU5.out) m) (by omega) HC.out (by rw [← HN.out]; omega))
        rw [show q + (p - q) = p by omega, show ((q : Nat) : Int) + ((p - q : Nat) : Int) = (p : Int) by omega, ← HN.out] at hsl
        have hs1 := fun m => (hsl m).1
        have hs2 := fun m => (hsl m).2
        clear hsl
        have hpc : p ≤ c := by have := HC.out; have := HN.out; omega
        have hcq : ¬ c = q := by omega
        obtain ⟨X, hX⟩ : ∃ X, X = s.extract q p := ⟨_, rfl⟩
        simp only [← hX] at hs2
        have HX := Lib.hid hX
        clear hX
        go_quiet (fail)
        go_wp2_with fail
        go_ret
        exact ⟨by rw [HX.out]; rfl, by rw [← HN.out, show (if 32 < p - q then (q : Int) else bad) = q from if_pos h32]; exact HC5.out.below (G.bl_drewN (Below.refl _ _) _) HC5.out.lt, HU5.out.trans (Upd.drewN g _ _)⟩
      · have h32I : ¬ (32 : Int) < p - q := by omega
        obtain ⟨w5, hw5⟩ : ∃ w5, w5 = w4 := ⟨_, rfl⟩
        subst hw5
        have HC5 := HC4
        have HU5 := HU4
        go_upto_region 6 with (fail)
        have hsl := fun m : Nat => (win (W := w5.drewN m) (p := q) (k := p - q) (Lib.Bytes.drewN (HBY.out _ HU5.out) m) (by omega) HC.out (by rw [← HN.out]; omega))
        rw [show q + (p - q) = p by omega, show ((q : Nat) : Int) + ((p - q : Nat) : Int) = (p : Int) by omega, ← HN.out] at hsl
        have hs1 := fun m => (hsl m).1
        have hs2 := fun m => (hsl m).2
        clear hsl
        have hpc : p ≤ c := by have := HC.out; have := HN.out; omega
        have hcq : ¬ c = q := by omega
        obtain ⟨X, hX⟩ : ∃ X, X = s.extract q p := ⟨_, rfl⟩
        simp only [← hX] at hs2
        have HX := Lib.hid hX
        clear hX
        go_quiet (fail)
        go_wp2_with fail
        go_ret
        exact ⟨by rw [HX.out]; rfl, by rw [← HN.out, show (if 32 < p - q then (q : Int) else bad) = bad from if_neg h32]; exact HC5.out.below (G.bl_drewN (Below.refl _ _) _) HC5.out.lt, HU5.out.trans (Upd.drewN g _ _)⟩
end Go.Proofs.YtlaikgaepaiigaaDoor.K

/- The contract of the reference's number. -/
import Derived.Test.YtlaikgaepaiigaaDoorKRefV
namespace Go.Proofs.YtlaikgaepaiigaaDoor.K
open Go Go.RowKit
set_option linter.unusedVariables false
set_option linter.unusedSimpArgs false
def numBad (s : ByteArray) (q Q : Nat) (bad : Int) : Int := if 9223372036854775807 < numOf s q (Q - q) then (q : Int) else if Q < s.size ∧ partI (bt s Q) = true then (Q : Int) else bad
def RNumPost (A : Option Addr) (c : Nat) (s : ByteArray) (q Q g : Nat) (bad : Int) (w : World) (e : Ending) (w' : World) : Prop :=
  e = .returned (.int .i64 (valRes s q (Q - q)).1) ∧ Cutter w' g A s.size c Q (numBad s q Q bad) ∧ Upd g w w'
theorem numPost_mk {A : Option Addr} {c : Nat} {s : ByteArray} {q Q g : Nat} {bad B V : Int} {w w' : World} (h : (valRes s q (Q - q)).1 = V) (hB : numBad s q Q bad = B) (hc : Cutter w' g A s.size c Q B) (hu : Upd g w w') : RNumPost A c s q Q g bad w (.returned (.int .i64 V)) w' := ⟨by rw [h], by rw [hB]; exact hc, hu⟩
theorem numBad_f {s : ByteArray} {q Q : Nat} {bad V : Int} (h : valRes s q (Q - q) = (V, false)) : numBad s q Q bad = q := by
  unfold valRes at h
  unfold numBad
  split at h
  · rename_i h1; rw [if_pos h1]
  · simp at h
theorem numBad_p {s : ByteArray} {q Q : Nat} {bad V : Int} (h : valRes s q (Q - q) = (V, true)) (h1 : Q < s.size) (h2 : partI (bt s Q) = true) : numBad s q Q bad = Q := by
  unfold valRes at h
  unfold numBad
  split at h
  · simp at h
  · rename_i h3; rw [if_neg h3, if_pos ⟨h1, h2⟩]
theorem numBad_n {s : ByteArray} {q Q : Nat} {bad V : Int} (h : valRes s q (Q - q) = (V, true)) (h1 : ¬ (Q < s.size ∧ partI (bt s Q) = true)) : numBad s q Q bad = bad := by
  unfold valRes at h
  unfold numBad
  split at h
  · simp at h
  · rename_i h3; rw [if_neg h3, if_neg h1]
set_option maxRecDepth 100000 in
set_option maxHeartbeats 16000000 in
theorem refNumber_any (A : Option Addr) (c : Nat) (s : ByteArray) (q Q g : Nat) (bad : Int) (w : World) (hs : Src w A s) (hc : s.size ≤ c) (hn : s.size ≤ 65536) (hA : 0 < s.size → ∀ b o, A = some ⟨b, o, none⟩ → b < g) (hq : q < s.size) (hp : digitI (bt s q) = true) (hQ : digTo s q = Q) (hg : Cutter w g A s.size c q bad) :
    Calls Tryd.prog 59 #[.pointer (some ⟨g, 0, none⟩)] w (RNumPost A c s q Q g bad w) := by
  obtain ⟨hqQ, hQn, hdd⟩ := digTo_bd hq hp
  rw [hQ] at hqQ hQn hdd
  have HDD := Lib.hid hdd
  have HC := Lib.hid hc
  obtain ⟨b, o, hAe, hbw, hbs⟩ := hs (by omega)
  have hbg := hA (by omega) b o hAe
  subst hAe
  have HBY := Lib.hid (fun W (hu : Upd g w W) => (fun i hi => (hu.1.cell (p := ⟨b, o + i, none⟩) hbg).trans (hbs i hi) : Lib.Bytes W b o s))
  obtain ⟨n, hns⟩ : ∃ n, n = s.size := ⟨_, rfl⟩
  have HN := Lib.hid hns
  have HCB := Lib.hid (fun W (hu : Upd g w W) i (hi : i < n) => show W.cell? ⟨b, o + i, none⟩ = some (.int .u8 (bt s i)) by
    rw [HBY.out W hu i (by rw [← hns]; exact hi), bt_get (by rw [← hns]; exact hi)])
  rw [← hns] at hn hg hq hQn
  have hnI : (n : Int) ≤ 65536 := by omega
  have h0 := hg.cell 0
  have h1 := hg.cell 1
  have h2 := hg.frozen 1
  simp at h0 h1
  have hq0 : (0 : Int) ≤ q := by omega
  have hqI : (q : Int) < n := by omega
  have HG0 := Lib.hid (show Cutter (w.setCell ⟨g, 1, none⟩ (.int .i64 ((q : Int) + 1))) g (some ⟨b, o, none⟩) n c (q + 1) bad from hg.put 1 (.int .i64 ((q : Int) + 1)))
  have HU0 := Lib.hid (Upd.set (g := g) w 1 (.int .i64 ((q : Int) + 1)))
  have hst : (bt s q = 48 ∧ Q = q + 1) ∨ (¬ bt s q = 48 ∧ whileOf digitI s (q + 1) = Q) := by
    unfold digTo at hQ
    split at hQ
    · rename_i h; exact .inl ⟨h, hQ.symm⟩
    · rename_i h; exact .inr ⟨h, by rw [← hQ]; exact (while_step (by rw [← hns]; exact hq) hp).symm⟩
  clear hs hc hA hns hbw hbs hQ hg hbg hdd
  rcases hst with ⟨h48, hQ1⟩ | ⟨h48, hW⟩
  · have HE0 := Lib.hid hQ1
    have HZ := Lib.hid (fun W (hu : Upd g w W) => show W.cell? ⟨b, o + q, none⟩ = some (.int .u8 48) by rw [HCB.out W hu q hq, h48])
    clear hQ1 h48
    go_enter Tryd.func59, Tryd.ntmps59
    go_wp2_with fail
    clear h0 h1 h2
    go_loopg [17] 0 (fun gk _ wr => ∃ p : Nat, 0 = gk ∧ p = q + 1 ∧ Cutter wr g (some ⟨b, o, none⟩) n c p bad ∧ Upd g w wr)
    case atStart => exact ⟨q + 1, rfl, rfl, HG0.out, HU0.out⟩
    case round =>
      obtain ⟨p, hgp, hpq, hcu, hup⟩ := hrel
      have hqp : q + 1 ≤ p := by omega
      have hpn : p ≤ n := by omega
      have HPQ := Lib.hid hpq
      clear hgp hpq
      have c0 := hcu.cell 0
      have c1 := hcu.cell 1
      simp at c0 c1
      have HCX := Lib.hid hcu
      have HUX := Lib.hid hup
      have hcq0 := HZ.out wr hup
      have HE := Lib.hid (show p = Q by rw [HE0.out]; exact HPQ.out)
      go_wp2_with fail
      go_quiet (fail)
      obtain ⟨w4, hw4⟩ : ∃ wN, wN = wr.drewN nq := ⟨_, rfl⟩
      have HC4 := Lib.hid (show Cutter w4 g (some ⟨b, o, none⟩) n c p bad by rw [hw4]; exact HCX.out.below (G.bl_drewN (Below.refl _ _) nq) HCX.out.lt)
      have HU4 := Lib.hid (show Upd g w w4 by rw [hw4]; exact HUX.out.trans (Upd.drewN g wr nq))
      go_upto_region 5 with (fail)
      rw [← hw4]
      clear hw4 c0 c1
      have c0 := HC4.out.cell 0
      have c1 := HC4.out.cell 1
      have f1 := HC4.out.frozen 1
      have c2 := HC4.out.cell 2
      have f2 := HC4.out.frozen 2
      simp at c0 c1 c2
      have hEQ := HE.out
      subst hEQ
      have hsl := fun m : Nat => (win (W := w4.drewN m) (p := q) (k := p - q) (Lib.Bytes.drewN (HBY.out _ HU4.out) m) (by omega) HC.out (by rw [← HN.out]; omega))
      rw [show q + (p - q) = p by omega, show ((q : Nat) : Int) + ((p - q : Nat) : Int) = (p : Int) by omega, ← HN.out] at hsl
      have hs1 := fun m => (hsl m).1
      have HVA0 := fun m : Nat => same' (value_any b o (c - q) s q (p - q) (w4.drewN m) (by rw [← HN.out]; omega) (by rw [← HN.out]; exact hn) (Lib.Bytes.drewN (HBY.out _ HU4.out) m) (fun i h1 h2 => HDD.out i h1 (by omega)))
      have hpc : p ≤ c := by have := HC.out; have := HN.out; omega
      have hcq : ¬ c = q := by omega
      obtain ⟨V, F, hvr⟩ : ∃ V F, valRes s q (p - q) = (V, F) := ⟨_, _, rfl⟩
      simp only [hvr] at HVA0
      have HVA := Lib.hid HVA0
      have HVR := Lib.hid hvr
      clear hsl HVA0 hvr hcu hup
      cases F with
      | false =>
        go_wp2_with fail
        go_quiet ((go_at_call 73; exact Calls.quiet_of_same (HVA.out _)))
        obtain ⟨w5, hw4⟩ : ∃ wN, wN = w4.drewN nq := ⟨_, rfl⟩
        have HC5 := Lib.hid (show Cutter w5 g (some ⟨b, o, none⟩) n c p bad by rw [hw4]; exact HC4.out.below (G.bl_drewN (Below.refl _ _) nq) HC4.out.lt)
        have HU5 := Lib.hid (show Upd g w w5 by rw [hw4]; exact HU4.out.trans (Upd.drewN g w4 nq))
        go_upto_region 6 with (fail)
        rw [← hw4]
        clear hw4 c0 c1
        have c0 := HC5.out.cell 0
        have c1 := HC5.out.cell 1
        have f1 := HC5.out.frozen 1
        have c2 := HC5.out.cell 2
        have f2 := HC5.out.frozen 2
        simp at c0 c1 c2
        have HC6 := Lib.hid (show Cutter (w5.setCell ⟨g, 2, none⟩ (.int .i64 q)) g (some ⟨b, o, none⟩) n c p q from HC5.out.put 2 (.int .i64 q))
        have HU6 := Lib.hid (HU5.out.trans (Upd.set (g := g) w5 2 (.int .i64 q)))
        go_wp2_with fail
        go_returns
        exact numPost_mk (by rw [HVR.out]) (numBad_f HVR.out) (by rw [← HN.out]; exact HC6.out) HU6.out
      | true =>
        go_wp2_with fail
        go_quiet ((go_at_call 73; exact Calls.quiet_of_same (HVA.out _)))
        obtain ⟨w5, hw4⟩ : ∃ wN, wN = w4.drewN nq := ⟨_, rfl⟩
        have HC5 := Lib.hid (show Cutter w5 g (some ⟨b, o, none⟩) n c p bad by rw [hw4]; exact HC4.out.below (G.bl_drewN (Below.refl _ _) nq) HC4.out.lt)
        have HU5 := Lib.hid (show Upd g w w5 by rw [hw4]; exact HU4.out.trans (Upd.drewN g w4 nq))
        go_upto_region 6 with (fail)
        rw [← hw4]
        clear hw4 c0 c1
        have c0 := HC5.out.cell 0
        have c1 := HC5.out.cell 1
        have f1 := HC5.out.frozen 1
        have c2 := HC5.out.cell 2
        have f2 := HC5.out.frozen 2
        simp at c0 c1 c2
        by_cases hpn2 : p < n
        · have hpI2 : (p : Int) < n := by omega
          have hd3 : decide ((p : Int) < n) = true := decide_eq_true hpI2
          have hcz2 := HCB.out w5 HU5.out p hpn2
          have HPT := Lib.hid (fun W => same' (refPart_any (bt s p) W))
          cases hz2 : partI (bt s p) with
          | true =>
            rw [hz2] at HPT
            have HWHY := Lib.hid (numBad_p (bad := bad) HVR.out (by rw [← HN.out]; exact hpn2) hz2)
            generalize bt s p = y at hcz2 HPT
            clear hz2
            go_wp2_with fail
            go_quiet ((go_at_call 72; exact Calls.quiet_of_same (HPT.out _)))
            obtain ⟨w6, hw4⟩ : ∃ wN, wN = w5.drewN nq := ⟨_, rfl⟩
            have HC6 := Lib.hid (show Cutter w6 g (some ⟨b, o, none⟩) n c p bad by rw [hw4]; exact HC5.out.below (G.bl_drewN (Below.refl _ _) nq) HC5.out.lt)
            have HU6 := Lib.hid (show Upd g w w6 by rw [hw4]; exact HU5.out.trans (Upd.drewN g w5 nq))
            go_upto_region 9 with (fail)
            rw [← hw4]
            clear hw4 c0 c1
            have c0 := HC6.out.cell 0
            have c1 := HC6.out.cell 1
            have f1 := HC6.out.frozen 1
            have c2 := HC6.out.cell 2
            have f2 := HC6.out.frozen 2
            simp at c0 c1 c2
            have HC7 := Lib.hid (show Cutter (w6.setCell ⟨g, 2, none⟩ (.int .i64 p)) g (some ⟨b, o, none⟩) n c p p from HC6.out.put 2 (.int .i64 p))
            have HU7 := Lib.hid (HU6.out.trans (Upd.set (g := g) w6 2 (.int .i64 p)))
            go_wp2_with fail
            go_returns
            exact numPost_mk (by rw [HVR.out]) HWHY.out (by rw [← HN.out]; exact HC7.out) HU7.out
          | false =>
            rw [hz2] at HPT
            have HWHY := Lib.hid (numBad_n (bad := bad) HVR.out (fun h => by rw [hz2] at h; exact absurd h.2 (by decide)))
            generalize bt s p = y at hcz2 HPT
            clear hz2
            go_wp2_with fail
            go_quiet ((go_at_call 72; exact Calls.quiet_of_same (HPT.out _)))
            obtain ⟨w6, hw4⟩ : ∃ wN, wN = w5.drewN nq := ⟨_, rfl⟩
            have HC6 := Lib.hid (show Cutter w6 g (some ⟨b, o, none⟩) n c p bad by rw [hw4]; exact HC5.out.below (G.bl_drewN (Below.refl _ _) nq) HC5.out.lt)
            have HU6 := Lib.hid (show Upd g w w6 by rw [hw4]; exact HU5.out.trans (Upd.drewN g w5 nq))
            go_upto_region 10 with (fail)
            rw [← hw4]
            clear hw4 c0 c1
            have c0 := HC6.out.cell 0
            have c1 := HC6.out.cell 1
            have f1 := HC6.out.frozen 1
            have c2 := HC6.out.cell 2
            have f2 := HC6.out.frozen 2
            simp at c0 c1 c2
            go_wp2_with fail
            go_returns
            exact numPost_mk (by rw [HVR.out]) HWHY.out (by rw [← HN.out]; exact HC6.out) HU6.out
        · have hpI2 : ¬ (p : Int) < n := by omega
          have hd3 : decide ((p : Int) < n) = false := decide_eq_false hpI2
          have HWHY := Lib.hid (numBad_n (bad := bad) HVR.out (fun h => hpn2 (by rw [HN.out]; exact h.1)))
          go_wp2_with fail
          go_quiet (fail)
          obtain ⟨w6, hw4⟩ : ∃ wN, wN = w5.drewN nq := ⟨_, rfl⟩
          have HC6 := Lib.hid (show Cutter w6 g (some ⟨b, o, none⟩) n c p bad by rw [hw4]; exact HC5.out.below (G.bl_drewN (Below.refl _ _) nq) HC5.out.lt)
          have HU6 := Lib.hid (show Upd g w w6 by rw [hw4]; exact HU5.out.trans (Upd.drewN g w5 nq))
          go_upto_region 10 with (fail)
          rw [← hw4]
          clear hw4 c0 c1
          have c0 := HC6.out.cell 0
          have c1 := HC6.out.cell 1
          have f1 := HC6.out.frozen 1
          have c2 := HC6.out.cell 2
          have f2 := HC6.out.frozen 2
          simp at c0 c1 c2
          go_wp2_with fail
          go_returns
          exact numPost_mk (by rw [HVR.out]) HWHY.out (by rw [← HN.out]; exact HC6.out) HU6.out
  · have HZ := Lib.hid (fun W (hu : Upd g w W) => HCB.out W hu q hq)
    have n48 := ne_b2 h48
    have HQ := Lib.hid hW
    generalize bt s q = y0 at HZ n48
    clear hW h48
    go_enter Tryd.func59, Tryd.ntmps59
    go_wp2_with fail
    clear h0 h1 h2
    go_loopg [17] (n - (q + 1)) (fun gk _ wr => ∃ p : Nat, n - p = gk ∧ q + 1 ≤ p ∧ p ≤ n ∧ Cutter wr g (some ⟨b, o, none⟩) n c p bad ∧ Upd g w wr ∧ Hid (whileOf digitI s p = Q))
    case atStart => exact ⟨q + 1, rfl, Nat.le_refl _, hq, HG0.out, HU0.out, HQ⟩
    case round =>
      obtain ⟨p, hgp, hpq, hpn, hcu, hup, HG⟩ := hrel
      have c0 := hcu.cell 0
      have c1 := hcu.cell 1
      simp at c0 c1
      have HCX := Lib.hid hcu
      have HUX := Lib.hid hup
      have hcq0 := HZ.out wr hup
      by_cases hpl : p < n
      · have hpI : (p : Int) < n := by omega
        have hd2 : decide ((p : Int) < n) = true := decide_eq_true hpI
        have hcz := HCB.out wr hup p hpl
        have HDG := Lib.hid (fun W => same' (refDigit_any (bt s p) W))
        cases hz : digitI (bt s p) with
        | true =>
          have HG2 := Lib.hid (show whileOf digitI s (p + 1) = Q by rw [← HG.out]; exact (while_step (by rw [← HN.out]; exact hpl) hz).symm)
          rw [hz] at HDG
          generalize bt s p = z at hcz HDG
          clear hcu hup hz
          go_wp2_with fail
          go_quiet ((go_at_call 58; exact Calls.quiet_of_same (HDG.out _)))
          obtain ⟨w4, hw4⟩ : ∃ wN, wN = wr.drewN nq := ⟨_, rfl⟩
          have HC4 := Lib.hid (show Cutter w4 g (some ⟨b, o, none⟩) n c p bad by rw [hw4]; exact HCX.out.below (G.bl_drewN (Below.refl _ _) nq) HCX.out.lt)
          have HU4 := Lib.hid (show Upd g w w4 by rw [hw4]; exact HUX.out.trans (Upd.drewN g wr nq))
          go_upto_region 4 with (fail)
          rw [← hw4]
          clear hw4 c0 c1
          have c0 := HC4.out.cell 0
          have c1 := HC4.out.cell 1
          have f1 := HC4.out.frozen 1
          have c2 := HC4.out.cell 2
          have f2 := HC4.out.frozen 2
          simp at c0 c1 c2
          have HC5 := Lib.hid (HC4.out.put 1 (.int .i64 ((p : Int) + 1)))
          have HU5 := Lib.hid (HU4.out.trans (Upd.set (g := g) _ 1 (.int .i64 ((p : Int) + 1))))
          go_wp2_with fail
          go_roundg (n - (p + 1))
          case rel => exact ⟨p + 1, rfl, by omega, by omega, HC5.out, HU5.out, HG2⟩
          case measure => omega
        | false =>
          have HE := Lib.hid (show p = Q by rw [← HG.out, while_stop (fun h => by rw [hz] at h; exact absurd h.2 (by decide))])
          rw [hz] at HDG
          generalize bt s p = z at hcz HDG
          clear hz
          go_wp2_with fail
          go_quiet ((go_at_call 58; exact Calls.quiet_of_same (HDG.out _)))
          obtain ⟨w4, hw4⟩ : ∃ wN, wN = wr.drewN nq := ⟨_, rfl⟩
          have HC4 := Lib.hid (show Cutter w4 g (some ⟨b, o, none⟩) n c p bad by rw [hw4]; exact HCX.out.below (G.bl_drewN (Below.refl _ _) nq) HCX.out.lt)
          have HU4 := Lib.hid (show Upd g w w4 by rw [hw4]; exact HUX.out.trans (Upd.drewN g wr nq))
          go_upto_region 5 with (fail)
          rw [← hw4]
          clear hw4 c0 c1
          have c0 := HC4.out.cell 0
          have c1 := HC4.out.cell 1
          have f1 := HC4.out.frozen 1
          have c2 := HC4.out.cell 2
          have f2 := HC4.out.frozen 2
          simp at c0 c1 c2
          have hEQ := HE.out
          subst hEQ
          have hsl := fun m : Nat => (win (W := w4.drewN m) (p := q) (k := p - q) (Lib.Bytes.drewN (HBY.out _ HU4.out) m) (by omega) HC.out (by rw [← HN.out]; omega))
          rw [show q + (p - q) = p by omega, show ((q : Nat) : Int) + ((p - q : Nat) : Int) = (p : Int) by omega, ← HN.out] at hsl
          have hs1 := fun m => (hsl m).1
          have HVA0 := fun m : Nat => same' (value_any b o (c - q) s q (p - q) (w4.drewN m) (by rw [← HN.out]; omega) (by rw [← HN.out]; exact hn) (Lib.Bytes.drewN (HBY.out _ HU4.out) m) (fun i h1 h2 => HDD.out i h1 (by omega)))
          have hpc : p ≤ c := by have := HC.out; have := HN.out; omega
          have hcq : ¬ c = q := by omega
          obtain ⟨V, F, hvr⟩ : ∃ V F, valRes s q (p - q) = (V, F) := ⟨_, _, rfl⟩
          simp only [hvr] at HVA0
          have HVA := Lib.hid HVA0
          have HVR := Lib.hid hvr
          clear hsl HVA0 hvr hcu hup
          cases F with
          | false =>
            go_wp2_with fail
            go_quiet ((go_at_call 73; exact Calls.quiet_of_same (HVA.out _)))
            obtain ⟨w5, hw4⟩ : ∃ wN, wN = w4.drewN nq := ⟨_, rfl⟩
            have HC5 := Lib.hid (show Cutter w5 g (some ⟨b, o, none⟩) n c p bad by rw [hw4]; exact HC4.out.below (G.bl_drewN (Below.refl _ _) nq) HC4.out.lt)
            have HU5 := Lib.hid (show Upd g w w5 by rw [hw4]; exact HU4.out.trans (Upd.drewN g w4 nq))
            go_upto_region 6 with (fail)
            rw [← hw4]
            clear hw4 c0 c1
            have c0 := HC5.out.cell 0
            have c1 := HC5.out.cell 1
            have f1 := HC5.out.frozen 1
            have c2 := HC5.out.cell 2
            have f2 := HC5.out.frozen 2
            simp at c0 c1 c2
            have HC6 := Lib.hid (show Cutter (w5.setCell ⟨g, 2, none⟩ (.int .i64 q)) g (some ⟨b, o, none⟩) n c p q from HC5.out.put 2 (.int .i64 q))
            have HU6 := Lib.hid (HU5.out.trans (Upd.set (g := g) w5 2 (.int .i64 q)))
            go_wp2_with fail
            go_returns
            exact numPost_mk (by rw [HVR.out]) (numBad_f HVR.out) (by rw [← HN.out]; exact HC6.out) HU6.out
          | true =>
            go_wp2_with fail
            go_quiet ((go_at_call 73; exact Calls.quiet_of_same (HVA.out _)))
            obtain ⟨w5, hw4⟩ : ∃ wN, wN = w4.drewN nq := ⟨_, rfl⟩
            have HC5 := Lib.hid (show Cutter w5 g (some ⟨b, o, none⟩) n c p bad by rw [hw4]; exact HC4.out.below (G.bl_drewN (Below.refl _ _) nq) HC4.out.lt)
            have HU5 := Lib.hid (show Upd g w w5 by rw [hw4]; exact HU4.out.trans (Upd.drewN g w4 nq))
            go_upto_region 6 with (fail)
            rw [← hw4]
            clear hw4 c0 c1
            have c0 := HC5.out.cell 0
            have c1 := HC5.out.cell 1
            have f1 := HC5.out.frozen 1
            have c2 := HC5.out.cell 2
            have f2 := HC5.out.frozen 2
            simp at c0 c1 c2
            by_cases hpn2 : p < n
            · have hpI2 : (p : Int) < n := by omega
              have hd3 : decide ((p : Int) < n) = true := decide_eq_true hpI2
              have hcz2 := HCB.out w5 HU5.out p hpn2
              have HPT := Lib.hid (fun W => same' (refPart_any (bt s p) W))
              cases hz2 : partI (bt s p) with
              | true =>
                rw [hz2] at HPT
                have HWHY := Lib.hid (numBad_p (bad := bad) HVR.out (by rw [← HN.out]; exact hpn2) hz2)
                generalize bt s p = y at hcz2 HPT
                clear hz2
                go_wp2_with fail
                go_quiet ((go_at_call 72; exact Calls.quiet_of_same (HPT.out _)))
                obtain ⟨w6, hw4⟩ : ∃ wN, wN = w5.drewN nq := ⟨_, rfl⟩
                have HC6 := Lib.hid (show Cutter w6 g (some ⟨b, o, none⟩) n c p bad by rw [hw4]; exact HC5.out.below (G.bl_drewN (Below.refl _ _) nq) HC5.out.lt)
                have HU6 := Lib.hid (show Upd g w w6 by rw [hw4]; exact HU5.out.trans (Upd.drewN g w5 nq))
                go_upto_region 9 with (fail)
                rw [← hw4]
                clear hw4 c0 c1
                have c0 := HC6.out.cell 0
                have c1 := HC6.out.cell 1
                have f1 := HC6.out.frozen 1
                have c2 := HC6.out.cell 2
                have f2 := HC6.out.frozen 2
                simp at c0 c1 c2
                have HC7 := Lib.hid (show Cutter (w6.setCell ⟨g, 2, none⟩ (.int .i64 p)) g (some ⟨b, o, none⟩) n c p p from HC6.out.put 2 (.int .i64 p))
                have HU7 := Lib.hid (HU6.out.trans (Upd.set (g := g) w6 2 (.int .i64 p)))
                go_wp2_with fail
                go_returns
                exact numPost_mk (by rw [HVR.out]) HWHY.out (by rw [← HN.out]; exact HC7.out) HU7.out
              | false =>
                rw [hz2] at HPT
                have HWHY := Lib.hid (numBad_n (bad := bad) HVR.out (fun h => by rw [hz2] at h; exact absurd h.2 (by decide)))
                generalize bt s p = y at hcz2 HPT
                clear hz2
                go_wp2_with fail
                go_quiet ((go_at_call 72; exact Calls.quiet_of_same (HPT.out _)))
                obtain ⟨w6, hw4⟩ : ∃ wN, wN = w5.drewN nq := ⟨_, rfl⟩
                have HC6 := Lib.hid (show Cutter w6 g (some ⟨b, o, none⟩) n c p bad by rw [hw4]; exact HC5.out.below (G.bl_drewN (Below.refl _ _) nq) HC5.out.lt)
                have HU6 := Lib.hid (show Upd g w w6 by rw [hw4]; exact HU5.out.trans (Upd.drewN g w5 nq))
                go_upto_region 10 with (fail)
                rw [← hw4]
                clear hw4 c0 c1
                have c0 := HC6.out.cell 0
                have c1 := HC6.out.cell 1
                have f1 := HC6.out.frozen 1
                have c2 := HC6.out.cell 2
                have f2 := HC6.out.frozen 2
                simp at c0 c1 c2
                go_wp2_with fail
                go_returns
                exact numPost_mk (by rw [HVR.out]) HWHY.out (by rw [← HN.out]; exact HC6.out) HU6.out
            · exact absurd hpl hpn2
      · have hpI : ¬ (p : Int) < n := by omega
        have hd2 : decide ((p : Int) < n) = false := decide_eq_false hpI
        have HE := Lib.hid (show p = Q by rw [← HG.out, while_stop (fun h => hpl (by rw [HN.out]; exact h.1))])
        go_wp2_with fail
        go_quiet (fail)
        obtain ⟨w4, hw4⟩ : ∃ wN, wN = wr.drewN nq := ⟨_, rfl⟩
        have HC4 := Lib.hid (show Cutter w4 g (some ⟨b, o, none⟩) n c p bad by rw [hw4]; exact HCX.out.below (G.bl_drewN (Below.refl _ _) nq) HCX.out.lt)
        have HU4 := Lib.hid (show Upd g w w4 by rw [hw4]; exact HUX.out.trans (Upd.drewN g wr nq))
        go_upto_region 5 with (fail)
        rw [← hw4]
        clear hw4 c0 c1
        have c0 := HC4.out.cell 0
        have c1 := HC4.out.cell 1
        have f1 := HC4.out.frozen 1
        have c2 := HC4.out.cell 2
        have f2 := HC4.out.frozen 2
        simp at c0 c1 c2
        have hEQ := HE.out
        subst hEQ
        have hsl := fun m : Nat => (win (W := w4.drewN m) (p := q) (k := p - q) (Lib.Bytes.drewN (HBY.out _ HU4.out) m) (by omega) HC.out (by rw [← HN.out]; omega))
        rw [show q + (p - q) = p by omega, show ((q : Nat) : Int) + ((p - q : Nat) : Int) = (p : Int) by omega, ← HN.out] at hsl
        have hs1 := fun m => (hsl m).1
        have HVA0 := fun m : Nat => same' (value_any b o (c - q) s q (p - q) (w4.drewN m) (by rw [← HN.out]; omega) (by rw [← HN.out]; exact hn) (Lib.Bytes.drewN (HBY.out _ HU4.out) m) (fun i h1 h2 => HDD.out i h1 (by omega)))
        have hpc : p ≤ c := by have := HC.out; have := HN.out; omega
        have hcq : ¬ c = q := by omega
        obtain ⟨V, F, hvr⟩ : ∃ V F, valRes s q (p - q) = (V, F) := ⟨_, _, rfl⟩
        simp only [hvr] at HVA0
        have HVA := Lib.hid HVA0
        have HVR := Lib.hid hvr
        clear hsl HVA0 hvr hcu hup
        cases F with
        | false =>
          go_wp2_with fail
          go_quiet ((go_at_call 73; exact Calls.quiet_of_same (HVA.out _)))
          obtain ⟨w5, hw4⟩ : ∃ wN, wN = w4.drewN nq := ⟨_, rfl⟩
          have HC5 := Lib.hid (show Cutter w5 g (some ⟨b, o, none⟩) n c p bad by rw [hw4]; exact HC4.out.below (G.bl_drewN (Below.refl _ _) nq) HC4.out.lt)
          have HU5 := Lib.hid (show Upd g w w5 by rw [hw4]; exact HU4.out.trans (Upd.drewN g w4 nq))
          go_upto_region 6 with (fail)
          rw [← hw4]
          clear hw4 c0 c1
          have c0 := HC5.out.cell 0
          have c1 := HC5.out.cell 1
          have f1 := HC5.out.frozen 1
          have c2 := HC5.out.cell 2
          have f2 := HC5.out.frozen 2
          simp at c0 c1 c2
          have HC6 := Lib.hid (show Cutter (w5.setCell ⟨g, 2, none⟩ (.int .i64 q)) g (some ⟨b, o, none⟩) n c p q from HC5.out.put 2 (.int .i64 q))
          have HU6 := Lib.hid (HU5.out.trans (Upd.set (g := g) w5 2 (.int .i64 q)))
          go_wp2_with fail
          go_returns
          exact numPost_mk (by rw [HVR.out]) (numBad_f HVR.out) (by rw [← HN.out]; exact HC6.out) HU6.out
        | true =>
          go_wp2_with fail
          go_quiet ((go_at_call 73; exact Calls.quiet_of_same (HVA.out _)))
          obtain ⟨w5, hw4⟩ : ∃ wN, wN = w4.drewN nq := ⟨_, rfl⟩
          have HC5 := Lib.hid (show Cutter w5 g (some ⟨b, o, none⟩) n c p bad by rw [hw4]; exact HC4.out.below (G.bl_drewN (Below.refl _ _) nq) HC4.out.lt)
          have HU5 := Lib.hid (show Upd g w w5 by rw [hw4]; exact HU4.out.trans (Upd.drewN g w4 nq))
          go_upto_region 6 with (fail)
          rw [← hw4]
          clear hw4 c0 c1
          have c0 := HC5.out.cell 0
          have c1 := HC5.out.cell 1
          have f1 := HC5.out.frozen 1
          have c2 := HC5.out.cell 2
          have f2 := HC5.out.frozen 2
          simp at c0 c1 c2
          by_cases hpn2 : p < n
          · exact absurd hpn2 hpl
          · have hpI2 : ¬ (p : Int) < n := by omega
            have hd3 : decide ((p : Int) < n) = false := decide_eq_false hpI2
            have HWHY := Lib.hid (numBad_n (bad := bad) HVR.out (fun h => hpn2 (by rw [HN.out]; exact h.1)))
            go_wp2_with fail
            go_quiet (fail)
            obtain ⟨w6, hw4⟩ : ∃ wN, wN = w5.drewN nq := ⟨_, rfl⟩
            have HC6 := Lib.hid (show Cutter w6 g (some ⟨b, o, none⟩) n c p bad by rw [hw4]; exact HC5.out.below (G.bl_drewN (Below.refl _ _) nq) HC5.out.lt)
            have HU6 := Lib.hid (show Upd g w w6 by rw [hw4]; exact HU5.out.trans (Upd.drewN g w5 nq))
            go_upto_region 10 with (fail)
            rw [← hw4]
            clear hw4 c0 c1
            have c0 := HC6.out.cell 0
            have c1 := HC6.out.cell 1
            have f1 := HC6.out.frozen 1
            have c2 := HC6.out.cell 2
            have f2 := HC6.out.frozen 2
            simp at c0 c1 c2
            go_wp2_with fail
            go_returns
            exact numPost_mk (by rw [HVR.out]) HWHY.out (by rw [← HN.out]; exact HC6.out) HU6.out
end Go.Proofs.YtlaikgaepaiigaaDoor.K

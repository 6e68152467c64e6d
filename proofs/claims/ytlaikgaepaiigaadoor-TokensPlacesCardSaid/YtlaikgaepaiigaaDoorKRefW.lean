/- The contract of the reference's mark. -/
import Derived.Test.YtlaikgaepaiigaaDoorKRefK
import Derived.StillTailTactics
namespace Go.Proofs.YtlaikgaepaiigaaDoor.K
open Go Go.RowKit
set_option linter.unusedVariables false
set_option linter.unusedSimpArgs false
def firstM (s : ByteArray) (q : Nat) : List (List UInt8) → Option (List UInt8)
  | [] => none
  | m :: r => if isAt s q ⟨m.toArray⟩ then some m else firstM s q r
def RMarkPost (A : Option Addr) (c : Nat) (s : ByteArray) (q g : Nat) (bad : Int) (w : World) (e : Ending) (w' : World) : Prop :=
  (∃ m, firstM s q marksL = some m ∧ e = .returned (.string ⟨m.toArray⟩) ∧ Cutter w' g A s.size c ((q : Int) + m.length) bad ∧ Upd g w w') ∨
  (firstM s q marksL = none ∧ e = .returned (.string ⟨#[]⟩) ∧ Cutter w' g A s.size c q q ∧ Upd g w w')
theorem marks_sz : ∀ m ∈ marksL, 0 < m.length ∧ m.length ≤ 2 := by decide +kernel
theorem marks_len : marksL.length = 22 := by decide +kernel
set_option maxRecDepth 100000 in
set_option maxHeartbeats 8000000 in
theorem refMark_any (A : Option Addr) (c : Nat) (s : ByteArray) (q g : Nat) (bad : Int) (w : World) (hs : Src w A s) (hc : s.size ≤ c) (hn : s.size ≤ 65536) (hA : 0 < s.size → ∀ b o, A = some ⟨b, o, none⟩ → b < g) (hq : q ≤ s.size) (hg : Cutter w g A s.size c q bad) :
    Calls Tryd.prog 61 #[.pointer (some ⟨g, 0, none⟩)] w (RMarkPost A c s q g bad w) := by
  have HIS := Lib.hid (fun W (hu : Upd g w W) (hk : Cutter W g A s.size c q bad) (t : ByteArray) (h1 : 0 < t.size) (h2 : t.size ≤ 65536) => is_any A c s t q g bad W (src_upd hs hA hu.1) hc hn h1 h2 hq hk)
  have HG := Lib.hid hg
  have hq0 : (0 : Int) ≤ q := by omega
  have hqI : (q : Int) ≤ 65536 := by omega
  have hgl := hg.lt
  clear hs hc hA hn hq
  go_enter Tryd.func61, Tryd.ntmps61
  go_wp2_with fail
  refine (marks_any _).mono ?_
  rintro e w1 ⟨rfl, hw1⟩
  obtain ⟨M, hM⟩ : ∃ M, M = w.heap.size := ⟨_, rfl⟩
  have HBM := Lib.hid (show G.Blk w1 M 9 markVals by rw [hw1, hM]; exact G.Blk.new w _ _)
  have HU1 := Lib.hid (show Upd g w w1 by rw [hw1]; exact Upd.below (G.bl_alloc (Below.refl _ _) _) (Nat.le_of_lt hgl))
  have HC1 := Lib.hid (show Cutter w1 g A s.size c q bad by rw [hw1]; exact HG.out.alloc _)
  have HMG := Lib.hid (show M ≠ g by omega)
  rw [← hM]
  clear hw1 hM hg hgl
  go_wp2_with fail
  go_loopw [4] (fun u wr => ∃ i : Nat, u = .int .i64 i ∧ i ≤ 22 ∧ Cutter wr g A s.size c q bad ∧ Upd g w wr ∧ G.Blk wr M 9 markVals ∧ Hid (firstM s q marksL = firstM s q (marksL.drop i))) (fun u _ => 22 - (intOf u).toNat)
  case atStart => exact ⟨0, rfl, by omega, HC1.out, HU1.out, HBM.out, Lib.hid rfl⟩
  case round =>
    obtain ⟨i, rfl, hi, hcu, hup, hbm, HF⟩ := hrel
    have hi0 : (0 : Int) ≤ i := by omega
    have HCU := Lib.hid hcu
    have HUP := Lib.hid hup
    have HBW := Lib.hid hbm
    by_cases hlt : i < 22
    · have hltI : (i : Int) < 22 := by omega
      have hil : i < marksL.length := by rw [marks_len]; exact hlt
      obtain ⟨m, hm⟩ : ∃ m, m = marksL[i] := ⟨_, rfl⟩
      have hcell : wr.cell? ⟨M, i, none⟩ = some (.string ⟨m.toArray⟩) := by
        rw [hbm.cell i, hm]
        simp [markVals, List.getElem?_eq_getElem hil]
      have hsz := marks_sz m (by rw [hm]; exact List.getElem_mem hil)
      have hdr : marksL.drop i = m :: marksL.drop (i + 1) := by rw [hm]; exact List.drop_eq_getElem_cons hil
      have HI := Lib.hid (HIS.out wr hup hcu ⟨m.toArray⟩ hsz.1 (Nat.le_trans hsz.2 (by omega)))
      have hF := HF.out
      rw [hdr] at hF
      unfold firstM at hF
      have hms : (⟨m.toArray⟩ : ByteArray).size = m.length := rfl
      clear hcu hup hbm hil hm hdr
      cases hB : isAt s q ⟨m.toArray⟩ with
      | true =>
        rw [hB] at HI hF
        have HR := Lib.hid (show firstM s q marksL = some m from hF)
        clear hF hB
        go_wp2_with fail
        refine HI.out.mono ?_
        rintro e w2 ⟨rfl, hb2⟩
        have HC2 := Lib.hid (HCU.out.below hb2 HCU.out.lt)
        have HU2 := Lib.hid (HUP.out.trans (Upd.below hb2 (Nat.le_of_lt HCU.out.lt)))
        have HB2 := Lib.hid (HBW.out.below hb2 HBW.out.lt)
        have hcell2 := (hb2.cell (p := ⟨M, i, none⟩) HBW.out.lt).trans hcell
        have c1 := HC2.out.cell 1
        have f1 := HC2.out.frozen 1
        simp at c1
        clear hb2 hcell
        go_wp2_with fail
        go_still_tail 13, (by kernel_rfl)
        repeat still_step
        change wpList _ _ _ _ _ w2.drew
        obtain ⟨w3, hw3⟩ : ∃ w3, w3 = w2.drew := ⟨_, rfl⟩
        have hb3 : Below w2.heap.size w2 w3 := by rw [hw3]; exact (Below.refl _ _).drew
        rw [← hw3]
        clear hw3
        have HC3 := Lib.hid (HC2.out.below hb3 HC2.out.lt)
        have HU3 := Lib.hid (HU2.out.trans (Upd.below hb3 (Nat.le_of_lt HC2.out.lt)))
        have HB3 := Lib.hid (HB2.out.below hb3 HB2.out.lt)
        have hcell3 := (hb3.cell (p := ⟨M, i, none⟩) HB2.out.lt).trans hcell2
        have HC4 := Lib.hid (show Cutter (w3.setCell ⟨g, 1, none⟩ (.int .i64 ((q : Int) + m.length))) g A s.size c ((q : Int) + m.length) bad from HC3.out.put 1 (.int .i64 ((q : Int) + m.length)))
        have HU4 := Lib.hid (HU3.out.trans (Upd.set (g := g) w3 1 (.int .i64 ((q : Int) + m.length))))
        have f3 := HC3.out.frozen 1
        have c3 := HC3.out.cell 1
        simp at c3
        have hMg := HMG.out
        have hcell4 : (w3.setCell ⟨g, 1, none⟩ (.int .i64 ((q : Int) + m.length))).cell? ⟨M, i, none⟩ = some (.string ⟨m.toArray⟩) := by
          have hB4 := Upd.blk (Upd.set (g := g) w3 1 (.int .i64 ((q : Int) + m.length))) HB3.out hMg
          rw [hB4.cell i, ← HB3.out.cell i]
          exact hcell3
        clear hb3 hcell2 c1 f1
        go_wp2_with fail
        go_returns
        exact .inl ⟨m, HR.out, rfl, HC4.out, HU4.out⟩
      | false =>
        rw [hB] at HI hF
        have HF2 := Lib.hid (show firstM s q marksL = firstM s q (marksL.drop (i + 1)) from hF)
        clear hF hB
        go_wp2_with fail
        refine HI.out.mono ?_
        rintro e w2 ⟨rfl, hb2⟩
        have HC2 := Lib.hid (HCU.out.below hb2 HCU.out.lt)
        have HU2 := Lib.hid (HUP.out.trans (Upd.below hb2 (Nat.le_of_lt HCU.out.lt)))
        have HB2 := Lib.hid (HBW.out.below hb2 HBW.out.lt)
        clear hb2
        go_wp2_with fail
        go_roundw
        case rel => exact ⟨i + 1, by go_num, by omega, HC2.out, HU2.out, HB2.out, HF2⟩
        case measure => simp [intOf]; omega
    · have hltI : ¬ (i : Int) < 22 := by omega
      have HR := Lib.hid (show firstM s q marksL = none by rw [HF.out, List.drop_eq_nil_of_le (by rw [marks_len]; omega)]; rfl)
      have c1 := hcu.cell 1
      have c2 := hcu.cell 2
      have f2 := hcu.frozen 2
      simp at c1 c2
      have HC2 := Lib.hid (show Cutter (wr.setCell ⟨g, 2, none⟩ (.int .i64 q)) g A s.size c q q from HCU.out.put 2 (.int .i64 q))
      have HU2 := Lib.hid (HUP.out.trans (Upd.set (g := g) wr 2 (.int .i64 q)))
      clear hcu hup hbm
      go_wp2_with fail
      go_returns
      exact .inr ⟨HR.out, rfl, HC2.out, HU2.out⟩
end Go.Proofs.YtlaikgaepaiigaaDoor.K

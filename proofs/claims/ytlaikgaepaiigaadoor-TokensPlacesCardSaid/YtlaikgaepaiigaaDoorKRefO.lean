/- The contract of the reference's one. -/
import Derived.Test.YtlaikgaepaiigaaDoorKRefT
namespace Go.Proofs.YtlaikgaepaiigaaDoor.K
open Go Go.RowKit
set_option linter.unusedVariables false
set_option linter.unusedSimpArgs false
theorem Upd.far {g : Nat} {w w1 : World} (h : Upd g w w1) {k : Nat} (hk : w.heap.size ≤ k) (i : Nat) (u : Value) (hg : g ≤ k := by omega) : Upd g w (w1.setCell ⟨k, i, none⟩ u) :=
  ⟨h.1.setCell hg u, fun b h1 h2 => (Below.heap_setCell w1 ⟨k, i, none⟩ u b (by simp; omega)).trans (h.2 b h1 h2)⟩
def oneAt (s : ByteArray) (q : Nat) : OneR := if s.size ≤ q then .ok (endTk s) q else tokAt s q
def OnePost (A : Option Addr) (c : Nat) (s : ByteArray) (q g : Nat) (w : World) (e : Ending) (w' : World) : Prop :=
  ∃ t : Tk, e = .returned t.val ∧ Upd g w w' ∧ ((∃ p at_, oneAt s q = .bad p ∧ Cutter w' g A s.size c at_ p) ∨ (∃ p, oneAt s q = .ok t p ∧ Cutter w' g A s.size c p (-1)))
theorem one_bad {A : Option Addr} {c : Nat} {s : ByteArray} {q g p : Nat} {at_ B : Int} {w w' : World} {v : Value} (t : Tk) (hv : v = t.val) (h : oneAt s q = .bad p) (hc : Cutter w' g A s.size c at_ B) (hB : B = p) (hu : Upd g w w') : OnePost A c s q g w (.returned v) w' :=
  ⟨t, by rw [hv], hu, .inl ⟨p, at_, h, hB ▸ hc⟩⟩
theorem one_ok {A : Option Addr} {c : Nat} {s : ByteArray} {q g p : Nat} {at_ B : Int} {w w' : World} {v : Value} (t : Tk) (hv : v = t.val) (h : oneAt s q = .ok t p) (hc : Cutter w' g A s.size c at_ B) (ha : at_ = p) (hB : B = -1) (hu : Upd g w w') : OnePost A c s q g w (.returned v) w' :=
  ⟨t, by rw [hv], hu, .inr ⟨p, h, ha ▸ hB ▸ hc⟩⟩
theorem tok_name {s : ByteArray} {q : Nat} (h : q < s.size) (hc : classI (bt s q) = 2) : oneAt s q = nameAt s q := by unfold oneAt tokAt; rw [if_neg (by omega), if_pos hc]
theorem tok_num {s : ByteArray} {q : Nat} (h : q < s.size) (hc : classI (bt s q) = 4) : oneAt s q = numberAt s q := by unfold oneAt tokAt; rw [if_neg (by omega), if_neg (by omega), if_pos hc]
theorem tok_text {s : ByteArray} {q : Nat} (h : q < s.size) (hc : classI (bt s q) = 5) : oneAt s q = textAt s q := by unfold oneAt tokAt; rw [if_neg (by omega), if_neg (by omega), if_neg (by omega), if_pos hc]
theorem tok_mark {s : ByteArray} {q : Nat} (h : q < s.size) (h1 : classI (bt s q) ≠ 2) (h2 : classI (bt s q) ≠ 4) (h3 : classI (bt s q) ≠ 5) : oneAt s q = markAt s q := by unfold oneAt tokAt; rw [if_neg (by omega), if_neg h1, if_neg h2, if_neg h3]
theorem cls4 (c : Int) : (smallI c = true ∧ classI c = 2) ∨ (smallI c = false ∧ digitI c = true ∧ classI c = 4) ∨ (smallI c = false ∧ digitI c = false ∧ c = 34 ∧ classI c = 5) ∨
    (smallI c = false ∧ digitI c = false ∧ (c == 34) = false ∧ classI c ≠ 2 ∧ classI c ≠ 4 ∧ classI c ≠ 5) := by
  have key : partI c = false → smallI c = false ∧ digitI c = false := by
    intro h
    unfold partI at h
    simp only [Bool.or_eq_false_iff] at h
    exact ⟨h.1.1, h.2⟩
  rcases class_cases c with ⟨hb, a, hp⟩ | ⟨_, hS, a, _⟩ | ⟨_, hS, hg, a, _⟩ | ⟨_, hS, _, hD, a, _⟩ | ⟨_, hS, _, hD, hq, a, _⟩ | ⟨_, hS, _, hD, hq, a, _⟩
  · obtain ⟨h1, h2⟩ := key hp
    refine .inr (.inr (.inr ⟨h1, h2, ?_, by omega, by omega, by omega⟩))
    refine ne_b ?_
    rintro rfl
    revert hb
    decide
  · exact .inl ⟨hS, a⟩
  · have hD : digitI c = false := by
      simp only [greatI, Bool.or_eq_true, Bool.and_eq_true, decide_eq_true_eq, beq_iff_eq] at hg
      simp only [digitI, Bool.and_eq_false_iff, decide_eq_false_iff_not]
      omega
    refine .inr (.inr (.inr ⟨hS, hD, ?_, by omega, by omega, by omega⟩))
    refine ne_b ?_
    rintro rfl
    revert hg
    decide
  · exact .inr (.inl ⟨hS, hD, a⟩)
  · exact .inr (.inr (.inl ⟨hS, hD, hq, a⟩))
  · exact .inr (.inr (.inr ⟨hS, hD, hq, by omega, by omega, by omega⟩))
theorem name_eq (s : ByteArray) (q : Nat) : nameAt s q = if 32 < whileOf partI s q - q then .bad q else .ok ⟨1, s.extract q (whileOf partI s q), 0, q⟩ (whileOf partI s q) := rfl
theorem num_eq (s : ByteArray) (q : Nat) : (∃ p : Nat, numberAt s q = .bad p ∧ numBad s q (digTo s q) (-1) = p) ∨ (numberAt s q = .ok ⟨2, empB, (valRes s q (digTo s q - q)).1, q⟩ (digTo s q) ∧ numBad s q (digTo s q) (-1) = -1) := by
  unfold numberAt numBad valRes
  by_cases h1 : 9223372036854775807 < numOf s q (digTo s q - q)
  · exact .inl ⟨q, by simp only [if_pos h1], by rw [if_pos h1]⟩
  · by_cases h2 : digTo s q < s.size ∧ partI (bt s (digTo s q)) = true
    · exact .inl ⟨digTo s q, by simp only [if_neg h1, if_pos h2], by rw [if_neg h1, if_pos h2]⟩
    · exact .inr ⟨by simp only [if_neg h1, if_neg h2], by rw [if_neg h1, if_neg h2]⟩
theorem text_bad {s : ByteArray} {q p : Nat} (h : textRes s q = (none, p)) : textAt s q = .bad p := by
  unfold textRes at h
  unfold textAt
  rw [h]
theorem text_ok {s : ByteArray} {q p : Nat} {out : List UInt8} (h : textRes s q = (some out, p)) : textAt s q = .ok ⟨3, ⟨out.toArray⟩, 0, q⟩ p := by
  unfold textRes at h
  unfold textAt
  rw [h]
theorem mark_none {s : ByteArray} {q : Nat} (h : firstM s q marksL = none) : markAt s q = .bad q := by
  rw [firstM_mark] at h
  unfold markAt
  split at h
  · rename_i h1; rw [if_pos h1]
  · cases h
theorem mark_some {s : ByteArray} {q : Nat} {m : List UInt8} (hq : q < s.size) (h : firstM s q marksL = some m) : markAt s q = .ok ⟨4, ⟨m.toArray⟩, 0, q⟩ (q + m.length) := by
  rw [firstM_mark] at h
  unfold markAt
  split at h
  · cases h
  · rename_i h1
    rw [if_neg h1]
    have hm := Option.some.inj h
    have hl : m.length = markLen s q := by
      rw [← hm, Array.length_toList]
      show (s.extract q (q + markLen s q)).size = _
      rw [ByteArray.size_extract]
      have := (markLen_bd hq).2
      omega
    rw [hl, ← hm]
set_option maxRecDepth 100000 in
set_option maxHeartbeats 16000000 in
theorem one_any (A : Option Addr) (c : Nat) (s : ByteArray) (q g : Nat) (w : World) (hs : Src w A s) (hc : s.size ≤ c) (hn : s.size ≤ 65536) (hA : 0 < s.size → ∀ b o, A = some ⟨b, o, none⟩ → b < g) (hq : q ≤ s.size) (hg : Cutter w g A s.size c q (-1)) :
    Calls Tryd.prog 28 #[.pointer (some ⟨g, 0, none⟩)] w (OnePost A c s q g w) := by
  obtain ⟨n, hns⟩ : ∃ n, n = s.size := ⟨_, rfl⟩
  have HN := Lib.hid hns
  have k0 := hg.cell 0
  have k1 := hg.cell 1
  simp at k0 k1
  have hgl := hg.lt
  obtain ⟨w1, hw1⟩ : ∃ w1, w1 = (w.alloc (.cells #[.int .i8 0, .string ⟨#[]⟩, .int .i64 0, .int .i64 0] 65)).alloc (.cells #[.int .i8 0, .string ⟨#[]⟩, .int .i64 0, .int .i64 q] 65) := ⟨_, rfl⟩
  obtain ⟨R, hR⟩ : ∃ R, R = w.heap.size := ⟨_, rfl⟩
  have hb1 : Below w.heap.size w w1 := by rw [hw1]; exact G.bl_alloc (G.bl_alloc (Below.refl _ _) _) _
  have HU1 := Lib.hid (show Upd g w w1 from Upd.below hb1 (Nat.le_of_lt hgl))
  have HG1 := Lib.hid (show Cutter w1 g A s.size c q (-1) from hg.below hb1 hgl)
  have HBR1 := Lib.hid (show G.Blk w1 R 65 #[.int .i8 0, .string ⟨#[]⟩, .int .i64 0, .int .i64 0] by rw [hw1, hR]; exact (G.Blk.new w 65 #[.int .i8 0, .string ⟨#[]⟩, .int .i64 0, .int .i64 0]).below (G.bl_alloc (Below.refl _ _) _) (by simp))
  have HBT1 := Lib.hid (show G.Blk w1 (R + 1) 65 #[.int .i8 0, .string ⟨#[]⟩, .int .i64 0, .int .i64 q] by
    have := G.Blk.new (w.alloc (.cells #[.int .i8 0, .string ⟨#[]⟩, .int .i64 0, .int .i64 0] 65)) 65 #[.int .i8 0, .string ⟨#[]⟩, .int .i64 0, .int .i64 q]
    rw [show (w.alloc (.cells #[.int .i8 0, .string ⟨#[]⟩, .int .i64 0, .int .i64 0] 65)).heap.size = R + 1 by simp [hR]] at this
    rw [hw1]
    exact this)
  have HSR := Lib.hid (fun W (h : Upd g w W) => src_upd hs hA h.1)
  have HC := Lib.hid hc
  have HA := Lib.hid hA
  have hgR : g < R := by omega
  have hRn : R ≠ g := by omega
  have hRn2 : R + 1 ≠ g := by omega
  have HGR := Lib.hid hRn
  have HGR2 := Lib.hid hRn2
  rw [← hns] at hn hq k0
  clear hs hc hA hb1 hRn hRn2 hg
  have hW1 := Lib.hid hw1
  have HR := Lib.hid hR
  clear hw1 hR hns
  have hq0 : (0 : Int) ≤ q := by omega
  have hnI : (n : Int) ≤ 65536 := by omega
  go_enter Tryd.func28, Tryd.ntmps28
  go_upto_region 2 with (fail)
  rw [← HR.out, ← hW1.out]
  have HGR3 := Lib.hid (show w.heap.size ≤ R by rw [HR.out]; exact Nat.le_refl _)
  clear k0 k1 hgl
  have k0 := HG1.out.cell 0
  have k1 := HG1.out.cell 1
  simp at k0 k1
  rw [← HN.out] at k0
  by_cases hlt : q < n
  · have hqn1 : ((q : Int) == n) = false := ne_b (by omega)
    have hltI : (q : Int) < n := by omega
    obtain ⟨b, o, hAe, _, _, _⟩ := (HSR.out w1 HU1.out).at (i := q) (by rw [← HN.out]; exact hlt)
    subst hAe
    have HCB := Lib.hid (fun W (hu : Upd g w W) => show W.cell? ⟨b, o + q, none⟩ = some (.int .u8 (bt s q)) by
      obtain ⟨b', o', he, _, _, hc'⟩ := (HSR.out W hu).at (i := q) (by rw [← HN.out]; exact hlt)
      cases he
      exact hc')
    go_quiet (fail)
    obtain ⟨w2, hw4⟩ : ∃ w4, w4 = w1.drewN nq := ⟨_, rfl⟩
    have HU2 := Lib.hid (show Upd g w w2 by rw [hw4]; exact HU1.out.trans (Upd.drewN g _ nq))
    have HG2 := Lib.hid (show Cutter w2 g (some ⟨b, o, none⟩) s.size c q (-1) by rw [hw4]; exact HG1.out.below (G.bl_drewN (Below.refl _ _) nq) HG1.out.lt)
    have HBR2 := Lib.hid (show G.Blk w2 R 65 #[.int .i8 0, .string ⟨#[]⟩, .int .i64 0, .int .i64 0] by rw [hw4]; exact HBR1.out.below (G.bl_drewN (Below.refl _ _) nq) HBR1.out.lt)
    have HBT2 := Lib.hid (show G.Blk w2 (R + 1) 65 #[.int .i8 0, .string ⟨#[]⟩, .int .i64 0, .int .i64 q] by rw [hw4]; exact HBT1.out.below (G.bl_drewN (Below.refl _ _) nq) HBT1.out.lt)
    go_upto_region 4 with (fail)
    rw [← hw4]
    clear hw4 k0 k1
    have k0 := HG2.out.cell 0
    have k1 := HG2.out.cell 1
    have hcz := HCB.out w2 HU2.out
    simp at k0 k1
    rw [← HN.out] at k0
    go_quiet (fail)
    obtain ⟨w3, hw4⟩ : ∃ w4, w4 = w2.drewN nq := ⟨_, rfl⟩
    have HU3 := Lib.hid (show Upd g w w3 by rw [hw4]; exact HU2.out.trans (Upd.drewN g _ nq))
    have HG3 := Lib.hid (show Cutter w3 g (some ⟨b, o, none⟩) s.size c q (-1) by rw [hw4]; exact HG2.out.below (G.bl_drewN (Below.refl _ _) nq) HG2.out.lt)
    have HBR3 := Lib.hid (show G.Blk w3 R 65 #[.int .i8 0, .string ⟨#[]⟩, .int .i64 0, .int .i64 0] by rw [hw4]; exact HBR2.out.below (G.bl_drewN (Below.refl _ _) nq) HBR2.out.lt)
    have HBT3 := Lib.hid (show G.Blk w3 (R + 1) 65 #[.int .i8 0, .string ⟨#[]⟩, .int .i64 0, .int .i64 q] by rw [hw4]; exact HBT2.out.below (G.bl_drewN (Below.refl _ _) nq) HBT2.out.lt)
    go_upto_region 7 with (fail)
    rw [← hw4]
    clear hw4 k0 k1
    have HSM := Lib.hid (fun W => refSmall_any (bt s q) W)
    have HDG := Lib.hid (fun W => refDigit_any (bt s q) W)
    have hbr := bt_range s q
    have HEX := Lib.hid (show ∃ y, y = bt s q from ⟨_, rfl⟩)
    have hcc := cls4 (bt s q)
    rcases hcc with ⟨hS, a⟩ | ⟨hS, hD, a⟩ | ⟨hS, hD, hq34, a⟩ | ⟨hS, hD, hq34, a, a2, a3⟩
    · have HO := Lib.hid (tok_name (by rw [← HN.out]; exact hlt) a)
      have HP := Lib.hid (show partI (bt s q) = true by unfold partI; rw [hS]; rfl)
      rw [hS] at HSM
      clear a hS
      generalize bt s q = y at HSM HDG HCB
      go_upto_region 8 with (first | (go_at_call 56; refine (HSM.out _).mono ?_; rintro e wq ⟨rfl, rfl⟩) | (go_at_call 58; refine (HDG.out _).mono ?_; rintro e wq ⟨rfl, rfl⟩))
      have z0 := HBT3.out.cell 0
      have v0 := HBT3.out.frozen 0
      simp at z0
      obtain ⟨w4, hw4⟩ : ∃ w4, w4 = w3.setCell ⟨R + 1, 0, none⟩ (.int .i8 1) := ⟨_, rfl⟩
      have HU4 := Lib.hid (show Upd g w w4 by rw [hw4]; exact HU3.out.far (by have := HGR3.out; omega) 0 _)
      have HG4 := Lib.hid (show Cutter w4 g (some ⟨b, o, none⟩) s.size c q (-1) by rw [hw4]; exact HG3.out.same (Below.heap_setCell _ _ _ _ (Ne.symm HGR2.out)))
      have HBR4 := Lib.hid (show G.Blk w4 R 65 #[.int .i8 0, .string ⟨#[]⟩, .int .i64 0, .int .i64 0] by rw [hw4]; exact HBR3.out.same (Below.heap_setCell _ _ _ _ (by simp)))
      have HBT4 := Lib.hid (show G.Blk w4 (R + 1) 65 #[.int .i8 1, .string ⟨#[]⟩, .int .i64 0, .int .i64 q] by rw [hw4]; exact HBT3.out.put 0 _)
      go_upto_region 9 with (fail)
      rw [← hw4]
      clear hw4 z0 v0
      go_wp2_with fail
      refine (name_any _ c s q _ g (-1) w4 (HSR.out _ HU4.out) HC.out (by rw [← HN.out]; exact hn) HA.out (by rw [← HN.out]; exact hlt) HP.out rfl HG4.out).mono ?_
      rintro e w5 he
      unfold NamePost at he
      obtain ⟨rfl, hC5, hU5⟩ := he
      obtain ⟨Q, hQ⟩ : ∃ Q, Q = whileOf partI s q := ⟨_, rfl⟩
      have HQ := Lib.hid hQ
      rw [← hQ] at hC5 ⊢
      clear hQ
      obtain ⟨X, hX⟩ : ∃ X, X = s.extract q Q := ⟨_, rfl⟩
      have HX := Lib.hid hX
      rw [← hX]
      clear hX
      have HU6 := Lib.hid (HU4.out.trans hU5)
      have HBR6 := Lib.hid (Upd.blk hU5 HBR4.out HGR.out)
      have HBT6 := Lib.hid (Upd.blk hU5 HBT4.out HGR2.out)
      have HC6 := Lib.hid hC5
      clear hU5 hC5
      have z1 := HBT6.out.cell 1
      have v1 := HBT6.out.frozen 1
      simp at z1
      obtain ⟨w7, hw7⟩ : ∃ w7, w7 = w5.setCell ⟨R + 1, 1, none⟩ (.string X) := ⟨_, rfl⟩
      have HU7 := Lib.hid (show Upd g w w7 by rw [hw7]; exact HU6.out.far (by have := HGR3.out; omega) 1 _)
      have HC7 := Lib.hid (HC6.out.same (w' := w7) (by rw [hw7]; exact Below.heap_setCell _ _ _ _ (Ne.symm HGR2.out)))
      have HBR7 := Lib.hid (show G.Blk w7 R 65 #[.int .i8 0, .string ⟨#[]⟩, .int .i64 0, .int .i64 0] by rw [hw7]; exact HBR6.out.same (Below.heap_setCell _ _ _ _ (by simp)))
      have HBT7 := Lib.hid (show G.Blk w7 (R + 1) 65 #[.int .i8 1, .string X, .int .i64 0, .int .i64 q] by rw [hw7]; exact HBT6.out.put 1 _)
      go_upto_region 16 with (fail)
      rw [← hw7]
      clear hw7 z1 v1
      have z0 := HBT7.out.cell 0
      have y0 := HBR7.out.cell 0
      have x0 := HBR7.out.frozen 0
      have v0 := HBT7.out.frozen 0
      have z1 := HBT7.out.cell 1
      have y1 := HBR7.out.cell 1
      have x1 := HBR7.out.frozen 1
      have v1 := HBT7.out.frozen 1
      have z2 := HBT7.out.cell 2
      have y2 := HBR7.out.cell 2
      have x2 := HBR7.out.frozen 2
      have v2 := HBT7.out.frozen 2
      have z3 := HBT7.out.cell 3
      have y3 := HBR7.out.cell 3
      have x3 := HBR7.out.frozen 3
      have v3 := HBT7.out.frozen 3
      simp at z0 z1 z2 z3 y0 y1 y2 y3
      go_wp2_with fail
      obtain ⟨wz, hwz⟩ : ∃ wz, wz = ((((w7).setCell ⟨R, 0, none⟩ (.int .i8 1)).setCell ⟨R, 1, none⟩ (.string X)).setCell ⟨R, 2, none⟩ (.int .i64 0)).setCell ⟨R, 3, none⟩ (.int .i64 q) := ⟨_, rfl⟩
      have HBZ := Lib.hid (show G.Blk wz R 65 #[.int .i8 1, .string X, .int .i64 0, .int .i64 q] by rw [hwz]; exact (((HBR7.out.put 0 _).put 1 _).put 2 _).put 3 _)
      have HUZ := Lib.hid (show Upd g w wz by rw [hwz]; exact (((HU7.out.far HGR3.out 0 _).far HGR3.out 1 _).far HGR3.out 2 _).far HGR3.out 3 _)
      have hhz : wz.heap[g]? = w7.heap[g]? := by rw [hwz]; exact (Below.heap_setCell _ _ _ _ (Ne.symm HGR.out)).trans ((Below.heap_setCell _ _ _ _ (Ne.symm HGR.out)).trans ((Below.heap_setCell _ _ _ _ (Ne.symm HGR.out)).trans (Below.heap_setCell _ _ _ _ (Ne.symm HGR.out))))
      have HCZ := Lib.hid (HC7.out.same hhz)
      rw [← hwz]
      clear hwz hhz
      have r0 := HBZ.out.cell 0
      have r1 := HBZ.out.cell 1
      have r2 := HBZ.out.cell 2
      have r3 := HBZ.out.cell 3
      simp at r0 r1 r2 r3
      refine bodyPost_ret (v := .agg #[.int .i8 1, .string X, .int .i64 0, .int .i64 q]) (by simp [results, Tryd.results28, go_sem, r0, r1, r2, r3]) rfl ?_
      have HO2 := HO.out
      rw [name_eq, ← HQ.out] at HO2
      by_cases h32 : 32 < Q - q
      · rw [if_pos h32] at HO2
        exact one_bad ⟨1, X, 0, q⟩ rfl HO2 HCZ.out (if_pos h32) HUZ.out
      · rw [if_neg h32, ← HX.out] at HO2
        exact one_ok ⟨1, X, 0, q⟩ rfl HO2 HCZ.out rfl (if_neg h32) HUZ.out
    · have HO := Lib.hid (tok_num (by rw [← HN.out]; exact hlt) a)
      have HP := Lib.hid hD
      rw [hS] at HSM
      rw [hD] at HDG
      clear a hS hD
      generalize bt s q = y at HSM HDG HCB
      go_upto_region 11 with (first | (go_at_call 56; refine (HSM.out _).mono ?_; rintro e wq ⟨rfl, rfl⟩) | (go_at_call 58; refine (HDG.out _).mono ?_; rintro e wq ⟨rfl, rfl⟩))
      have z0 := HBT3.out.cell 0
      have v0 := HBT3.out.frozen 0
      simp at z0
      obtain ⟨w4, hw4⟩ : ∃ w4, w4 = w3.setCell ⟨R + 1, 0, none⟩ (.int .i8 2) := ⟨_, rfl⟩
      have HU4 := Lib.hid (show Upd g w w4 by rw [hw4]; exact HU3.out.far (by have := HGR3.out; omega) 0 _)
      have HG4 := Lib.hid (show Cutter w4 g (some ⟨b, o, none⟩) s.size c q (-1) by rw [hw4]; exact HG3.out.same (Below.heap_setCell _ _ _ _ (Ne.symm HGR2.out)))
      have HBR4 := Lib.hid (show G.Blk w4 R 65 #[.int .i8 0, .string ⟨#[]⟩, .int .i64 0, .int .i64 0] by rw [hw4]; exact HBR3.out.same (Below.heap_setCell _ _ _ _ (by simp)))
      have HBT4 := Lib.hid (show G.Blk w4 (R + 1) 65 #[.int .i8 2, .string ⟨#[]⟩, .int .i64 0, .int .i64 q] by rw [hw4]; exact HBT3.out.put 0 _)
      go_upto_region 12 with (fail)
      rw [← hw4]
      clear hw4 z0 v0
      go_wp2_with fail
      refine (refNumber_any _ c s q _ g (-1) w4 (HSR.out _ HU4.out) HC.out (by rw [← HN.out]; exact hn) HA.out (by rw [← HN.out]; exact hlt) HP.out rfl HG4.out).mono ?_
      rintro e w5 he
      unfold RNumPost at he
      obtain ⟨rfl, hC5, hU5⟩ := he
      obtain ⟨X, hX⟩ : ∃ X, X = (valRes s q (digTo s q - q)).1 := ⟨_, rfl⟩
      have HX := Lib.hid hX
      rw [← hX]
      clear hX
      have HU6 := Lib.hid (HU4.out.trans hU5)
      have HBR6 := Lib.hid (Upd.blk hU5 HBR4.out HGR.out)
      have HBT6 := Lib.hid (Upd.blk hU5 HBT4.out HGR2.out)
      have HC6 := Lib.hid hC5
      clear hU5 hC5
      have z2 := HBT6.out.cell 2
      have v2 := HBT6.out.frozen 2
      simp at z2
      obtain ⟨w7, hw7⟩ : ∃ w7, w7 = w5.setCell ⟨R + 1, 2, none⟩ (.int .i64 X) := ⟨_, rfl⟩
      have HU7 := Lib.hid (show Upd g w w7 by rw [hw7]; exact HU6.out.far (by have := HGR3.out; omega) 2 _)
      have HC7 := Lib.hid (HC6.out.same (w' := w7) (by rw [hw7]; exact Below.heap_setCell _ _ _ _ (Ne.symm HGR2.out)))
      have HBR7 := Lib.hid (show G.Blk w7 R 65 #[.int .i8 0, .string ⟨#[]⟩, .int .i64 0, .int .i64 0] by rw [hw7]; exact HBR6.out.same (Below.heap_setCell _ _ _ _ (by simp)))
      have HBT7 := Lib.hid (show G.Blk w7 (R + 1) 65 #[.int .i8 2, .string ⟨#[]⟩, .int .i64 X, .int .i64 q] by rw [hw7]; exact HBT6.out.put 2 _)
      go_upto_region 16 with (fail)
      rw [← hw7]
      clear hw7 z2 v2
      have z0 := HBT7.out.cell 0
      have y0 := HBR7.out.cell 0
      have x0 := HBR7.out.frozen 0
      have v0 := HBT7.out.frozen 0
      have z1 := HBT7.out.cell 1
      have y1 := HBR7.out.cell 1
      have x1 := HBR7.out.frozen 1
      have v1 := HBT7.out.frozen 1
      have z2 := HBT7.out.cell 2
      have y2 := HBR7.out.cell 2
      have x2 := HBR7.out.frozen 2
      have v2 := HBT7.out.frozen 2
      have z3 := HBT7.out.cell 3
      have y3 := HBR7.out.cell 3
      have x3 := HBR7.out.frozen 3
      have v3 := HBT7.out.frozen 3
      simp at z0 z1 z2 z3 y0 y1 y2 y3
      go_wp2_with fail
      obtain ⟨wz, hwz⟩ : ∃ wz, wz = ((((w7).setCell ⟨R, 0, none⟩ (.int .i8 2)).setCell ⟨R, 1, none⟩ (.string ⟨#[]⟩)).setCell ⟨R, 2, none⟩ (.int .i64 X)).setCell ⟨R, 3, none⟩ (.int .i64 q) := ⟨_, rfl⟩
      have HBZ := Lib.hid (show G.Blk wz R 65 #[.int .i8 2, .string ⟨#[]⟩, .int .i64 X, .int .i64 q] by rw [hwz]; exact (((HBR7.out.put 0 _).put 1 _).put 2 _).put 3 _)
      have HUZ := Lib.hid (show Upd g w wz by rw [hwz]; exact (((HU7.out.far HGR3.out 0 _).far HGR3.out 1 _).far HGR3.out 2 _).far HGR3.out 3 _)
      have hhz : wz.heap[g]? = w7.heap[g]? := by rw [hwz]; exact (Below.heap_setCell _ _ _ _ (Ne.symm HGR.out)).trans ((Below.heap_setCell _ _ _ _ (Ne.symm HGR.out)).trans ((Below.heap_setCell _ _ _ _ (Ne.symm HGR.out)).trans (Below.heap_setCell _ _ _ _ (Ne.symm HGR.out))))
      have HCZ := Lib.hid (HC7.out.same hhz)
      rw [← hwz]
      clear hwz hhz
      have r0 := HBZ.out.cell 0
      have r1 := HBZ.out.cell 1
      have r2 := HBZ.out.cell 2
      have r3 := HBZ.out.cell 3
      simp at r0 r1 r2 r3
      refine bodyPost_ret (v := .agg #[.int .i8 2, .string ⟨#[]⟩, .int .i64 X, .int .i64 q]) (by simp [results, Tryd.results28, go_sem, r0, r1, r2, r3]) rfl ?_
      rcases num_eq s q with ⟨p, h1, h2⟩ | ⟨h1, h2⟩
      · exact one_bad ⟨2, empB, X, q⟩ rfl (HO.out.trans h1) HCZ.out h2 HUZ.out
      · exact one_ok ⟨2, empB, X, q⟩ rfl (by rw [HX.out]; exact HO.out.trans h1) HCZ.out rfl h2 HUZ.out
    · have HO := Lib.hid (tok_text (by rw [← HN.out]; exact hlt) a)
      rw [hS] at HSM
      rw [hD] at HDG
      rw [hq34] at HCB HSM HDG ⊢
      clear a hS hD hq34 hbr
      go_upto_region 14 with (first | (go_at_call 56; refine (HSM.out _).mono ?_; rintro e wq ⟨rfl, rfl⟩) | (go_at_call 58; refine (HDG.out _).mono ?_; rintro e wq ⟨rfl, rfl⟩))
      have z0 := HBT3.out.cell 0
      have v0 := HBT3.out.frozen 0
      simp at z0
      obtain ⟨w4, hw4⟩ : ∃ w4, w4 = w3.setCell ⟨R + 1, 0, none⟩ (.int .i8 3) := ⟨_, rfl⟩
      have HU4 := Lib.hid (show Upd g w w4 by rw [hw4]; exact HU3.out.far (by have := HGR3.out; omega) 0 _)
      have HG4 := Lib.hid (show Cutter w4 g (some ⟨b, o, none⟩) s.size c q (-1) by rw [hw4]; exact HG3.out.same (Below.heap_setCell _ _ _ _ (Ne.symm HGR2.out)))
      have HBR4 := Lib.hid (show G.Blk w4 R 65 #[.int .i8 0, .string ⟨#[]⟩, .int .i64 0, .int .i64 0] by rw [hw4]; exact HBR3.out.same (Below.heap_setCell _ _ _ _ (by simp)))
      have HBT4 := Lib.hid (show G.Blk w4 (R + 1) 65 #[.int .i8 3, .string ⟨#[]⟩, .int .i64 0, .int .i64 q] by rw [hw4]; exact HBT3.out.put 0 _)
      go_upto_region 15 with (fail)
      rw [← hw4]
      clear hw4 z0 v0
      go_wp2_with fail
      refine (refText_any _ c s q g (-1) w4 (HSR.out _ HU4.out) HC.out (by rw [← HN.out]; exact hn) HA.out (by rw [← HN.out]; exact hlt) HG4.out).mono ?_
      rintro e w5 he
      unfold RTextPost at he
      obtain ⟨X, rfl, hU5, hcase⟩ := he
      obtain ⟨at_, B, hC5, HF⟩ : ∃ at_ B, Cutter w5 g (some ⟨b, o, none⟩) s.size c at_ B ∧ Hid ((∃ p : Nat, textRes s q = (none, p) ∧ B = p) ∨ (∃ out p, textRes s q = (some out, p) ∧ X = ⟨out.toArray⟩ ∧ at_ = p ∧ B = -1)) := by
        rcases hcase with ⟨p, at_, h1, h2⟩ | ⟨out, p, h1, h2, h3⟩
        · exact ⟨_, _, h2, Lib.hid (.inl ⟨p, h1, rfl⟩)⟩
        · exact ⟨_, _, h3, Lib.hid (.inr ⟨out, p, h1, h2, rfl, rfl⟩)⟩
      clear hcase
      have HU6 := Lib.hid (HU4.out.trans hU5)
      have HBR6 := Lib.hid (Upd.blk hU5 HBR4.out HGR.out)
      have HBT6 := Lib.hid (Upd.blk hU5 HBT4.out HGR2.out)
      have HC6 := Lib.hid hC5
      clear hU5 hC5
      have z1 := HBT6.out.cell 1
      have v1 := HBT6.out.frozen 1
      simp at z1
      obtain ⟨w7, hw7⟩ : ∃ w7, w7 = w5.setCell ⟨R + 1, 1, none⟩ (.string X) := ⟨_, rfl⟩
      have HU7 := Lib.hid (show Upd g w w7 by rw [hw7]; exact HU6.out.far (by have := HGR3.out; omega) 1 _)
      have HC7 := Lib.hid (HC6.out.same (w' := w7) (by rw [hw7]; exact Below.heap_setCell _ _ _ _ (Ne.symm HGR2.out)))
      have HBR7 := Lib.hid (show G.Blk w7 R 65 #[.int .i8 0, .string ⟨#[]⟩, .int .i64 0, .int .i64 0] by rw [hw7]; exact HBR6.out.same (Below.heap_setCell _ _ _ _ (by simp)))
      have HBT7 := Lib.hid (show G.Blk w7 (R + 1) 65 #[.int .i8 3, .string X, .int .i64 0, .int .i64 q] by rw [hw7]; exact HBT6.out.put 1 _)
      go_upto_region 16 with (fail)
      rw [← hw7]
      clear hw7 z1 v1
      have z0 := HBT7.out.cell 0
      have y0 := HBR7.out.cell 0
      have x0 := HBR7.out.frozen 0
      have v0 := HBT7.out.frozen 0
      have z1 := HBT7.out.cell 1
      have y1 := HBR7.out.cell 1
      have x1 := HBR7.out.frozen 1
      have v1 := HBT7.out.frozen 1
      have z2 := HBT7.out.cell 2
      have y2 := HBR7.out.cell 2
      have x2 := HBR7.out.frozen 2
      have v2 := HBT7.out.frozen 2
      have z3 := HBT7.out.cell 3
      have y3 := HBR7.out.cell 3
      have x3 := HBR7.out.frozen 3
      have v3 := HBT7.out.frozen 3
      simp at z0 z1 z2 z3 y0 y1 y2 y3
      go_wp2_with fail
      obtain ⟨wz, hwz⟩ : ∃ wz, wz = ((((w7).setCell ⟨R, 0, none⟩ (.int .i8 3)).setCell ⟨R, 1, none⟩ (.string X)).setCell ⟨R, 2, none⟩ (.int .i64 0)).setCell ⟨R, 3, none⟩ (.int .i64 q) := ⟨_, rfl⟩
      have HBZ := Lib.hid (show G.Blk wz R 65 #[.int .i8 3, .string X, .int .i64 0, .int .i64 q] by rw [hwz]; exact (((HBR7.out.put 0 _).put 1 _).put 2 _).put 3 _)
      have HUZ := Lib.hid (show Upd g w wz by rw [hwz]; exact (((HU7.out.far HGR3.out 0 _).far HGR3.out 1 _).far HGR3.out 2 _).far HGR3.out 3 _)
      have hhz : wz.heap[g]? = w7.heap[g]? := by rw [hwz]; exact (Below.heap_setCell _ _ _ _ (Ne.symm HGR.out)).trans ((Below.heap_setCell _ _ _ _ (Ne.symm HGR.out)).trans ((Below.heap_setCell _ _ _ _ (Ne.symm HGR.out)).trans (Below.heap_setCell _ _ _ _ (Ne.symm HGR.out))))
      have HCZ := Lib.hid (HC7.out.same hhz)
      rw [← hwz]
      clear hwz hhz
      have r0 := HBZ.out.cell 0
      have r1 := HBZ.out.cell 1
      have r2 := HBZ.out.cell 2
      have r3 := HBZ.out.cell 3
      simp at r0 r1 r2 r3
      refine bodyPost_ret (v := .agg #[.int .i8 3, .string X, .int .i64 0, .int .i64 q]) (by simp [results, Tryd.results28, go_sem, r0, r1, r2, r3]) rfl ?_
      rcases HF.out with ⟨p, h1, h2⟩ | ⟨out, p, h1, h2, h3, h4⟩
      · exact one_bad ⟨3, X, 0, q⟩ rfl (HO.out.trans (text_bad h1)) HCZ.out h2 HUZ.out
      · exact one_ok ⟨3, X, 0, q⟩ rfl (by rw [h2]; exact HO.out.trans (text_ok h1)) HCZ.out h3 h4 HUZ.out
    · have HO := Lib.hid (tok_mark (by rw [← HN.out]; exact hlt) a a2 a3)
      rw [hS] at HSM
      rw [hD] at HDG
      clear a a2 a3 hS hD
      generalize bt s q = y at HSM HDG HCB hq34
      go_upto_region 5 with (first | (go_at_call 56; refine (HSM.out _).mono ?_; rintro e wq ⟨rfl, rfl⟩) | (go_at_call 58; refine (HDG.out _).mono ?_; rintro e wq ⟨rfl, rfl⟩))
      have z0 := HBT3.out.cell 0
      have v0 := HBT3.out.frozen 0
      simp at z0
      obtain ⟨w4, hw4⟩ : ∃ w4, w4 = w3.setCell ⟨R + 1, 0, none⟩ (.int .i8 4) := ⟨_, rfl⟩
      have HU4 := Lib.hid (show Upd g w w4 by rw [hw4]; exact HU3.out.far (by have := HGR3.out; omega) 0 _)
      have HG4 := Lib.hid (show Cutter w4 g (some ⟨b, o, none⟩) s.size c q (-1) by rw [hw4]; exact HG3.out.same (Below.heap_setCell _ _ _ _ (Ne.symm HGR2.out)))
      have HBR4 := Lib.hid (show G.Blk w4 R 65 #[.int .i8 0, .string ⟨#[]⟩, .int .i64 0, .int .i64 0] by rw [hw4]; exact HBR3.out.same (Below.heap_setCell _ _ _ _ (by simp)))
      have HBT4 := Lib.hid (show G.Blk w4 (R + 1) 65 #[.int .i8 4, .string ⟨#[]⟩, .int .i64 0, .int .i64 q] by rw [hw4]; exact HBT3.out.put 0 _)
      go_upto_region 6 with (fail)
      rw [← hw4]
      clear hw4 z0 v0
      go_wp2_with fail
      refine (refMark_any _ c s q g (-1) w4 (HSR.out _ HU4.out) HC.out (by rw [← HN.out]; exact hn) HA.out (by rw [← HN.out]; exact hq) HG4.out).mono ?_
      rintro e w5 he
      unfold RMarkPost at he
      obtain ⟨X, at_, B, rfl, hU5, hC5, HF⟩ : ∃ X at_ B, e = .returned (.string X) ∧ Upd g w4 w5 ∧ Cutter w5 g (some ⟨b, o, none⟩) s.size c at_ B ∧ Hid ((∃ p : Nat, markAt s q = .bad p ∧ B = p) ∨ (∃ p : Nat, markAt s q = .ok ⟨4, X, 0, q⟩ p ∧ at_ = p ∧ B = -1)) := by
        rcases he with ⟨m, h1, h2, h3, h4⟩ | ⟨h1, h2, h3, h4⟩
        · exact ⟨_, _, _, h2, h4, h3, Lib.hid (.inr ⟨_, mark_some (by rw [← HN.out]; exact hlt) h1, by simp, rfl⟩)⟩
        · exact ⟨_, _, _, h2, h4, h3, Lib.hid (.inl ⟨_, mark_none h1, rfl⟩)⟩
      clear he
      have HU6 := Lib.hid (HU4.out.trans hU5)
      have HBR6 := Lib.hid (Upd.blk hU5 HBR4.out HGR.out)
      have HBT6 := Lib.hid (Upd.blk hU5 HBT4.out HGR2.out)
      have HC6 := Lib.hid hC5
      clear hU5 hC5
      have z1 := HBT6.out.cell 1
      have v1 := HBT6.out.frozen 1
      simp at z1
      obtain ⟨w7, hw7⟩ : ∃ w7, w7 = w5.setCell ⟨R + 1, 1, none⟩ (.string X) := ⟨_, rfl⟩
      have HU7 := Lib.hid (show Upd g w w7 by rw [hw7]; exact HU6.out.far (by have := HGR3.out; omega) 1 _)
      have HC7 := Lib.hid (HC6.out.same (w' := w7) (by rw [hw7]; exact Below.heap_setCell _ _ _ _ (Ne.symm HGR2.out)))
      have HBR7 := Lib.hid (show G.Blk w7 R 65 #[.int .i8 0, .string ⟨#[]⟩, .int .i64 0, .int .i64 0] by rw [hw7]; exact HBR6.out.same (Below.heap_setCell _ _ _ _ (by simp)))
      have HBT7 := Lib.hid (show G.Blk w7 (R + 1) 65 #[.int .i8 4, .string X, .int .i64 0, .int .i64 q] by rw [hw7]; exact HBT6.out.put 1 _)
      go_upto_region 16 with (fail)
      rw [← hw7]
      clear hw7 z1 v1
      have z0 := HBT7.out.cell 0
      have y0 := HBR7.out.cell 0
      have x0 := HBR7.out.frozen 0
      have v0 := HBT7.out.frozen 0
      have z1 := HBT7.out.cell 1
      have y1 := HBR7.out.cell 1
      have x1 := HBR7.out.frozen 1
      have v1 := HBT7.out.frozen 1
      have z2 := HBT7.out.cell 2
      have y2 := HBR7.out.cell 2
      have x2 := HBR7.out.frozen 2
      have v2 := HBT7.out.frozen 2
      have z3 := HBT7.out.cell 3
      have y3 := HBR7.out.cell 3
      have x3 := HBR7.out.frozen 3
      have v3 := HBT7.out.frozen 3
      simp at z0 z1 z2 z3 y0 y1 y2 y3
      go_wp2_with fail
      obtain ⟨wz, hwz⟩ : ∃ wz, wz = ((((w7).setCell ⟨R, 0, none⟩ (.int .i8 4)).setCell ⟨R, 1, none⟩ (.string X)).setCell ⟨R, 2, none⟩ (.int .i64 0)).setCell ⟨R, 3, none⟩ (.int .i64 q) := ⟨_, rfl⟩
      have HBZ := Lib.hid (show G.Blk wz R 65 #[.int .i8 4, .string X, .int .i64 0, .int .i64 q] by rw [hwz]; exact (((HBR7.out.put 0 _).put 1 _).put 2 _).put 3 _)
      have HUZ := Lib.hid (show Upd g w wz by rw [hwz]; exact (((HU7.out.far HGR3.out 0 _).far HGR3.out 1 _).far HGR3.out 2 _).far HGR3.out 3 _)
      have hhz : wz.heap[g]? = w7.heap[g]? := by rw [hwz]; exact (Below.heap_setCell _ _ _ _ (Ne.symm HGR.out)).trans ((Below.heap_setCell _ _ _ _ (Ne.symm HGR.out)).trans ((Below.heap_setCell _ _ _ _ (Ne.symm HGR.out)).trans (Below.heap_setCell _ _ _ _ (Ne.symm HGR.out))))
      have HCZ := Lib.hid (HC7.out.same hhz)
      rw [← hwz]
      clear hwz hhz
      have r0 := HBZ.out.cell 0
      have r1 := HBZ.out.cell 1
      have r2 := HBZ.out.cell 2
      have r3 := HBZ.out.cell 3
      simp at r0 r1 r2 r3
      refine bodyPost_ret (v := .agg #[.int .i8 4, .string X, .int .i64 0, .int .i64 q]) (by simp [results, Tryd.results28, go_sem, r0, r1, r2, r3]) rfl ?_
      rcases HF.out with ⟨p, h1, h2⟩ | ⟨p, h1, h2, h3⟩
      · exact one_bad ⟨4, X, 0, q⟩ rfl (HO.out.trans h1) HCZ.out h2 HUZ.out
      · exact one_ok ⟨4, X, 0, q⟩ rfl (HO.out.trans h1) HCZ.out h2 h3 HUZ.out
  · obtain rfl : n = q := by omega
    have HO := Lib.hid (show oneAt s n = .ok (endTk s) n by unfold oneAt; rw [if_pos (by have := HN.out; omega)])
    go_quiet (fail)
    obtain ⟨w2, hw4⟩ : ∃ w4, w4 = w1.drewN nq := ⟨_, rfl⟩
    have HU2 := Lib.hid (show Upd g w w2 by rw [hw4]; exact HU1.out.trans (Upd.drewN g _ nq))
    have HG2 := Lib.hid (show Cutter w2 g A s.size c n (-1) by rw [hw4]; exact HG1.out.below (G.bl_drewN (Below.refl _ _) nq) HG1.out.lt)
    have HBR2 := Lib.hid (show G.Blk w2 R 65 #[.int .i8 0, .string ⟨#[]⟩, .int .i64 0, .int .i64 0] by rw [hw4]; exact HBR1.out.below (G.bl_drewN (Below.refl _ _) nq) HBR1.out.lt)
    have HBT2 := Lib.hid (show G.Blk w2 (R + 1) 65 #[.int .i8 0, .string ⟨#[]⟩, .int .i64 0, .int .i64 n] by rw [hw4]; exact HBT1.out.below (G.bl_drewN (Below.refl _ _) nq) HBT1.out.lt)
    go_upto_region 3 with (fail)
    rw [← hw4]
    clear hw4 k0 k1
    have z0 := HBT2.out.cell 0
    have y0 := HBR2.out.cell 0
    have x0 := HBR2.out.frozen 0
    have v0 := HBT2.out.frozen 0
    have z1 := HBT2.out.cell 1
    have y1 := HBR2.out.cell 1
    have x1 := HBR2.out.frozen 1
    have v1 := HBT2.out.frozen 1
    have z2 := HBT2.out.cell 2
    have y2 := HBR2.out.cell 2
    have x2 := HBR2.out.frozen 2
    have v2 := HBT2.out.frozen 2
    have z3 := HBT2.out.cell 3
    have y3 := HBR2.out.cell 3
    have x3 := HBR2.out.frozen 3
    have v3 := HBT2.out.frozen 3
    simp at z0 z1 z2 z3 y0 y1 y2 y3
    go_wp2_with fail
    obtain ⟨wz, hwz⟩ : ∃ wz, wz = ((((w2).setCell ⟨R, 0, none⟩ (.int .i8 0)).setCell ⟨R, 1, none⟩ (.string ⟨#[]⟩)).setCell ⟨R, 2, none⟩ (.int .i64 0)).setCell ⟨R, 3, none⟩ (.int .i64 n) := ⟨_, rfl⟩
    have HBZ := Lib.hid (show G.Blk wz R 65 #[.int .i8 0, .string ⟨#[]⟩, .int .i64 0, .int .i64 n] by rw [hwz]; exact (((HBR2.out.put 0 _).put 1 _).put 2 _).put 3 _)
    have HUZ := Lib.hid (show Upd g w wz by rw [hwz]; exact (((HU2.out.far HGR3.out 0 _).far HGR3.out 1 _).far HGR3.out 2 _).far HGR3.out 3 _)
    have hhz : wz.heap[g]? = w2.heap[g]? := by rw [hwz]; exact (Below.heap_setCell _ _ _ _ (Ne.symm HGR.out)).trans ((Below.heap_setCell _ _ _ _ (Ne.symm HGR.out)).trans ((Below.heap_setCell _ _ _ _ (Ne.symm HGR.out)).trans (Below.heap_setCell _ _ _ _ (Ne.symm HGR.out))))
    have HCZ := Lib.hid (HG2.out.same hhz)
    rw [← hwz]
    clear hwz hhz
    have r0 := HBZ.out.cell 0
    have r1 := HBZ.out.cell 1
    have r2 := HBZ.out.cell 2
    have r3 := HBZ.out.cell 3
    simp at r0 r1 r2 r3
    refine bodyPost_ret (v := .agg #[.int .i8 0, .string ⟨#[]⟩, .int .i64 0, .int .i64 n]) (by simp [results, Tryd.results28, go_sem, r0, r1, r2, r3]) rfl ?_
    exact one_ok (endTk s) (by rw [HN.out]; rfl) HO.out HCZ.out rfl rfl HUZ.out
end Go.Proofs.YtlaikgaepaiigaaDoor.K

/- The contract of tableaulaw06.stopped where the field is there. Printed by gen_stopped.py. -/
import Derived.Test.YtofgmijmhpmabaaGreatDoorDField
import Derived.Test.YtofgmijmhpmabaaGreatDoorDRef
namespace Go.Proofs.YtofgmijmhpmabaaGreatDoor.D
open Go Go.RowKit
set_option linter.unusedVariables false
set_option linter.unusedSimpArgs false
def endB2 (v : Int) : Bool := v == 1000000000 || v == -1000000000
theorem end_out {b : Bool} {v : Int} {w w' : World} (h : b = (v == 1000000000 || v == -1000000000)) (hb : Below w.heap.size w w') : BoolPost (endB2 v) w (.returned (.bool b)) w' := ⟨ret_bool h, hb⟩
theorem getF_card {s : St} {f v : Int} {k : Nat} (h : getF s f k = some v) (hf : f ≤ 4) : k < s.cards.length ∧ 1 ≤ f ∧ cardF (s.cards.getD k zeroCd) f = v := by
  unfold getF at h
  rw [if_pos hf] at h
  split at h
  · rename_i h1
    exact ⟨by have := h1.2.2; omega, h1.1, Option.some.inj h⟩
  · cases h
theorem getF_pl {s : St} {f v : Int} {k : Nat} (h : getF s f k = some v) (hf : ¬ f ≤ 4) : k < s.players.length ∧ f ≤ 6 ∧ plF (s.players.getD k zeroPl) f = v := by
  unfold getF at h
  rw [if_neg hf] at h
  split at h
  · rename_i h1
    exact ⟨by have := h1.2.2; omega, h1.1, Option.some.inj h⟩
  · cases h
theorem getF_nat {s : St} {f n v : Int} (h : getF s f n = some v) : ∃ k : Nat, n = k := by
  unfold getF at h
  split at h
  · split at h
    · rename_i h1
      exact Int.eq_ofNat_of_zero_le h1.2.1
    · cases h
  · split at h
    · rename_i h1
      exact Int.eq_ofNat_of_zero_le h1.2.1
    · cases h
set_option maxRecDepth 100000 in
set_option maxHeartbeats 8000000 in
theorem stopped_any (x : SV) (s : St) (f num v : Int) (w : World) (h : RdSt w x s) (hz : Sz s) (hg : getF s f num = some v) :
    Calls Tryz.prog 42 #[x.val s, .int .i8 f, .int .i64 num] w (BoolPost (endB2 v) w) := by
  have hp1 := hz.p
  have hp2 := hz.c
  obtain ⟨k, rfl⟩ := getF_nat hg
  have HR := Lib.hid h
  obtain ⟨n, hn⟩ : ∃ n, n = s.players.length := ⟨_, rfl⟩
  obtain ⟨m, hm⟩ : ∃ m, m = s.cards.length := ⟨_, rfl⟩
  have HN := Lib.hid hn
  have HM := Lib.hid hm
  have HC0 := Lib.hid (show (x.arr s)[0]? = some (.slice x.pa n x.pc) by rw [hn]; rfl)
  have HC1 := Lib.hid (show (x.arr s)[1]? = some (.slice x.ca m x.cc) by rw [hm]; rfl)
  rw [← hn] at hp1
  rw [← hm] at hp2
  obtain ⟨cs, hcs⟩ : ∃ c, c = x.arr s := ⟨_, rfl⟩
  have he : x.val s = .agg cs := by rw [hcs]; rfl
  rw [he]
  rw [← hcs] at HC0 HC1
  have HX := Lib.hid (G.Blk.new w 27 cs)
  have c0 := (HX.out.cell 0).trans HC0.out
  have c1 := (HX.out.cell 1).trans HC1.out
  have hlt := HX.out.lt
  have HBL := Lib.hid (G.bl_alloc (Below.refl w.heap.size w) (.cells cs 27))
  have hk0 : (0 : Int) ≤ k := by omega
  have hk1 : ¬ (k : Int) < 0 := by omega
  clear h hz hn hm hcs he
  obtain ⟨w0, hw0⟩ : ∃ w0, w0 = w.alloc (.cells cs 27) := ⟨_, rfl⟩
  have HW0 := Lib.hid hw0
  rw [← hw0] at c0 c1 hlt HBL
  obtain ⟨g, hgg⟩ : ∃ g, g = w.heap.size := ⟨_, rfl⟩
  rw [← hgg] at c0 c1 hlt
  have HGG := Lib.hid hgg
  clear hw0 hgg HX
  by_cases hf4 : f ≤ 4
  · obtain ⟨hkm, hf1, hv⟩ := getF_card hg hf4
    rw [← HM.out] at hkm
    have hkmI : (k : Int) < m := by omega
    obtain ⟨bc, oc, hca, hcr⟩ := (HR.out.c.below HBL.out).2 (by rw [← HM.out]; omega)
    rw [hca] at c1
    obtain ⟨q, hq⟩ : ∃ q, q = s.cards.getD k zeroCd := ⟨_, rfl⟩
    obtain ⟨d0, d1, d2, d3, d4, d5⟩ := cd_at hcr (k := k) (by rw [← HM.out]; exact hkm) hq.symm
    rw [← hq] at hv
    obtain ⟨a0, a1, a2, a3, a4, a5⟩ := q
    simp only at d0 d1 d2 d3 d4 d5
    clear hq
    have hcl := World.block_lt_of_cell? _ _ d0
    clear hca hcr
    have hc4 : f = 1 ∨ f = 2 ∨ f = 3 ∨ f = 4 := by omega
    clear hg
    by_cases hkn : k < n
    · have hknI : (k : Int) < n := by omega
      obtain ⟨bp, op, hpa, hpr⟩ := (HR.out.p.below HBL.out).2 (by rw [← HN.out]; omega)
      rw [hpa] at c0
      obtain ⟨r, hr⟩ : ∃ r, r = s.players.getD k zeroPl := ⟨_, rfl⟩
      obtain ⟨p0, p1, p2⟩ := pl_at hpr (k := k) (by rw [← HN.out]; exact hkn) hr.symm
      obtain ⟨b0, b1, b2⟩ := r
      simp only at p0 p1 p2
      clear hr
      have hpl := World.block_lt_of_cell? _ _ p0
      clear hpa hpr
      rcases hc4 with rfl | rfl | rfl | rfl
      · obtain rfl : a2 = v := hv
        go_enter Tryz.func42, Tryz.ntmps42
        go_upto_region 1 with (fail)
        rw [← HGG.out, ← HW0.out]
        go_wp2_with fail
        all_goals go_ret
        all_goals exact end_out (by simp_all) (by first | exact HBL.out | exact G.bl_alloc HBL.out _ | exact G.bl_alloc (G.bl_alloc HBL.out _) _ | exact below_setRow (G.bl_alloc (G.bl_alloc HBL.out _) _) (by simp) _)
      · obtain rfl : a3 = v := hv
        go_enter Tryz.func42, Tryz.ntmps42
        go_upto_region 1 with (fail)
        rw [← HGG.out, ← HW0.out]
        go_wp2_with fail
        all_goals go_ret
        all_goals exact end_out (by simp_all) (by first | exact HBL.out | exact G.bl_alloc HBL.out _ | exact G.bl_alloc (G.bl_alloc HBL.out _) _ | exact below_setRow (G.bl_alloc (G.bl_alloc HBL.out _) _) (by simp) _)
      · obtain rfl : a4 = v := hv
        go_enter Tryz.func42, Tryz.ntmps42
        go_upto_region 1 with (fail)
        rw [← HGG.out, ← HW0.out]
        go_wp2_with fail
        all_goals go_ret
        all_goals exact end_out (by simp_all) (by first | exact HBL.out | exact G.bl_alloc HBL.out _ | exact G.bl_alloc (G.bl_alloc HBL.out _) _ | exact below_setRow (G.bl_alloc (G.bl_alloc HBL.out _) _) (by simp) _)
      · obtain rfl : a5 = v := hv
        go_enter Tryz.func42, Tryz.ntmps42
        go_upto_region 1 with (fail)
        rw [← HGG.out, ← HW0.out]
        go_wp2_with fail
        all_goals go_ret
        all_goals exact end_out (by simp_all) (by first | exact HBL.out | exact G.bl_alloc HBL.out _ | exact G.bl_alloc (G.bl_alloc HBL.out _) _ | exact below_setRow (G.bl_alloc (G.bl_alloc HBL.out _) _) (by simp) _)
    · have hknI : ¬ (k : Int) < n := by omega
      rcases hc4 with rfl | rfl | rfl | rfl
      · obtain rfl : a2 = v := hv
        go_enter Tryz.func42, Tryz.ntmps42
        go_upto_region 1 with (fail)
        rw [← HGG.out, ← HW0.out]
        go_wp2_with fail
        all_goals go_ret
        all_goals exact end_out (by simp_all) (by first | exact HBL.out | exact G.bl_alloc HBL.out _ | exact G.bl_alloc (G.bl_alloc HBL.out _) _ | exact below_setRow (G.bl_alloc (G.bl_alloc HBL.out _) _) (by simp) _)
      · obtain rfl : a3 = v := hv
        go_enter Tryz.func42, Tryz.ntmps42
        go_upto_region 1 with (fail)
        rw [← HGG.out, ← HW0.out]
        go_wp2_with fail
        all_goals go_ret
        all_goals exact end_out (by simp_all) (by first | exact HBL.out | exact G.bl_alloc HBL.out _ | exact G.bl_alloc (G.bl_alloc HBL.out _) _ | exact below_setRow (G.bl_alloc (G.bl_alloc HBL.out _) _) (by simp) _)
      · obtain rfl : a4 = v := hv
        go_enter Tryz.func42, Tryz.ntmps42
        go_upto_region 1 with (fail)
        rw [← HGG.out, ← HW0.out]
        go_wp2_with fail
        all_goals go_ret
        all_goals exact end_out (by simp_all) (by first | exact HBL.out | exact G.bl_alloc HBL.out _ | exact G.bl_alloc (G.bl_alloc HBL.out _) _ | exact below_setRow (G.bl_alloc (G.bl_alloc HBL.out _) _) (by simp) _)
      · obtain rfl : a5 = v := hv
        go_enter Tryz.func42, Tryz.ntmps42
        go_upto_region 1 with (fail)
        rw [← HGG.out, ← HW0.out]
        go_wp2_with fail
        all_goals go_ret
        all_goals exact end_out (by simp_all) (by first | exact HBL.out | exact G.bl_alloc HBL.out _ | exact G.bl_alloc (G.bl_alloc HBL.out _) _ | exact below_setRow (G.bl_alloc (G.bl_alloc HBL.out _) _) (by simp) _)
  · obtain ⟨hkn, hf6, hv⟩ := getF_pl hg hf4
    rw [← HN.out] at hkn
    have hknI : (k : Int) < n := by omega
    obtain ⟨bp, op, hpa, hpr⟩ := (HR.out.p.below HBL.out).2 (by rw [← HN.out]; omega)
    rw [hpa] at c0
    obtain ⟨r, hr⟩ : ∃ r, r = s.players.getD k zeroPl := ⟨_, rfl⟩
    obtain ⟨p0, p1, p2⟩ := pl_at hpr (k := k) (by rw [← HN.out]; exact hkn) hr.symm
    rw [← hr] at hv
    obtain ⟨b0, b1, b2⟩ := r
    simp only at p0 p1 p2
    clear hr
    have hpl := World.block_lt_of_cell? _ _ p0
    clear hpa hpr
    have hc4 : f = 5 ∨ f = 6 := by omega
    clear hg
    by_cases hkm : k < m
    · have hkmI : (k : Int) < m := by omega
      obtain ⟨bc, oc, hca, hcr⟩ := (HR.out.c.below HBL.out).2 (by rw [← HM.out]; omega)
      rw [hca] at c1
      obtain ⟨q, hq⟩ : ∃ q, q = s.cards.getD k zeroCd := ⟨_, rfl⟩
      obtain ⟨d0, d1, d2, d3, d4, d5⟩ := cd_at hcr (k := k) (by rw [← HM.out]; exact hkm) hq.symm
      obtain ⟨a0, a1, a2, a3, a4, a5⟩ := q
      simp only at d0 d1 d2 d3 d4 d5
      clear hq
      have hcl := World.block_lt_of_cell? _ _ d0
      clear hca hcr
      rcases hc4 with rfl | rfl
      · obtain rfl : b0 = v := hv
        go_enter Tryz.func42, Tryz.ntmps42
        go_upto_region 1 with (fail)
        rw [← HGG.out, ← HW0.out]
        go_wp2_with fail
        all_goals go_ret
        all_goals exact end_out (by simp_all) (by first | exact HBL.out | exact G.bl_alloc HBL.out _ | exact G.bl_alloc (G.bl_alloc HBL.out _) _ | exact below_setRow (G.bl_alloc (G.bl_alloc HBL.out _) _) (by simp) _)
      · obtain rfl : b1 = v := hv
        go_enter Tryz.func42, Tryz.ntmps42
        go_upto_region 1 with (fail)
        rw [← HGG.out, ← HW0.out]
        go_wp2_with fail
        all_goals go_ret
        all_goals exact end_out (by simp_all) (by first | exact HBL.out | exact G.bl_alloc HBL.out _ | exact G.bl_alloc (G.bl_alloc HBL.out _) _ | exact below_setRow (G.bl_alloc (G.bl_alloc HBL.out _) _) (by simp) _)
    · have hkmI : ¬ (k : Int) < m := by omega
      rcases hc4 with rfl | rfl
      · obtain rfl : b0 = v := hv
        go_enter Tryz.func42, Tryz.ntmps42
        go_upto_region 1 with (fail)
        rw [← HGG.out, ← HW0.out]
        go_wp2_with fail
        all_goals go_ret
        all_goals exact end_out (by simp_all) (by first | exact HBL.out | exact G.bl_alloc HBL.out _ | exact G.bl_alloc (G.bl_alloc HBL.out _) _ | exact below_setRow (G.bl_alloc (G.bl_alloc HBL.out _) _) (by simp) _)
      · obtain rfl : b1 = v := hv
        go_enter Tryz.func42, Tryz.ntmps42
        go_upto_region 1 with (fail)
        rw [← HGG.out, ← HW0.out]
        go_wp2_with fail
        all_goals go_ret
        all_goals exact end_out (by simp_all) (by first | exact HBL.out | exact G.bl_alloc HBL.out _ | exact G.bl_alloc (G.bl_alloc HBL.out _) _ | exact below_setRow (G.bl_alloc (G.bl_alloc HBL.out _) _) (by simp) _)
end Go.Proofs.YtofgmijmhpmabaaGreatDoor.D

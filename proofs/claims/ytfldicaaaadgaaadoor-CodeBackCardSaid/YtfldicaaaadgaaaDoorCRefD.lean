/- The contracts of the reference's Read and All, at every bytes. -/
import Derived.Test.YtfldicaaaadgaaaDoorCRefC
namespace Go.Proofs.YtfldicaaaadgaaaDoor.Code
open Go.RowKit
set_option linter.unusedVariables false
set_option linter.unusedSimpArgs false
theorem refRead_any (b off cap : Nat) (zs : List Int) (p : Int) (w : World) (hm : zs.length ≤ 1099511627776) (hr : RdI w .u8 b off zs) (hz : IsBytes zs) :
    Calls Tryd.prog 11 #[.slice (some ⟨b, off, none⟩) zs.length cap, .int .i64 p] w fun e w' => e = .returned (.tuple #[(readAt zs p).1.val, .int .i64 (readAt zs p).2]) ∧ Below w.heap.size w w' := by
  by_cases ho : p < 0 ∨ (zs.length : Int) ≤ p
  · have e : readAt zs p = (zeroIns, 1) := by unfold readAt; rw [if_pos ho]
    rw [e]
    exact refRead_out _ _ _ _ w (by unfold maxLen; omega) ho
  · obtain ⟨i, rfl⟩ := Int.eq_ofNat_of_zero_le (show 0 ≤ p by omega)
    have hi : i < zs.length := by omega
    have hc := hr.2 i hi
    have hop := hz i
    unfold readAt
    rw [if_neg ho]
    simp only [Int.toNat_natCast]
    generalize hopv : zs.getD i 0 = op at *
    by_cases hk0 : kindOf op < 0
    · rw [if_pos hk0]
      exact refRead_no _ _ _ _ _ op w (by omega) hi hr.1 hc hop.1 hop.2 hk0
    · rw [if_neg hk0]
      have hk := kind_or op hop.1 hop.2
      by_cases hcut : (zs.length : Int) - i - 1 < width (kindOf op)
      · rw [if_pos hcut]
        exact refRead_cut _ _ _ _ _ op _ w (by omega) hi hr.1 hc hop.1 hop.2 rfl (by omega) hcut
      · rw [if_neg hcut]
        have h := refRead_ok b off cap i zs op (kindOf op) w hm hi hr hz hopv rfl (by omega) hcut
        rcases hk with hk | hk | hk | hk | hk
        · omega
        all_goals
          rw [hk] at h ⊢
          exact h
theorem refAll_nil (ao : Option Addr) (cap : Nat) (w : World) :
    Calls Tryd.prog 13 #[.slice ao 0 cap] w fun e w' => e = .returned (.tuple #[.slice none 0 0, .int .i64 0, .int .i64 0]) ∧ w = w' := by
  go_enter Tryd.func13, Tryd.ntmps13
  go_wp2
  go_rounds 1
  go_ret3
  exact ⟨rfl, rfl⟩
set_option maxRecDepth 100000 in
set_option maxHeartbeats 1000000 in
theorem refAll_any (b off cap : Nat) (zs : List Int) (w : World) (hm : cap ≤ 9223372036854775807) (hm2 : zs.length ≤ 1099511627776) (hnc : zs.length ≤ cap) (hr : RdI w .u8 b off zs) (hz : IsBytes zs) :
    Calls Tryd.prog 13 #[.slice (some ⟨b, off, none⟩) zs.length cap] w (AllPost zs w) := by
  obtain ⟨i0, hi, hz0, hz1, hz2⟩ := info_parts info26
  obtain ⟨n, hn⟩ : ∃ n, n = zs.length := ⟨_, rfl⟩
  have HN := Lib.hid hn
  rw [← hn]
  rw [← hn] at hnc hm2
  clear hn
  go_enter Tryd.func13, Tryd.ntmps13
  go_wp2
  go_loopw [5, 6] (fun v i wr => ∃ k : Nat, k ≤ n ∧ i = .int .i64 k ∧ Below w.heap.size w wr ∧ AllInv zs w wr v k) (fun _ i _ => n - (intOf i).toNat)
  case atStart => exact ⟨0, Nat.zero_le _, rfl, Below.refl _ _, [], zs.length + 1, World.ownsRow_nil _ _ _ _, Nat.le_refl _, by omega, rfl⟩
  case round =>
    obtain ⟨k, hk, rfl, hbel, acc, f, hown, hacc, hf, hgo⟩ := hrel
    have hrw := hr.below hbel
    by_cases hlt : k < n
    · have hkz : k < zs.length := by rw [← HN.out]; exact hlt
      have hR := refRead_any b off cap zs k wr (by rw [← HN.out]; omega) hrw hz
      have hop := fun h => readAt_op_range hz hkz h
      have hok := fun h => readAt_ok hkz h
      have hst := fun h => allGo_step (f := f - 1) (acc := acc) hkz h
      have her := fun h => allGo_err (f := f - 1) (acc := acc) hkz h
      rw [show f - 1 + 1 = f by omega, hgo] at hst her
      rw [← HN.out] at hR
      clear hrw hgo hr
      by_cases h0 : (readAt zs (k : Int)).2 = 0
      · have hst := hst h0
        have hok := hok h0
        have hop := hop h0
        have hsz : sizeOf (readAt zs (k : Int)).1.op = sizeOf (zs.getD k 0) := by rw [hok.1]
        rw [← hsz] at hok
        rw [h0] at hR
        clear her h0 hsz
        generalize readAt zs (k : Int) = r at *
        obtain ⟨⟨xa, xo, x1, x2, x3⟩, er⟩ := r
        obtain ⟨q1, hs1, hs2, q2⟩ := hok
        clear q1 q2
        simp only at hs1 hs2 hop hst
        obtain ⟨s, hs⟩ : ∃ s, s = sizeOf xo := ⟨_, rfl⟩
        rw [← hs] at hs1 hs2 hst
        have hS := fun W => refSize_any xo W hop.1 hop.2
        rw [← hs] at hS
        simp only [Ins.val] at hR
        have HS := Lib.hid hS
        have HR := Lib.hid hR
        have HST := Lib.hid hst
        have hs2' : (k : Int) + s ≤ n := by rw [HN.out]; exact hs2
        clear hS hR hst hs hs2 hop
        go_wp2_with (first
          | (go_at_call 11; refine HR.out.mono ?_; rintro e w1 ⟨rfl, hb1⟩; have hown1 := Bl.own hown hb1; have hB1 := Bl.tr hbel hb1)
          | (at_builtin; refine wpList_append_own _ rfl (.tmp 23) (.tmp 25) 30 rfl w.heap.size 26 i0 (.agg #[.int .i64 0, .int .u8 0, .int .i64 0, .int .i64 0, .int .i64 0]) 5 40 Tryd.underlying30 hi hz0 hz1 hz2 rfl (by decide) _ _ _ rfl ((hown1.alloc _).alloc _) ⟨w1.heap.size + 1, 0, none⟩ 1 1 (Ins.cells ⟨xa, xo, x1, x2, x3⟩) rfl rfl (cells_new _ _ _ _ (by simp)) (Ins.cells_one _) (by unfold maxLen; omega) (by omega) (by have := hB1.size; simp; omega) ?_; intro v' w2 hown2 hg2 _q; have hx1 : w2.cell? ⟨w1.heap.size, 1, none⟩ = some (.int .u8 xo) := (hg2.cell (by simp [go_sem]) (by intro e; have := hown1.lt _ e.symm; simp at this)); have hB2 := Bl.grown (Bl.al (Bl.al hB1 _) _) ((hown1.alloc _).alloc _) hg2)
          | (go_at_call 28; refine (HS.out _).mono ?_; rintro e w3 ⟨rfl, hb3⟩))
        go_roundw
        case rel =>
          have e2 : ((k + s.toNat : Nat) : Int) = k + s := by omega
          have e3 := HN.out
          refine ⟨k + s.toNat, by omega, by rw [e2], Bl.tr hB2 hb3, acc ++ [⟨xa, xo, x1, x2, x3⟩], f - 1, ?_, by simp; omega, by omega, by rw [e2]; exact HST.out.symm⟩
          rw [flat_snoc, List.length_append]
          exact Bl.own hown2 hb3
        case measure => simp [intOf]; omega
      · have her := her h0
        generalize readAt zs (k : Int) = r at *
        obtain ⟨⟨xa, xo, x1, x2, x3⟩, er⟩ := r
        simp only at her h0
        have h0' : (er != 0) = true := by simpa using h0
        have HER := Lib.hid her
        simp only [Ins.val] at hR
        have HR := Lib.hid hR
        clear her hR hst hok hop h0
        go_wp2_with (first | (go_at_call 11; refine HR.out.mono ?_; rintro e w1 ⟨rfl, hb1⟩))
        go_ret3
        refine ⟨.slice none 0 0, ?_, ?_, ?_⟩
        · rw [HER.out]; rfl
        · rw [HER.out]; exact World.ownsRow_nil _ _ _ _
        · exact Bl.al (Bl.tr hbel hb1) _
    · have hkn : allOf zs = (acc, 0, 0) := by rw [← hgo]; exact allGo_end (by rw [← HN.out]; exact hlt)
      have HK := Lib.hid hkn
      clear hkn hgo hrw hr
      go_wp2
      go_ret3
      refine ⟨u5, ?_, ?_, hbel⟩
      rotate_left
      · rw [HK.out]; exact hown
      · rw [HK.out]; rfl
end Go.Proofs.YtfldicaaaadgaaaDoor.Code

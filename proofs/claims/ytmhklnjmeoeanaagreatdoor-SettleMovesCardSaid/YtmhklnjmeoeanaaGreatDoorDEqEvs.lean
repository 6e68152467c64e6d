/- The contract of tableauref00.EqEvents. Printed by gen_eqevs.py. -/
import Derived.Test.YtmhklnjmeoeanaaGreatDoorDEqEv
import Derived.Test.YtmhklnjmeoeanaaGreatDoorDBackI
import Derived.Test.YtmhklnjmeoeanaaGreatDoorDCards
import Derived.Deep.RegionHeld3
namespace Go.Proofs.YtmhklnjmeoeanaaGreatDoor.D
open Go Go.RowKit
set_option linter.unusedVariables false
set_option linter.unusedSimpArgs false
theorem exec_load_off {P : Program} {o : Oper} {f : Operand → Value} {w : World} (ty : TypeId) (x : Operand) (ho : o.op = .load ty x) (g off : Nat) (hx : f x = .pointer (some ⟨g, off, none⟩)) (cs : Array Value) (h : (loadVar ty ⟨g, off, none⟩).run P w = .ok (.agg cs) w) : (execOp f o).run P w = .ok (.value (.agg cs)) w := by
  unfold execOp
  simp only [ho, hx, Instr.loadAt, Instr.sureAddr, Sem.run_bind, Sem.run_pure, Result.andThen_ok, h]
/-- The events of a list, without where their orders lie. -/
def evs (L : List (EV × Ev)) : List Ev := L.map Prod.snd
theorem evs_length (L : List (EV × Ev)) : (evs L).length = L.length := by simp [evs]
theorem evs_at (L : List (EV × Ev)) (k : Nat) : (evs L).getD k zeroEv = (L.getD k zeroP).2 := getD_snd L k
set_option maxRecDepth 100000 in
set_option maxHeartbeats 8000000 in
theorem eqEvents_any (A B : Option Addr) (n m c d : Nat) (L M : List (EV × Ev)) (w : World) (h : RdEvs w A n L) (k : RdEvs w B m M) (hn : n ≤ 33554432) (hl : ∀ i, i < n → (L.getD i zeroP).2.order.length ≤ 33554432) (kl : ∀ i, i < m → (M.getD i zeroP).2.order.length ≤ 33554432) :
    Calls Tryz.prog 19 #[.slice A n c, .slice B m d] w (BoolPost (decide (evs L = evs M)) w) := by
  have HL := Lib.hid h
  have HK := Lib.hid k
  have HLL := Lib.hid hl
  have HKL := Lib.hid kl
  have HNL := Lib.hid h.len
  have HML := Lib.hid k.len
  clear h k hl kl
  by_cases hnm : n = m
  · subst hnm
    have hb : ((n : Int) != n) = false := by simp
    go_enter Tryz.func19, Tryz.ntmps19
    go_wp2_with fail
    go_loopw [5] (fun i wr => ∃ q : Nat, q ≤ n ∧ i = .int .i64 q ∧ Below w.heap.size w wr ∧ (evs L).take q = (evs M).take q) (fun i _ => n - (intOf i).toNat)
    case atStart => exact ⟨0, Nat.zero_le _, rfl, Below.refl _ _, rfl⟩
    case round =>
      obtain ⟨q, hq, rfl, hbl, htk⟩ := hrel
      have HBL := Lib.hid hbl
      have HTK := Lib.hid htk
      have hq0 : (0 : Int) ≤ q := by omega
      clear hbl htk
      by_cases hlt : q < n
      · have hltI : (q : Int) < n := by omega
        obtain ⟨b1, o1, hA, l1, _, hr1, _⟩ := ev_whole (HL.out.below HBL.out) hlt
        obtain ⟨b2, o2, hB, l2, _, hr2, _⟩ := ev_whole (HK.out.below HBL.out) hlt
        obtain ⟨p1, hp1⟩ : ∃ p, p = L.getD q zeroP := ⟨_, rfl⟩
        obtain ⟨p2, hp2⟩ : ∃ p, p = M.getD q zeroP := ⟨_, rfl⟩
        obtain ⟨c1, hc1⟩ : ∃ c, c = p1.1.arr p1.2 := ⟨_, rfl⟩
        obtain ⟨c2, hc2⟩ : ∃ c, c = p2.1.arr p2.2 := ⟨_, rfl⟩
        have HR1 := Lib.hid (fun W (hW : Below wr.heap.size wr W) => (show (loadVar 37 ⟨b1, o1 + q * 12, none⟩).run Tryz.prog W = .ok (.agg c1) W by
          obtain ⟨b3, o3, hA3, _, hrn, _, _⟩ := ev_whole ((HL.out.below HBL.out).below hW) hlt
          rw [hA] at hA3
          simp only [Option.some.injEq, Addr.mk.injEq, and_true] at hA3
          obtain ⟨rfl, rfl⟩ := hA3
          rw [← hp1, ← hc1] at hrn
          exact hrn))
        have HR2 := Lib.hid (fun W (hW : Below wr.heap.size wr W) => (show (loadVar 37 ⟨b2, o2 + q * 12, none⟩).run Tryz.prog W = .ok (.agg c2) W by
          obtain ⟨b3, o3, hA3, _, hrn, _, _⟩ := ev_whole ((HK.out.below HBL.out).below hW) hlt
          rw [hB] at hA3
          simp only [Option.some.injEq, Addr.mk.injEq, and_true] at hA3
          obtain ⟨rfl, rfl⟩ := hA3
          rw [← hp2, ← hc2] at hrn
          exact hrn))
        rw [← hp1] at hr1
        rw [← hp2] at hr2
        have HEQ := Lib.hid (fun W (hW : Below wr.heap.size wr W) => eqEvent_any p1.1 p2.1 p1.2 p2.2 W (RdEv.below hr1 hW) (RdEv.below hr2 hW) (by rw [hp1]; exact HLL.out q hlt) (by rw [hp2]; exact HKL.out q hlt))
        rw [show p1.1.val p1.2 = .agg c1 by rw [hc1]; rfl, show p2.1.val p2.2 = .agg c2 by rw [hc2]; rfl] at HEQ
        have HP := Lib.hid (And.intro (show (evs L).getD q zeroEv = p1.2 by rw [evs_at, hp1]) (show (evs M).getD q zeroEv = p2.2 by rw [evs_at, hp2]))
        subst hA hB
        clear hp1 hp2 hc1 hc2 hr1 hr2
        by_cases he : p1.2 = p2.2
        · rw [show decide (p1.2 = p2.2) = true from decide_eq_true he] at HEQ
          have HNX := Lib.hid (take_eq_of zeroEv HTK.out (by rw [evs_length, HNL.out]; exact hlt) (by rw [evs_length, HML.out]; exact hlt) (by rw [HP.out.1, HP.out.2]; exact he))
          clear he
          go_upto_region 6 with (fail)
          refine wp_region_held_drew (S := fun W => Below wr.heap.size wr W) (by kernel_rfl) ?_ (fun hHeld => ?_)
          · exact (Below.refl _ _).drew
          refine wpAnyH_take (i := 0) (oi := ⟨some 17, _, _, _, _, _⟩) (v := ?_) rfl (by kernel_rfl) (by kernel_rfl) (by kernel_rfl) (fun _ _ _ h => h) (Or.inl ⟨by rfl, ?_⟩) (by assumption) ?_
          rotate_left
          · (intro w hSw; rfl)
          try simp only [Act.put, List.setIfInBounds_toArray, List.set_cons_zero, List.set_cons_succ]
          refine wpAnyH_take (i := 1) (oi := ⟨some 18, _, _, _, _, _⟩) (v := ?_) rfl (by kernel_rfl) (by kernel_rfl) (by kernel_rfl) (fun _ _ _ h => h) (Or.inl ⟨by rfl, ?_⟩) (by assumption) ?_
          rotate_left
          · (intro w hSw; rfl)
          try simp only [Act.put, List.setIfInBounds_toArray, List.set_cons_zero, List.set_cons_succ]
          refine wpAnyH_take (i := 2) (oi := ⟨some 19, _, _, _, _, _⟩) (v := ?_) rfl (by kernel_rfl) (by kernel_rfl) (by kernel_rfl) (fun _ _ _ h => h) (Or.inl ⟨by rfl, ?_⟩) (by assumption) ?_
          rotate_left
          · (intro w hSw; (try dsimp only at hSw); go_split_ands; go_simp; try with_reducible rfl)
          try simp only [Act.put, List.setIfInBounds_toArray, List.set_cons_zero, List.set_cons_succ]
          refine wpAnyH_take (i := 3) (oi := ⟨some 20, _, _, _, _, _⟩) (v := ?_) rfl (by kernel_rfl) (by kernel_rfl) (by kernel_rfl) (fun _ _ _ h => h) (Or.inl ⟨by rfl, ?_⟩) (by assumption) ?_
          rotate_left
          · (intro w hSw; refine exec_load_off 37 (.tmp 19) ?_ b1 (o1 + q * 12) ?_ _ (HR1.out w hSw) <;> rfl)
          try simp only [Act.put, List.setIfInBounds_toArray, List.set_cons_zero, List.set_cons_succ]
          refine wpAnyH_take (i := 4) (oi := ⟨some 21, _, _, _, _, _⟩) (v := ?_) rfl (by kernel_rfl) (by kernel_rfl) (by kernel_rfl) (fun _ _ _ h => h) (Or.inl ⟨by rfl, ?_⟩) (by assumption) ?_
          rotate_left
          · (intro w hSw; rfl)
          try simp only [Act.put, List.setIfInBounds_toArray, List.set_cons_zero, List.set_cons_succ]
          refine wpAnyH_take (i := 5) (oi := ⟨some 22, _, _, _, _, _⟩) (v := ?_) rfl (by kernel_rfl) (by kernel_rfl) (by kernel_rfl) (fun _ _ _ h => h) (Or.inl ⟨by rfl, ?_⟩) (by assumption) ?_
          rotate_left
          · (intro w hSw; rfl)
          try simp only [Act.put, List.setIfInBounds_toArray, List.set_cons_zero, List.set_cons_succ]
          refine wpAnyH_take (i := 6) (oi := ⟨some 23, _, _, _, _, _⟩) (v := ?_) rfl (by kernel_rfl) (by kernel_rfl) (by kernel_rfl) (fun _ _ _ h => h) (Or.inl ⟨by rfl, ?_⟩) (by assumption) ?_
          rotate_left
          · (intro w hSw; (try dsimp only at hSw); go_split_ands; go_simp; try with_reducible rfl)
          try simp only [Act.put, List.setIfInBounds_toArray, List.set_cons_zero, List.set_cons_succ]
          refine wpAnyH_take (i := 7) (oi := ⟨some 24, _, _, _, _, _⟩) (v := ?_) rfl (by kernel_rfl) (by kernel_rfl) (by kernel_rfl) (fun _ _ _ h => h) (Or.inl ⟨by rfl, ?_⟩) (by assumption) ?_
          rotate_left
          · (intro w hSw; refine exec_load_off 37 (.tmp 23) ?_ b2 (o2 + q * 12) ?_ _ (HR2.out w hSw) <;> rfl)
          try simp only [Act.put, List.setIfInBounds_toArray, List.set_cons_zero, List.set_cons_succ]
          refine wpAnyH_ready (rs := [8]) (by kernel_rfl) (by simp) ?_
          refine AllReadyH.cons rfl (fun K hK => ?_) AllReadyH.nil
          go_simp
          ((with_reducible refine (HEQ.out _ hHeld).mono ?_); rintro e3 w3 ⟨rfl, hb3⟩; have HB3 := Lib.hid hb3; clear hb3)
          go_wp2_with fail
          refine hK.out _ _ ?_ (fun hHeld => ?_)
          · exact G.bl_trans (by assumption) HB3.out
          clear hK K
          try simp only [Act.put, List.setIfInBounds_toArray, List.set_cons_zero, List.set_cons_succ]
          refine wpAnyH_take (i := 9) (oi := ⟨some 26, _, _, _, _, _⟩) (v := ?_) rfl (by kernel_rfl) (by kernel_rfl) (by kernel_rfl) (fun _ _ _ h => h) (Or.inl ⟨by rfl, ?_⟩) (by assumption) ?_
          rotate_left
          · (intro w hSw; (try dsimp only at hSw); go_split_ands; go_simp; try with_reducible rfl)
          try simp only [Act.put, List.setIfInBounds_toArray, List.set_cons_zero, List.set_cons_succ]
          refine wpAnyH_done (by kernel_rfl) ?_ _
          go_wp2_with fail
          go_roundw
          case rel => exact ⟨q + 1, by omega, by go_num, G.bl_trans HBL.out hHeld, HNX.out⟩
          case measure => simp [intOf]; omega
        · rw [show decide (p1.2 = p2.2) = false from decide_eq_false he] at HEQ
          have HNO := Lib.hid (show decide (evs L = evs M) = false from decide_eq_false (fun e => he (by rw [← HP.out.1, ← HP.out.2, e])))
          clear he
          go_upto_region 6 with (fail)
          refine wp_region_held_drew (S := fun W => Below wr.heap.size wr W) (by kernel_rfl) ?_ (fun hHeld => ?_)
          · exact (Below.refl _ _).drew
          refine wpAnyH_take (i := 0) (oi := ⟨some 17, _, _, _, _, _⟩) (v := ?_) rfl (by kernel_rfl) (by kernel_rfl) (by kernel_rfl) (fun _ _ _ h => h) (Or.inl ⟨by rfl, ?_⟩) (by assumption) ?_
          rotate_left
          · (intro w hSw; rfl)
          try simp only [Act.put, List.setIfInBounds_toArray, List.set_cons_zero, List.set_cons_succ]
          refine wpAnyH_take (i := 1) (oi := ⟨some 18, _, _, _, _, _⟩) (v := ?_) rfl (by kernel_rfl) (by kernel_rfl) (by kernel_rfl) (fun _ _ _ h => h) (Or.inl ⟨by rfl, ?_⟩) (by assumption) ?_
          rotate_left
          · (intro w hSw; rfl)
          try simp only [Act.put, List.setIfInBounds_toArray, List.set_cons_zero, List.set_cons_succ]
          refine wpAnyH_take (i := 2) (oi := ⟨some 19, _, _, _, _, _⟩) (v := ?_) rfl (by kernel_rfl) (by kernel_rfl) (by kernel_rfl) (fun _ _ _ h => h) (Or.inl ⟨by rfl, ?_⟩) (by assumption) ?_
          rotate_left
          · (intro w hSw; (try dsimp only at hSw); go_split_ands; go_simp; try with_reducible rfl)
          try simp only [Act.put, List.setIfInBounds_toArray, List.set_cons_zero, List.set_cons_succ]
          refine wpAnyH_take (i := 3) (oi := ⟨some 20, _, _, _, _, _⟩) (v := ?_) rfl (by kernel_rfl) (by kernel_rfl) (by kernel_rfl) (fun _ _ _ h => h) (Or.inl ⟨by rfl, ?_⟩) (by assumption) ?_
          rotate_left
          · (intro w hSw; refine exec_load_off 37 (.tmp 19) ?_ b1 (o1 + q * 12) ?_ _ (HR1.out w hSw) <;> rfl)
          try simp only [Act.put, List.setIfInBounds_toArray, List.set_cons_zero, List.set_cons_succ]
          refine wpAnyH_take (i := 4) (oi := ⟨some 21, _, _, _, _, _⟩) (v := ?_) rfl (by kernel_rfl) (by kernel_rfl) (by kernel_rfl) (fun _ _ _ h => h) (Or.inl ⟨by rfl, ?_⟩) (by assumption) ?_
          rotate_left
          · (intro w hSw; rfl)
          try simp only [Act.put, List.setIfInBounds_toArray, List.set_cons_zero, List.set_cons_succ]
          refine wpAnyH_take (i := 5) (oi := ⟨some 22, _, _, _, _, _⟩) (v := ?_) rfl (by kernel_rfl) (by kernel_rfl) (by kernel_rfl) (fun _ _ _ h => h) (Or.inl ⟨by rfl, ?_⟩) (by assumption) ?_
          rotate_left
          · (intro w hSw; rfl)
          try simp only [Act.put, List.setIfInBounds_toArray, List.set_cons_zero, List.set_cons_succ]
          refine wpAnyH_take (i := 6) (oi := ⟨some 23, _, _, _, _, _⟩) (v := ?_) rfl (by kernel_rfl) (by kernel_rfl) (by kernel_rfl) (fun _ _ _ h => h) (Or.inl ⟨by rfl, ?_⟩) (by assumption) ?_
          rotate_left
          · (intro w hSw; (try dsimp only at hSw); go_split_ands; go_simp; try with_reducible rfl)
          try simp only [Act.put, List.setIfInBounds_toArray, List.set_cons_zero, List.set_cons_succ]
          refine wpAnyH_take (i := 7) (oi := ⟨some 24, _, _, _, _, _⟩) (v := ?_) rfl (by kernel_rfl) (by kernel_rfl) (by kernel_rfl) (fun _ _ _ h => h) (Or.inl ⟨by rfl, ?_⟩) (by assumption) ?_
          rotate_left
          · (intro w hSw; refine exec_load_off 37 (.tmp 23) ?_ b2 (o2 + q * 12) ?_ _ (HR2.out w hSw) <;> rfl)
          try simp only [Act.put, List.setIfInBounds_toArray, List.set_cons_zero, List.set_cons_succ]
          refine wpAnyH_ready (rs := [8]) (by kernel_rfl) (by simp) ?_
          refine AllReadyH.cons rfl (fun K hK => ?_) AllReadyH.nil
          go_simp
          ((with_reducible refine (HEQ.out _ hHeld).mono ?_); rintro e3 w3 ⟨rfl, hb3⟩; have HB3 := Lib.hid hb3; clear hb3)
          go_wp2_with fail
          refine hK.out _ _ ?_ (fun hHeld => ?_)
          · exact G.bl_trans (by assumption) HB3.out
          clear hK K
          try simp only [Act.put, List.setIfInBounds_toArray, List.set_cons_zero, List.set_cons_succ]
          refine wpAnyH_take (i := 9) (oi := ⟨some 26, _, _, _, _, _⟩) (v := ?_) rfl (by kernel_rfl) (by kernel_rfl) (by kernel_rfl) (fun _ _ _ h => h) (Or.inl ⟨by rfl, ?_⟩) (by assumption) ?_
          rotate_left
          · (intro w hSw; (try dsimp only at hSw); go_split_ands; go_simp; try with_reducible rfl)
          try simp only [Act.put, List.setIfInBounds_toArray, List.set_cons_zero, List.set_cons_succ]
          refine wpAnyH_done (by kernel_rfl) ?_ _
          go_wp2_with fail
          go_ret
          exact ⟨by rw [HNO.out]; rfl, G.bl_trans HBL.out hHeld⟩
      · obtain rfl : n = q := by omega
        have hltI : ¬ (n : Int) < n := by omega
        have HYES := Lib.hid (show decide (evs L = evs M) = true from decide_eq_true (by
          have h9 := HTK.out
          rwa [List.take_of_length_le (by rw [evs_length, HNL.out]; exact Nat.le_refl _), List.take_of_length_le (by rw [evs_length, HML.out]; exact Nat.le_refl _)] at h9))
        go_wp2_with fail
        go_ret
        exact ⟨by rw [HYES.out]; rfl, HBL.out⟩
  · have hb : ((n : Int) != m) = true := by rw [bne_iff_ne]; omega
    have HNO := Lib.hid (show decide (evs L = evs M) = false from decide_eq_false (fun e => hnm (by have h9 := congrArg List.length e; rw [evs_length, evs_length, HNL.out, HML.out] at h9; exact h9)))
    go_enter Tryz.func19, Tryz.ntmps19
    go_wp2_with fail
    go_ret
    exact ⟨by rw [HNO.out]; rfl, Below.refl _ _⟩
end Go.Proofs.YtmhklnjmeoeanaaGreatDoor.D

/- What the walk of DeedReplays names: two answers of a replay; the loops that write over the orders of a list of events. -/
import Derived.Test.YtofgmijmhpmabaaGreatDoorDBagSt
import Derived.Test.YtofgmijmhpmabaaGreatDoorDCut
import Derived.Test.YtofgmijmhpmabaaGreatDoorDOne
import Derived.Test.YtofgmijmhpmabaaGreatDoorDEqEv
import Derived.Test.YtofgmijmhpmabaaGreatDoorDBackI
import Derived.Test.YtofgmijmhpmabaaGreatDoorDCards
import Derived.Deep.RegionHeld3
import Derived.Test.YtofgmijmhpmabaaGreatDoorDWideEs
import Derived.Test.YtofgmijmhpmabaaGreatDoorDRef6R
import Derived.Test.YtofgmijmhpmabaaGreatDoorDBackW
namespace Go.Proofs.YtofgmijmhpmabaaGreatDoor.D
open Go Go.RowKit
set_option linter.unusedVariables false
set_option linter.unusedSimpArgs false
/-- What was owned when a world had n blocks, and is owned now, is owned in the first n blocks of now. -/
theorem OwnSt.cut {w1 w : World} {base : Nat} {x : SV} {s : St} (h : OwnSt w base x s) (h1 : OwnSt w1 base x s) : OwnSt (cutW w w1.heap.size) base x s :=
 ⟨own_cut h.p fun k hk => (h1.p.lt k hk).2, own_cut h.c fun k hk => (h1.c.lt k hk).2, own_cut h.z fun k hk => (h1.z.lt k hk).2, fun i hi => own_cut (h.rows i hi) fun k hk => ((h1.rows i hi).lt k hk).2, h.apart⟩
/-- A bag that holds two states, of which the elder was there before the younger: all is apart. -/
theorem apart_two2 (gb base b1 b2 : Nat) (x y : SV) (s t : St) (w1 wN w : World) (h0 : OwnSt w1 b1 x s) (h1 : OwnSt wN b1 x s) (h2 : OwnSt wN b2 y t) (hs : w1.heap.size ≤ b2) (h12 : w1.heap.size ≤ wN.heap.size) (hw : Below wN.heap.size wN w) (hg : wN.heap.size ≤ gb)
 (hb1 : base ≤ b1) (hb2 : base ≤ b2) (hbg : base ≤ gb) (hB : G.BagAll w gb (addSt (addSt (fun _ => []) x s) y t)) (f1 : Few s) (f2 : Few t) :
 Calls Tryz.prog 23 #[.pointer (some ⟨gb, 0, none⟩)] w (fun e w' => e = .returned (.bool true) ∧ Below base w w') :=
 apart_two gb base b1 b2 x y s t (cutW wN w1.heap.size) wN w (h1.cut h0) h2 (by rw [cutW_size h12]; exact hs) (cutW_below h12) hw hg hb1 hb2 hbg hB f1 f2
end Go.Proofs.YtofgmijmhpmabaaGreatDoor.D
namespace Go.Proofs.YtofgmijmhpmabaaGreatDoor.D
open Go Go.RowKit
set_option linter.unusedVariables false
set_option linter.unusedSimpArgs false
theorem exec_load_off {P : Program} {o : Oper} {f : Operand → Value} {w : World} (ty : TypeId) (x : Operand) (ho : o.op = .load ty x) (g off : Nat) (hx : f x = .pointer (some ⟨g, off, none⟩)) (cs : Array Value) (h : (loadVar ty ⟨g, off, none⟩).run P w = .ok (.agg cs) w) : (execOp f o).run P w = .ok (.value (.agg cs)) w := by
 unfold execOp
 simp only [ho, hx, Instr.loadAt, Instr.sureAddr, Sem.run_bind, Sem.run_pure, Result.andThen_ok, h]
/-- The events of a list, without where their orders lie. -/
def evs (L : List (EV × Ev)) : List Ev := L.map Prod.snd
theorem evs_length (L : List (EV × Ev)) : (evs L).length = L.length := by simp [evs]
theorem evs_at (L : List (EV × Ev)) (k : Nat) : (evs L).getD k zeroEv = (L.getD k zeroP).2 := getD_snd L k
set_option maxRecDepth 100000 in
set_option maxHeartbeats 8000000 in
theorem eqEvents_any (A B : Option Addr) (n m c d : Nat) (L M : List (EV × Ev)) (w : World) (h : RdEvs w A n L) (k : RdEvs w B m M) (hn : n ≤ 33554432) (hl : ∀ i, i < n → (L.getD i zeroP).2.order.length ≤ 33554432) (kl : ∀ i, i < m → (M.getD i zeroP).2.order.length ≤ 33554432) :
 Calls Tryz.prog 39 #[.slice A n c, .slice B m d] w (BoolPost (decide (evs L = evs M)) w) := by
 have HL := Lib.hid h
 have HK := Lib.hid k
 have HLL := Lib.hid hl
 have HKL := Lib.hid kl
 have HNL := Lib.hid h.len
 have HML := Lib.hid k.len
 clear h k hl kl
 by_cases hnm : n = m
 ·subst hnm
  have hb : ((n : Int) != n) = false := by simp
  go_enter Tryz.func39, Tryz.ntmps39
  go_wp2_with fail
  go_loopw [5] (fun i wr => ∃ q : Nat, q ≤ n ∧ i = .int .i64 q ∧ Below w.heap.size w wr ∧ (evs L).take q = (evs M).take q) (fun i _ => n - (intOf i).toNat)
  case atStart => exact ⟨0, Nat.zero_le _, rfl, Below.refl _ _, rfl⟩
  case round =>
   obtain ⟨q, hq, rfl, hbl, htk⟩ := hrel
   have HBL := Lib.hid hbl
   have HTK := Lib.hid htk
   have hq0 : (0 : Int) ≤ q := by omega
   clear hbl htk
   by_cases hlt : q < n
   ·have hltI : (q : Int) < n := by omega
    obtain ⟨b1, o1, hA, l1, _, hr1, _⟩ := ev_whole (HL.out.below HBL.out) hlt
    obtain ⟨b2, o2, hB, l2, _, hr2, _⟩ := ev_whole (HK.out.below HBL.out) hlt
    obtain ⟨p1, hp1⟩ : ∃ p, p = L.getD q zeroP := ⟨_, rfl⟩
    obtain ⟨p2, hp2⟩ : ∃ p, p = M.getD q zeroP := ⟨_, rfl⟩
    obtain ⟨c1, hc1⟩ : ∃ c, c = p1.1.arr p1.2 := ⟨_, rfl⟩
    obtain ⟨c2, hc2⟩ : ∃ c, c = p2.1.arr p2.2 := ⟨_, rfl⟩
    have HR1 := Lib.hid (fun W (hW : Below wr.heap.size wr W) => (show (loadVar 30 ⟨b1, o1 + q * 12, none⟩).run Tryz.prog W = .ok (.agg c1) W by
     obtain ⟨b3, o3, hA3, _, hrn, _, _⟩ := ev_whole ((HL.out.below HBL.out).below hW) hlt
     rw [hA] at hA3
     simp only [Option.some.injEq, Addr.mk.injEq, and_true] at hA3
     obtain ⟨rfl, rfl⟩ := hA3
     rw [← hp1, ← hc1] at hrn
     exact hrn))
    have HR2 := Lib.hid (fun W (hW : Below wr.heap.size wr W) => (show (loadVar 30 ⟨b2, o2 + q * 12, none⟩).run Tryz.prog W = .ok (.agg c2) W by
     obtain ⟨b3, o3, hA3, _, hrn, _, _⟩ := ev_whole ((HK.out.below HBL.out).below hW) hlt
     rw [hB] at hA3
     simp only [Option.some.injEq, Addr.mk.injEq, and_true] at hA3
     obtain ⟨rfl, rfl⟩ := hA3
     rw [← hp2, ← hc2] at hrn
     exact hrn))
    rw [← hp1] at hr1
    rw [← hp2] at hr2
    have HEQ := Lib.hid (fun W (hW : Below wr.heap.size wr W) => eqEvent_any p1.1 p2.1 p1.2 p2.2 W (RdEv.below hr1 hW) (RdEv.below hr2 hW) (by rw [hp1]; exact HLL.out q hlt) (by rw [hp2]; exact HKL.out q hlt))
    rw [show p1.1.val p1.2 = .agg c1 by rw [hc1]; rfl, show p2.1.val p2.2 = .agg c2 by rw [hc2]; rfl] at HEQ
    have HP := Lib.hid (And.intro (show (evs L).getD q zeroEv = p1.2 by rw [evs_at, hp1]) (show (evs M).getD q zeroEv = p2.2 by rw [evs_at, hp2]))
    subst hA hB
    clear hp1 hp2 hc1 hc2 hr1 hr2
    by_cases he : p1.2 = p2.2
    ·rw [show decide (p1.2 = p2.2) = true from decide_eq_true he] at HEQ
     have HNX := Lib.hid (take_eq_of zeroEv HTK.out (by rw [evs_length, HNL.out]; exact hlt) (by rw [evs_length, HML.out]; exact hlt) (by rw [HP.out.1, HP.out.2]; exact he))
     clear he
     go_upto_region 6 with (fail)
     refine wp_region_held_drew (S := fun W => Below wr.heap.size wr W) (by kernel_rfl) ?_ (fun hHeld => ?_)
     ·exact (Below.refl _ _).drew
     refine wpAnyH_take (i := 0) (oi := ⟨some 17, _, _, _, _, _⟩) (v := ?_) rfl (by kernel_rfl) (by kernel_rfl) (by kernel_rfl) (fun _ _ _ h => h) (Or.inl ⟨by rfl, ?_⟩) (by assumption) ?_
     rotate_left
     ·(intro w hSw; rfl)
     try simp only [Act.put, List.setIfInBounds_toArray, List.set_cons_zero, List.set_cons_succ]
     refine wpAnyH_take (i := 1) (oi := ⟨some 18, _, _, _, _, _⟩) (v := ?_) rfl (by kernel_rfl) (by kernel_rfl) (by kernel_rfl) (fun _ _ _ h => h) (Or.inl ⟨by rfl, ?_⟩) (by assumption) ?_
     rotate_left
     ·(intro w hSw; rfl)
     try simp only [Act.put, List.setIfInBounds_toArray, List.set_cons_zero, List.set_cons_succ]
     refine wpAnyH_take (i := 2) (oi := ⟨some 19, _, _, _, _, _⟩) (v := ?_) rfl (by kernel_rfl) (by kernel_rfl) (by kernel_rfl) (fun _ _ _ h => h) (Or.inl ⟨by rfl, ?_⟩) (by assumption) ?_
     rotate_left
     ·(intro w hSw; (try dsimp only at hSw); go_split_ands; go_simp; try with_reducible rfl)
     try simp only [Act.put, List.setIfInBounds_toArray, List.set_cons_zero, List.set_cons_succ]
     refine wpAnyH_take (i := 3) (oi := ⟨some 20, _, _, _, _, _⟩) (v := ?_) rfl (by kernel_rfl) (by kernel_rfl) (by kernel_rfl) (fun _ _ _ h => h) (Or.inl ⟨by rfl, ?_⟩) (by assumption) ?_
     rotate_left
     ·(intro w hSw; refine exec_load_off 30 (.tmp 19) ?_ b1 (o1 + q * 12) ?_ _ (HR1.out w hSw) <;> rfl)
     try simp only [Act.put, List.setIfInBounds_toArray, List.set_cons_zero, List.set_cons_succ]
     refine wpAnyH_take (i := 4) (oi := ⟨some 21, _, _, _, _, _⟩) (v := ?_) rfl (by kernel_rfl) (by kernel_rfl) (by kernel_rfl) (fun _ _ _ h => h) (Or.inl ⟨by rfl, ?_⟩) (by assumption) ?_
     rotate_left
     ·(intro w hSw; rfl)
     try simp only [Act.put, List.setIfInBounds_toArray, List.set_cons_zero, List.set_cons_succ]
     refine wpAnyH_take (i := 5) (oi := ⟨some 22, _, _, _, _, _⟩) (v := ?_) rfl (by kernel_rfl) (by kernel_rfl) (by kernel_rfl) (fun _ _ _ h => h) (Or.inl ⟨by rfl, ?_⟩) (by assumption) ?_
     rotate_left
     ·(intro w hSw; rfl)
     try simp only [Act.put, List.setIfInBounds_toArray, List.set_cons_zero, List.set_cons_succ]
     refine wpAnyH_take (i := 6) (oi := ⟨some 23, _, _, _, _, _⟩) (v := ?_) rfl (by kernel_rfl) (by kernel_rfl) (by kernel_rfl) (fun _ _ _ h => h) (Or.inl ⟨by rfl, ?_⟩) (by assumption) ?_
     rotate_left
     ·(intro w hSw; (try dsimp only at hSw); go_split_ands; go_simp; try with_reducible rfl)
     try simp only [Act.put, List.setIfInBounds_toArray, List.set_cons_zero, List.set_cons_succ]
     refine wpAnyH_take (i := 7) (oi := ⟨some 24, _, _, _, _, _⟩) (v := ?_) rfl (by kernel_rfl) (by kernel_rfl) (by kernel_rfl) (fun _ _ _ h => h) (Or.inl ⟨by rfl, ?_⟩) (by assumption) ?_
     rotate_left
     ·(intro w hSw; refine exec_load_off 30 (.tmp 23) ?_ b2 (o2 + q * 12) ?_ _ (HR2.out w hSw) <;> rfl)
     try simp only [Act.put, List.setIfInBounds_toArray, List.set_cons_zero, List.set_cons_succ]
     refine wpAnyH_ready (rs := [8]) (by kernel_rfl) (by simp) ?_
     refine AllReadyH.cons rfl (fun K hK => ?_) AllReadyH.nil
     go_simp
     ((with_reducible refine (HEQ.out _ hHeld).mono ?_); rintro e3 w3 ⟨rfl, hb3⟩; have HB3 := Lib.hid hb3; clear hb3)
     go_wp2_with fail
     refine hK.out _ _ ?_ (fun hHeld => ?_)
     ·exact G.bl_trans (by assumption) HB3.out
     clear hK K
     try simp only [Act.put, List.setIfInBounds_toArray, List.set_cons_zero, List.set_cons_succ]
     refine wpAnyH_take (i := 9) (oi := ⟨some 26, _, _, _, _, _⟩) (v := ?_) rfl (by kernel_rfl) (by kernel_rfl) (by kernel_rfl) (fun _ _ _ h => h) (Or.inl ⟨by rfl, ?_⟩) (by assumption) ?_
     rotate_left
     ·(intro w hSw; (try dsimp only at hSw); go_split_ands; go_simp; try with_reducible rfl)
     try simp only [Act.put, List.setIfInBounds_toArray, List.set_cons_zero, List.set_cons_succ]
     refine wpAnyH_done (by kernel_rfl) ?_ _
     go_wp2_with fail
     go_roundw
     case rel => exact ⟨q + 1, by omega, by go_num, G.bl_trans HBL.out hHeld, HNX.out⟩
     case measure => simp [intOf]; omega
    ·rw [show decide (p1.2 = p2.2) = false from decide_eq_false he] at HEQ
     have HNO := Lib.hid (show decide (evs L = evs M) = false from decide_eq_false (fun e => he (by rw [← HP.out.1, ← HP.out.2, e])))
     clear he
     go_upto_region 6 with (fail)
     refine wp_region_held_drew (S := fun W => Below wr.heap.size wr W) (by kernel_rfl) ?_ (fun hHeld => ?_)
     ·exact (Below.refl _ _).drew
     refine wpAnyH_take (i := 0) (oi := ⟨some 17, _, _, _, _, _⟩) (v := ?_) rfl (by kernel_rfl) (by kernel_rfl) (by kernel_rfl) (fun _ _ _ h => h) (Or.inl ⟨by rfl, ?_⟩) (by assumption) ?_
     rotate_left
     ·(intro w hSw; rfl)
     try simp only [Act.put, List.setIfInBounds_toArray, List.set_cons_zero, List.set_cons_succ]
     refine wpAnyH_take (i := 1) (oi := ⟨some 18, _, _, _, _, _⟩) (v := ?_) rfl (by kernel_rfl) (by kernel_rfl) (by kernel_rfl) (fun _ _ _ h => h) (Or.inl ⟨by rfl, ?_⟩) (by assumption) ?_
     rotate_left
     ·(intro w hSw; rfl)
     try simp only [Act.put, List.setIfInBounds_toArray, List.set_cons_zero, List.set_cons_succ]
     refine wpAnyH_take (i := 2) (oi := ⟨some 19, _, _, _, _, _⟩) (v := ?_) rfl (by kernel_rfl) (by kernel_rfl) (by kernel_rfl) (fun _ _ _ h => h) (Or.inl ⟨by rfl, ?_⟩) (by assumption) ?_
     rotate_left
     ·(intro w hSw; (try dsimp only at hSw); go_split_ands; go_simp; try with_reducible rfl)
     try simp only [Act.put, List.setIfInBounds_toArray, List.set_cons_zero, List.set_cons_succ]
     refine wpAnyH_take (i := 3) (oi := ⟨some 20, _, _, _, _, _⟩) (v := ?_) rfl (by kernel_rfl) (by kernel_rfl) (by kernel_rfl) (fun _ _ _ h => h) (Or.inl ⟨by rfl, ?_⟩) (by assumption) ?_
     rotate_left
     ·(intro w hSw; refine exec_load_off 30 (.tmp 19) ?_ b1 (o1 + q * 12) ?_ _ (HR1.out w hSw) <;> rfl)
     try simp only [Act.put, List.setIfInBounds_toArray, List.set_cons_zero, List.set_cons_succ]
     refine wpAnyH_take (i := 4) (oi := ⟨some 21, _, _, _, _, _⟩) (v := ?_) rfl (by kernel_rfl) (by kernel_rfl) (by kernel_rfl) (fun _ _ _ h => h) (Or.inl ⟨by rfl, ?_⟩) (by assumption) ?_
     rotate_left
     ·(intro w hSw; rfl)
     try simp only [Act.put, List.setIfInBounds_toArray, List.set_cons_zero, List.set_cons_succ]
     refine wpAnyH_take (i := 5) (oi := ⟨some 22, _, _, _, _, _⟩) (v := ?_) rfl (by kernel_rfl) (by kernel_rfl) (by kernel_rfl) (fun _ _ _ h => h) (Or.inl ⟨by rfl, ?_⟩) (by assumption) ?_
     rotate_left
     ·(intro w hSw; rfl)
     try simp only [Act.put, List.setIfInBounds_toArray, List.set_cons_zero, List.set_cons_succ]
     refine wpAnyH_take (i := 6) (oi := ⟨some 23, _, _, _, _, _⟩) (v := ?_) rfl (by kernel_rfl) (by kernel_rfl) (by kernel_rfl) (fun _ _ _ h => h) (Or.inl ⟨by rfl, ?_⟩) (by assumption) ?_
     rotate_left
     ·(intro w hSw; (try dsimp only at hSw); go_split_ands; go_simp; try with_reducible rfl)
     try simp only [Act.put, List.setIfInBounds_toArray, List.set_cons_zero, List.set_cons_succ]
     refine wpAnyH_take (i := 7) (oi := ⟨some 24, _, _, _, _, _⟩) (v := ?_) rfl (by kernel_rfl) (by kernel_rfl) (by kernel_rfl) (fun _ _ _ h => h) (Or.inl ⟨by rfl, ?_⟩) (by assumption) ?_
     rotate_left
     ·(intro w hSw; refine exec_load_off 30 (.tmp 23) ?_ b2 (o2 + q * 12) ?_ _ (HR2.out w hSw) <;> rfl)
     try simp only [Act.put, List.setIfInBounds_toArray, List.set_cons_zero, List.set_cons_succ]
     refine wpAnyH_ready (rs := [8]) (by kernel_rfl) (by simp) ?_
     refine AllReadyH.cons rfl (fun K hK => ?_) AllReadyH.nil
     go_simp
     ((with_reducible refine (HEQ.out _ hHeld).mono ?_); rintro e3 w3 ⟨rfl, hb3⟩; have HB3 := Lib.hid hb3; clear hb3)
     go_wp2_with fail
     refine hK.out _ _ ?_ (fun hHeld => ?_)
     ·exact G.bl_trans (by assumption) HB3.out
     clear hK K
     try simp only [Act.put, List.setIfInBounds_toArray, List.set_cons_zero, List.set_cons_succ]
     refine wpAnyH_take (i := 9) (oi := ⟨some 26, _, _, _, _, _⟩) (v := ?_) rfl (by kernel_rfl) (by kernel_rfl) (by kernel_rfl) (fun _ _ _ h => h) (Or.inl ⟨by rfl, ?_⟩) (by assumption) ?_
     rotate_left
     ·(intro w hSw; (try dsimp only at hSw); go_split_ands; go_simp; try with_reducible rfl)
     try simp only [Act.put, List.setIfInBounds_toArray, List.set_cons_zero, List.set_cons_succ]
     refine wpAnyH_done (by kernel_rfl) ?_ _
     go_wp2_with fail
     go_ret
     exact ⟨by rw [HNO.out]; rfl, G.bl_trans HBL.out hHeld⟩
   ·obtain rfl : n = q := by omega
    have hltI : ¬ (n : Int) < n := by omega
    have HYES := Lib.hid (show decide (evs L = evs M) = true from decide_eq_true (by
     have h9 := HTK.out
     rwa [List.take_of_length_le (by rw [evs_length, HNL.out]; exact Nat.le_refl _), List.take_of_length_le (by rw [evs_length, HML.out]; exact Nat.le_refl _)] at h9))
    go_wp2_with fail
    go_ret
    exact ⟨by rw [HYES.out]; rfl, HBL.out⟩
 ·have hb : ((n : Int) != m) = true := by rw [bne_iff_ne]; omega
  have HNO := Lib.hid (show decide (evs L = evs M) = false from decide_eq_false (fun e => hnm (by have h9 := congrArg List.length e; rw [evs_length, evs_length, HNL.out, HML.out] at h9; exact h9)))
  go_enter Tryz.func39, Tryz.ntmps39
  go_wp2_with fail
  go_ret
  exact ⟨by rw [HNO.out]; rfl, Below.refl _ _⟩
end Go.Proofs.YtofgmijmhpmabaaGreatDoor.D
namespace Go.Proofs.YtofgmijmhpmabaaGreatDoor.D
open Go Go.RowKit
set_option linter.unusedVariables false
set_option linter.unusedSimpArgs false
/-- What a replay comes to is settled. -/
theorem rep_same {s t u : St} {o : Option St} {fa : Nat} {a b k j : Int} {x y : SV} (h1 : (k = 0 ∧ May s ∧ o = some t ∧ a = 0) ∨ (k = 11 ∧ May s ∧ o = none ∧ a = fa ∧ t = zeroSt ∧ x = zeroSV) ∨ (k = 10 ∧ ¬ May s ∧ a = 0 ∧ t = zeroSt ∧ x = zeroSV))
 (h2 : (j = 0 ∧ May s ∧ o = some u ∧ b = 0) ∨ (j = 11 ∧ May s ∧ o = none ∧ b = fa ∧ u = zeroSt ∧ y = zeroSV) ∨ (j = 10 ∧ ¬ May s ∧ b = 0 ∧ u = zeroSt ∧ y = zeroSV)) : k = j ∧ t = u ∧ a = b := by
 rcases h1 with ⟨rfl, a1, b1, rfl⟩ | ⟨rfl, a1, b1, rfl, rfl, _⟩ | ⟨rfl, a1, rfl, rfl, _⟩
 ·rcases h2 with ⟨rfl, a2, b2, rfl⟩ | ⟨rfl, a2, b2, _⟩ | ⟨rfl, a2, _⟩
  ·exact ⟨rfl, Option.some.inj (b1.symm.trans b2), rfl⟩
  ·rw [b1] at b2
   cases b2
  ·exact absurd a1 a2
 ·rcases h2 with ⟨rfl, a2, b2, rfl⟩ | ⟨rfl, a2, b2, rfl, rfl, _⟩ | ⟨rfl, a2, _⟩
  ·rw [b1] at b2
   cases b2
  ·exact ⟨rfl, rfl, rfl⟩
  ·exact absurd a1 a2
 ·rcases h2 with ⟨rfl, a2, _⟩ | ⟨rfl, a2, _⟩ | ⟨rfl, a2, rfl, rfl, _⟩
  ·exact absurd a2 a1
  ·exact absurd a2 a1
  ·exact ⟨rfl, rfl, rfl⟩
theorem rep_small {s t : St} {o : Option St} {fa : Nat} {a k : Int} {x : SV} (hM : May s → ∀ t, o = some t → May t) (h1 : (k = 0 ∧ May s ∧ o = some t ∧ a = 0) ∨ (k = 11 ∧ May s ∧ o = none ∧ a = fa ∧ t = zeroSt ∧ x = zeroSV) ∨ (k = 10 ∧ ¬ May s ∧ a = 0 ∧ t = zeroSt ∧ x = zeroSV)) : Sz t ∧ Few t := by
 have key : Sz t ∧ t.zones.length ≤ 200 := by
  have hz : Sz zeroSt ∧ zeroSt.zones.length ≤ 200 := ⟨⟨by decide, by decide, by decide, fun i => by simp [zeroSt]⟩, by decide⟩
  rcases h1 with ⟨_, hm, ho, _⟩ | ⟨_, _, _, _, rfl, _⟩ | ⟨_, _, _, rfl, _⟩
  ·have hm2 := hM hm t ho
   exact ⟨may_sz hm2, by have := hm2.zn; have := hm2.n4; omega⟩
  ·exact hz
  ·exact hz
 exact ⟨key.1, Nat.le_trans key.1.p (by decide), Nat.le_trans key.1.c (by decide), key.2, fun i => Nat.le_trans (key.1.r i) (by decide)⟩
theorem WEvs.span {B T : Nat} {w w' : World} {base g : Nat} {E : List Ev} {P : List (EV × Ev)} (h : WEvs w base g E P) (k : Span B T w w') (hT : T ≤ base) : WEvs w' base g E P :=
 ⟨h.len, k.blk h.z (Nat.le_trans hT h.ge), h.ge, fun i hi => by
  obtain ⟨gI, e1, e2⟩ := h.lo i hi
  exact ⟨gI, e1, k.own e2 hT⟩, h.hi, h.ap⟩
/-- What the loops that write over the orders keep. -/
structure WOrd (w : World) (base g n : Nat) (P : List (EV × Ev)) : Prop where
 z : G.Blk w g 30 (flatE P).toArray
 len : n ≤ P.length
 rows : ∀ i, i < n → ∃ gI, (P.getD i zeroP).1 = ⟨some ⟨gI, 0, none⟩, (P.getD i zeroP).2.order.length + 64⟩ ∧ ∃ ys : List Int, w.ownsRow base 3 1 (.slice (some ⟨gI, 0, none⟩) ((P.getD i zeroP).2.order.length + 64) ((P.getD i zeroP).2.order.length + 64)) ((P.getD i zeroP).2.order.length + 64) (i64s ys)
 ap : ∀ i j, i < n → j < n → i ≠ j → (P.getD i zeroP).1.oa ≠ (P.getD j zeroP).1.oa
theorem WEvs.ord {w : World} {base g n : Nat} {E : List Ev} {P : List (EV × Ev)} (h : WEvs w base g E P) (hn : E.length = n) : WOrd w base g n P := by
 subst hn
 refine ⟨h.z, by rw [h.len]; omega, fun i hi => ?_, h.ap⟩
 obtain ⟨gI, e1, e2⟩ := h.lo i hi
 rw [e1]
 exact ⟨gI, rfl, wideI (E.getD i zeroEv).order, e2⟩
theorem WOrd.cell {w : World} {base g n : Nat} {P : List (EV × Ev)} (h : WOrd w base g n P) {i : Nat} (hi : i < n) : w.cell? ⟨g, i * 12 + 11, none⟩ = some (.slice (P.getD i zeroP).1.oa (P.getD i zeroP).2.order.length (P.getD i zeroP).1.oc) := by
 have hl := h.len
 have h2 : (flatE P).getD (i * 12 + 11) undef = (cellsE (P.getD i zeroP)).getD 11 undef := G.flat_getD cellsE 12 (fun _ => rfl) zeroP P i 11 (by omega) (by omega)
 have hlt : i * 12 + 11 < (flatE P).length := by rw [flatE_length]; omega
 rw [h.z.cell, List.getElem?_toArray, List.getElem?_eq_getElem hlt]
 rw [List.getD_eq_getElem?_getD, List.getElem?_eq_getElem hlt] at h2
 simp only [Option.getD_some] at h2
 rw [h2]
 rfl
theorem WOrd.put {w : World} {base g n i gI : Nat} {P : List (EV × Ev)} (h : WOrd w base g n P) (hi : i < n) (he : (P.getD i zeroP).1.oa = some ⟨gI, 0, none⟩) (k : Nat) (v : Int) : WOrd (w.setCell ⟨gI, k, none⟩ (.int .i64 v)) base g n P := by
 obtain ⟨g2, e2, ys, hr⟩ := h.rows i hi
 have e3 : g2 = gI := by
  rw [e2] at he
  simpa using he
 subst e3
 have hst := hr.stored k (.int .i64 v)
 refine ⟨blk_far h.z hr hst.2 (by decide), h.len, fun j hj => ?_, h.ap⟩
 by_cases hij : i = j
 ·subst hij
  refine ⟨g2, e2, ys.set k v, ?_⟩
  have h9 := hst.1
  rw [i64s_set] at h9
  exact h9
 ·obtain ⟨g3, e4, zs, hr3⟩ := h.rows j hj
  refine ⟨g3, e4, zs, hr3.kept hst.2 (.inr fun hh => ?_)⟩
  have hne := h.ap i j hi hj hij
  rw [e2, e4] at hne
  simp [Value.ownBlock] at hh
  exact hne (by rw [hh])
/-- .. and what else has changed. -/
structure WOI (T : Nat) (w0 : World) (base g n : Nat) (P : List (EV × Ev)) (wr : World) : Prop where
 sp : Span base T w0 wr
 o : WOrd wr base g n P
/-- The boxes of the law's variables. -/
structure SevR (w : World) (g g5 g7 g10 g13 g16 : Nat) (cs c5 c7 c10 c13 c16 : Array Value) : Prop where
 a : G.Blk w g 27 cs
 b : G.Blk w g5 27 c5
 c : G.Blk w g7 27 c7
 d : G.Blk w g10 27 c10
 e : G.Blk w g13 27 c13
 f : G.Blk w g16 27 c16
theorem SevR.below {w w' : World} {g g5 g7 g10 g13 g16 : Nat} {cs c5 c7 c10 c13 c16 : Array Value} (k : SevR w g g5 g7 g10 g13 g16 cs c5 c7 c10 c13 c16) (hb : Below w.heap.size w w') : SevR w' g g5 g7 g10 g13 g16 cs c5 c7 c10 c13 c16 :=
 ⟨k.a.below hb k.a.lt, k.b.below hb k.b.lt, k.c.below hb k.c.lt, k.d.below hb k.d.lt, k.e.below hb k.e.lt, k.f.below hb k.f.lt⟩
end Go.Proofs.YtofgmijmhpmabaaGreatDoor.D

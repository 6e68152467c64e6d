/- The contracts of deed.field, deed.change. -/
import Derived.Test.YtofgmijmhpmabaaGreatDoorDTurn
import Derived.Test.YtofgmijmhpmabaaGreatDoorDCheckW
namespace Go.Proofs.YtofgmijmhpmabaaGreatDoor.D
open Go Go.RowKit
set_option linter.unusedVariables false
set_option linter.unusedSimpArgs false
def FieldPost (g base : Nat) (x : SV) (s : St) (f num : Int) (w : World) (e : Ending) (w' : World) : Prop :=
 ∃ (p : Option Addr) (k : Nat), e = .returned (.pointer p) ∧ w' = w.drewN k ∧ ((p = none ∧ getF s f num = none) ∨
  (∃ gp off v, p = some ⟨gp, off, none⟩ ∧ getF s f num = some v ∧ (base ≤ gp ∧ StBlk w gp) ∧ w.cell? ⟨gp, off, none⟩ = some (.int .i32 v) ∧ w.frozen? ⟨gp, off, none⟩ = false ∧ ∀ n, StAt (w.setCell ⟨gp, off, none⟩ (.int .i32 n)) g base x (setF s f num n)))
theorem idxp4 (x0 x1 x2 x3 : Value) : (∀ w, (Instr.index 196 (.agg #[x0, x1, x2, x3]) (.int .i8 0)).run Tryz.prog w = .ok x0 w) ∧ (∀ w, (Instr.index 196 (.agg #[x0, x1, x2, x3]) (.int .i8 1)).run Tryz.prog w = .ok x1 w) ∧
 (∀ w, (Instr.index 196 (.agg #[x0, x1, x2, x3]) (.int .i8 2)).run Tryz.prog w = .ok x2 w) ∧ (∀ w, (Instr.index 196 (.agg #[x0, x1, x2, x3]) (.int .i8 3)).run Tryz.prog w = .ok x3 w) :=
 ⟨fun _ => by kernel_rfl, fun _ => by kernel_rfl, fun _ => by kernel_rfl, fun _ => by kernel_rfl⟩
theorem idxp2 (x0 x1 : Value) : (∀ w, (Instr.index 198 (.agg #[x0, x1]) (.int .i8 0)).run Tryz.prog w = .ok x0 w) ∧ (∀ w, (Instr.index 198 (.agg #[x0, x1]) (.int .i8 1)).run Tryz.prog w = .ok x1 w) :=
 ⟨fun _ => by kernel_rfl, fun _ => by kernel_rfl⟩
/-- A field of a card stands at its cell. -/
theorem card_field {w : World} {g base k : Nat} {x : SV} {s : St} (h : StAt w g base x s) (hk : k < s.cards.length) : ∃ gc, x.ca = some ⟨gc, 0, none⟩ ∧ base ≤ gc ∧ gc < w.heap.size ∧ ∀ (f : Nat), 1 ≤ f → f ≤ 4 →
 w.cell? ⟨gc, k * 6 + (f + 1), none⟩ = some (.int .i32 (cardF (s.cards.getD k zeroCd) f)) ∧ w.frozen? ⟨gc, k * 6 + (f + 1), none⟩ = false ∧ ∀ n, StAt (w.setCell ⟨gc, k * 6 + (f + 1), none⟩ (.int .i32 n)) g base x { s with cards := s.cards.set k (cardSet (s.cards.getD k zeroCd) f n) } := by
 have hc := h.own.c
 obtain ⟨gc, cc, hcv, hgc, hnc, cur, hgg⟩ := G.own_addr hc (by omega)
 simp only [Value.slice.injEq, true_and] at hcv
 obtain ⟨hca, hcc⟩ := hcv
 have hc2 := hc
 rw [hca] at hc2
 obtain ⟨b, off, e, hrv⟩ := (G.RdS.of_own hc2).2 (by omega)
 simp only [Option.some.injEq, Addr.mk.injEq, and_true] at e
 obtain ⟨rfl, rfl⟩ := e
 obtain ⟨d0, d1, d2, d3, d4, d5⟩ := cd_at hrv hk rfl
 simp only [Nat.zero_add] at d0 d1 d2 d3 d4 d5
 have hlt := World.block_lt_of_cell? _ _ d0
 have hst : ∀ (f : Nat) (n : Int), 1 ≤ f → f ≤ 4 → StAt (w.setCell ⟨gc, k * 6 + (f + 1), none⟩ (.int .i32 n)) g base x { s with cards := s.cards.set k (cardSet (s.cards.getD k zeroCd) f n) } := fun f n h1 h4 => by
  have hy : (cardSet (s.cards.getD k zeroCd) f n).cells = ((s.cards.getD k zeroCd).cells).set (f + 1) (.int .i32 n) := by
   have : f = 1 ∨ f = 2 ∨ f = 3 ∨ f = 4 := by omega
   rcases this with rfl | rfl | rfl | rfl <;> rfl
  have ho := h.own.cset (j := f + 1) (u := .int .i32 n) hca hk (by omega) hy
  have hb := blk_far h.blk hc (stored_by hc hca (k * 6 + (f + 1)) (.int .i32 n)) (by decide)
  exact ⟨by simpa [SV.arr] using hb, ho, h.ge⟩
 refine ⟨gc, hca, hgc, hlt, fun f h1 h4 => ⟨?_, hc2.frozenAt _, fun n => hst f n h1 h4⟩⟩
 have : f = 1 ∨ f = 2 ∨ f = 3 ∨ f = 4 := by omega
 rcases this with rfl | rfl | rfl | rfl
 ·exact d2
 ·exact d3
 ·exact d4
 ·exact d5
theorem pl_field {w : World} {g base k : Nat} {x : SV} {s : St} (h : StAt w g base x s) (hk : k < s.players.length) : ∃ gc, x.pa = some ⟨gc, 0, none⟩ ∧ base ≤ gc ∧ gc < w.heap.size ∧ ∀ (f : Nat), f < 2 →
 w.cell? ⟨gc, k * 3 + f, none⟩ = some (.int .i32 (plF (s.players.getD k zeroPl) ((f : Int) + 5))) ∧ w.frozen? ⟨gc, k * 3 + f, none⟩ = false ∧ ∀ n, StAt (w.setCell ⟨gc, k * 3 + f, none⟩ (.int .i32 n)) g base x { s with players := s.players.set k (plSet (s.players.getD k zeroPl) ((f : Int) + 5) n) } := by
 have hc := h.own.p
 obtain ⟨gc, cc, hcv, hgc, hnc, cur, hgg⟩ := G.own_addr hc (by omega)
 simp only [Value.slice.injEq, true_and] at hcv
 obtain ⟨hca, hcc⟩ := hcv
 have hc2 := hc
 rw [hca] at hc2
 obtain ⟨b, off, e, hrv⟩ := (G.RdS.of_own hc2).2 (by omega)
 simp only [Option.some.injEq, Addr.mk.injEq, and_true] at e
 obtain ⟨rfl, rfl⟩ := e
 obtain ⟨d0, d1, d2⟩ := pl_at hrv hk rfl
 simp only [Nat.zero_add] at d0 d1 d2
 have hlt := World.block_lt_of_cell? _ _ d0
 have hst : ∀ (f : Nat) (n : Int), f < 2 → StAt (w.setCell ⟨gc, k * 3 + f, none⟩ (.int .i32 n)) g base x { s with players := s.players.set k (plSet (s.players.getD k zeroPl) ((f : Int) + 5) n) } := fun f n h4 => by
  have hy : (plSet (s.players.getD k zeroPl) ((f : Int) + 5) n).cells = ((s.players.getD k zeroPl).cells).set f (.int .i32 n) := by
   have : f = 0 ∨ f = 1 := by omega
   rcases this with rfl | rfl <;> rfl
  have ho := h.own.pset (j := f) (u := .int .i32 n) hca hk (by omega) hy
  have hb := blk_far h.blk hc (stored_by hc hca (k * 3 + f) (.int .i32 n)) (by decide)
  exact ⟨by simpa [SV.arr] using hb, ho, h.ge⟩
 refine ⟨gc, hca, hgc, hlt, fun f h4 => ⟨?_, hc2.frozenAt _, fun n => hst f n h4⟩⟩
 have : f = 0 ∨ f = 1 := by omega
 rcases this with rfl | rfl
 ·exact d0
 ·exact d1
theorem fieldP_no {g base : Nat} {x : SV} {s : St} {f num : Int} {w : World} (h : getF s f num = none) : FieldPost g base x s f num w (.returned (.pointer none)) w := ⟨none, 0, rfl, rfl, .inl ⟨rfl, h⟩⟩
set_option maxRecDepth 100000 in
set_option maxHeartbeats 4000000 in
theorem field_any (g base : Nat) (x : SV) (s : St) (w : World) (hs : StAt w g base x s) (hz : Sz s) (f num : Int) (hf : -128 ≤ f ∧ f ≤ 127) :
 Calls Tryz.prog 104 #[.pointer (some ⟨g, 0, none⟩), .int .i8 f, .int .i64 num] w (FieldPost g base x s f num w) := by
 have HS := Lib.hid hs
 have hp1 := hz.p
 have hp2 := hz.c
 obtain ⟨c0, c1, c2, c3, c4, c5, c6⟩ := hs.cells
 have hlt := hs.blk.lt
 obtain ⟨n, hn⟩ : ∃ n, n = s.players.length := ⟨_, rfl⟩
 obtain ⟨m, hm⟩ : ∃ m, m = s.cards.length := ⟨_, rfl⟩
 rw [← hn] at hp1 c0
 rw [← hm] at hp2 c1
 have HN := Lib.hid hn
 have HM := Lib.hid hm
 obtain ⟨f1, f2⟩ := hf
 clear hs hz hn hm c2 c3 c4 c5 c6
 by_cases k1 : f ≤ 4
 ·by_cases k2 : 1 ≤ f
  ·by_cases k3 : 0 ≤ num
   ·obtain ⟨k, rfl⟩ := Int.eq_ofNat_of_zero_le k3
    by_cases k4 : k < m
    ·have k4I : ((k : Nat) : Int) < m := by omega
     obtain ⟨gc, hca, hgc, hgl, hall⟩ := card_field HS.out (k := k) (by rw [← HM.out]; exact k4)
     have HSB := Lib.hid (StBlk.own HS.out.own.c (by rw [hca]; rfl) (by decide))
     rw [hca] at c1
     have HALL := Lib.hid hall
     have HG := Lib.hid (show getF s f k = some (cardF (s.cards.getD k zeroCd) f) by
      unfold getF
      rw [if_pos k1, if_pos ⟨k2, by unfold Within; rw [← HM.out]; omega⟩]
      rfl)
     have HSE := Lib.hid (show ∀ n, setF s f k n = { s with cards := s.cards.set k (cardSet (s.cards.getD k zeroCd) f n) } from fun n => by
      unfold setF
      rw [if_pos k1]
      rfl)
     have hgz : ((k : Nat) : Int) * 6 = ((k * 6 : Nat) : Int) := by omega
     clear hca hall hgz
     have h4 : f = 1 ∨ f = 2 ∨ f = 3 ∨ f = 4 := by omega
     rcases h4 with rfl | rfl | rfl | rfl
     ·have i0 := fun x0 x1 x2 x3 => (idxp4 x0 x1 x2 x3).1
      go_enter Tryz.func104, Tryz.ntmps104
      go_wp2_with fail
      go_quiet (fail)
      go_wp2_with fail
      go_ret
      exact ⟨_, _, rfl, rfl, .inr ⟨gc, k * 6 + 2, _, rfl, HG.out, ⟨hgc, HSB.out⟩, (HALL.out 1 (by omega) (by omega)).1, (HALL.out 1 (by omega) (by omega)).2.1, fun n => by rw [HSE.out]; exact (HALL.out 1 (by omega) (by omega)).2.2 n⟩⟩
     ·have i0 := fun x0 x1 x2 x3 => (idxp4 x0 x1 x2 x3).2.1
      go_enter Tryz.func104, Tryz.ntmps104
      go_wp2_with fail
      go_quiet (fail)
      go_wp2_with fail
      go_ret
      exact ⟨_, _, rfl, rfl, .inr ⟨gc, k * 6 + 3, _, rfl, HG.out, ⟨hgc, HSB.out⟩, (HALL.out 2 (by omega) (by omega)).1, (HALL.out 2 (by omega) (by omega)).2.1, fun n => by rw [HSE.out]; exact (HALL.out 2 (by omega) (by omega)).2.2 n⟩⟩
     ·have i0 := fun x0 x1 x2 x3 => (idxp4 x0 x1 x2 x3).2.2.1
      go_enter Tryz.func104, Tryz.ntmps104
      go_wp2_with fail
      go_quiet (fail)
      go_wp2_with fail
      go_ret
      exact ⟨_, _, rfl, rfl, .inr ⟨gc, k * 6 + 4, _, rfl, HG.out, ⟨hgc, HSB.out⟩, (HALL.out 3 (by omega) (by omega)).1, (HALL.out 3 (by omega) (by omega)).2.1, fun n => by rw [HSE.out]; exact (HALL.out 3 (by omega) (by omega)).2.2 n⟩⟩
     ·have i0 := fun x0 x1 x2 x3 => (idxp4 x0 x1 x2 x3).2.2.2
      go_enter Tryz.func104, Tryz.ntmps104
      go_wp2_with fail
      go_quiet (fail)
      go_wp2_with fail
      go_ret
      exact ⟨_, _, rfl, rfl, .inr ⟨gc, k * 6 + 5, _, rfl, HG.out, ⟨hgc, HSB.out⟩, (HALL.out 4 (by omega) (by omega)).1, (HALL.out 4 (by omega) (by omega)).2.1, fun n => by rw [HSE.out]; exact (HALL.out 4 (by omega) (by omega)).2.2 n⟩⟩
    ·have k4I : ¬ ((k : Nat) : Int) < m := by omega
     have HNO := Lib.hid (show getF s f (k : Int) = none by unfold getF; rw [if_pos k1, if_neg (fun h => k4 (by have h9 := h.2.2; rw [← HM.out] at h9; omega))])
     go_enter Tryz.func104, Tryz.ntmps104
     go_wp2_with fail
     go_ret
     exact fieldP_no HNO.out
   ·have HNO := Lib.hid (show getF s f num = none by unfold getF; rw [if_pos k1, if_neg (fun h => k3 h.2.1)])
    go_enter Tryz.func104, Tryz.ntmps104
    go_wp2_with fail
    go_ret
    exact fieldP_no HNO.out
  ·have HNO := Lib.hid (show getF s f num = none by unfold getF; rw [if_pos k1, if_neg (fun h => k2 h.1)])
   go_enter Tryz.func104, Tryz.ntmps104
   go_wp2_with fail
   go_ret
   exact fieldP_no HNO.out
 ·by_cases k2 : f ≤ 6
  ·by_cases k3 : 0 ≤ num
   ·obtain ⟨k, rfl⟩ := Int.eq_ofNat_of_zero_le k3
    by_cases k4 : k < n
    ·have k4I : ((k : Nat) : Int) < n := by omega
     obtain ⟨gc, hca, hgc, hgl, hall⟩ := pl_field HS.out (k := k) (by rw [← HN.out]; exact k4)
     have HSB := Lib.hid (StBlk.own HS.out.own.p (by rw [hca]; rfl) (by decide))
     rw [hca] at c0
     have HALL := Lib.hid hall
     have HG := Lib.hid (show getF s f k = some (plF (s.players.getD k zeroPl) f) by
      unfold getF
      rw [if_neg k1, if_pos ⟨k2, by unfold Within; rw [← HN.out]; omega⟩]
      rfl)
     have HSE := Lib.hid (show ∀ n, setF s f k n = { s with players := s.players.set k (plSet (s.players.getD k zeroPl) f n) } from fun n => by
      unfold setF
      rw [if_neg k1]
      rfl)
     clear hca hall
     have h4 : f = 5 ∨ f = 6 := by omega
     rcases h4 with rfl | rfl
     ·have i0 := fun x0 x1 => (idxp2 x0 x1).1
      go_enter Tryz.func104, Tryz.ntmps104
      go_wp2_with fail
      go_quiet (fail)
      go_wp2_with fail
      go_ret
      exact ⟨_, _, rfl, rfl, .inr ⟨gc, k * 3, _, rfl, HG.out, ⟨hgc, HSB.out⟩, (HALL.out 0 (by omega)).1, (HALL.out 0 (by omega)).2.1, fun n => by rw [HSE.out]; exact (HALL.out 0 (by omega)).2.2 n⟩⟩
     ·have i0 := fun x0 x1 => (idxp2 x0 x1).2
      go_enter Tryz.func104, Tryz.ntmps104
      go_wp2_with fail
      go_quiet (fail)
      go_wp2_with fail
      go_ret
      exact ⟨_, _, rfl, rfl, .inr ⟨gc, k * 3 + 1, _, rfl, HG.out, ⟨hgc, HSB.out⟩, (HALL.out 1 (by omega)).1, (HALL.out 1 (by omega)).2.1, fun n => by rw [HSE.out]; exact (HALL.out 1 (by omega)).2.2 n⟩⟩
    ·have k4I : ¬ ((k : Nat) : Int) < n := by omega
     have HNO := Lib.hid (show getF s f (k : Int) = none by unfold getF; rw [if_neg k1, if_neg (fun h => k4 (by have h9 := h.2.2; rw [← HN.out] at h9; omega))])
     go_enter Tryz.func104, Tryz.ntmps104
     go_wp2_with fail
     go_ret
     exact fieldP_no HNO.out
   ·have HNO := Lib.hid (show getF s f num = none by unfold getF; rw [if_neg k1, if_neg (fun h => k3 h.2.1)])
    go_enter Tryz.func104, Tryz.ntmps104
    go_wp2_with fail
    go_ret
    exact fieldP_no HNO.out
  ·have HNO := Lib.hid (show getF s f num = none by unfold getF; rw [if_neg k1, if_neg (fun h => k2 h.1)])
   go_enter Tryz.func104, Tryz.ntmps104
   go_wp2_with fail
   go_ret
   exact fieldP_no HNO.out
theorem changeS_yes {s : St} {f num was now : Int} (h1 : getF s f num = some was) (h2 : was ≠ now) (h3 : Stat now) : changeS s f num was now = some (setF s f num now) := if_pos ⟨h1, h2, h3⟩
theorem changeS_no {s : St} {f num was now : Int} (h : ¬ (getF s f num = some was ∧ was ≠ now ∧ Stat now)) : changeS s f num was now = none := if_neg h
set_option maxRecDepth 100000 in
set_option maxHeartbeats 4000000 in
theorem change_any (g base : Nat) (x : SV) (s : St) (w : World) (hs : StAt w g base x s) (hz : Sz s) (f num was now : Int) (hf : -128 ≤ f ∧ f ≤ 127) :
 Calls Tryz.prog 165 #[.pointer (some ⟨g, 0, none⟩), .int .i8 f, .int .i64 num, .int .i32 was, .int .i32 now] w (StepPost s (changeS s f num was now) g base w) := by
 have HS := Lib.hid hs
 have HF := Lib.hid (field_any g base x s w hs hz f num hf)
 clear hs hz hf
 go_enter Tryz.func165, Tryz.ntmps165
 go_wp2_with fail
 refine HF.out.mono ?_
 rintro e w' ⟨p, q, rfl, rfl, hp⟩
 rcases hp with ⟨rfl, hg⟩ | ⟨gp, off, v, rfl, hg, ⟨hgb, hsb⟩, hc, hfr, hst⟩
 ·have HO := Lib.hid (changeS_no (s := s) (f := f) (num := num) (was := was) (now := now) (fun h => by rw [hg] at h; cases h.1))
  clear hg
  go_wp2_with fail
  go_ret
  exact stepP_no HO.out (bk_dn _ _ _)
 ·have HG := Lib.hid hg
  have HST := Lib.hid hst
  have hgl := World.block_lt_of_cell? _ _ hc
  clear hg hst
  by_cases h1 : v = was
  ·have h1b : (v != was) = false := by rw [h1]; simp
   by_cases h2 : was = now
   ·have h2b : (was == now) = true := by rw [h2]; simp
    have HO := Lib.hid (changeS_no (s := s) (f := f) (num := num) (was := was) (now := now) (fun h => h.2.1 h2))
    clear h1 h2
    go_wp2_with fail
    go_ret
    exact stepP_no HO.out (bk_dn _ _ _)
   ·have h2b : (was == now) = false := by rw [beq_eq_false_iff_ne]; exact h2
    by_cases h3 : now ≤ 1000000000
    ·by_cases h4 : -1000000000 ≤ now
     ·have HO := Lib.hid (changeS_yes (s := s) (f := f) (num := num) (by rw [← h1]; exact HG.out) h2 ⟨h4, h3⟩)
      have HR := Lib.hid (show StAt ((w.drewN q).setCell ⟨gp, off, none⟩ (.int .i32 now)) g base x (setF s f num now) from (show StAt ((w.setCell ⟨gp, off, none⟩ (.int .i32 now)).drewN q) g base x _ from (HST.out now).below (Bl.dn (Below.refl _ _) _)))
      clear h1 h2
      go_wp2_with fail
      go_ret
      exact stepP_yes HO.out HR.out ((bk_dn _ _ _).trans (bk_put hgb hsb))
     ·have HO := Lib.hid (changeS_no (s := s) (f := f) (num := num) (was := was) (now := now) (fun h => h4 h.2.2.1))
      clear h1 h2
      go_wp2_with fail
      go_ret
      exact stepP_no HO.out (bk_dn _ _ _)
    ·have HO := Lib.hid (changeS_no (s := s) (f := f) (num := num) (was := was) (now := now) (fun h => h3 h.2.2.2))
     clear h1 h2
     go_wp2_with fail
     go_ret
     exact stepP_no HO.out (bk_dn _ _ _)
  ·have h1b : (v != was) = true := by rw [bne_iff_ne]; exact h1
   have HO := Lib.hid (changeS_no (s := s) (f := f) (num := num) (was := was) (now := now) (fun h => h1 (by rw [HG.out] at h; exact Option.some.inj h.1)))
   clear h1
   go_wp2_with fail
   go_ret
   exact stepP_no HO.out (bk_dn _ _ _)
end Go.Proofs.YtofgmijmhpmabaaGreatDoor.D
namespace Go.Proofs.YtofgmijmhpmabaaGreatDoor.D
open Go Go.RowKit
set_option linter.unusedVariables false
set_option linter.unusedSimpArgs false
/-- Where a card stands: its zone, its place. -/
def zoneOf (zs : List (List Int)) (c : Int) : Nat := zs.findIdx fun l => decide (c ∈ l)
def atOf (zs : List (List Int)) (c : Int) : Nat := (zs.getD (zoneOf zs c) []).idxOf c
def moveEv (s : St) (card zn : Int) (first : Bool) : List Ev :=
 let z : Int := zoneOf s.zones card
 let a : Int := atOf s.zones card
 let dst : Int := if first then 0 else if z = zn then (zone s zn).length - 1 else (zone s zn).length
 if z = zn ∧ a = dst then [] else [{ zeroEv with kind := 1, card := card, src := z, srcAt := a, dst := zn, dstAt := dst }]
open Classical in
def drawEv (s : St) (p : Int) : List Ev :=
 match zone s (4 * p) with
 | [] => []
 | c :: _ => moveEv s c (4 * p + 1) false
theorem May.order {s : St} (h : May s) : IsOrder s.zones.flatten s.cards.length := ⟨h.all, h.rng, h.nd⟩
theorem place_ok {s : St} {c : Int} (h : May s) (hc : Within c s.cards.length) :
 zoneOf s.zones c < s.zones.length ∧ atOf s.zones c < (s.zones.getD (zoneOf s.zones c) []).length ∧ (s.zones.getD (zoneOf s.zones c) []).getD (atOf s.zones c) 0 = c := by
 obtain ⟨h0, h1⟩ := hc
 obtain ⟨k, rfl⟩ := Int.eq_ofNat_of_zero_le h0
 have hm := order_mem h.order (j := k) (by omega)
 obtain ⟨l, hl, hkl⟩ := List.mem_flatten.1 hm
 have hz : zoneOf s.zones k < s.zones.length := List.findIdx_lt_length_of_exists ⟨l, hl, by simpa using hkl⟩
 have hmem : (k : Int) ∈ s.zones.getD (zoneOf s.zones k) [] := by
  rw [getD_lt hz]
  have := List.findIdx_getElem (w := hz)
  exact of_decide_eq_true this
 have ha : atOf s.zones k < (s.zones.getD (zoneOf s.zones k) []).length := List.idxOf_lt_length_of_mem hmem
 refine ⟨hz, ha, ?_⟩
 rw [getD_lt ha]
 exact List.getElem_idxOf ha
theorem place_in {s : St} {c : Int} {z a : Nat} (h : May s) (hz : z < s.zones.length) (ha : a < (s.zones.getD z []).length) (hc : (s.zones.getD z []).getD a 0 = c) : Within c s.cards.length := by
 have := h.rng c (List.mem_flatten.2 ⟨_, mem_getD (d := []) hz, by rw [← hc]; exact mem_getD ha⟩)
 exact this
/-- What a list of events leads to. -/
def runE (s : St) : List Ev → Option St
 | [] => some s
 | e :: l => match stepE s e false with
  | some t => runE t l
  | none => none
theorem step_fits {s t : St} {e : Ev} (h : PlainE e) (k : doE s e = some t) : stepE s e false = some t := by
 unfold stepE
 rw [if_pos h]
 exact k
open Classical in
noncomputable def undoE (s : St) (e : Ev) : Option St :=
 match stepE s e true with
 | some t => if May t then some t else none
 | none => none
theorem step_facts {s t : St} {e : Ev} (h : stepE s e false = some t) (hm : May s) : undoE t e = some s ∧ May t ∧ SameKO s t ∧ t ≠ s := by
 unfold stepE at h
 split at h
 ·rename_i hp
  obtain ⟨a, b, c, d⟩ := do_facts (by simpa using h) hm
  refine ⟨?_, b, c, d⟩
  unfold undoE stepE
  rw [if_pos hp, if_pos rfl, a]
  exact if_pos hm
 ·cases h
theorem undo_facts {s t : St} {e : Ev} (h : undoE s e = some t) (hm : May s) : stepE t e false = some s ∧ May t ∧ SameKO s t := by
 unfold undoE at h
 split at h
 ·rename_i u hu
  split at h
  ·rename_i ht
   obtain rfl := Option.some.inj h
   unfold stepE at hu
   split at hu
   ·rename_i hp
    obtain ⟨a, b⟩ := back_facts (by simpa using hu) hm ht
    exact ⟨step_fits hp a, ht, b⟩
   ·cases hu
  ·cases h
 ·cases h
/-- A list of events, the last one last, taken back from the end on. -/
noncomputable def backL (s : St) : List Ev → Option St
 | [] => some s
 | e :: l => match backL s l with
  | some t => undoE t e
  | none => none
theorem run_app {l m : List Ev} : ∀ {s t : St}, runE s l = some t → runE s (l ++ m) = runE t m := by
 induction l with
 | nil =>
  intro s t h
  obtain rfl := Option.some.inj h
  rfl
 | cons e l ih =>
  intro s t h
  rw [List.cons_append]
  have e1 : ∀ l, runE s (e :: l) = (match stepE s e false with | some t => runE t l | none => none) := fun l => rfl
  rw [e1] at h ⊢
  cases he : stepE s e false with
  | none => rw [he] at h; cases h
  | some u =>
   rw [he] at h
   exact ih h
theorem run_back {l : List Ev} : ∀ {s t : St}, May s → runE s l = some t → backL t l = some s ∧ May t ∧ SameKO s t := by
 induction l with
 | nil =>
  intro s t hm h
  obtain rfl := Option.some.inj h
  exact ⟨rfl, hm, SameKO.refl _⟩
 | cons e l ih =>
  intro s t hm h
  unfold runE at h
  cases he : stepE s e false with
  | none => rw [he] at h; cases h
  | some u =>
   rw [he] at h
   obtain ⟨a, b, c, _⟩ := step_facts he hm
   obtain ⟨d, f, g⟩ := ih b h
   refine ⟨?_, f, c.trans g⟩
   unfold backL
   rw [d]
   exact a
end Go.Proofs.YtofgmijmhpmabaaGreatDoor.D

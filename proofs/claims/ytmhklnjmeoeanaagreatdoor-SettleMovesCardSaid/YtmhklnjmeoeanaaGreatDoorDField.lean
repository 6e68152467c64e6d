/- The contracts of deed.field, deed.change. -/
import Derived.Test.YtmhklnjmeoeanaaGreatDoorDTurn
import Derived.Test.YtmhklnjmeoeanaaGreatDoorDCheckW
namespace Go.Proofs.YtmhklnjmeoeanaaGreatDoor.D
open Go Go.RowKit
set_option linter.unusedVariables false
set_option linter.unusedSimpArgs false
def FieldPost (g base : Nat) (x : SV) (s : St) (f num : Int) (w : World) (e : Ending) (w' : World) : Prop :=
  ∃ (p : Option Addr) (k : Nat), e = .returned (.pointer p) ∧ w' = w.drewN k ∧ ((p = none ∧ getF s f num = none) ∨
    (∃ gp off v, p = some ⟨gp, off, none⟩ ∧ getF s f num = some v ∧ (base ≤ gp ∧ StBlk w gp) ∧ w.cell? ⟨gp, off, none⟩ = some (.int .i32 v) ∧ w.frozen? ⟨gp, off, none⟩ = false ∧ ∀ n, StAt (w.setCell ⟨gp, off, none⟩ (.int .i32 n)) g base x (setF s f num n)))
theorem idxp4 (x0 x1 x2 x3 : Value) : (∀ w, (Instr.index 222 (.agg #[x0, x1, x2, x3]) (.int .i8 0)).run Tryz.prog w = .ok x0 w) ∧ (∀ w, (Instr.index 222 (.agg #[x0, x1, x2, x3]) (.int .i8 1)).run Tryz.prog w = .ok x1 w) ∧
    (∀ w, (Instr.index 222 (.agg #[x0, x1, x2, x3]) (.int .i8 2)).run Tryz.prog w = .ok x2 w) ∧ (∀ w, (Instr.index 222 (.agg #[x0, x1, x2, x3]) (.int .i8 3)).run Tryz.prog w = .ok x3 w) :=
  ⟨fun _ => by kernel_rfl, fun _ => by kernel_rfl, fun _ => by kernel_rfl, fun _ => by kernel_rfl⟩
theorem idxp2 (x0 x1 : Value) : (∀ w, (Instr.index 224 (.agg #[x0, x1]) (.int .i8 0)).run Tryz.prog w = .ok x0 w) ∧ (∀ w, (Instr.index 224 (.agg #[x0, x1]) (.int .i8 1)).run Tryz.prog w = .ok x1 w) :=
  ⟨fun _ => by kernel_rfl, fun _ => by kernel_rfl⟩
/-- A field of a card stands at its cell. -/
theorem card_field {w : World} {g base k : Nat} {x : SV} {s : St} (h : StAt w g base x s) (hk : k < s.cards.length) : ∃ gc, x.ca = some ⟨gc, 0, none⟩ ∧ base ≤ gc ∧ gc < w.heap.size ∧ ∀ (f : Nat), 1 ≤ f → f ≤ 4 →
    w.cell? ⟨gc, k * 6 + (f + 1), none⟩ = some (.int .i32 (cardF (s.cards.getD k zeroCd) f)) ∧ w.frozen? ⟨gc, k * 6 + (f + 1), none⟩ = false ∧ ∀ n, StAt (w.setCell ⟨gc, k * 6 + (f + 1), none⟩ (.int .i32 n)) g base x { s with cards := s.cards.set k (cardSet (s.cards.getD k zeroCd) f n) } := by
  have hc := h.own.c
  obtain ⟨gc, cc, hcv, hgc, hnc, cur, hgg⟩ := G.own_addr hc (by omega)
  simp only [Value.slice.injEq, true_and] at hcv
  obtain ⟨hca, hcc⟩ := hcv
  have hc2 := hc
  rw [hca] at hc2
  obtain ⟨b, off, e, hrv⟩ := (G.RdS.of_own hc2).2 (by omega)
  simp only [Option.some.injEq, Addr.mk.injEq, and_true] at e
  obtain ⟨rfl, rfl⟩ := e
  obtain ⟨d0, d1, d2, d3, d4, d5⟩ := cd_at hrv hk rfl
  simp only [Nat.zero_add] at d0 d1 d2 d3 d4 d5
  have hlt := World.block_lt_of_cell? _ _ d0
  have hst : ∀ (f : Nat) (n : Int), 1 ≤ f → f ≤ 4 → StAt (w.setCell ⟨gc, k * 6 + (f + 1), none⟩ (.int .i32 n)) g base x { s with cards := s.cards.set k (cardSet (s.cards.getD k zeroCd) f n) } := fun f n h1 h4 => by
    have hy : (cardSet (s.cards.getD k zeroCd) f n).cells = ((s.cards.getD k zeroCd).cells).set (f + 1) (.int .i32 n) := by
      have : f = 1 ∨ f = 2 ∨ f = 3 ∨ f = 4 := by omega
      rcases this with rfl | rfl | rfl | rfl <;> rfl
    have ho := h.own.cset (j := f + 1) (u := .int .i32 n) hca hk (by omega) hy
    have hb := blk_far h.blk hc (stored_by hc hca (k * 6 + (f + 1)) (.int .i32 n)) (by decide)
    exact ⟨by simpa [SV.arr] using hb, ho, h.ge⟩
  refine ⟨gc, hca, hgc, hlt, fun f h1 h4 => ⟨?_, hc2.frozenAt _, fun n => hst f n h1 h4⟩⟩
  have : f = 1 ∨ f = 2 ∨ f = 3 ∨ f = 4 := by omega
  rcases this with rfl | rfl | rfl | rfl
  · exact d2
  · exact d3
  · exact d4
  · exact d5
theorem pl_field {w : World} {g base k : Nat} {x : SV} {s : St} (h : StAt w g base x s) (hk : k < s.players.length) : ∃ gc, x.pa = some ⟨gc, 0, none⟩ ∧ base ≤ gc ∧ gc < w.heap.size ∧ ∀ (f : Nat), f < 2 →
    w.cell? ⟨gc, k * 3 + f, none⟩ = some (.int .i32 (plF (s.players.getD k zeroPl) ((f : Int) + 5))) ∧ w.frozen? ⟨gc, k * 3 + f, none⟩ = false ∧ ∀ n, StAt (w.setCell ⟨gc, k * 3 + f, none⟩ (.int .i32 n)) g base x { s with players := s.players.set k (plSet (s.players.getD k zeroPl) ((f : Int) + 5) n) } := by
  have hc := h.own.p
  obtain ⟨gc, cc, hcv, hgc, hnc, cur, hgg⟩ := G.own_addr hc (by omega)
  simp only [Value.slice.injEq, true_and] at hcv
  obtain ⟨hca, hcc⟩ := hcv
  have hc2 := hc
  rw [hca] at hc2
  obtain ⟨b, off, e, hrv⟩ := (G.RdS.of_own hc2).2 (by omega)
  simp only [Option.some.injEq, Addr.mk.injEq, and_true] at e
  obtain ⟨rfl, rfl⟩ := e
  obtain ⟨d0, d1, d2⟩ := pl_at hrv hk rfl
  simp only [Nat.zero_add] at d0 d1 d2
  have hlt := World.block_lt_of_cell? _ _ d0
  have hst : ∀ (f : Nat) (n : Int), f < 2 → StAt (w.setCell ⟨gc, k * 3 + f, none⟩ (.int .i32 n)) g base x { s with players := s.players.set k (plSet (s.players.getD k zeroPl) ((f : Int) + 5) n) } := fun f n h4 => by
    have hy : (plSet (s.players.getD k zeroPl) ((f : Int) + 5) n).cells = ((s.players.getD k zeroPl).cells).set f (.int .i32 n) := by
      have : f = 0 ∨ f = 1 := by omega
      rcases this with rfl | rfl <;> rfl
    have ho := h.own.pset (j := f) (u := .int .i32 n) hca hk (by omega) hy
    have hb := blk_far h.blk hc (stored_by hc hca (k * 3 + f) (.int .i32 n)) (by decide)
    exact ⟨by simpa [SV.arr] using hb, ho, h.ge⟩
  refine ⟨gc, hca, hgc, hlt, fun f h4 => ⟨?_, hc2.frozenAt _, fun n => hst f n h4⟩⟩
  have : f = 0 ∨ f = 1 := by omega
  rcases this with rfl | rfl
  · exact d0
  · exact d1
theorem fieldP_no {g base : Nat} {x : SV} {s : St} {f num : Int} {w : World} (h : getF s f num = none) : FieldPost g base x s f num w (.returned (.pointer none)) w := ⟨none, 0, rfl, rfl, .inl ⟨rfl, h⟩⟩
set_option maxRecDepth 100000 in
set_option maxHeartbeats 4000000 in
theorem field_any (g base : Nat) (x : SV) (s : St) (w : World) (hs : StAt w g base x s) (hz : Sz s) (f num : Int) (hf : -128 ≤ f ∧ f ≤ 127) :
    Calls Tryz.prog 163 #[.pointer (some ⟨g, 0, none⟩), .int .i8 f, .int .i64 num] w (FieldPost g base x s f num w) := by
  have HS := Lib.hid hs
  have hp1 := hz.p
  have hp2 := hz.c
  obtain ⟨c0, c1, c2, c3, c4, c5, c6⟩ := hs.cells
  have hlt := hs.blk.lt
  obtain ⟨n, hn⟩ : ∃ n, n = s.players.length := ⟨_, rfl⟩
  obtain ⟨m, hm⟩ : ∃ m, m = s.cards.length := ⟨_, rfl⟩
  rw [← hn] at hp1 c0
  rw [← hm] at hp2 c1
  have HN := Lib.hid hn
  have HM := Lib.hid hm
  obtain ⟨f1, f2⟩ := hf
  clear hs hz hn hm c2 c3 c4 c5 c6
  by_cases k1 : f ≤ 4
  · by_cases k2 : 1 ≤ f
    · by_cases k3 : 0 ≤ num
      · obtain ⟨k, rfl⟩ := Int.eq_ofNat_of_zero_le k3
        by_cases k4 : k < m
        · have k4I : ((k : Nat) : Int) < m := by omega
          obtain ⟨gc, hca, hgc, hgl, hall⟩ := card_field HS.out (k := k) (by rw [← HM.out]; exact k4)
          have HSB := Lib.hid (StBlk.own HS.out.own.c (by rw [hca]; rfl) (by decide))
          rw [hca] at c1
          have HALL := Lib.hid hall
          have HG := Lib.hid (show getF s f k = some (cardF (s.cards.getD k zeroCd) f) by
            unfold getF
            rw [if_pos k1, if_pos ⟨k2, by unfold Within; rw [← HM.out]; omega⟩]
            rfl)
          have HSE := Lib.hid (show ∀ n, setF s f k n = { s with cards := s.cards.set k (cardSet (s.cards.getD k zeroCd) f n) } from fun n => by
            unfold setF
            rw [if_pos k1]
            rfl)
          have hgz : ((k : Nat) : Int) * 6 = ((k * 6 : Nat) : Int) := by omega
          clear hca hall hgz
          have h4 : f = 1 ∨ f = 2 ∨ f = 3 ∨ f = 4 := by omega
          rcases h4 with rfl | rfl | rfl | rfl
          · have i0 := fun x0 x1 x2 x3 => (idxp4 x0 x1 x2 x3).1
            go_enter Tryz.func163, Tryz.ntmps163
            go_wp2_with fail
            go_quiet (fail)
            go_wp2_with fail
            go_ret
            exact ⟨_, _, rfl, rfl, .inr ⟨gc, k * 6 + 2, _, rfl, HG.out, ⟨hgc, HSB.out⟩, (HALL.out 1 (by omega) (by omega)).1, (HALL.out 1 (by omega) (by omega)).2.1, fun n => by rw [HSE.out]; exact (HALL.out 1 (by omega) (by omega)).2.2 n⟩⟩
          · have i0 := fun x0 x1 x2 x3 => (idxp4 x0 x1 x2 x3).2.1
            go_enter Tryz.func163, Tryz.ntmps163
            go_wp2_with fail
            go_quiet (fail)
            go_wp2_with fail
            go_ret
            exact ⟨_, _, rfl, rfl, .inr ⟨gc, k * 6 + 3, _, rfl, HG.out, ⟨hgc, HSB.out⟩, (HALL.out 2 (by omega) (by omega)).1, (HALL.out 2 (by omega) (by omega)).2.1, fun n => by rw [HSE.out]; exact (HALL.out 2 (by omega) (by omega)).2.2 n⟩⟩
          · have i0 := fun x0 x1 x2 x3 => (idxp4 x0 x1 x2 x3).2.2.1
            go_enter Tryz.func163, Tryz.ntmps163
            go_wp2_with fail
            go_quiet (fail)
            go_wp2_with fail
            go_ret
            exact ⟨_, _, rfl, rfl, .inr ⟨gc, k * 6 + 4, _, rfl, HG.out, ⟨hgc, HSB.out⟩, (HALL.out 3 (by omega) (by omega)).1, (HALL.out 3 (by omega) (by omega)).2.1, fun n => by rw [HSE.out]; exact (HALL.out 3 (by omega) (by omega)).2.2 n⟩⟩
          · have i0 := fun x0 x1 x2 x3 => (idxp4 x0 x1 x2 x3).2.2.2
            go_enter Tryz.func163, Tryz.ntmps163
            go_wp2_with fail
            go_quiet (fail)
            go_wp2_with fail
            go_ret
            exact ⟨_, _, rfl, rfl, .inr ⟨gc, k * 6 + 5, _, rfl, HG.out, ⟨hgc, HSB.out⟩, (HALL.out 4 (by omega) (by omega)).1, (HALL.out 4 (by omega) (by omega)).2.1, fun n => by rw [HSE.out]; exact (HALL.out 4 (by omega) (by omega)).2.2 n⟩⟩
        · have k4I : ¬ ((k : Nat) : Int) < m := by omega
          have HNO := Lib.hid (show getF s f (k : Int) = none by unfold getF; rw [if_pos k1, if_neg (fun h => k4 (by have h9 := h.2.2; rw [← HM.out] at h9; omega))])
          go_enter Tryz.func163, Tryz.ntmps163
          go_wp2_with fail
          go_ret
          exact fieldP_no HNO.out
      · have HNO := Lib.hid (show getF s f num = none by unfold getF; rw [if_pos k1, if_neg (fun h => k3 h.2.1)])
        go_enter Tryz.func163, Tryz.ntmps163
        go_wp2_with fail
        go_ret
        exact fieldP_no HNO.out
    · have HNO := Lib.hid (show getF s f num = none by unfold getF; rw [if_pos k1, if_neg (fun h => k2 h.1)])
      go_enter Tryz.func163, Tryz.ntmps163
      go_wp2_with fail
      go_ret
      exact fieldP_no HNO.out
  · by_cases k2 : f ≤ 6
    · by_cases k3 : 0 ≤ num
      · obtain ⟨k, rfl⟩ := Int.eq_ofNat_of_zero_le k3
        by_cases k4 : k < n
        · have k4I : ((k : Nat) : Int) < n := by omega
          obtain ⟨gc, hca, hgc, hgl, hall⟩ := pl_field HS.out (k := k) (by rw [← HN.out]; exact k4)
          have HSB := Lib.hid (StBlk.own HS.out.own.p (by rw [hca]; rfl) (by decide))
          rw [hca] at c0
          have HALL := Lib.hid hall
          have HG := Lib.hid (show getF s f k = some (plF (s.players.getD k zeroPl) f) by
            unfold getF
            rw [if_neg k1, if_pos ⟨k2, by unfold Within; rw [← HN.out]; omega⟩]
            rfl)
          have HSE := Lib.hid (show ∀ n, setF s f k n = { s with players := s.players.set k (plSet (s.players.getD k zeroPl) f n) } from fun n => by
            unfold setF
            rw [if_neg k1]
            rfl)
          clear hca hall
          have h4 : f = 5 ∨ f = 6 := by omega
          rcases h4 with rfl | rfl
          · have i0 := fun x0 x1 => (idxp2 x0 x1).1
            go_enter Tryz.func163, Tryz.ntmps163
            go_wp2_with fail
            go_quiet (fail)
            go_wp2_with fail
            go_ret
            exact ⟨_, _, rfl, rfl, .inr ⟨gc, k * 3, _, rfl, HG.out, ⟨hgc, HSB.out⟩, (HALL.out 0 (by omega)).1, (HALL.out 0 (by omega)).2.1, fun n => by rw [HSE.out]; exact (HALL.out 0 (by omega)).2.2 n⟩⟩
          · have i0 := fun x0 x1 => (idxp2 x0 x1).2
            go_enter Tryz.func163, Tryz.ntmps163
            go_wp2_with fail
            go_quiet (fail)
            go_wp2_with fail
            go_ret
            exact ⟨_, _, rfl, rfl, .inr ⟨gc, k * 3 + 1, _, rfl, HG.out, ⟨hgc, HSB.out⟩, (HALL.out 1 (by omega)).1, (HALL.out 1 (by omega)).2.1, fun n => by rw [HSE.out]; exact (HALL.out 1 (by omega)).2.2 n⟩⟩
        · have k4I : ¬ ((k : Nat) : Int) < n := by omega
          have HNO := Lib.hid (show getF s f (k : Int) = none by unfold getF; rw [if_neg k1, if_neg (fun h => k4 (by have h9 := h.2.2; rw [← HN.out] at h9; omega))])
          go_enter Tryz.func163, Tryz.ntmps163
          go_wp2_with fail
          go_ret
          exact fieldP_no HNO.out
      · have HNO := Lib.hid (show getF s f num = none by unfold getF; rw [if_neg k1, if_neg (fun h => k3 h.2.1)])
        go_enter Tryz.func163, Tryz.ntmps163
        go_wp2_with fail
        go_ret
        exact fieldP_no HNO.out
    · have HNO := Lib.hid (show getF s f num = none by unfold getF; rw [if_neg k1, if_neg (fun h => k2 h.1)])
      go_enter Tryz.func163, Tryz.ntmps163
      go_wp2_with fail
      go_ret
      exact fieldP_no HNO.out
theorem changeS_yes {s : St} {f num was now : Int} (h1 : getF s f num = some was) (h2 : was ≠ now) (h3 : Stat now) : changeS s f num was now = some (setF s f num now) := if_pos ⟨h1, h2, h3⟩
theorem changeS_no {s : St} {f num was now : Int} (h : ¬ (getF s f num = some was ∧ was ≠ now ∧ Stat now)) : changeS s f num was now = none := if_neg h
theorem bl_dnB {B : Nat} {a w : World} (h : Below B a w) (n : Nat) : Below B a (w.drewN n) := ⟨h.os, h.tape, h.output, h.size, h.block⟩
set_option maxRecDepth 100000 in
set_option maxHeartbeats 4000000 in
theorem change_any (g base : Nat) (x : SV) (s : St) (w : World) (hs : StAt w g base x s) (hz : Sz s) (f num was now : Int) (hf : -128 ≤ f ∧ f ≤ 127) :
    Calls Tryz.prog 123 #[.pointer (some ⟨g, 0, none⟩), .int .i8 f, .int .i64 num, .int .i32 was, .int .i32 now] w (StepPost s (changeS s f num was now) g base w) := by
  have HS := Lib.hid hs
  have HF := Lib.hid (field_any g base x s w hs hz f num hf)
  clear hs hz hf
  go_enter Tryz.func123, Tryz.ntmps123
  go_wp2_with fail
  refine HF.out.mono ?_
  rintro e w' ⟨p, q, rfl, rfl, hp⟩
  rcases hp with ⟨rfl, hg⟩ | ⟨gp, off, v, rfl, hg, ⟨hgb, hsb⟩, hc, hfr, hst⟩
  · have HO := Lib.hid (changeS_no (s := s) (f := f) (num := num) (was := was) (now := now) (fun h => by rw [hg] at h; cases h.1))
    clear hg
    go_wp2_with fail
    go_ret
    exact stepP_no HO.out (bk_dn _ _ _)
  · have HG := Lib.hid hg
    have HST := Lib.hid hst
    have hgl := World.block_lt_of_cell? _ _ hc
    clear hg hst
    by_cases h1 : v = was
    · have h1b : (v != was) = false := by rw [h1]; simp
      by_cases h2 : was = now
      · have h2b : (was == now) = true := by rw [h2]; simp
        have HO := Lib.hid (changeS_no (s := s) (f := f) (num := num) (was := was) (now := now) (fun h => h.2.1 h2))
        clear h1 h2
        go_wp2_with fail
        go_ret
        exact stepP_no HO.out (bk_dn _ _ _)
      · have h2b : (was == now) = false := by rw [beq_eq_false_iff_ne]; exact h2
        by_cases h3 : now ≤ 1000000000
        · by_cases h4 : -1000000000 ≤ now
          · have HO := Lib.hid (changeS_yes (s := s) (f := f) (num := num) (by rw [← h1]; exact HG.out) h2 ⟨h4, h3⟩)
            have HR := Lib.hid (show StAt ((w.drewN q).setCell ⟨gp, off, none⟩ (.int .i32 now)) g base x (setF s f num now) from (show StAt ((w.setCell ⟨gp, off, none⟩ (.int .i32 now)).drewN q) g base x _ from (HST.out now).below (Bl.dn (Below.refl _ _) _)))
            clear h1 h2
            go_wp2_with fail
            go_ret
            exact stepP_yes HO.out HR.out ((bk_dn _ _ _).trans (bk_put hgb hsb))
          · have HO := Lib.hid (changeS_no (s := s) (f := f) (num := num) (was := was) (now := now) (fun h => h4 h.2.2.1))
            clear h1 h2
            go_wp2_with fail
            go_ret
            exact stepP_no HO.out (bk_dn _ _ _)
        · have HO := Lib.hid (changeS_no (s := s) (f := f) (num := num) (was := was) (now := now) (fun h => h3 h.2.2.2))
          clear h1 h2
          go_wp2_with fail
          go_ret
          exact stepP_no HO.out (bk_dn _ _ _)
    · have h1b : (v != was) = true := by rw [bne_iff_ne]; exact h1
      have HO := Lib.hid (changeS_no (s := s) (f := f) (num := num) (was := was) (now := now) (fun h => h1 (by rw [HG.out] at h; exact Option.some.inj h.1)))
      clear h1
      go_wp2_with fail
      go_ret
      exact stepP_no HO.out (bk_dn _ _ _)
end Go.Proofs.YtmhklnjmeoeanaaGreatDoor.D
namespace Go.Proofs.YtmhklnjmeoeanaaGreatDoor.D
open Go Go.RowKit
set_option linter.unusedVariables false
set_option linter.unusedSimpArgs false
/-- A deed that is asked for. -/
structure Dq where
  kind : Int
  number : Int
  zone : Int
  first : Bool
  field : Int
  by_ : Int
  order : List Int
/-- Where a card stands: its zone, its place. -/
def zoneOf (zs : List (List Int)) (c : Int) : Nat := zs.findIdx fun l => decide (c ∈ l)
def atOf (zs : List (List Int)) (c : Int) : Nat := (zs.getD (zoneOf zs c) []).idxOf c
def moveEv (s : St) (card zn : Int) (first : Bool) : List Ev :=
  let z : Int := zoneOf s.zones card
  let a : Int := atOf s.zones card
  let dst : Int := if first then 0 else if z = zn then (zone s zn).length - 1 else (zone s zn).length
  if z = zn ∧ a = dst then [] else [{ zeroEv with kind := 1, card := card, src := z, srcAt := a, dst := zn, dstAt := dst }]
def clampI (x : Int) : Int := if 1000000000 < x then 1000000000 else if x < -1000000000 then -1000000000 else x
def changeOne (f num was now : Int) : Ev := if f ≤ 4 then { zeroEv with kind := 2, field := f, card := num, was := was, now := now } else { zeroEv with kind := 3, field := f, player := num, was := was, now := now }
def changeEv (s : St) (f num by_ : Int) : List Ev :=
  match getF s f num with
  | none => []
  | some was => if clampI (was + by_) = was then [] else [changeOne f num was (clampI (was + by_))]
open Classical in
noncomputable def shufEv (z : Int) (order : List Int) : List Ev := if Rises order then [] else [{ zeroEv with kind := 4, src := z, order := order }]
def drawEv (s : St) (p : Int) : List Ev :=
  match zone s (4 * p) with
  | [] => []
  | c :: _ => moveEv s c (4 * p + 1) false
def outEv (s : St) (p : Int) : List Ev := if (s.players.getD p.toNat zeroPl).out then [] else [{ zeroEv with kind := 5, player := p }]
def askOk (s : St) (d : Dq) : Prop :=
  if d.kind = 0 then Within d.number s.cards.length ∧ Within d.zone s.zones.length
  else if d.kind = 1 then ∃ x, getF s d.field d.number = some x
  else if d.kind = 2 then Within d.zone s.zones.length ∧ IsOrder d.order (zone s d.zone).length
  else Within d.number s.players.length
noncomputable def askEv (s : St) (d : Dq) : List Ev :=
  if d.kind = 0 then moveEv s d.number d.zone d.first
  else if d.kind = 1 then changeEv s d.field d.number d.by_
  else if d.kind = 2 then shufEv d.zone d.order
  else if d.kind = 3 then drawEv s d.number
  else outEv s d.number
/-- What an event fits, and what it leads to. -/
def Fits1 (s : St) (e : Ev) : Prop := PlainE e ∧ ∃ t, doE s e = some t
theorem May.order {s : St} (h : May s) : IsOrder s.zones.flatten s.cards.length := ⟨h.all, h.rng, h.nd⟩
theorem place_ok {s : St} {c : Int} (h : May s) (hc : Within c s.cards.length) :
    zoneOf s.zones c < s.zones.length ∧ atOf s.zones c < (s.zones.getD (zoneOf s.zones c) []).length ∧ (s.zones.getD (zoneOf s.zones c) []).getD (atOf s.zones c) 0 = c := by
  obtain ⟨h0, h1⟩ := hc
  obtain ⟨k, rfl⟩ := Int.eq_ofNat_of_zero_le h0
  have hm := order_mem h.order (j := k) (by omega)
  obtain ⟨l, hl, hkl⟩ := List.mem_flatten.1 hm
  have hz : zoneOf s.zones k < s.zones.length := List.findIdx_lt_length_of_exists ⟨l, hl, by simpa using hkl⟩
  have hmem : (k : Int) ∈ s.zones.getD (zoneOf s.zones k) [] := by
    rw [getD_lt hz]
    have := List.findIdx_getElem (w := hz)
    exact of_decide_eq_true this
  have ha : atOf s.zones k < (s.zones.getD (zoneOf s.zones k) []).length := List.idxOf_lt_length_of_mem hmem
  refine ⟨hz, ha, ?_⟩
  rw [getD_lt ha]
  exact List.getElem_idxOf ha
theorem place_in {s : St} {c : Int} {z a : Nat} (h : May s) (hz : z < s.zones.length) (ha : a < (s.zones.getD z []).length) (hc : (s.zones.getD z []).getD a 0 = c) : Within c s.cards.length := by
  have := h.rng c (List.mem_flatten.2 ⟨_, mem_getD (d := []) hz, by rw [← hc]; exact mem_getD ha⟩)
  exact this
theorem plain_of {e : Ev} (h : 1 ≤ e.kind ∧ e.kind ≤ 7) (k : keepE e = e) : PlainE e := ⟨h, k⟩
theorem moveEv_fits {s : St} {card zn : Int} {first : Bool} (h : May s) (hc : Within card s.cards.length) (hz : Within zn s.zones.length) : ∀ e ∈ moveEv s card zn first, Fits1 s e := by
  obtain ⟨p1, p2, p3⟩ := place_ok h hc
  intro e he
  unfold moveEv at he
  simp only at he
  obtain ⟨dst, hdst⟩ : ∃ dst : Int, dst = if first = true then 0 else if (zoneOf s.zones card : Int) = zn then ((zone s zn).length : Int) - 1 else (zone s zn).length := ⟨_, rfl⟩
  rw [← hdst] at he
  by_cases hne : (zoneOf s.zones card : Int) = zn ∧ (atOf s.zones card : Int) = dst
  · rw [if_pos hne] at he
    cases he
  · rw [if_neg hne] at he
    obtain rfl := List.mem_singleton.1 he
    refine ⟨plain_of (by simp) (by simp [keepE, zeroEv]), ?_⟩
    unfold doE
    rw [if_pos rfl]
    unfold moveS
    simp only
    refine ⟨_, if_pos ⟨⟨by omega, by omega⟩, hz, hne, ⟨by omega, by unfold zone; rw [Int.toNat_natCast]; omega⟩, by unfold zone; rw [Int.toNat_natCast, Int.toNat_natCast]; exact p3, ?_, ?_⟩⟩ <;> rw [hdst]
    · split
      · omega
      · split
        · rename_i hzz
          have : (zone s zn).length = (s.zones.getD (zoneOf s.zones card) []).length := by unfold zone; rw [← hzz, Int.toNat_natCast]
          omega
        · omega
    · split
      · split
        · rename_i hzz
          have : (zone s zn).length = (s.zones.getD (zoneOf s.zones card) []).length := by unfold zone; rw [← hzz, Int.toNat_natCast]
          omega
        · omega
      · exact Int.le_refl _
theorem clamp_stat (x : Int) : Stat (clampI x) := by
  unfold clampI Stat
  split
  · omega
  · split <;> omega
theorem changeEv_fits {s : St} {f num b : Int} (h : May s) : ∀ e ∈ changeEv s f num b, Fits1 s e := by
  intro e he
  unfold changeEv at he
  split at he
  · cases he
  · rename_i was hg
    split at he
    · cases he
    · rename_i hne
      obtain rfl := List.mem_singleton.1 he
      have hch : changeS s f num was (clampI (was + b)) = some (setF s f num (clampI (was + b))) := by
        unfold changeS
        exact if_pos ⟨hg, fun e => hne e.symm, clamp_stat _⟩
      unfold changeOne
      split
      · rename_i hf
        refine ⟨plain_of (by simp) (by simp [keepE, zeroEv]), setF s f num (clampI (was + b)), ?_⟩
        unfold doE
        rw [if_neg (by simp), if_pos rfl]
        simp only
        rw [if_pos hf]
        exact hch
      · rename_i hf
        refine ⟨plain_of (by simp) (by simp [keepE, zeroEv]), setF s f num (clampI (was + b)), ?_⟩
        unfold doE
        rw [if_neg (by simp), if_neg (by simp), if_pos rfl]
        simp only
        rw [if_pos (by omega)]
        exact hch
theorem shufEv_fits {s : St} {z : Int} {order : List Int} (hz : Within z s.zones.length) (ho : IsOrder order (zone s z).length) : ∀ e ∈ shufEv z order, Fits1 s e := by
  intro e he
  unfold shufEv at he
  split at he
  · cases he
  · rename_i hr
    obtain rfl := List.mem_singleton.1 he
    refine ⟨plain_of (by simp) (by simp [keepE, zeroEv]), ?_⟩
    unfold doE
    rw [if_neg (by simp), if_neg (by simp), if_neg (by simp), if_pos rfl]
    simp only
    unfold shuffleS
    exact ⟨_, if_pos ⟨hz, ho, hr⟩⟩
theorem drawEv_fits {s : St} {p : Int} (h : May s) (hp : Within p s.players.length) : ∀ e ∈ drawEv s p, Fits1 s e := by
  intro e he
  unfold drawEv at he
  split at he
  · cases he
  · rename_i c l hz
    obtain ⟨h0, h1⟩ := hp
    have hzn := h.zn
    have hlt : (4 * p).toNat < s.zones.length := by omega
    unfold zone at hz
    refine moveEv_fits h (place_in h (z := (4 * p).toNat) (a := 0) hlt (by rw [hz]; simp) (by rw [hz]; rfl)) ⟨by omega, by omega⟩ e he
theorem outEv_fits {s : St} {p : Int} (hp : Within p s.players.length) : ∀ e ∈ outEv s p, Fits1 s e := by
  intro e he
  unfold outEv at he
  split at he
  · cases he
  · rename_i ho
    obtain rfl := List.mem_singleton.1 he
    refine ⟨plain_of (by simp) (by simp [keepE, zeroEv]), ?_⟩
    unfold doE
    rw [if_neg (by simp), if_neg (by simp), if_neg (by simp), if_neg (by simp), if_pos rfl]
    simp only
    unfold outS
    exact ⟨_, if_pos ⟨hp, ho⟩⟩
theorem askEv_fits {s : St} {d : Dq} (h : May s) (ho : askOk s d) : ∀ e ∈ askEv s d, Fits1 s e := by
  unfold askOk at ho
  unfold askEv
  by_cases k0 : d.kind = 0
  · rw [if_pos k0] at ho ⊢
    exact moveEv_fits h ho.1 ho.2
  · rw [if_neg k0] at ho ⊢
    by_cases k1 : d.kind = 1
    · rw [if_pos k1] at ho ⊢
      exact changeEv_fits h
    · rw [if_neg k1] at ho ⊢
      by_cases k2 : d.kind = 2
      · rw [if_pos k2] at ho ⊢
        exact shufEv_fits ho.1 ho.2
      · rw [if_neg k2] at ho ⊢
        by_cases k3 : d.kind = 3
        · rw [if_pos k3]
          exact drawEv_fits h ho
        · rw [if_neg k3]
          exact outEv_fits ho
theorem moveEv_one (s : St) (card zn : Int) (first : Bool) : (moveEv s card zn first).length ≤ 1 := by
  unfold moveEv
  simp only
  by_cases h : (zoneOf s.zones card : Int) = zn ∧ (atOf s.zones card : Int) = (if first = true then 0 else if (zoneOf s.zones card : Int) = zn then ((zone s zn).length : Int) - 1 else (zone s zn).length)
  · rw [if_pos h]
    simp
  · rw [if_neg h]
    simp
theorem askEv_one (s : St) (d : Dq) : (askEv s d).length ≤ 1 := by
  unfold askEv
  split
  · exact moveEv_one ..
  · split
    · unfold changeEv
      split
      · simp
      · split <;> simp
    · split
      · unfold shufEv
        split <;> simp
      · split
        · unfold drawEv
          split
          · simp
          · exact moveEv_one ..
        · unfold outEv
          split <;> simp
/-! ### Changes are added -/
theorem setF_setF (s : St) (f n v u : Int) : setF (setF s f n v) f n u = setF s f n u := by
  unfold setF
  by_cases hf : f ≤ 4
  · simp only [if_pos hf]
    by_cases hl : n.toNat < s.cards.length
    · rw [getD_set_eq hl, List.set_set]
      congr 2
      unfold cardSet
      repeat' split
      all_goals rfl
    · rw [List.set_eq_of_length_le (by rw [List.length_set]; omega), List.set_eq_of_length_le (by omega), List.set_eq_of_length_le (by omega)]
  · simp only [if_neg hf]
    by_cases hl : n.toNat < s.players.length
    · rw [getD_set_eq hl, List.set_set]
      congr 2
      unfold plSet
      repeat' split
      all_goals rfl
    · rw [List.set_eq_of_length_le (by rw [List.length_set]; omega), List.set_eq_of_length_le (by omega), List.set_eq_of_length_le (by omega)]
theorem setF_same {s : St} {f n x : Int} (h : getF s f n = some x) : setF s f n x = s := by
  have h1 := (getF_setF (v := x) h).2
  rwa [setF_setF] at h1
/-- What a list of events leads to. -/
def runE (s : St) : List Ev → Option St
  | [] => some s
  | e :: l => match stepE s e false with
    | some t => runE t l
    | none => none
theorem step_fits {s t : St} {e : Ev} (h : PlainE e) (k : doE s e = some t) : stepE s e false = some t := by
  unfold stepE
  rw [if_pos h]
  exact k
theorem change_run {s : St} {f n x b : Int} (h : May s) (hg : getF s f n = some x) : runE s (changeEv s f n b) = some (setF s f n (clampI (x + b))) := by
  have hf := changeEv_fits (f := f) (num := n) (b := b) h
  unfold changeEv at hf ⊢
  rw [hg] at hf ⊢
  simp only at hf ⊢
  by_cases hc : clampI (x + b) = x
  · rw [if_pos hc, hc, setF_same hg]
    rfl
  · rw [if_neg hc] at hf ⊢
    obtain ⟨hp, t, ht⟩ := hf _ (List.mem_singleton_self _)
    have hch : changeS s f n x (clampI (x + b)) = some (setF s f n (clampI (x + b))) := by
      unfold changeS
      exact if_pos ⟨hg, fun e => hc e.symm, clamp_stat _⟩
    have hd : doE s (changeOne f n x (clampI (x + b))) = some (setF s f n (clampI (x + b))) := by
      unfold changeOne
      by_cases hf4 : f ≤ 4
      · rw [if_pos hf4]
        unfold doE
        rw [if_neg (by simp), if_pos rfl]
        simp only
        rw [if_pos hf4]
        exact hch
      · rw [if_neg hf4]
        unfold doE
        rw [if_neg (by simp), if_neg (by simp), if_pos rfl]
        simp only
        rw [if_pos (by omega)]
        exact hch
    unfold runE
    rw [step_fits hp hd]
    rfl
/-- A field at an end. -/
def AtEnd (s : St) (f n : Int) : Prop := getF s f n = some 1000000000 ∨ getF s f n = some (-1000000000)
theorem clamp_in {x : Int} (h1 : clampI x ≠ 1000000000) (h2 : clampI x ≠ -1000000000) : clampI x = x := by
  unfold clampI at h1 h2 ⊢
  by_cases a : 1000000000 < x
  · rw [if_pos a] at h1
    exact absurd rfl h1
  · rw [if_neg a] at h2 ⊢
    by_cases b : x < -1000000000
    · rw [if_pos b] at h2
      exact absurd rfl h2
    · rw [if_neg b]
theorem change_adds {s : St} {f n x a b : Int} (hg : getF s f n = some x) (h1 : ¬ AtEnd (setF s f n (clampI (x + a))) f n) (h2 : ¬ AtEnd (setF (setF s f n (clampI (x + a))) f n (clampI (clampI (x + a) + b))) f n) (h3 : ¬ AtEnd (setF s f n (clampI (x + (a + b)))) f n) :
    setF (setF s f n (clampI (x + a))) f n (clampI (clampI (x + a) + b)) = setF s f n (clampI (x + (a + b))) := by
  unfold AtEnd at h1 h2 h3
  rw [setF_setF] at h2 ⊢
  rw [(getF_setF hg).1] at h1 h2 h3
  simp only [Option.some.injEq, not_or] at h1 h2 h3
  have e1 := clamp_in h1.1 h1.2
  rw [e1] at h2 ⊢
  rw [clamp_in h2.1 h2.2, clamp_in h3.1 h3.2]
  congr 1
  omega
/-! ### A trace of deeds -/
open Classical in
noncomputable def undoE (s : St) (e : Ev) : Option St :=
  match stepE s e true with
  | some t => if May t then some t else none
  | none => none
theorem step_facts {s t : St} {e : Ev} (h : stepE s e false = some t) (hm : May s) : undoE t e = some s ∧ May t ∧ SameKO s t ∧ t ≠ s := by
  unfold stepE at h
  split at h
  · rename_i hp
    obtain ⟨a, b, c, d⟩ := do_facts (by simpa using h) hm
    refine ⟨?_, b, c, d⟩
    unfold undoE stepE
    rw [if_pos hp, if_pos rfl, a]
    exact if_pos hm
  · cases h
theorem undo_facts {s t : St} {e : Ev} (h : undoE s e = some t) (hm : May s) : stepE t e false = some s ∧ May t ∧ SameKO s t := by
  unfold undoE at h
  split at h
  · rename_i u hu
    split at h
    · rename_i ht
      obtain rfl := Option.some.inj h
      unfold stepE at hu
      split at hu
      · rename_i hp
        obtain ⟨a, b⟩ := back_facts (by simpa using hu) hm ht
        exact ⟨step_fits hp a, ht, b⟩
      · cases hu
    · cases h
  · cases h
/-- A list of events, the last one last, taken back from the end on. -/
noncomputable def backL (s : St) : List Ev → Option St
  | [] => some s
  | e :: l => match backL s l with
    | some t => undoE t e
    | none => none
theorem run_app {l m : List Ev} : ∀ {s t : St}, runE s l = some t → runE s (l ++ m) = runE t m := by
  induction l with
  | nil =>
    intro s t h
    obtain rfl := Option.some.inj h
    rfl
  | cons e l ih =>
    intro s t h
    rw [List.cons_append]
    have e1 : ∀ l, runE s (e :: l) = (match stepE s e false with | some t => runE t l | none => none) := fun l => rfl
    rw [e1] at h ⊢
    cases he : stepE s e false with
    | none => rw [he] at h; cases h
    | some u =>
      rw [he] at h
      exact ih h
theorem run_back {l : List Ev} : ∀ {s t : St}, May s → runE s l = some t → backL t l = some s ∧ May t ∧ SameKO s t := by
  induction l with
  | nil =>
    intro s t hm h
    obtain rfl := Option.some.inj h
    exact ⟨rfl, hm, SameKO.refl _⟩
  | cons e l ih =>
    intro s t hm h
    unfold runE at h
    cases he : stepE s e false with
    | none => rw [he] at h; cases h
    | some u =>
      rw [he] at h
      obtain ⟨a, b, c, _⟩ := step_facts he hm
      obtain ⟨d, f, g⟩ := ih b h
      refine ⟨?_, f, c.trans g⟩
      unfold backL
      rw [d]
      exact a
end Go.Proofs.YtmhklnjmeoeanaaGreatDoor.D

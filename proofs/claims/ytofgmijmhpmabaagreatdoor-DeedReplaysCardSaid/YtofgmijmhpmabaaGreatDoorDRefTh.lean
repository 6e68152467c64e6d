/- The reference of layer 05: things: each thing that is looked at. -/
import Derived.Test.YtofgmijmhpmabaaGreatDoorDCheckW
import Derived.Test.YtofgmijmhpmabaaGreatDoorDCopyS
import Derived.Test.YtofgmijmhpmabaaGreatDoorDShuf
import Derived.Test.YtofgmijmhpmabaaGreatDoorDSame
import Derived.Test.YtofgmijmhpmabaaGreatDoorDMay
import Derived.Test.YtofgmijmhpmabaaGreatDoorBagAll
import Derived.StillTailTactics
namespace Go.Proofs.YtofgmijmhpmabaaGreatDoor.D
open Go Go.RowKit
set_option linter.unusedVariables false
set_option linter.unusedSimpArgs false
def fromB (x lo hi : Int) : Bool := decide (lo ≤ x ∧ x ≤ hi)
theorem refFrom_any (x lo hi : Int) (w : World) : Calls Tryz.prog 196 #[.int .i64 x, .int .i64 lo, .int .i64 hi] w fun e w' => e = .returned (.bool (fromB x lo hi)) ∧ w = w' := by
 by_cases h1 : lo ≤ x
 ·by_cases h2 : x ≤ hi
  ·have H := Lib.hid (show fromB x lo hi = true from decide_eq_true ⟨h1, h2⟩)
   go_enter Tryz.func196, Tryz.ntmps196
   go_wp2
   go_ret
   exact ⟨(ret_bool H.out).symm, rfl⟩
  ·have H := Lib.hid (show fromB x lo hi = false from decide_eq_false (fun h => h2 h.2))
   go_enter Tryz.func196, Tryz.ntmps196
   go_wp2
   go_ret
   exact ⟨(ret_bool H.out).symm, rfl⟩
 ·have H := Lib.hid (show fromB x lo hi = false from decide_eq_false (fun h => h1 h.1))
  go_enter Tryz.func196, Tryz.ntmps196
  go_wp2
  go_ret
  exact ⟨(ret_bool H.out).symm, rfl⟩
theorem refStat_any (x : Int) (w : World) : Calls Tryz.prog 197 #[.int .i32 x] w fun e w' => e = .returned (.bool (statB x)) ∧ w = w' := by
 by_cases h1 : -1000000000 ≤ x
 ·by_cases h2 : x ≤ 1000000000
  ·have H := Lib.hid (stat_yes (x := x) ⟨h1, h2⟩)
   go_enter Tryz.func197, Tryz.ntmps197
   go_wp2
   go_ret
   exact ⟨(ret_bool H.out).symm, rfl⟩
  ·have H := Lib.hid (stat_no (x := x) (fun h => h2 h.2))
   go_enter Tryz.func197, Tryz.ntmps197
   go_wp2
   go_ret
   exact ⟨(ret_bool H.out).symm, rfl⟩
 ·have H := Lib.hid (stat_no (x := x) (fun h => h1 h.1))
  go_enter Tryz.func197, Tryz.ntmps197
  go_wp2
  go_ret
  exact ⟨(ret_bool H.out).symm, rfl⟩
theorem cardB_eq (n kind owner power health damage marks : Int) : cardB n ⟨kind, owner, power, health, damage, marks⟩ = (fromB kind 0 255 && fromB owner 0 (n - 1) && statB power && statB health && statB damage && statB marks) := by
 unfold cardB
 rw [Bool.eq_iff_iff, decide_eq_true_iff]
 unfold CardOk fromB statB
 simp only [Bool.and_eq_true, decide_eq_true_iff]
 constructor
 ·rintro ⟨⟨a, b⟩, ⟨c, d⟩, e, f, g, h⟩
  exact ⟨⟨⟨⟨⟨⟨a, by omega⟩, ⟨c, by omega⟩⟩, e⟩, f⟩, g⟩, h⟩
 ·rintro ⟨⟨⟨⟨⟨⟨a, b⟩, ⟨c, d⟩⟩, e⟩, f⟩, g⟩, h⟩
  exact ⟨⟨a, by omega⟩, ⟨c, by omega⟩, e, f, g, h⟩
set_option maxHeartbeats 2000000 in
theorem refCard_any (c : Cd) (n : Int) (w : World) (hn : -1000000 ≤ n ∧ n ≤ 1000000000000) : Calls Tryz.prog 198 #[c.val, .int .i64 n] w fun e w' => e = .returned (.bool (cardB n c)) ∧ Below w.heap.size w w' := by
 obtain ⟨kind, owner, power, health, damage, marks⟩ := c
 unfold Cd.val
 have hb : Below w.heap.size w (w.alloc (.cells #[.int .i64 kind, .int .i64 owner, .int .i32 power, .int .i32 health, .int .i32 damage, .int .i32 marks] 101)) := G.bl_alloc (Below.refl _ _) _
 have hn1 : IntKind.i64.wrap (n - 1) = n - 1 := IntWalk.i64_in _ (by omega)
 have H := Lib.hid (cardB_eq n kind owner power health damage marks)
 cases k0 : fromB kind 0 255 with
 | false =>
  go_enter Tryz.func198, Tryz.ntmps198
  go_wp2_with (first | (go_at_call 196; refine (refFrom_any _ _ _ _).mono ?_; rintro e w' ⟨rfl, rfl⟩) | (go_at_call 197; refine (refStat_any _ _).mono ?_; rintro e w' ⟨rfl, rfl⟩))
  go_ret
  exact ⟨ret_bool (by rw [H.out]; simp [k0]), hb⟩
 | true =>
  cases k1 : fromB owner 0 (n - 1) with
  | false =>
   go_enter Tryz.func198, Tryz.ntmps198
   go_wp2_with (first | (go_at_call 196; refine (refFrom_any _ _ _ _).mono ?_; rintro e w' ⟨rfl, rfl⟩) | (go_at_call 197; refine (refStat_any _ _).mono ?_; rintro e w' ⟨rfl, rfl⟩))
   go_ret
   exact ⟨ret_bool (by rw [H.out]; simp [k0, k1]), hb⟩
  | true =>
   cases k2 : statB power with
   | false =>
    go_enter Tryz.func198, Tryz.ntmps198
    go_wp2_with (first | (go_at_call 196; refine (refFrom_any _ _ _ _).mono ?_; rintro e w' ⟨rfl, rfl⟩) | (go_at_call 197; refine (refStat_any _ _).mono ?_; rintro e w' ⟨rfl, rfl⟩))
    go_ret
    exact ⟨ret_bool (by rw [H.out]; simp [k0, k1, k2]), hb⟩
   | true =>
    cases k3 : statB health with
    | false =>
     go_enter Tryz.func198, Tryz.ntmps198
     go_wp2_with (first | (go_at_call 196; refine (refFrom_any _ _ _ _).mono ?_; rintro e w' ⟨rfl, rfl⟩) | (go_at_call 197; refine (refStat_any _ _).mono ?_; rintro e w' ⟨rfl, rfl⟩))
     go_ret
     exact ⟨ret_bool (by rw [H.out]; simp [k0, k1, k2, k3]), hb⟩
    | true =>
     cases k4 : statB damage with
     | false =>
      go_enter Tryz.func198, Tryz.ntmps198
      go_wp2_with (first | (go_at_call 196; refine (refFrom_any _ _ _ _).mono ?_; rintro e w' ⟨rfl, rfl⟩) | (go_at_call 197; refine (refStat_any _ _).mono ?_; rintro e w' ⟨rfl, rfl⟩))
      go_ret
      exact ⟨ret_bool (by rw [H.out]; simp [k0, k1, k2, k3, k4]), hb⟩
     | true =>
      go_enter Tryz.func198, Tryz.ntmps198
      go_wp2_with (first | (go_at_call 196; refine (refFrom_any _ _ _ _).mono ?_; rintro e w' ⟨rfl, rfl⟩) | (go_at_call 197; refine (refStat_any _ _).mono ?_; rintro e w' ⟨rfl, rfl⟩))
      go_ret
      exact ⟨ret_bool (by rw [H.out]; simp [k0, k1, k2, k3, k4]), hb⟩
end Go.Proofs.YtofgmijmhpmabaaGreatDoor.D
namespace Go.Proofs.YtofgmijmhpmabaaGreatDoor.D
open Go Go.RowKit
set_option linter.unusedVariables false
set_option linter.unusedSimpArgs false
theorem flat_few {zs : List (List Int)} (h : ∀ i, (zs.getD i []).length ≤ 33554432) : ∀ q, q ≤ zs.length → (zs.take q).flatten.length ≤ q * 33554432
 | 0, _ => by simp
 | q + 1, hq => by
  have ih := flat_few h q (by omega)
  have := h q
  rw [flat_next (by omega), List.length_append]
  omega
theorem i64s_app (l m : List Int) : i64s (l ++ m) = i64s l ++ i64s m := by simp [i64s]
def EntPost (s : St) (w : World) (e : Ending) (w' : World) : Prop := ∃ v, e = .returned v ∧ w'.ownsRow w.heap.size 3 1 v s.zones.flatten.length (i64s s.zones.flatten) ∧ Below w.heap.size w w'
set_option maxRecDepth 100000 in
set_option maxHeartbeats 2000000 in
theorem entries_any (x : SV) (s : St) (w : World) (h : RdSt w x s) (hz : Sz s) (hk : s.zones.length ≤ 16) : Calls Tryz.prog 199 #[x.val s] w (EntPost s w) := by
 obtain ⟨i0, hi, hz0, hz1, hz2⟩ := info_parts infoInt
 have HR := Lib.hid h
 have HFW := Lib.hid (flat_few hz.r)
 obtain ⟨k, hkk⟩ : ∃ k, k = s.zones.length := ⟨_, rfl⟩
 obtain ⟨cs, hcs⟩ : ∃ cs, cs = x.arr s := ⟨_, rfl⟩
 have HBX := Lib.hid (G.Blk.new w 27 cs)
 obtain ⟨w1, hw1⟩ : ∃ w1, w1 = w.alloc (.cells cs 27) := ⟨_, rfl⟩
 have HB1 := Lib.hid (show Below w.heap.size w w1 by rw [hw1]; exact G.bl_alloc (Below.refl _ _) _)
 rw [← hw1] at HBX
 have HC2 := Lib.hid (show cs[2]? = some (.slice x.za k x.zc) by rw [hcs, hkk]; rfl)
 have hwl : w.heap.size < w1.heap.size := HBX.out.lt
 rw [← hkk] at hk
 have HK := Lib.hid hkk
 clear h hz hkk
 unfold SV.val
 rw [← hcs]
 clear hcs
 generalize x.zc = zc at HC2
 obtain ⟨za, hza⟩ : ∃ za, za = x.za := ⟨_, rfl⟩
 rw [← hza] at HC2
 have HZA := Lib.hid hza
 clear hza
 go_enter Tryz.func199, Tryz.ntmps199
 go_upto_region 1 with (fail)
 rw [← hw1]
 clear hw1
 go_wp2_with fail
 go_loopw [3, 4] (fun v i wr => ∃ q : Nat, q ≤ k ∧ i = .int .i64 q ∧ Below w1.heap.size w1 wr ∧ wr.ownsRow w1.heap.size 3 1 v (s.zones.take q).flatten.length (i64s (s.zones.take q).flatten)) (fun _ i _ => k - (intOf i).toNat)
 case atStart => exact ⟨0, Nat.zero_le _, rfl, Below.refl _ _, World.ownsRow_nil _ _ _ _⟩
 case round =>
  obtain ⟨q, hq, rfl, hbw, hown⟩ := hrel
  have HBW := Lib.hid hbw
  have HOWN := Lib.hid hown
  have hq0 : (0 : Int) ≤ q := by omega
  have hkI : (k : Int) ≤ 16 := by omega
  have c2 := ((HBX.out.below hbw HBX.out.lt).cell 2).trans HC2.out
  have hwl2 : w1.heap.size ≤ wr.heap.size := hbw.size
  clear hbw hown
  by_cases hlt : q < k
  ·have hqI : (q : Int) < k := by omega
   have HRW := Lib.hid (HR.out.below (Bl.tr HB1.out HBW.out))
   obtain ⟨b, off, hzb, hcr⟩ := rows_at HRW.out.z (i := q) (by rw [← HK.out]; exact hlt)
   obtain ⟨ra, rk, hrv, hrr⟩ := HRW.out.rows q (by rw [← HK.out]; exact hlt)
   rw [← HZA.out] at hzb
   rw [hrv] at hcr
   subst hzb
   have f1 := HFW.out (q + 1) (by rw [← HK.out]; omega)
   rw [flat_next (by rw [← HK.out]; exact hlt), List.length_append] at f1
   have HNX := Lib.hid (flat_next (zs := s.zones) (q := q) (by rw [← HK.out]; exact hlt))
   obtain ⟨row, hrow⟩ : ∃ row, row = s.zones.getD q [] := ⟨_, rfl⟩
   rw [← hrow] at hcr hrr f1 HNX
   have HRR := Lib.hid hrr
   obtain ⟨pre, hpre⟩ : ∃ pre, pre = (s.zones.take q).flatten := ⟨_, rfl⟩
   rw [← hpre] at HOWN f1 HNX
   obtain ⟨pn, hpn⟩ : ∃ pn, pn = pre.length := ⟨_, rfl⟩
   obtain ⟨rn, hrn⟩ : ∃ rn, rn = row.length := ⟨_, rfl⟩
   rw [← hpn, ← hrn] at f1
   rw [← hpn] at HOWN
   rw [← hrn] at HRR hcr
   have f2 : pn + rn ≤ 536870912 := by omega
   have HPN := Lib.hid hpn
   have HRN := Lib.hid hrn
   clear hrv hrr hrow hpre f1 hpn hrn
   go_wp2_with (at_builtin; refine G.wpList_append_rd rfl (.tmp 12) (.tmp 17) 28 rfl w1.heap.size 3 i0 (.int .i64 0) 1 8 Tryz.underlying28 hi hz0 hz1 hz2 rfl (by decide) _ _ _ rfl HOWN.out _ _ _ _ rfl HRR.out (i64s_one _) (by unfold maxLen; omega) (by omega) hwl2 ?_; intro v' w3 hown3 hg3; have HG3 := Lib.hid hg3; have HO3 := Lib.hid hown3; clear hg3 hown3)
   go_roundw
   case rel => exact ⟨q + 1, by omega, by go_num, HBW.out.grown HG3.out hwl2 (fun g hg => (HOWN.out.lt g hg).1), by rw [HNX.out, List.length_append, i64s_app, ← HPN.out, ← HRN.out]; exact HO3.out⟩
   case measure => simp [intOf]; omega
  ·obtain rfl : k = q := by omega
   have hqI : ¬ (k : Int) < k := by omega
   go_wp2_with fail
   go_ret
   refine ⟨_, rfl, ?_, Bl.tr HB1.out HBW.out⟩
   have h9 := HOWN.out
   rw [HK.out, List.take_length] at h9
   exact G.own_ge h9 HB1.out.size
end Go.Proofs.YtofgmijmhpmabaaGreatDoor.D
namespace Go.Proofs.YtofgmijmhpmabaaGreatDoor.D
open Go Go.RowKit
set_option linter.unusedVariables false
set_option linter.unusedSimpArgs false
def bools (B : List Bool) : List Value := B.map Value.bool
theorem bools_app (A B : List Bool) : bools (A ++ B) = bools A ++ bools B := by simp [bools]
theorem all_app {A : List Bool} {b : Bool} {p q : Prop} (h : A.all id = true ↔ p) (hq : (b = true ↔ q)) : (A ++ [b]).all id = true ↔ p ∧ q := by
 rw [List.all_append, Bool.and_eq_true, h]
 simp [hq]
def ThPost (s : St) (w : World) (e : Ending) (w' : World) : Prop :=
 ∃ A c B, e = .returned (.slice A B.length c) ∧ G.RdS w' A 1 B.length (bools B) ∧ (B.all id = true ↔ May s) ∧ B.length ≤ 1000000000000 ∧ Below w.heap.size w w'
theorem thP {s : St} {w w' : World} {base : Nat} {v : Value} {n : Nat} {B : List Bool} (hn : B.length = n) (ho : w'.ownsRow base 4 1 v n (bools B)) (hm : B.all id = true ↔ May s) (hl : n ≤ 1000000000000) (hb : Below w.heap.size w w') : ThPost s w (.returned v) w' := by
 obtain ⟨a, c, rfl⟩ := G.own_shape ho
 subst hn
 exact ⟨a, c, B, rfl, G.RdS.of_own ho, hm, hl, hb⟩
/-- The row of answers, one more. -/
structure OutI (w1 wr : World) (v : Value) (n : Nat) (B : List Bool) : Prop where
 len : B.length = n
 own : wr.ownsRow w1.heap.size 4 1 v n (bools B)
 bl : Below w1.heap.size w1 wr
theorem OutI.below {w1 wr w' : World} {v : Value} {n : Nat} {B : List Bool} (h : OutI w1 wr v n B) (hb : Below wr.heap.size wr w') : OutI w1 w' v n B := ⟨h.len, G.own_below h.own hb, Bl.tr h.bl hb⟩
theorem OutI.more {w1 wr w' : World} {v v' : Value} {n : Nat} {B : List Bool} {b : Bool} (h : OutI w1 wr v n B) (ho : w'.ownsRow w1.heap.size 4 1 v' (n + 1) (bools B ++ [.bool b])) (hg : wr.grownBy w' v.ownBlock) : OutI w1 w' v' (n + 1) (B ++ [b]) :=
 ⟨by rw [List.length_append, h.len]; rfl, by rw [bools_app]; exact ho, h.bl.grown hg h.bl.size (fun g hg2 => (h.own.lt g hg2).1)⟩
/-- What the last region but one reads. -/
def ThS (g : Nat) (turn whose fin : Int) (W : World) : Prop := W.cell? ⟨g, 3, none⟩ = some (.int .i32 turn) ∧ W.cell? ⟨g, 4, none⟩ = some (.int .i64 whose) ∧ W.cell? ⟨g, 5, none⟩ = some (.int .i8 fin)
theorem ThS.below {g : Nat} {turn whose fin : Int} {W W' : World} (h : ThS g turn whose fin W) (hb : Below W.heap.size W W') : ThS g turn whose fin W' :=
 ⟨(hb.cell (World.block_lt_of_cell? _ _ h.1)).trans h.1, (hb.cell (World.block_lt_of_cell? _ _ h.2.1)).trans h.2.1, (hb.cell (World.block_lt_of_cell? _ _ h.2.2)).trans h.2.2⟩
theorem own_blk {w : World} {base : Nat} {e : TypeId} {sz : Nat} {v : Value} {n : Nat} {xs : List Value} (h : w.ownsRow base e sz v n xs) : ∀ g, v.ownBlock = some g → base ≤ g ∧ ∃ cs, w.heap[g]? = some (.cells cs e (0, 0)) :=
 fun g hg => ⟨(h.lt g hg).1, G.ownsRow.block_e h hg⟩
def finB (fin : Int) : Bool := fin == 0 || fin == 1 || fin == 2
def winB (fin win : Int) (n : Nat) : Bool := (fin == 1 && fromB win 0 ((n : Int) - 1)) || (fin != 1 && win == 0)
def rangeI (m : Nat) : List Int := (List.range m).map Int.ofNat
theorem rangeI_nodup (m : Nat) : (rangeI m).Nodup := by
 unfold rangeI
 rw [List.nodup_iff_pairwise_ne, List.pairwise_map]
 exact List.Pairwise.imp (fun h e => h (Int.ofNat.inj e)) (List.nodup_iff_pairwise_ne.1 List.nodup_range)
theorem mem_rangeI {m : Nat} {x : Int} : x ∈ rangeI m ↔ 0 ≤ x ∧ x < m := by
 unfold rangeI
 rw [List.mem_map]
 constructor
 ·rintro ⟨a, ha, rfl⟩
  have := List.mem_range.1 ha
  show (0 : Int) ≤ (a : Int) ∧ (a : Int) < m
  omega
 ·rintro ⟨h1, h2⟩
  exact ⟨x.toNat, List.mem_range.2 (by omega), by show ((x.toNat : Nat) : Int) = x; omega⟩
theorem flat_all {E : List Int} {m : Nat} (hn : E.Nodup) (hr : ∀ c ∈ E, 0 ≤ c ∧ c < (m : Int)) : E.length = m ↔ ∀ j, j < m → ((j : Int) ∈ E) := by
 have h1 : (rangeI m).length = m := by simp [rangeI]
 constructor
 ·intro hl j hj
  by_cases hm : (j : Int) ∈ E
  ·exact hm
  ·have h2 := nodup_len E ((rangeI m).erase (j : Int)) hn fun x hx => (List.mem_erase_of_ne (fun e => hm (by rw [← e]; exact hx))).2 (mem_rangeI.2 (hr x hx))
   rw [List.length_erase_of_mem (mem_rangeI.2 (by omega))] at h2
   omega
 ·intro ha
  have h2 := nodup_len E (rangeI m) hn fun x hx => mem_rangeI.2 (hr x hx)
  have h3 := nodup_len (rangeI m) E (rangeI_nodup m) fun x hx => by
   obtain ⟨a, b⟩ := mem_rangeI.1 hx
   have := ha x.toNat (by omega)
   rwa [show ((x.toNat : Nat) : Int) = x by omega] at this
  omega
theorem finB_iff {fin : Int} : finB fin = true ↔ 0 ≤ fin ∧ fin ≤ 2 := by
 unfold finB
 simp only [Bool.or_eq_true, beq_iff_eq]
 omega
theorem winB_iff {fin win : Int} {n : Nat} : winB fin win n = true ↔ (fin = 1 → 0 ≤ win ∧ win < n) ∧ (fin ≠ 1 → win = 0) := by
 unfold winB fromB
 by_cases h : fin = 1
 ·subst h
  simp
  omega
 ·simp [h]
structure Head (s : St) (n m k : Nat) : Prop where
 n2 : 2 ≤ n
 n4 : n ≤ 4
 m1 : 1 ≤ m
 m256 : m ≤ 256
 zn : k = 4 * n
theorem may_iff {s : St} {n m k : Nat} (hn : n = s.players.length) (hm : m = s.cards.length) (hk : k = s.zones.length) (hg : Head s n m k)
 (hr : ∀ c ∈ s.zones.flatten, 0 ≤ c ∧ c < (m : Int)) (hd : s.zones.flatten.Nodup) :
 May s ↔ ((((((∀ j, j < n → Stat (s.players.getD j zeroPl).life ∧ Stat (s.players.getD j zeroPl).energy) ∧ (∀ j, j < m → CardOk n (s.cards.getD j zeroCd))) ∧ (∀ j, j < m → ((j : Int) ∈ s.zones.flatten))) ∧ 1 ≤ s.turn) ∧ fromB s.whose 0 ((n : Int) - 1) = true) ∧ finB s.fin = true) ∧ winB s.fin s.winner n = true := by
 rw [← flat_all hd hr, finB_iff, winB_iff]
 subst hn hm hk
 constructor
 ·intro h
  refine ⟨⟨⟨⟨⟨⟨fun j hj => h.pl _ (mem_getD hj), fun j hj => h.cd _ (mem_getD hj)⟩, h.all⟩, h.turn⟩, ?_⟩, h.fin⟩, h.won, h.lost⟩
  have := h.whose
  exact decide_eq_true (by omega)
 ·rintro ⟨⟨⟨⟨⟨⟨h1, h2⟩, h3⟩, h4⟩, h5⟩, h6⟩, h7, h8⟩
  have h5 := of_decide_eq_true h5
  refine ⟨hg.n2, hg.n4, hg.m1, hg.m256, hg.zn, fun p hp => ?_, fun c hc => ?_, hr, hd, h3, h4, by omega, h6, h7, h8⟩
  ·obtain ⟨j, hj, rfl⟩ := List.mem_iff_getElem.1 hp
   have := h1 j hj
   rwa [getD_lt hj] at this
  ·obtain ⟨j, hj, rfl⟩ := List.mem_iff_getElem.1 hc
   have := h2 j hj
   rwa [getD_lt hj] at this
theorem ent_at {w : World} {base : Nat} {v : Value} {E : List Int} (h : w.ownsRow base 3 1 v E.length (i64s E)) {q : Nat} (hq : q < E.length) : ∃ b c, v = .slice (some ⟨b, 0, none⟩) E.length c ∧ w.cell? ⟨b, q, none⟩ = some (.int .i64 (E.getD q 0)) := by
 obtain ⟨b, c, rfl, _⟩ := G.own_addr h (by omega)
 refine ⟨b, c, rfl, ?_⟩
 rw [h.cellAt q (by omega)]
 simp [i64s, List.getD_eq_getElem?_getD, List.getElem?_eq_getElem hq]
end Go.Proofs.YtofgmijmhpmabaaGreatDoor.D

/- The contract of state.Check. -/
import Derived.Test.YtmhklnjmeoeanaaGreatDoorDMem
import Derived.Test.YtmhklnjmeoeanaaGreatDoorDCards
import Derived.Deep.LoopGhost
import Derived.Handy
import Derived.WalkMore
import Derived.Deep.CutBlock
import Derived.Deep.CutRange
namespace Go.Proofs.YtmhklnjmeoeanaaGreatDoor.D
open Go Go.RowKit
set_option linter.unusedVariables false
set_option linter.unusedSimpArgs false
def statB (x : Int) : Bool := decide (Stat x)
theorem stat_yes {x : Int} (h : Stat x) : statB x = true := decide_eq_true h
theorem stat_no {x : Int} (h : ¬ Stat x) : statB x = false := decide_eq_false h
theorem stat_any (x : Int) (w : World) : Calls Tryz.prog 68 #[.int .i32 x] w fun e w' => e = .returned (.bool (statB x)) ∧ w = w' := by
  by_cases h1 : -1000000000 ≤ x
  · by_cases h2 : x ≤ 1000000000
    · have H := Lib.hid (stat_yes (x := x) ⟨h1, h2⟩)
      go_enter Tryz.func68, Tryz.ntmps68
      go_wp2
      go_ret
      exact ⟨(ret_bool H.out).symm, rfl⟩
    · have H := Lib.hid (stat_no (x := x) (fun h => h2 h.2))
      go_enter Tryz.func68, Tryz.ntmps68
      go_wp2
      go_ret
      exact ⟨(ret_bool H.out).symm, rfl⟩
  · have H := Lib.hid (stat_no (x := x) (fun h => h1 h.1))
    go_enter Tryz.func68, Tryz.ntmps68
    go_wp2
    go_ret
    exact ⟨(ret_bool H.out).symm, rfl⟩
def cardB (n : Int) (c : Cd) : Bool := decide (CardOk n c)
theorem card_no {n : Int} {c : Cd} (h : ¬ CardOk n c) : cardB n c = false := decide_eq_false h
theorem card_yes {n : Int} {c : Cd} (h : CardOk n c) : cardB n c = true := decide_eq_true h
theorem card_last {n kind owner power health damage marks : Int} (h1 : 0 ≤ kind) (h2 : kind < 256) (h3 : 0 ≤ owner) (h4 : owner < n) (h5 : Stat power) (h6 : Stat health) (h7 : Stat damage) : cardB n ⟨kind, owner, power, health, damage, marks⟩ = statB marks := by
  by_cases h : Stat marks
  · rw [stat_yes h]
    exact card_yes ⟨⟨h1, h2⟩, ⟨h3, h4⟩, h5, h6, h7, h⟩
  · rw [stat_no h]
    exact card_no fun g => h g.2.2.2.2.2
set_option maxHeartbeats 2000000 in
theorem card_any (c : Cd) (n : Int) (w : World) : Calls Tryz.prog 69 #[c.val, .int .i64 n] w fun e w' => e = .returned (.bool (cardB n c)) ∧ Below w.heap.size w w' := by
  obtain ⟨kind, owner, power, health, damage, marks⟩ := c
  unfold Cd.val
  have hb : Below w.heap.size w (w.alloc (.cells #[.int .i64 kind, .int .i64 owner, .int .i32 power, .int .i32 health, .int .i32 damage, .int .i32 marks] 39)) := G.bl_alloc (Below.refl _ _) _
  by_cases h1 : 0 ≤ kind
  · by_cases h2 : kind < 256
    · by_cases h3 : 0 ≤ owner
      · by_cases h4 : owner < n
        · by_cases h5 : Stat power
          · by_cases h6 : Stat health
            · by_cases h7 : Stat damage
              · have H := Lib.hid (card_last (marks := marks) h1 h2 h3 h4 h5 h6 h7)
                have s5 := stat_yes h5
                have s6 := stat_yes h6
                have s7 := stat_yes h7
                clear h5 h6 h7
                go_enter Tryz.func69, Tryz.ntmps69
                go_wp2_with (go_at_call 68; refine (stat_any _ _).mono ?_; rintro e w' ⟨rfl, rfl⟩)
                go_ret
                exact ⟨(ret_bool H.out).symm, hb⟩
              · have H := Lib.hid (card_no (n := n) (c := ⟨kind, owner, power, health, damage, marks⟩) (fun h => h7 h.2.2.2.2.1))
                have s5 := stat_yes h5
                have s6 := stat_yes h6
                have s7 := stat_no h7
                clear h5 h6 h7
                go_enter Tryz.func69, Tryz.ntmps69
                go_wp2_with (go_at_call 68; refine (stat_any _ _).mono ?_; rintro e w' ⟨rfl, rfl⟩)
                go_ret
                exact ⟨(ret_bool H.out).symm, hb⟩
            · have H := Lib.hid (card_no (n := n) (c := ⟨kind, owner, power, health, damage, marks⟩) (fun h => h6 h.2.2.2.1))
              have s5 := stat_yes h5
              have s6 := stat_no h6
              clear h5 h6
              go_enter Tryz.func69, Tryz.ntmps69
              go_wp2_with (go_at_call 68; refine (stat_any _ _).mono ?_; rintro e w' ⟨rfl, rfl⟩)
              go_ret
              exact ⟨(ret_bool H.out).symm, hb⟩
          · have H := Lib.hid (card_no (n := n) (c := ⟨kind, owner, power, health, damage, marks⟩) (fun h => h5 h.2.2.1))
            have s5 := stat_no h5
            clear h5
            go_enter Tryz.func69, Tryz.ntmps69
            go_wp2_with (go_at_call 68; refine (stat_any _ _).mono ?_; rintro e w' ⟨rfl, rfl⟩)
            go_ret
            exact ⟨(ret_bool H.out).symm, hb⟩
        · have H := Lib.hid (card_no (n := n) (c := ⟨kind, owner, power, health, damage, marks⟩) (fun h => h4 h.2.1.2))
          go_enter Tryz.func69, Tryz.ntmps69
          go_wp2
          go_ret
          exact ⟨(ret_bool H.out).symm, hb⟩
      · have H := Lib.hid (card_no (n := n) (c := ⟨kind, owner, power, health, damage, marks⟩) (fun h => h3 h.2.1.1))
        go_enter Tryz.func69, Tryz.ntmps69
        go_wp2
        go_ret
        exact ⟨(ret_bool H.out).symm, hb⟩
    · have H := Lib.hid (card_no (n := n) (c := ⟨kind, owner, power, health, damage, marks⟩) (fun h => h2 h.1.2))
      go_enter Tryz.func69, Tryz.ntmps69
      go_wp2
      go_ret
      exact ⟨(ret_bool H.out).symm, hb⟩
  · have H := Lib.hid (card_no (n := n) (c := ⟨kind, owner, power, health, damage, marks⟩) (fun h => h1 h.1.1))
    go_enter Tryz.func69, Tryz.ntmps69
    go_wp2
    go_ret
    exact ⟨(ret_bool H.out).symm, hb⟩
end Go.Proofs.YtmhklnjmeoeanaaGreatDoor.D
namespace Go.Proofs.YtmhklnjmeoeanaaGreatDoor.D
open Go Go.RowKit
set_option linter.unusedVariables false
set_option linter.unusedSimpArgs false
theorem Bl.al {a w : World} (h : Below a.heap.size a w) (o : Obj) : Below a.heap.size a (w.alloc o) := h.alloc h.size o
theorem Bl.tr {a w w' : World} (h : Below a.heap.size a w) (k : Below w.heap.size w w') : Below a.heap.size a w' := h.trans (k.mono h.size)
theorem Bl.dn {a w : World} (h : Below a.heap.size a w) (n : Nat) : Below a.heap.size a (w.drewN n) := ⟨h.os, h.tape, h.output, h.size, h.block⟩
theorem Bl.sc {a w : World} (h : Below a.heap.size a w) {p : Addr} (hp : a.heap.size ≤ p.block) (u : Value) : Below a.heap.size a (w.setCell p u) := h.setCell hp u
/-! ### The cards that have been met -/
def stoodArr (E : List Int) : Array Value := ((List.range 256).map fun i => Value.bool (decide (Int.ofNat i ∈ E))).toArray
theorem stood_nil : Tryz.zeroCells98 = stoodArr [] := by kernel_rfl
theorem stood_at {E : List Int} {c : Nat} (h : c < 256) : (stoodArr E)[c]? = some (.bool (decide ((c : Int) ∈ E))) := by
  unfold stoodArr
  simp [h]
theorem stood_set {E : List Int} {c : Nat} (h : c < 256) : (stoodArr E).setIfInBounds c (.bool true) = stoodArr (E ++ [(c : Int)]) := by
  refine Array.ext_getElem? fun i => ?_
  by_cases hi : i < 256
  · rw [stood_at hi]
    by_cases hc : c = i
    · subst hc
      rw [Array.getElem?_setIfInBounds_self_of_lt (by simp [stoodArr]; exact h)]
      simp
    · rw [Array.getElem?_setIfInBounds_ne hc, stood_at hi]
      have : ((i : Int) ∈ E ++ [(c : Int)]) = ((i : Int) ∈ E) := by
        rw [List.mem_append, List.mem_singleton]
        exact propext ⟨fun h => h.elim id fun e => absurd (Int.ofNat.inj e).symm hc, .inl⟩
      simp only [this]
  · rw [Array.getElem?_eq_none (by simp [stoodArr]; omega), Array.getElem?_eq_none (by simp [stoodArr]; omega)]
structure StI (w wr : World) (m : Nat) (E : List Int) : Prop where
  blk : G.Blk wr w.heap.size 98 (stoodArr E)
  nd : E.Nodup
  rng : ∀ c ∈ E, 0 ≤ c ∧ c < m
  bl : Below w.heap.size w wr
theorem nodup_len : ∀ (l m : List Int), l.Nodup → (∀ x ∈ l, x ∈ m) → l.length ≤ m.length
  | [], m, _, _ => Nat.zero_le _
  | a :: l, m, hn, hs => by
    have ha := hs a (by simp)
    obtain ⟨h1, h2⟩ := List.nodup_cons.1 hn
    have hl := List.length_erase_of_mem ha
    have hp : 0 < m.length := List.length_pos_of_mem ha
    have ih := nodup_len l (m.erase a) h2 (fun x hx => (List.mem_erase_of_ne (fun e => h1 (by rw [← e]; exact hx))).2 (hs x (by simp [hx])))
    rw [List.length_cons]
    omega
theorem StI.len {w wr : World} {m : Nat} {E : List Int} (h : StI w wr m E) : E.length ≤ m := by
  have := nodup_len E ((List.range m).map Int.ofNat) h.nd fun x hx => by
    obtain ⟨a, b⟩ := h.rng x hx
    exact List.mem_map.2 ⟨x.toNat, List.mem_range.2 (by omega), by simp; omega⟩
  simpa using this
theorem StI.put {w wr : World} {m c : Nat} {E : List Int} (h : StI w wr m E) (hc : c < 256) (hm : c < m) (hn : (c : Int) ∉ E) : StI w (wr.setCell ⟨w.heap.size, c, none⟩ (.bool true)) m (E ++ [(c : Int)]) :=
  ⟨by have := h.blk.put c (.bool true); rwa [stood_set hc] at this, by
    rw [List.nodup_append]
    exact ⟨h.nd, by simp, fun a ha b hb e => by rw [List.mem_singleton] at hb; subst hb; subst e; exact hn ha⟩, fun x hx => by
    rcases List.mem_append.1 hx with hx | hx
    · exact h.rng x hx
    · rw [List.mem_singleton] at hx
      subst hx
      omega, Bl.sc h.bl (Nat.le_refl _) _⟩
theorem flat_upto {zs : List (List Int)} {q j : Nat} (hq : q < zs.length) : ((zs.take q).flatten ++ (zs.getD q []).take j).Sublist zs.flatten := by
  have e : zs = zs.take q ++ zs.getD q [] :: zs.drop (q + 1) := by
    rw [getD_lt hq, ← List.drop_eq_getElem_cons hq, List.take_append_drop]
  have e2 : zs.flatten = (zs.take q).flatten ++ (zs.getD q [] ++ (zs.drop (q + 1)).flatten) := by
    have := congrArg List.flatten e
    rw [List.flatten_append, List.flatten_cons] at this
    exact this
  rw [e2]
  exact List.Sublist.append (List.Sublist.refl _) ((List.take_sublist _ _).trans (List.sublist_append_left _ _))
theorem flat_next {zs : List (List Int)} {q : Nat} (hq : q < zs.length) : (zs.take (q + 1)).flatten = (zs.take q).flatten ++ zs.getD q [] := by
  rw [List.take_succ_eq_append_getElem hq, List.flatten_append, getD_lt hq]
  simp
theorem take_next {l : List Int} {j : Nat} (hj : j < l.length) : l.take (j + 1) = l.take j ++ [l.getD j 0] := by
  rw [List.take_succ_eq_append_getElem hj, getD_lt hj]
def wonB (fin win : Int) (n : Nat) : Bool := if fin = 1 then decide (0 ≤ win ∧ win < n) else win == 0
theorem check_end {s : St} {n m k : Nat} (hn : n = s.players.length) (hm : m = s.cards.length) (hk : k = s.zones.length) (hg : 2 ≤ n ∧ n ≤ 4 ∧ 1 ≤ m ∧ m ≤ 256) (hz : k = 4 * n)
    (hp : ∀ j, j < n → Stat (s.players.getD j zeroPl).life ∧ Stat (s.players.getD j zeroPl).energy) (hc : ∀ j, j < m → CardOk n (s.cards.getD j zeroCd))
    (hr : ∀ c ∈ s.zones.flatten, 0 ≤ c ∧ c < m) (hd : s.zones.flatten.Nodup) (ha : s.zones.flatten.length = m) :
    May s ↔ 1 ≤ s.turn ∧ decide (0 ≤ s.whose ∧ s.whose < n) = true ∧ (0 ≤ s.fin ∧ s.fin ≤ 2) ∧ wonB s.fin s.winner n = true := by
  subst hn hm hk
  constructor
  · intro h
    refine ⟨h.turn, decide_eq_true h.whose, h.fin, ?_⟩
    unfold wonB
    split
    · rename_i h1
      exact decide_eq_true (h.won h1)
    · rename_i h1
      rw [h.lost h1]
      rfl
  · rintro ⟨h1, h2, h3, h4⟩
    refine ⟨hg.1, hg.2.1, hg.2.2.1, hg.2.2.2, hz, fun p hp2 => ?_, fun c hc2 => ?_, hr, hd, ha, h1, of_decide_eq_true h2, h3, fun h => ?_, fun h => ?_⟩
    · obtain ⟨j, hj, rfl⟩ := List.mem_iff_getElem.1 hp2
      have := hp j hj
      rwa [getD_lt hj] at this
    · obtain ⟨j, hj, rfl⟩ := List.mem_iff_getElem.1 hc2
      have := hc j hj
      rwa [getD_lt hj] at this
    · unfold wonB at h4
      rw [if_pos h] at h4
      exact of_decide_eq_true h4
    · unfold wonB at h4
      rw [if_neg h] at h4
      exact eq_of_beq h4
theorem idx4 (x0 x1 x2 x3 : Value) : (∀ w, (Instr.index 99 (.agg #[x0, x1, x2, x3]) (.int .i64 0)).run Tryz.prog w = .ok x0 w) ∧ (∀ w, (Instr.index 99 (.agg #[x0, x1, x2, x3]) (.int .i64 1)).run Tryz.prog w = .ok x1 w) ∧
    (∀ w, (Instr.index 99 (.agg #[x0, x1, x2, x3]) (.int .i64 2)).run Tryz.prog w = .ok x2 w) ∧ (∀ w, (Instr.index 99 (.agg #[x0, x1, x2, x3]) (.int .i64 3)).run Tryz.prog w = .ok x3 w) :=
  ⟨fun _ => by kernel_rfl, fun _ => by kernel_rfl, fun _ => by kernel_rfl, fun _ => by kernel_rfl⟩
def CheckPost (s : St) (w : World) (e : Ending) (w' : World) : Prop :=
  ∃ v at_ : Int, e = .returned (.tuple #[.int .i64 v, .int .i64 at_]) ∧ ((v = 0 ∧ May s) ∨ (v = 10 ∧ ¬ May s)) ∧ Below w.heap.size w w'
theorem checkP_bad {s : St} {w w' : World} (at_ : Int) (h : ¬ May s) (hb : Below w.heap.size w w') : CheckPost s w (.returned (.tuple #[.int .i64 10, .int .i64 at_])) w' := ⟨10, at_, rfl, .inr ⟨rfl, h⟩, hb⟩
theorem checkP_ok {s : St} {w w' : World} (at_ : Int) (h : May s) (hb : Below w.heap.size w w') : CheckPost s w (.returned (.tuple #[.int .i64 0, .int .i64 at_])) w' := ⟨0, at_, rfl, .inl ⟨rfl, h⟩, hb⟩
set_option maxRecDepth 100000 in
set_option maxHeartbeats 8000000 in
theorem check_any (x : SV) (s : St) (w : World) (h : RdSt w x s) (hz : Sz s) : Calls Tryz.prog 23 #[x.val s] w (CheckPost s w) := by
  have HR := Lib.hid h
  have HZ := Lib.hid hz
  have hz1 := hz.p
  have hz2 := hz.c
  have hz3 := hz.z
  obtain ⟨pa, pc, ca, cc, za, zc, rows⟩ := x
  unfold SV.val SV.arr
  simp only
  obtain ⟨n, hn⟩ : ∃ n, n = s.players.length := ⟨_, rfl⟩
  obtain ⟨m, hm⟩ : ∃ m, m = s.cards.length := ⟨_, rfl⟩
  obtain ⟨k, hk⟩ : ∃ k, k = s.zones.length := ⟨_, rfl⟩
  rw [← hn, ← hm, ← hk]
  rw [← hn] at hz1
  rw [← hm] at hz2
  rw [← hk] at hz3
  have HN := Lib.hid hn
  have HM := Lib.hid hm
  have HK := Lib.hid hk
  clear h hz hn hm hk
  have HB := Lib.hid (G.Blk.new w 27 #[.slice pa n pc, .slice ca m cc, .slice za k zc, .int .i32 s.turn, .int .i64 s.whose, .int .i8 s.fin, .int .i64 s.winner])
  obtain ⟨turn, hturn⟩ : ∃ t, t = s.turn := ⟨_, rfl⟩
  obtain ⟨whose, hwhose⟩ : ∃ t, t = s.whose := ⟨_, rfl⟩
  obtain ⟨fin, hfin⟩ : ∃ t, t = s.fin := ⟨_, rfl⟩
  obtain ⟨win, hwin⟩ : ∃ t, t = s.winner := ⟨_, rfl⟩
  rw [← hturn, ← hwhose, ← hfin, ← hwin] at HB ⊢
  have HT1 := Lib.hid hturn
  have HT2 := Lib.hid hwhose
  have HT3 := Lib.hid hfin
  have HT4 := Lib.hid hwin
  clear hturn hwhose hfin hwin
  go_enter Tryz.func23, Tryz.ntmps23
  go_wp2
  go_step3
  go_wp2
  go_quiet (fail)
  by_cases hg : 2 ≤ n ∧ n ≤ 4 ∧ 1 ≤ m ∧ m ≤ 256 ∧ k = 4 * n
  · obtain ⟨g1, g2, g3, g4, g5⟩ := hg
    have e1 : ¬ (n : Int) < 2 := by omega
    have e2 : ¬ (4 : Int) < n := by omega
    have e3 : ¬ (m : Int) < 1 := by omega
    have e4 : ¬ (256 : Int) < m := by omega
    have e5 : ((k : Int) != 4 * (n : Int)) = false := by
      have : (k : Int) = 4 * (n : Int) := by omega
      rw [this]
      simp
    have HG5 := Lib.hid g5
    clear g5
    have hn0 : (0 : Int) ≤ n := by omega
    have hn4 : (n : Int) ≤ 4 := by omega
    go_wp2_with fail
    obtain ⟨w1, hw1⟩ : ∃ w1, w1 = w.alloc (.cells #[.slice pa n pc, .slice ca m cc, .slice za k zc, .int .i32 turn, .int .i64 whose, .int .i8 fin, .int .i64 win] 27) := ⟨_, rfl⟩
    rw [← hw1] at HB ⊢
    have HB1 := Lib.hid (show Below w.heap.size w w1 by rw [hw1]; exact G.bl_alloc (Below.refl _ _) _)
    have hwz : w.heap.size < w1.heap.size := by rw [hw1]; simp
    clear hw1
    go_loopw [6, 53] (fun a i wr => ∃ q : Nat, q ≤ n ∧ i = .int .i64 q ∧ a = .int .i64 (1 + (q : Int)) ∧ Below w1.heap.size w1 wr ∧ (∀ j, j < q → Stat (s.players.getD j zeroPl).life ∧ Stat (s.players.getD j zeroPl).energy)) (fun _ i _ => n - (intOf i).toNat)
    case atStart => exact ⟨0, Nat.zero_le _, rfl, rfl, G.bl_drewN (Below.refl _ _) _, fun j hj => by omega⟩
    case round =>
      obtain ⟨q, hq, rfl, rfl, hbw, hall⟩ := hrel
      have HBW := Lib.hid hbw
      have HALL := Lib.hid hall
      have hq0 : (0 : Int) ≤ q := by omega
      clear hbw hall
      by_cases hlt : q < n
      · have hqI : (q : Int) < n := by omega
        have hp := (HR.out.p.below (Bl.tr HB1.out HBW.out))
        rw [← HN.out] at hp
        obtain ⟨b, off, hpa, hrd⟩ := hp.2 (by omega)
        simp only at hpa
        subst hpa
        obtain ⟨x, hx⟩ : ∃ x, x = s.players.getD q zeroPl := ⟨_, rfl⟩
        obtain ⟨c0, c1, c2⟩ := pl_at hrd (k := q) (by rw [← HN.out]; exact hlt) hx.symm
        have hbs := hrd.1
        have HX := Lib.hid hx
        clear hx hp hrd
        obtain ⟨life, energy, out⟩ := x
        simp only at c0 c1 c2
        by_cases s1 : Stat life
        · by_cases s2 : Stat energy
          · have t1 := stat_yes s1
            have t2 := stat_yes s2
            have HS := Lib.hid (show ∀ j, j < q + 1 → Stat (s.players.getD j zeroPl).life ∧ Stat (s.players.getD j zeroPl).energy from fun j hj => by
              by_cases e : j = q
              · subst e
                rw [← HX.out]
                exact ⟨s1, s2⟩
              · exact HALL.out j (by omega))
            clear s1 s2
            go_wp2_with (go_at_call 68; refine (stat_any _ _).mono ?_; rintro e w' ⟨rfl, rfl⟩)
            go_roundw
            case rel => exact ⟨q + 1, by omega, by go_num, by go_num, Bl.al HBW.out _, HS.out⟩
            case measure => simp [intOf]; omega
          · have t1 := stat_yes s1
            have t2 := stat_no s2
            have HBAD := Lib.hid (show ¬ May s from fun h => s2 (by
              have h1 := (h.pl (s.players.getD q zeroPl) (mem_getD (by rw [← HN.out]; exact hlt))).2
              rw [← HX.out] at h1
              exact h1))
            clear s1 s2
            go_wp2_with (go_at_call 68; refine (stat_any _ _).mono ?_; rintro e w' ⟨rfl, rfl⟩)
            go_ret2
            exact checkP_bad _ HBAD.out (Bl.tr HB1.out (Bl.al HBW.out _))
        · have t1 := stat_no s1
          have HBAD := Lib.hid (show ¬ May s from fun h => s1 (by
            have h1 := (h.pl (s.players.getD q zeroPl) (mem_getD (by rw [← HN.out]; exact hlt))).1
            rw [← HX.out] at h1
            exact h1))
          clear s1
          go_wp2_with (go_at_call 68; refine (stat_any _ _).mono ?_; rintro e w' ⟨rfl, rfl⟩)
          go_ret2
          exact checkP_bad _ HBAD.out (Bl.tr HB1.out (Bl.al HBW.out _))
      · obtain rfl : n = q := by omega
        have hqI : ¬ (n : Int) < n := by omega
        have HPL := Lib.hid HALL.out
        have HB2 := Lib.hid (HB.out.below HBW.out HB.out.lt)
        have HBW2 := Lib.hid (Bl.tr HB1.out HBW.out)
        have hcz := HB2.out.cell
        have hlz := HB2.out.lt
        go_wp2_with fail
        obtain ⟨w2, hw2⟩ : ∃ w2 : World, w2 = wr := ⟨_, rfl⟩
        subst hw2
        clear hcz hlz hqI HALL
        go_loopw [6, 74] (fun a i wr => ∃ q : Nat, q ≤ m ∧ i = .int .i64 q ∧ a = .int .i64 (1 + (n : Int) + (q : Int)) ∧ Below w2.heap.size w2 wr ∧ (∀ j, j < q → CardOk n (s.cards.getD j zeroCd))) (fun _ i _ => m - (intOf i).toNat)
        case atStart => exact ⟨0, Nat.zero_le _, rfl, by simp, Below.refl _ _, fun j hj => by omega⟩
        case round =>
          obtain ⟨q, hq, rfl, rfl, hbw, hall⟩ := hrel
          have HBV := Lib.hid hbw
          have HALL := Lib.hid hall
          have hq0 : (0 : Int) ≤ q := by omega
          clear hbw hall
          by_cases hlt : q < m
          · have hqI : (q : Int) < m := by omega
            have hp := (HR.out.c.below (Bl.tr HBW2.out HBV.out))
            rw [← HM.out] at hp
            obtain ⟨b, off, hpa, hrd⟩ := hp.2 (by omega)
            simp only at hpa
            subst hpa
            obtain ⟨x, hx⟩ : ∃ x, x = s.cards.getD q zeroCd := ⟨_, rfl⟩
            obtain ⟨c0, c1, c2, c3, c4, c5⟩ := cd_at hrd (k := q) (by rw [← HM.out]; exact hlt) hx.symm
            have hbs := hrd.1
            have HX := Lib.hid hx
            clear hx hp hrd
            have HCA := Lib.hid (fun W => card_any x n W)
            have HXE := Lib.hid (show x.val = .agg #[.int .i64 x.kind, .int .i64 x.owner, .int .i32 x.power, .int .i32 x.health, .int .i32 x.damage, .int .i32 x.marks] from rfl)
            by_cases s1 : CardOk n x
            · have t1 := card_yes s1
              have HS := Lib.hid (show ∀ j, j < q + 1 → CardOk n (s.cards.getD j zeroCd) from fun j hj => by
                by_cases e : j = q
                · subst e
                  rw [← HX.out]
                  exact s1
                · exact HALL.out j (by omega))
              rw [t1] at HCA
              unfold Cd.val at HCA
              clear s1 t1 HXE
              go_wp2_with fail
              refine (HCA.out _).mono ?_
              rintro e w' ⟨rfl, hb'⟩
              have HBC := Lib.hid (Bl.tr (Bl.al HBV.out _) hb')
              clear hb'
              go_wp2_with fail
              go_roundw
              case rel => exact ⟨q + 1, by omega, by go_num, by go_num, HBC.out, HS.out⟩
              case measure => simp [intOf]; omega
            · have t1 := card_no s1
              have HBAD := Lib.hid (show ¬ May s from fun h => s1 (by
                have h1 := h.cd (s.cards.getD q zeroCd) (mem_getD (by rw [← HM.out]; exact hlt))
                rw [← HX.out, ← HN.out] at h1
                exact h1))
              rw [t1] at HCA
              unfold Cd.val at HCA
              clear s1 t1 HXE
              go_wp2_with fail
              refine (HCA.out _).mono ?_
              rintro e w' ⟨rfl, hb'⟩
              have HBC := Lib.hid (Bl.tr (Bl.al HBV.out _) hb')
              clear hb'
              go_wp2_with fail
              go_ret2
              exact checkP_bad _ HBAD.out (Bl.tr HBW2.out HBC.out)
          · obtain rfl : m = q := by omega
            have hqI : ¬ (m : Int) < m := by omega
            have HCD := Lib.hid HALL.out
            have HB3 := Lib.hid (HB2.out.below HBV.out HB2.out.lt)
            have HBW3 := Lib.hid (Bl.tr HBW2.out HBV.out)
            have hcz := HB3.out.cell
            have hlz := HB3.out.lt
            go_wp2_with fail
            have HST0 := Lib.hid (show StI wr (wr.alloc (.cells Tryz.zeroCells98 98)) m [] from ⟨by rw [stood_nil]; exact G.Blk.new _ _ _, List.nodup_nil, (fun c hc => by cases hc), Bl.al (Below.refl _ _) _⟩)
            obtain ⟨w3, hw3⟩ : ∃ w3 : World, w3 = wr := ⟨_, rfl⟩
            subst hw3
            clear hcz hlz hqI HALL
            go_step3
            have hcz := (HB3.out.below (Bl.al (Below.refl _ _) _) HB3.out.lt : G.Blk (w3.alloc (.cells Tryz.zeroCells98 98)) _ _ _).cell
            have hlz := HB3.out.lt
            go_wp2_with fail
            clear hcz
            go_loopw [12, 13, 89] (fun en gd i wr => ∃ (q : Nat) (E : List Int), q ≤ k ∧ i = .int .i64 q ∧ gd = .bool true ∧ en = .int .i64 (E.length : Nat) ∧ E = (s.zones.take q).flatten ∧ StI w3 wr m E) (fun _ _ i _ => k - (intOf i).toNat)
            case atStart => exact ⟨0, [], Nat.zero_le _, rfl, rfl, rfl, rfl, HST0.out⟩
            case round =>
              obtain ⟨q, E, hq, rfl, rfl, rfl, hE, hst⟩ := hrel
              have HE := Lib.hid hE
              have HST := Lib.hid hst
              have hq0 : (0 : Int) ≤ q := by omega
              clear hE hst
              by_cases hlt : q < k
              · have hqI : (q : Int) < k := by omega
                obtain ⟨bz, oz, hza, hcr⟩ := rows_at (i := q) (HR.out.z.below (Bl.tr HBW3.out HST.out.bl)) (by rw [← HK.out]; exact hlt)
                simp only at hza
                subst hza
                obtain ⟨ra, rk, hrv, hrr⟩ := HR.out.rows q (by rw [← HK.out]; exact hlt)
                simp only at hrv hcr
                rw [hrv] at hcr
                obtain ⟨z, hzz⟩ : ∃ z, z = s.zones.getD q [] := ⟨_, rfl⟩
                have hl := HZ.out.r q
                rw [← hzz] at hcr hrr hl
                obtain ⟨lz, hlz'⟩ : ∃ lz, lz = z.length := ⟨_, rfl⟩
                rw [← hlz'] at hcr hrr hl
                have HLZ := Lib.hid hlz'
                have HRR := Lib.hid hrr
                have HZZ := Lib.hid hzz
                have hbs := World.block_lt_of_cell? _ _ hcr
                clear hrv hrr hlz' hzz
                go_wp2_with fail
                obtain ⟨wo, hwo⟩ : ∃ wo : World, wo = wr := ⟨_, rfl⟩
                subst hwo
                clear hcr hbs
                go_loopw [12, 13, 95] (fun en gd i wr => ∃ (j : Nat) (F : List Int), j ≤ lz ∧ i = .int .i64 j ∧ gd = .bool true ∧ en = .int .i64 (F.length : Nat) ∧ F = E ++ z.take j ∧ StI w3 wr m F) (fun _ _ i _ => lz - (intOf i).toNat)
                case atStart => exact ⟨0, E, Nat.zero_le _, rfl, rfl, rfl, by simp, HST.out⟩
                case round =>
                  obtain ⟨j, F, hj, rfl, rfl, rfl, hF, hst⟩ := hrel
                  have HF := Lib.hid hF
                  have HSF := Lib.hid hst
                  have hj0 : (0 : Int) ≤ j := by omega
                  have hFl := hst.len
                  clear hF hst
                  by_cases hjl : j < lz
                  · have hjI : (j : Int) < lz := by omega
                    obtain ⟨bc, oc, rfl, hrd⟩ := (HRR.out.below (Bl.tr HBW3.out HSF.out.bl)).2 (by omega)
                    have hcc := i64_at hrd (k := j) (by rw [← HLZ.out]; exact hjl)
                    obtain ⟨c, hc⟩ : ∃ c, c = z.getD j 0 := ⟨_, rfl⟩
                    rw [← hc] at hcc
                    have HC := Lib.hid hc
                    have hbs := World.block_lt_of_cell? _ _ hcc
                    clear hrd hc
                    have HSUB := Lib.hid (show (F ++ [c]).Sublist s.zones.flatten by
                      have h := flat_upto (zs := s.zones) (q := q) (j := j + 1) (by rw [← HK.out]; exact hlt)
                      rw [← HE.out, ← HZZ.out, take_next (by rw [← HLZ.out]; exact hjl), ← List.append_assoc, ← HF.out, ← HC.out] at h
                      exact h)
                    by_cases c1 : 0 ≤ c
                    · obtain ⟨cn, rfl⟩ := Int.eq_ofNat_of_zero_le c1
                      by_cases c2 : cn < m
                      · have c2I : (cn : Int) < m := by omega
                        have hsc := (HSF.out.blk.cell cn).trans (stood_at (by omega))
                        have hsf := HSF.out.blk.frozen cn
                        have hsl := HSF.out.blk.lt
                        have hc6 : (cn : Int) < 256 := by omega
                        by_cases c3 : (cn : Int) ∈ F
                        · rw [decide_eq_true c3] at hsc
                          have HBAD := Lib.hid (show ¬ May s from fun h => by
                            have h1 := h.nd.sublist HSUB.out
                            rw [List.nodup_append] at h1
                            exact h1.2.2 _ c3 _ (by simp) rfl)
                          clear c3
                          go_wp2_with fail
                          go_ret2
                          exact checkP_bad _ HBAD.out (Bl.tr HBW3.out HSF.out.bl)
                        · rw [decide_eq_false c3] at hsc
                          have HNX := Lib.hid (HSF.out.put (by omega) c2 c3)
                          clear c3
                          have hFl1 : ((F.length : Nat) : Int) + 1 ≤ 257 := by omega
                          go_wp2_with fail
                          go_roundw
                          case rel => exact ⟨j + 1, F ++ [(cn : Int)], by omega, by go_num, rfl, by rw [List.length_append]; go_num, by rw [HF.out, take_next (by rw [← HLZ.out]; exact hjl), ← HC.out, List.append_assoc], HNX.out⟩
                          case measure => simp [intOf]; omega
                      · have c2I : ¬ (cn : Int) < m := by omega
                        have HBAD := Lib.hid (show ¬ May s from fun h => by
                          have h1 := (h.rng _ (HSUB.out.subset (List.mem_append_right _ (by simp : (cn : Int) ∈ [(cn : Int)])))).2
                          rw [← HM.out] at h1
                          omega)
                        go_wp2_with fail
                        go_ret2
                        exact checkP_bad _ HBAD.out (Bl.tr HBW3.out HSF.out.bl)
                    · have HBAD := Lib.hid (show ¬ May s from fun h => by
                        have h1 := (h.rng _ (HSUB.out.subset (List.mem_append_right _ (by simp : c ∈ [c])))).1
                        omega)
                      go_wp2_with fail
                      go_ret2
                      exact checkP_bad _ HBAD.out (Bl.tr HBW3.out HSF.out.bl)
                  · obtain rfl : lz = j := by omega
                    have hjI : ¬ (lz : Int) < lz := by omega
                    have HEN := Lib.hid (show F = (s.zones.take (q + 1)).flatten by
                      rw [HF.out, flat_next (by rw [← HK.out]; exact hlt), ← HE.out, ← HZZ.out, List.take_of_length_le (by rw [← HLZ.out]; omega)])
                    go_wp2_with fail
                    go_roundw
                    case rel => exact ⟨q + 1, F, by omega, by go_num, rfl, rfl, HEN.out, HSF.out⟩
                    case measure => simp [intOf]; omega
              · obtain rfl : k = q := by omega
                have hqI : ¬ (k : Int) < k := by omega
                have HFL := Lib.hid (show E = s.zones.flatten by
                  have h := HE.out
                  rw [List.take_of_length_le (by rw [← HK.out]; omega)] at h
                  exact h)
                have hEl := HST.out.len
                by_cases hem : E.length = m
                · have hemI : ((E.length : Nat) : Int) = m := by omega
                  have hemB : (((E.length : Nat) : Int) != (m : Int)) = false := by rw [hemI]; simp
                  have HEM := Lib.hid hem
                  have HB4 := Lib.hid (HB3.out.below HST.out.bl HB3.out.lt)
                  have HBE := Lib.hid (Bl.tr HBW3.out HST.out.bl)
                  have hcz := HB4.out.cell
                  have hlz := HB4.out.lt
                  clear hem hemI
                  go_upto_region 36 with (fail)
                  clear hemB
                  go_cut [18] from 22 to 179 (fun s18 wx => s18 = .bool (decide (0 ≤ whose ∧ whose < n)) ∧ wr = wx)
                  case first =>
                    by_cases h1 : 0 ≤ whose
                    · by_cases h2 : whose < n
                      · have HD := Lib.hid (show decide (0 ≤ whose ∧ whose < n) = true from decide_eq_true ⟨h1, h2⟩)
                        go_wp2_with fail
                        go_meet
                        case rel => exact ⟨by rw [HD.out], rfl⟩
                      · have HD := Lib.hid (show decide (0 ≤ whose ∧ whose < n) = false from decide_eq_false fun h => h2 h.2)
                        go_wp2_with fail
                        go_meet
                        case rel => exact ⟨by rw [HD.out], rfl⟩
                    · have HD := Lib.hid (show decide (0 ≤ whose ∧ whose < n) = false from decide_eq_false fun h => h1 h.1)
                      go_wp2_with fail
                      go_meet
                      case rel => exact ⟨by rw [HD.out], rfl⟩
                  case rest =>
                    obtain ⟨rfl, rfl⟩ := hcut
                    obtain ⟨b2, hb2⟩ : ∃ b2, b2 = decide (0 ≤ whose ∧ whose < n) := ⟨_, rfl⟩
                    rw [← hb2]
                    have HQ2 := Lib.hid hb2
                    clear hb2
                    go_upto_if 145 with (fail)
                    go_cut [19] from 22 to 179 (fun s19 wx => s19 = .bool (wonB fin win n) ∧ wr = wx)
                    case first =>
                      by_cases h1 : fin = 1
                      · have h1b : (fin == 1) = true := by rw [h1]; rfl
                        have HW := Lib.hid (show wonB fin win n = decide (0 ≤ win ∧ win < n) by rw [h1]; rfl)
                        have HF := Lib.hid h1
                        clear h1
                        by_cases h2 : 0 ≤ win
                        · by_cases h3 : win < n
                          · have HD := Lib.hid (show wonB fin win n = true by rw [HW.out]; exact decide_eq_true ⟨h2, h3⟩)
                            go_wp2_with fail
                            go_meet
                            case rel => exact ⟨by rw [HD.out], rfl⟩
                          · have HD := Lib.hid (show wonB fin win n = false by rw [HW.out]; exact decide_eq_false fun h => h3 h.2)
                            go_wp2_with fail
                            go_meet
                            case rel => exact ⟨by rw [HD.out], rfl⟩
                        · have HD := Lib.hid (show wonB fin win n = false by rw [HW.out]; exact decide_eq_false fun h => h2 h.1)
                          go_wp2_with fail
                          go_meet
                          case rel => exact ⟨by rw [HD.out], rfl⟩
                      · have h1b : (fin == 1) = false := by rw [beq_eq_false_iff_ne]; exact h1
                        have HW := Lib.hid (show wonB fin win n = (win == 0) by unfold wonB; rw [if_neg h1])
                        clear h1
                        go_wp2_with fail
                        go_meet
                        case rel => exact ⟨by rw [HW.out], rfl⟩
                    case rest =>
                      obtain ⟨rfl, rfl⟩ := hcut
                      obtain ⟨b4, hb4⟩ : ∃ b4, b4 = wonB fin win n := ⟨_, rfl⟩
                      rw [← hb4]
                      have HQ4 := Lib.hid hb4
                      clear hb4
                      have HMAY := Lib.hid (check_end (s := s) (n := n) HN.out HM.out HK.out ⟨g1, g2, g3, g4⟩ HG5.out HPL.out HCD.out (by rw [← HFL.out]; exact HST.out.rng) (by rw [← HFL.out]; exact HST.out.nd) (by rw [← HFL.out]; exact HEM.out))
                      rw [← HT1.out, ← HT2.out, ← HT3.out, ← HT4.out, ← HQ2.out, ← HQ4.out] at HMAY
                      have i0 := fun x0 x1 x2 x3 => (idx4 x0 x1 x2 x3).1
                      have i1 := fun x0 x1 x2 x3 => (idx4 x0 x1 x2 x3).2.1
                      have i2 := fun x0 x1 x2 x3 => (idx4 x0 x1 x2 x3).2.2.1
                      have i3 := fun x0 x1 x2 x3 => (idx4 x0 x1 x2 x3).2.2.2
                      have hnm : (n : Int) + m + E.length ≤ 1000 := by omega
                      by_cases hok : 1 ≤ turn ∧ b2 = true ∧ (0 ≤ fin ∧ fin ≤ 2) ∧ b4 = true
                      · have HOK := Lib.hid (HMAY.out.2 hok)
                        obtain ⟨f3, rfl, ⟨f1, f2⟩, rfl⟩ := hok
                        go_wp2_with fail
                        go_rounds 5
                        go_ret2
                        exact checkP_ok _ HOK.out HBE.out
                      · have HBAD := Lib.hid (show ¬ May s from fun h => hok (HMAY.out.1 h))
                        clear HMAY
                        by_cases f3 : 1 ≤ turn
                        · cases b2
                          · by_cases f1 : 0 ≤ fin
                            all_goals
                              clear hok
                              go_wp2_with fail
                              go_rounds 5
                              go_ret2
                              exact checkP_bad _ HBAD.out HBE.out
                          · by_cases f1 : 0 ≤ fin
                            · by_cases f2 : fin ≤ 2
                              · cases b4
                                · clear hok
                                  go_wp2_with fail
                                  go_rounds 5
                                  go_ret2
                                  exact checkP_bad _ HBAD.out HBE.out
                                · exact absurd ⟨f3, rfl, ⟨f1, f2⟩, rfl⟩ hok
                              · clear hok
                                go_wp2_with fail
                                go_rounds 5
                                go_ret2
                                exact checkP_bad _ HBAD.out HBE.out
                            · clear hok
                              go_wp2_with fail
                              go_rounds 5
                              go_ret2
                              exact checkP_bad _ HBAD.out HBE.out
                        · by_cases f1 : 0 ≤ fin
                          all_goals
                            clear hok
                            go_wp2_with fail
                            go_rounds 5
                            go_ret2
                            exact checkP_bad _ HBAD.out HBE.out
                · have hemI : ¬ ((E.length : Nat) : Int) = m := by omega
                  have hemB : (((E.length : Nat) : Int) != (m : Int)) = true := by rw [bne_iff_ne]; exact hemI
                  have HBAD := Lib.hid (show ¬ May s from fun h => by
                    have h1 := h.all
                    rw [← HFL.out, ← HM.out] at h1
                    exact hem h1)
                  go_wp2_with fail
                  go_ret2
                  exact checkP_bad _ HBAD.out (Bl.tr HBW3.out HST.out.bl)
  · have HBAD := Lib.hid (show ¬ May s from fun h => hg ⟨by rw [HN.out]; exact h.n2, by rw [HN.out]; exact h.n4, by rw [HM.out]; exact h.m1, by rw [HM.out]; exact h.m256, by rw [HK.out, HN.out]; exact h.zn⟩)
    have hn0 : (0 : Int) ≤ n := by omega
    have hn4 : (n : Int) ≤ 33554432 := by omega
    by_cases e1 : (n : Int) < 2
    · go_wp2_with fail
      go_ret2
      exact checkP_bad _ HBAD.out (Bl.dn (Bl.al (Below.refl _ _) _) _)
    · by_cases e2 : (4 : Int) < n
      · go_wp2_with fail
        go_ret2
        exact checkP_bad _ HBAD.out (Bl.dn (Bl.al (Below.refl _ _) _) _)
      · by_cases e3 : (m : Int) < 1
        · go_wp2_with fail
          go_ret2
          exact checkP_bad _ HBAD.out (Bl.dn (Bl.al (Below.refl _ _) _) _)
        · by_cases e4 : (256 : Int) < m
          · go_wp2_with fail
            go_ret2
            exact checkP_bad _ HBAD.out (Bl.dn (Bl.al (Below.refl _ _) _) _)
          · have e5 : ((k : Int) != 4 * (n : Int)) = true := by
              rw [bne_iff_ne]
              omega
            clear hg
            go_wp2_with fail
            go_ret2
            exact checkP_bad _ HBAD.out (Bl.dn (Bl.al (Below.refl _ _) _) _)
end Go.Proofs.YtmhklnjmeoeanaaGreatDoor.D

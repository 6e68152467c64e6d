/- The contracts of deed.Move, deed.Draw. -/
import Derived.Test.YtmhklnjmeoeanaaGreatDoorDMay
import Derived.Test.YtmhklnjmeoeanaaGreatDoorDField
import Derived.Test.YtmhklnjmeoeanaaGreatDoorDRow
import Derived.Test.YtmhklnjmeoeanaaGreatDoorDLawM
import Derived.Deep.RegionHeld3
namespace Go.Proofs.YtmhklnjmeoeanaaGreatDoor.D
open Go Go.RowKit
set_option linter.unusedVariables false
set_option linter.unusedSimpArgs false
def RefPost (s : St) (b : Bool) (w : World) (e : Ending) (w' : World) : Prop := ∃ k : Int, e = .returned (.int .i64 k) ∧ Below w.heap.size w w' ∧ ((k = 10 ∧ ¬ May s) ∨ (k = 1 ∧ May s ∧ b = false) ∨ (k = 0 ∧ May s ∧ b = true))
set_option maxRecDepth 100000 in
set_option maxHeartbeats 4000000 in
theorem refused_any (x : SV) (s : St) (w : World) (h : RdSt w x s) (hz : Sz s) (f : FuncId) (eg : ∀ args w, (callFunc f args).run Tryz.prog w = .ok (.enter f args) w) (caps : Array Value) (b : Bool)
    (hk : May s → ∀ W, Below w.heap.size w W → Calls Tryz.prog f caps W (BoolPost b W)) : Calls Tryz.prog 94 #[x.val s, .func (.func f) #[] caps] w (RefPost s b w) := by
  obtain ⟨fsS, hfsS⟩ := undSt
  have HFS := Lib.hid hfsS
  have HCK := Lib.hid (fun W (hW : Below w.heap.size w W) => check_any x s W (h.below hW) hz)
  obtain ⟨c, hc⟩ : ∃ c, c = x.arr s := ⟨_, rfl⟩
  have HS := Lib.hid (show c.size = 7 by rw [hc]; rfl)
  have he : x.val s = .agg c := by rw [hc]; rfl
  rw [he] at HCK ⊢
  have HK := Lib.hid hk
  clear h hz hc he hfsS hk
  have HB0 := Lib.hid (G.Blk.new w 27 c)
  have HBL0 := Lib.hid (G.bl_alloc (Below.refl w.heap.size w) (.cells c 27))
  go_enter Tryz.func94, Tryz.ntmps94
  go_wp2_with (refine wpList_load_row rfl 27 _ rfl w.heap.size rfl _ c (0, 0) _ HB0.out HFS.out rfl (by rw [HS.out]; exact sizeSt) ?_)
  refine (HCK.out _ HBL0.out).mono ?_
  rintro e1 w1 hp1
  obtain ⟨k1, at1, rfl, hk1, hb1⟩ := hp1
  have HBL1 := Lib.hid (G.bl_trans HBL0.out hb1)
  clear hb1
  rcases hk1 with ⟨rfl, hm⟩ | ⟨rfl, hm⟩
  · have HM := Lib.hid hm
    have HC := Lib.hid (HK.out hm _ HBL1.out)
    clear hm
    cases b
    · go_wp2_with ((with_reducible refine (HC.out).mono ?_); rintro e2 w2 ⟨rfl, hb2⟩; have HBL2 := Lib.hid (G.bl_trans HBL1.out hb2); clear hb2)
      go_ret
      exact ⟨1, rfl, HBL2.out, .inr (.inl ⟨rfl, HM.out, rfl⟩)⟩
    · go_wp2_with ((with_reducible refine (HC.out).mono ?_); rintro e2 w2 ⟨rfl, hb2⟩; have HBL2 := Lib.hid (G.bl_trans HBL1.out hb2); clear hb2)
      go_ret
      exact ⟨0, rfl, HBL2.out, .inr (.inr ⟨rfl, HM.out, rfl⟩)⟩
  · have HM := Lib.hid hm
    clear hm
    go_wp2_with fail
    go_ret
    exact ⟨10, rfl, HBL1.out, .inl ⟨rfl, HM.out⟩⟩
def withinB (k : Int) (n : Nat) : Bool := decide (Within k n)
theorem within_yes {k : Int} {n : Nat} (h : Within k n) : withinB k n = true := decide_eq_true h
theorem within_no {k : Int} {n : Nat} (h : ¬ Within k n) : withinB k n = false := decide_eq_false h
/-- A state in a box, read alone. -/
theorem box_cells {w : World} {g : Nat} {x : SV} {s : St} (h : G.Blk w g 27 (x.arr s)) :
    w.cell? ⟨g, 0, none⟩ = some (.slice x.pa s.players.length x.pc) ∧ w.cell? ⟨g, 1, none⟩ = some (.slice x.ca s.cards.length x.cc) ∧ w.cell? ⟨g, 2, none⟩ = some (.slice x.za s.zones.length x.zc) := ⟨h.cell 0, h.cell 1, h.cell 2⟩
set_option maxHeartbeats 2000000 in
theorem askOut_any (x : SV) (s : St) (gn g : Nat) (p : Int) (w : World) (h : G.Blk w g 27 (x.arr s)) (hn : G.Blk w gn 3 #[.int .i64 p]) (hl : s.players.length ≤ 33554432) :
    Calls Tryz.prog 97 #[.pointer (some ⟨gn, 0, none⟩), .pointer (some ⟨g, 0, none⟩)] w (BoolPost (withinB p s.players.length) w) := by
  have c0 := (box_cells h).1
  have d0 := hn.cell 0
  have l0 := h.lt
  have l1 := hn.lt
  clear h hn
  have HB := Lib.hid (show withinB p s.players.length = decide (Within p s.players.length) from rfl)
  obtain ⟨n, hnn⟩ : ∃ n, n = s.players.length := ⟨_, rfl⟩
  rw [← hnn] at c0 hl HB ⊢
  clear hnn
  generalize withinB p n = b at *
  by_cases h1 : 0 ≤ p
  · by_cases h2 : p < n
    · have HT := Lib.hid (show b = true by rw [HB.out]; exact decide_eq_true ⟨h1, h2⟩)
      go_enter Tryz.func97, Tryz.ntmps97
      go_wp2_with fail
      go_ret
      exact ⟨ret_bool HT.out.symm, Below.refl _ _⟩
    · have HT := Lib.hid (show b = false by rw [HB.out]; exact decide_eq_false (fun h => h2 h.2))
      go_enter Tryz.func97, Tryz.ntmps97
      go_wp2_with fail
      go_ret
      exact ⟨ret_bool HT.out.symm, Below.refl _ _⟩
  · have HT := Lib.hid (show b = false by rw [HB.out]; exact decide_eq_false (fun h => h1 h.1))
    go_enter Tryz.func97, Tryz.ntmps97
    go_wp2_with fail
    go_ret
    exact ⟨ret_bool HT.out.symm, Below.refl _ _⟩
set_option maxHeartbeats 2000000 in
theorem askMove_any (x : SV) (s : St) (gc g gz : Nat) (c z : Int) (w : World) (h : G.Blk w g 27 (x.arr s)) (hc : G.Blk w gc 3 #[.int .i64 c]) (hz : G.Blk w gz 3 #[.int .i64 z]) (hl : s.cards.length ≤ 33554432) (hl2 : s.zones.length ≤ 33554432) :
    Calls Tryz.prog 95 #[.pointer (some ⟨gc, 0, none⟩), .pointer (some ⟨g, 0, none⟩), .pointer (some ⟨gz, 0, none⟩)] w (BoolPost (withinB c s.cards.length && withinB z s.zones.length) w) := by
  have c1 := (box_cells h).2.1
  have c2 := (box_cells h).2.2
  have d0 := hc.cell 0
  have e0 := hz.cell 0
  have l0 := h.lt
  have l1 := hc.lt
  have l2 := hz.lt
  clear h hc hz
  have HB := Lib.hid (show (withinB c s.cards.length && withinB z s.zones.length) = decide (Within c s.cards.length ∧ Within z s.zones.length) by unfold withinB; simp)
  obtain ⟨m, hm⟩ : ∃ n, n = s.cards.length := ⟨_, rfl⟩
  obtain ⟨l, hll⟩ : ∃ n, n = s.zones.length := ⟨_, rfl⟩
  rw [← hm] at c1 hl HB ⊢
  rw [← hll] at c2 hl2 HB ⊢
  clear hm hll
  generalize (withinB c m && withinB z l) = b at *
  by_cases h1 : 0 ≤ c
  · by_cases h2 : c < m
    · by_cases h3 : 0 ≤ z
      · by_cases h4 : z < l
        · have HT := Lib.hid (show b = true by rw [HB.out]; exact decide_eq_true ⟨⟨h1, h2⟩, ⟨h3, h4⟩⟩)
          go_enter Tryz.func95, Tryz.ntmps95
          go_wp2_with fail
          go_ret
          exact ⟨ret_bool HT.out.symm, Below.refl _ _⟩
        · have HT := Lib.hid (show b = false by rw [HB.out]; exact decide_eq_false (fun h => h4 h.2.2))
          go_enter Tryz.func95, Tryz.ntmps95
          go_wp2_with fail
          go_ret
          exact ⟨ret_bool HT.out.symm, Below.refl _ _⟩
      · have HT := Lib.hid (show b = false by rw [HB.out]; exact decide_eq_false (fun h => h3 h.2.1))
        go_enter Tryz.func95, Tryz.ntmps95
        go_wp2_with fail
        go_ret
        exact ⟨ret_bool HT.out.symm, Below.refl _ _⟩
    · have HT := Lib.hid (show b = false by rw [HB.out]; exact decide_eq_false (fun h => h2 h.1.2))
      go_enter Tryz.func95, Tryz.ntmps95
      go_wp2_with fail
      go_ret
      exact ⟨ret_bool HT.out.symm, Below.refl _ _⟩
  · have HT := Lib.hid (show b = false by rw [HB.out]; exact decide_eq_false (fun h => h1 h.1.1))
    go_enter Tryz.func95, Tryz.ntmps95
    go_wp2_with fail
    go_ret
    exact ⟨ret_bool HT.out.symm, Below.refl _ _⟩
end Go.Proofs.YtmhklnjmeoeanaaGreatDoor.D
namespace Go.Proofs.YtmhklnjmeoeanaaGreatDoor.D
open Go Go.RowKit
set_option linter.unusedVariables false
set_option linter.unusedSimpArgs false
theorem idx_in {l : List Int} {c : Int} (h : c ∈ l) : Lib.idxOf l c = (l.idxOf c : Nat) := by
  have hi := List.idxOf_lt_length_of_mem h
  have := Lib.idxOf_hit l l.length (l.idxOf c) c hi (Nat.le_refl _) (by rw [getD_lt hi]; exact List.getElem_idxOf hi) (fun j hj => by
    rw [getD_lt (by omega)]
    intro e
    have := List.not_of_lt_findIdx (p := fun x => x == c) (xs := l) (i := j) (by rw [List.idxOf] at hj; exact hj)
    simp [e] at this)
  rwa [List.take_length] at this
theorem idx_out {l : List Int} {c : Int} (h : c ∉ l) : Lib.idxOf l c = -1 := by
  have := Lib.idxOf_miss l l.length c (fun j hj => by
    rw [getD_lt hj]
    exact fun e => h (by rw [← e]; exact List.getElem_mem hj))
  rwa [List.take_length] at this
theorem index_any (A : Option Addr) (n k : Nat) (l : List Int) (c : Int) (w : World) (hn : l.length = n) (hm : n ≤ 33554432) (hr : G.RdS w A 1 n (i64s l)) :
    Calls Tryz.prog 104 #[.slice A n k, .int .i64 c] w fun e w' => e = .returned (.int .i64 (Lib.idxOf l c)) ∧ w = w' := by
  rcases Nat.eq_zero_or_pos n with h0 | h0
  · subst h0
    obtain rfl : l = [] := List.eq_nil_of_length_eq_zero hn
    exact (Tryz.slices_Index_int_empty A k c w).mono fun e w' ⟨a, b⟩ => ⟨a, b.symm⟩
  · obtain ⟨b, off, rfl, hv⟩ := hr.2 h0
    have := Tryz.slices_Index_int b off n k l c w (by omega) (by omega) (fun j hj => i64_at hv hj)
    rw [← hn, List.take_length] at this
    rw [← hn]
    exact this.mono fun e w' ⟨a, b⟩ => ⟨a, b.symm⟩
theorem zone_first {zs : List (List Int)} {c : Int} {q : Nat} (hq : q < zs.length) (hc : c ∈ zs.getD q []) (hb : ∀ j, j < q → c ∉ zs.getD j []) : zoneOf zs c = q := by
  unfold zoneOf
  rw [List.findIdx_eq hq]
  refine ⟨by rw [getD_lt hq] at hc; simpa using hc, fun j hj => ?_⟩
  have := hb j hj
  rw [getD_lt (by omega)] at this
  simpa using this
def WherePost (s : St) (c : Int) (w : World) (e : Ending) (w' : World) : Prop := e = .returned (.tuple #[.int .i64 (zoneOf s.zones c : Nat), .int .i64 (atOf s.zones c : Nat), .bool true]) ∧ Below w.heap.size w w'
set_option maxRecDepth 100000 in
set_option maxHeartbeats 4000000 in
theorem where_any (x : SV) (s : St) (c : Int) (w : World) (h : RdSt w x s) (hm : May s) (hc : Within c s.cards.length) : Calls Tryz.prog 96 #[x.val s, .int .i64 c] w (WherePost s c w) := by
  have hz := may_sz hm
  have HR := Lib.hid h
  have HP := Lib.hid (place_ok hm hc)
  have hz16 : s.zones.length ≤ 16 := by have := hm.zn; have := hm.n4; omega
  have HL := Lib.hid (fun i => may_zone hm i)
  have HCK := Lib.hid (fun W (hW : Below w.heap.size w W) => check_any x s W (h.below hW) hz)
  have HM := Lib.hid hm
  obtain ⟨fsS, hfsS⟩ := undSt
  have HFS := Lib.hid hfsS
  have HX := Lib.hid (show x.arr s = #[.slice x.pa s.players.length x.pc, .slice x.ca s.cards.length x.cc, .slice x.za s.zones.length x.zc, .int .i32 s.turn, .int .i64 s.whose, .int .i8 s.fin, .int .i64 s.winner] from rfl)
  have HCS := Lib.hid (show (x.arr s)[2]? = some (.slice x.za s.zones.length x.zc) from rfl)
  obtain ⟨cs, hcs⟩ : ∃ c, c = x.arr s := ⟨_, rfl⟩
  have HS := Lib.hid (show cs.size = 7 by rw [hcs]; rfl)
  have he : x.val s = .agg cs := by rw [hcs]; rfl
  rw [he] at HCK ⊢
  rw [← hcs] at HCS
  obtain ⟨l, hl⟩ : ∃ l, l = s.zones.length := ⟨_, rfl⟩
  rw [← hl] at hz16 HCS
  have HLL := Lib.hid hl
  obtain ⟨za, hza⟩ : ∃ q, q = x.za := ⟨_, rfl⟩
  rw [← hza] at HCS
  have HZA := Lib.hid hza
  generalize x.zc = zc at HCS
  clear h hz hm hc hcs he hfsS HX hl hza
  have HB0 := Lib.hid (G.Blk.new w 27 cs)
  have HBL0 := Lib.hid (G.bl_alloc (Below.refl w.heap.size w) (.cells cs 27))
  go_enter Tryz.func96, Tryz.ntmps96
  go_wp2_with (refine wpList_load_row rfl 27 _ rfl w.heap.size rfl _ cs (0, 0) _ HB0.out HFS.out rfl (by rw [HS.out]; exact sizeSt) ?_)
  refine (HCK.out _ HBL0.out).mono ?_
  rintro e1 w1 hp1
  obtain ⟨k1, at1, rfl, hk1, hb1⟩ := hp1
  have HBL1 := Lib.hid (G.bl_trans HBL0.out hb1)
  have HB1 := Lib.hid (HB0.out.below hb1 HB0.out.lt)
  obtain rfl : k1 = 0 := by
    rcases hk1 with ⟨h, _⟩ | ⟨_, h⟩
    · exact h
    · exact absurd HM.out h
  have c2 := (HB1.out.cell 2).trans HCS.out
  have l1 := HB1.out.lt
  clear hk1 hb1
  go_wp2_with fail
  clear c2 l1
  go_loop [22] (fun i => ∃ q : Nat, q ≤ l ∧ i = .int .i64 q ∧ ∀ j, j < q → c ∉ s.zones.getD j []) (fun i => l - (intOf i).toNat)
  case atStart => exact ⟨0, Nat.zero_le _, rfl, fun j hj => by omega⟩
  case round =>
    obtain ⟨q, hq, rfl, hb⟩ := hrel
    have HNB := Lib.hid hb
    have hq0 : (0 : Int) ≤ q := by omega
    clear hb
    by_cases hlt : q < l
    · have hqI : (q : Int) < l := by omega
      obtain ⟨bz, oz, hza, hcr⟩ := rows_at (i := q) (HR.out.z.below HBL1.out) (by rw [← HLL.out]; exact hlt)
      rw [← HZA.out] at hza
      subst hza
      obtain ⟨ra, rk, hrv, hrr⟩ := HR.out.rows q (by rw [← HLL.out]; exact hlt)
      rw [hrv] at hcr
      have hl := HL.out q
      obtain ⟨Z, hZ⟩ : ∃ Z, Z = s.zones.getD q [] := ⟨_, rfl⟩
      rw [← hZ] at hcr hrr hl
      obtain ⟨lz, hlz⟩ : ∃ lz, lz = Z.length := ⟨_, rfl⟩
      rw [← hlz] at hcr hl
      have HIX := Lib.hid (index_any ra lz rk Z c w1 hlz.symm (by omega) (by rw [hlz]; exact hrr.below HBL1.out))
      have HZZ := Lib.hid hZ
      have HLZ := Lib.hid hlz
      clear hrv hrr hZ hlz
      by_cases hin : c ∈ Z
      · rw [idx_in hin] at HIX
        have HZO := Lib.hid (zone_first (by rw [← HLL.out]; exact hlt) (by rw [← HZZ.out]; exact hin) HNB.out)
        have HAT := Lib.hid (show atOf s.zones c = Z.idxOf c by unfold atOf; rw [HZO.out, ← HZZ.out])
        have hil := List.idxOf_lt_length_of_mem hin
        rw [← HLZ.out] at hil
        clear hin
        obtain ⟨ix, hix⟩ : ∃ ix, ix = Z.idxOf c := ⟨_, rfl⟩
        rw [← hix] at HIX HAT hil
        clear hix
        have hix0 : (0 : Int) ≤ (ix : Int) := by omega
        go_wp2_with ((with_reducible refine (HIX.out).mono ?_); rintro e2 w2 ⟨rfl, rfl⟩)
        refine bodyPost_ret (v := .tuple #[.int .i64 (q : Nat), .int .i64 (ix : Nat), .bool true]) (by simp [results, Tryz.results96, go_sem]) rfl ⟨by rw [HZO.out, HAT.out], HBL1.out⟩
      · rw [idx_out hin] at HIX
        have HNN := Lib.hid (show ∀ j, j < q + 1 → c ∉ s.zones.getD j [] from fun j hj => by
          by_cases e : j = q
          · subst e
            rw [← HZZ.out]
            exact hin
          · exact HNB.out j (by omega))
        clear hin
        go_wp2_with ((with_reducible refine (HIX.out).mono ?_); rintro e2 w2 ⟨rfl, rfl⟩)
        go_round
        case rel => exact ⟨q + 1, by omega, by go_num, HNN.out⟩
        case measure => simp [intOf]; omega
    · exfalso
      obtain ⟨p1, p2, p3⟩ := HP.out
      have h9 : (s.zones.getD (zoneOf s.zones c) []).getD (atOf s.zones c) 0 ∈ s.zones.getD (zoneOf s.zones c) [] := mem_getD p2
      rw [p3] at h9
      exact HNB.out (zoneOf s.zones c) (by rw [← HLL.out] at p1; omega) h9
end Go.Proofs.YtmhklnjmeoeanaaGreatDoor.D
namespace Go.Proofs.YtmhklnjmeoeanaaGreatDoor.D
open Go Go.RowKit
set_option linter.unusedVariables false
set_option linter.unusedSimpArgs false
/-- A list of events that the call owns. -/
structure OwnEvs (w : World) (base : Nat) (A : Option Addr) (n c : Nat) (L : List (EV × Ev)) : Prop where
  s : w.ownsRow base 37 12 (.slice A n c) n (flatE L)
  o : ∀ i, i < n → OwnEv w base (L.getD i zeroP).1 (L.getD i zeroP).2
theorem OwnEvs.rd {w : World} {base : Nat} {A : Option Addr} {n c : Nat} {L : List (EV × Ev)} (h : OwnEvs w base A n c L) : RdEvs w A n L := ⟨G.RdS.of_own h.s, fun i hi => (h.o i hi).rd⟩
theorem OwnEvs.below {w w' : World} {base : Nat} {A : Option Addr} {n c : Nat} {L : List (EV × Ev)} (h : OwnEvs w base A n c L) (hb : Below w.heap.size w w') : OwnEvs w' base A n c L := ⟨G.own_below h.s hb, fun i hi => (h.o i hi).below hb⟩
theorem OwnEvs.nil (w : World) (base : Nat) : OwnEvs w base none 0 0 [] := ⟨World.ownsRow_nil _ _ _ _, fun i hi => by omega⟩
theorem OwnEvs.ge {w : World} {base base' : Nat} {A : Option Addr} {n c : Nat} {L : List (EV × Ev)} (h : OwnEvs w base A n c L) (hb : base' ≤ base) : OwnEvs w base' A n c L := ⟨G.own_ge h.s hb, fun i hi => G.own_ge (h.o i hi) hb⟩
def AskPost (s : St) (ok : Prop) (l : List Ev) (w : World) (e : Ending) (w' : World) : Prop :=
  ∃ A n c L, ∃ k : Int, e = .returned (.tuple #[.slice A n c, .int .i64 k]) ∧ OwnEvs w' w.heap.size A n c L ∧ Below w.heap.size w w' ∧
    ((k = 10 ∧ ¬ May s ∧ L = []) ∨ (k = 1 ∧ May s ∧ ¬ ok ∧ L = []) ∨ (k = 0 ∧ May s ∧ ok ∧ L.map Prod.snd = l))
theorem askP_state {s : St} {ok : Prop} {l : List Ev} {w w' : World} (h : ¬ May s) (hb : Below w.heap.size w w') : AskPost s ok l w (.returned (.tuple #[.slice none 0 0, .int .i64 10])) w' := ⟨none, 0, 0, [], 10, rfl, OwnEvs.nil _ _, hb, .inl ⟨rfl, h, rfl⟩⟩
theorem askP_arg {s : St} {ok : Prop} {l : List Ev} {w w' : World} (h : May s) (ho : ¬ ok) (hb : Below w.heap.size w w') : AskPost s ok l w (.returned (.tuple #[.slice none 0 0, .int .i64 1])) w' := ⟨none, 0, 0, [], 1, rfl, OwnEvs.nil _ _, hb, .inr (.inl ⟨rfl, h, ho, rfl⟩)⟩
theorem askP_none {s : St} {ok : Prop} {l : List Ev} {w w' : World} (h : May s) (ho : ok) (hl : l = []) (hb : Below w.heap.size w w') : AskPost s ok l w (.returned (.tuple #[.slice none 0 0, .int .i64 0])) w' := ⟨none, 0, 0, [], 0, rfl, OwnEvs.nil _ _, hb, .inr (.inr ⟨rfl, h, ho, hl.symm⟩)⟩
theorem askP_one {s : St} {ok : Prop} {l : List Ev} {w W : World} {ev : Ev} (h : May s) (ho : ok) (hl : l = [ev]) (he : ev.order = []) (hb : Below w.heap.size w W) :
    AskPost s ok l w (.returned (.tuple #[.slice (some ⟨W.heap.size, 0, none⟩) 1 1, .int .i64 0])) (W.alloc (.cells ((⟨none, 0⟩ : EV).arr ev) 37)) := by
  refine ⟨_, 1, 1, [(⟨none, 0⟩, ev)], 0, rfl, ⟨?_, fun i hi => ?_⟩, G.bl_alloc hb _, .inr (.inr ⟨rfl, h, ho, hl.symm⟩)⟩
  · have := World.ownsRow_lit (base := w.heap.size) (e := 37) (size := 12) W ((⟨none, 0⟩ : EV).arr ev) 1 hb.size (by unfold maxLen; omega) rfl
    have e1 : flatE [((⟨none, 0⟩ : EV), ev)] = ((⟨none, 0⟩ : EV).arr ev).toList := by simp [flatE, cellsE]
    rw [e1]
    exact this
  · obtain rfl : i = 0 := by omega
    show World.ownsRow _ _ _ 1 (.slice none ev.order.length 0) ev.order.length (i64s ev.order)
    rw [he]
    exact World.ownsRow_nil _ _ _ _
theorem four_new (w : World) (c : Array Value) (p q : Array Value) : G.Blk (((w.alloc (.cells c 27)).alloc (.cells p 3)).alloc (.cells q 3)) w.heap.size 27 c ∧ G.Blk (((w.alloc (.cells c 27)).alloc (.cells p 3)).alloc (.cells q 3)) (w.heap.size + 1) 3 p ∧
    G.Blk (((w.alloc (.cells c 27)).alloc (.cells p 3)).alloc (.cells q 3)) (w.heap.size + 2) 3 q ∧ Below w.heap.size w (((w.alloc (.cells c 27)).alloc (.cells p 3)).alloc (.cells q 3)) := by
  have h1 : G.Blk ((w.alloc (.cells c 27)).alloc (.cells p 3)) w.heap.size 27 c := heap_alloc2_old w (.cells c 27) (.cells p 3)
  have h2 : G.Blk ((w.alloc (.cells c 27)).alloc (.cells p 3)) (w.heap.size + 1) 3 p := heap_alloc2_new w (.cells c 27) (.cells p 3)
  have h3 := heap_alloc_new ((w.alloc (.cells c 27)).alloc (.cells p 3)) (.cells q 3)
  have hb : Below ((w.alloc (.cells c 27)).alloc (.cells p 3)).heap.size ((w.alloc (.cells c 27)).alloc (.cells p 3)) (((w.alloc (.cells c 27)).alloc (.cells p 3)).alloc (.cells q 3)) := G.bl_alloc (Below.refl _ _) _
  exact ⟨h1.below hb h1.lt, h2.below hb h2.lt, by simpa [G.Blk] using h3, G.bl_alloc (G.bl_alloc (G.bl_alloc (Below.refl _ _) _) _) _⟩
def mkMv (card z a zn dst : Int) : Ev := { zeroEv with kind := 1, card := card, src := z, srcAt := a, dst := zn, dstAt := dst }
theorem moveEv_eq {s : St} {card zn dst : Int} {first : Bool} {z a : Nat} (hz : zoneOf s.zones card = z) (ha : atOf s.zones card = a) (hd : (if first = true then 0 else if (z : Int) = zn then ((zone s zn).length : Int) - 1 else (zone s zn).length) = dst) :
    moveEv s card zn first = if (z : Int) = zn ∧ (a : Int) = dst then [] else [mkMv card z a zn dst] := by
  unfold moveEv
  simp only [hz, ha, hd]
  rfl
set_option maxRecDepth 100000 in
set_option maxHeartbeats 8000000 in
theorem moveD_any (x : SV) (s : St) (card zn : Int) (first : Bool) (w : World) (h : RdSt w x s) (hz : Sz s) :
    Calls Tryz.prog 77 #[x.val s, .int .i64 card, .int .i64 zn, .bool first] w (AskPost s (Within card s.cards.length ∧ Within zn s.zones.length) (moveEv s card zn first) w) := by
  have HRF := Lib.hid (fun W f eg caps b (hW : Below w.heap.size w W) hk => refused_any x s W (h.below hW) hz f eg caps b hk)
  have HWH := Lib.hid (fun W (hW : Below w.heap.size w W) hm hc => where_any x s card W (h.below hW) hm hc)
  have HR := Lib.hid h
  have hz2 := hz.c
  have hz3 := hz.z
  have HQ := Lib.hid (fun gc g gz W h hc hz' => askMove_any x s gc g gz card zn W h hc hz' hz2 hz3)
  obtain ⟨fsS, hfsS⟩ := undSt
  have HFS := Lib.hid hfsS
  have HCS := Lib.hid (show (x.arr s)[2]? = some (.slice x.za s.zones.length x.zc) from rfl)
  obtain ⟨cs, hcs⟩ : ∃ c, c = x.arr s := ⟨_, rfl⟩
  have HS := Lib.hid (show cs.size = 7 by rw [hcs]; rfl)
  have he : x.val s = .agg cs := by rw [hcs]; rfl
  rw [he] at HRF HWH ⊢
  rw [← hcs] at HCS HQ
  have HSZ := Lib.hid hz
  clear h hz hcs he hfsS hz2
  have H0 := four_new w cs #[.int .i64 card] #[.int .i64 zn]
  go_enter Tryz.func77, Tryz.ntmps77
  go_upto_region 1 with (fail)
  obtain ⟨w0, hw0⟩ : ∃ w0, w0 = ((w.alloc (.cells cs 27)).alloc (.cells #[.int .i64 card] 3)).alloc (.cells #[.int .i64 zn] 3) := ⟨_, rfl⟩
  rw [← hw0] at H0 ⊢
  clear hw0
  obtain ⟨hb0, hb1, hb2, hbl0⟩ := H0
  have HBL0 := Lib.hid hbl0
  obtain ⟨g, hg⟩ : ∃ g, g = w.heap.size := ⟨_, rfl⟩
  have HG := Lib.hid hg
  rw [← hg] at hb0 hb1 hb2 ⊢
  have HS0 := Lib.hid hb0
  have HC0 := Lib.hid hb1
  have HZ0 := Lib.hid hb2
  have HQ0 := Lib.hid (HRF.out w0 95 Tryz.call95 #[.pointer (some ⟨g + 1, 0, none⟩), .pointer (some ⟨g, 0, none⟩), .pointer (some ⟨g + 2, 0, none⟩)] (withinB card s.cards.length && withinB zn s.zones.length) hbl0 (fun _ W hW => HQ.out _ _ _ W (hb0.below hW hb0.lt) (hb1.below hW hb1.lt) (hb2.below hW hb2.lt)))
  have l0 := hb2.lt
  clear hb0 hb1 hb2 hbl0 hg
  go_wp2_with (refine wpList_load_row rfl 27 _ rfl g rfl _ cs (0, 0) _ HS0.out HFS.out rfl (by rw [HS.out]; exact sizeSt) ?_)
  --MARK
  refine (HQ0.out).mono ?_
  rintro e1 w1 hp1
  obtain ⟨k1, rfl, hb1, hk1⟩ := hp1
  have HBW1 := Lib.hid hb1
  have HBL1 := Lib.hid (G.bl_trans HBL0.out hb1)
  clear hb1
  rcases hk1 with ⟨rfl, hm⟩ | ⟨rfl, hm, hok⟩ | ⟨rfl, hm, hok⟩
  · have HM := Lib.hid hm
    clear hm
    go_wp2_with fail
    go_ret2
    exact askP_state HM.out HBL1.out
  · have HM := Lib.hid hm
    have HOK := Lib.hid (show ¬ (Within card s.cards.length ∧ Within zn s.zones.length) by intro h; rw [within_yes h.1, within_yes h.2] at hok; cases hok)
    clear hm hok
    go_wp2_with fail
    go_ret2
    exact askP_arg HM.out HOK.out HBL1.out
  · have HM := Lib.hid hm
    have hok2 : Within card s.cards.length ∧ Within zn s.zones.length := by
      rw [Bool.and_eq_true] at hok
      exact ⟨of_decide_eq_true hok.1, of_decide_eq_true hok.2⟩
    have HOK := Lib.hid hok2
    obtain ⟨ho1, ho2, ho3⟩ := hok2
    have HWR := Lib.hid (HWH.out w1 HBL1.out hm ho1)
    obtain ⟨p1, p2, _⟩ := place_ok hm ho1
    obtain ⟨zk, rfl⟩ := Int.eq_ofNat_of_zero_le ho2
    have hzk : zk < s.zones.length := by omega
    have hzl := may_zone hm zk
    have hz16 : s.zones.length ≤ 16 := by have := hm.zn; have := hm.n4; omega
    clear hm hok ho1 ho2
    unfold WherePost at HWR
    obtain ⟨zi, hzi⟩ : ∃ zi, zi = zoneOf s.zones card := ⟨_, rfl⟩
    obtain ⟨a, ha⟩ : ∃ a, a = atOf s.zones card := ⟨_, rfl⟩
    rw [← hzi, ← ha] at HWR
    rw [← hzi] at p1 p2
    rw [← ha] at p2
    obtain ⟨l, hl⟩ : ∃ l, l = s.zones.length := ⟨_, rfl⟩
    rw [← hl] at p1 hzk ho3 hz16 HCS
    have HLL := Lib.hid hl
    have HZI := Lib.hid hzi.symm
    have HAT := Lib.hid ha.symm
    obtain ⟨za, hza⟩ : ∃ q, q = x.za := ⟨_, rfl⟩
    rw [← hza] at HCS
    have HZA := Lib.hid hza
    generalize x.zc = zc at HCS
    have HS1 := Lib.hid (HS0.out.below HBW1.out HS0.out.lt)
    have HC1 := Lib.hid (HC0.out.below HBW1.out HC0.out.lt)
    have HZ1 := Lib.hid (HZ0.out.below HBW1.out HZ0.out.lt)
    have c0 := HC1.out.cell 0
    have l1 := HC1.out.lt
    clear hzi ha hl hza
    go_wp2_with (refine wpList_load_row rfl 27 _ rfl g rfl _ cs (0, 0) _ HS1.out HFS.out rfl (by rw [HS.out]; exact sizeSt) ?_)
    refine (HWR.out).mono ?_
    rintro e2 w2 ⟨rfl, hb2⟩
    have HBW2 := Lib.hid hb2
    have HBL2 := Lib.hid (G.bl_trans HBL1.out hb2)
    have HS2 := Lib.hid (HS1.out.below hb2 HS1.out.lt)
    have HC2 := Lib.hid (HC1.out.below hb2 HC1.out.lt)
    have HZ2 := Lib.hid (HZ1.out.below hb2 HZ1.out.lt)
    clear c0 l1 hb2
    have c0 := HC2.out.cell 0
    have l1 := HC2.out.lt
    have z0 := HZ2.out.cell 0
    have l2 := HZ2.out.lt
    have s2 := (HS2.out.cell 2).trans HCS.out
    have l3 := HS2.out.lt
    obtain ⟨bz, oz, hza, hcr⟩ := rows_at (i := zk) (HR.out.z.below HBL2.out) (by rw [← HLL.out]; exact hzk)
    rw [← HZA.out] at hza
    subst hza
    obtain ⟨ra, rk, hrv, hrr⟩ := HR.out.rows zk (by rw [← HLL.out]; exact hzk)
    rw [hrv] at hcr
    have hbs := World.block_lt_of_cell? _ _ hcr
    obtain ⟨lz, hlz⟩ : ∃ lz, lz = (s.zones.getD zk []).length := ⟨_, rfl⟩
    rw [← hlz] at hcr hzl
    have HLZ := Lib.hid (show (zone s ((zk : Nat) : Int)).length = lz by unfold zone; rw [Int.toNat_natCast, hlz])
    have HP2 := Lib.hid p2
    have HLZ2 := Lib.hid hlz
    have hzI : (zk : Int) < l := by omega
    have hzI0 : (0 : Int) ≤ zk := by omega
    clear hrv hrr hlz p2 ho3
    by_cases hsame : zi = zk
    · subst hsame
      have ha1 : a < lz := by rw [HLZ2.out]; exact HP2.out
      have ha0 : (0 : Int) ≤ (lz : Int) - 1 := by omega
      have hll : (lz : Int) ≤ 256 := by omega
      cases first
      · by_cases heq : (a : Int) = (lz : Int) - 1
        · have hb : ((a : Int) == (lz : Int) - 1) = true := by rw [heq]; simp
          have HEQ := Lib.hid heq
          clear heq
          go_wp2_with fail
          go_ret2
          exact askP_none HM.out HOK.out (by rw [moveEv_eq (dst := (lz : Int) - 1) HZI.out HAT.out (by simp [HLZ.out])]; exact if_pos ⟨rfl, HEQ.out⟩) HBL2.out
        · have hb : ((a : Int) == (lz : Int) - 1) = false := by rw [beq_eq_false_iff_ne]; exact heq
          have HEQ := Lib.hid heq
          clear heq
          go_wp2_with fail
          go_ret2
          exact askP_one (ev := mkMv card ((zi : Nat) : Int) (a : Int) (zi : Int) ((lz : Int) - 1)) HM.out HOK.out (by rw [moveEv_eq (dst := (lz : Int) - 1) HZI.out HAT.out (by simp [HLZ.out])]; exact if_neg (fun h => HEQ.out h.2)) rfl HBL2.out
      · by_cases heq : a = 0
        · subst heq
          go_wp2_with fail
          go_ret2
          exact askP_none HM.out HOK.out (by rw [moveEv_eq (dst := 0) HZI.out HAT.out (by simp)]; exact if_pos ⟨rfl, rfl⟩) HBL2.out
        · have hb : ((a : Int) == 0) = false := by rw [beq_eq_false_iff_ne]; omega
          have HEQ := Lib.hid heq
          clear heq
          go_wp2_with fail
          go_ret2
          exact askP_one (ev := mkMv card ((zi : Nat) : Int) (a : Int) (zi : Int) (0)) HM.out HOK.out (by rw [moveEv_eq (dst := 0) HZI.out HAT.out (by simp)]; exact if_neg (fun h => HEQ.out (by have := h.2; omega))) rfl HBL2.out
    · have hsb : ((zi : Int) == (zk : Int)) = false := by rw [beq_eq_false_iff_ne]; omega
      have HNS := Lib.hid (show ¬ ((zi : Nat) : Int) = (zk : Int) by omega)
      clear hsame
      cases first
      · go_wp2_with fail
        go_ret2
        exact askP_one (ev := mkMv card ((zi : Nat) : Int) (a : Int) (zk : Int) ((lz : Int))) HM.out HOK.out (by rw [moveEv_eq (dst := (lz : Int)) HZI.out HAT.out (by rw [if_neg (by simp), if_neg HNS.out, HLZ.out])]; exact if_neg (fun h => HNS.out h.1)) rfl HBL2.out
      · go_wp2_with fail
        go_ret2
        exact askP_one (ev := mkMv card ((zi : Nat) : Int) (a : Int) (zk : Int) (0)) HM.out HOK.out (by rw [moveEv_eq (dst := 0) HZI.out HAT.out (by simp)]; exact if_neg (fun h => HNS.out h.1)) rfl HBL2.out
end Go.Proofs.YtmhklnjmeoeanaaGreatDoor.D

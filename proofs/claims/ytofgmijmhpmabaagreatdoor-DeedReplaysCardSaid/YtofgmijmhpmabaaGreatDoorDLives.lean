/- The contract of the laws' lives: it says yes. Printed by gen_lives.py. -/
import Derived.Test.YtofgmijmhpmabaaGreatDoorDMoveD
import Derived.Test.YtofgmijmhpmabaaGreatDoorDOne
import Derived.Test.YtofgmijmhpmabaaGreatDoorDSame
import Derived.Test.YtofgmijmhpmabaaGreatDoorDEqEv
import Derived.Deep.CutRange
namespace Go.Proofs.YtofgmijmhpmabaaGreatDoor.D
open Go Go.RowKit
set_option linter.unusedVariables false
set_option linter.unusedSimpArgs false
def DrS (g : Nat) (cs : Array Value) (gn : Nat) (p : Int) (za : Value) (b1 o1 : Nat) (v1 : Value) (b2 o2 : Nat) (c : Int) (w : World) : Prop :=
 w.heap[g]? = some (.cells cs 27 (0, 0)) ∧ (loadVar 27 ⟨g, 0, none⟩).run Tryz.prog w = .ok (.agg cs) w ∧ w.cell? ⟨g, 2, none⟩ = some za ∧ w.cell? ⟨gn, 0, none⟩ = some (.int .i64 p) ∧ w.cell? ⟨b1, o1, none⟩ = some v1 ∧ w.cell? ⟨b2, o2, none⟩ = some (.int .i64 c)
theorem DrS.below {g : Nat} {cs : Array Value} {gn : Nat} {p c : Int} {za v1 : Value} {b1 o1 b2 o2 : Nat} {w w' : World} (h : DrS g cs gn p za b1 o1 v1 b2 o2 c w) (hb : Below w.heap.size w w') (hs : cs.size = 7) : DrS g cs gn p za b1 o1 v1 b2 o2 c w' := by
 obtain ⟨a1, a2, a3, a4, a5, a6⟩ := h
 have h1 := (hb.block _ (Array.getElem?_eq_some_iff.1 a1).1).trans a1
 exact ⟨h1, run_st h1 hs, (hb.cell (p := ⟨g, 2, none⟩) (World.block_lt_of_cell? _ _ a3)).trans a3, (hb.cell (p := ⟨gn, 0, none⟩) (World.block_lt_of_cell? _ _ a4)).trans a4, (hb.cell (p := ⟨b1, o1, none⟩) (World.block_lt_of_cell? _ _ a5)).trans a5, (hb.cell (p := ⟨b2, o2, none⟩) (World.block_lt_of_cell? _ _ a6)).trans a6⟩
theorem drawEv_nil {s : St} {p : Nat} (h : (s.zones.getD (4 * p) []).length = 0) : drawEv s p = [] := by
 unfold drawEv zone
 rw [show (4 * (p : Int)).toNat = 4 * p by omega, List.eq_nil_of_length_eq_zero h]
theorem drawEv_cons {s : St} {p : Nat} {c : Int} (h : 0 < (s.zones.getD (4 * p) []).length) (hc : (s.zones.getD (4 * p) []).getD 0 0 = c) : drawEv s p = moveEv s c (4 * (p : Int) + 1) false := by
 unfold drawEv zone
 rw [show (4 * (p : Int)).toNat = 4 * p by omega]
 cases hl : s.zones.getD (4 * p) [] with
 | nil => rw [hl] at h; simp at h
 | cons a l =>
  rw [hl] at hc
  simp only
  rw [show a = c from hc]
theorem askP_draw {s : St} {p : Nat} {c : Int} {w W w' : World} {A : Option Addr} {n k : Nat} {L : List (EV × Ev)} {q : Int} (hm : May s) (ho : Within (p : Int) s.players.length) (hc : Within c s.cards.length) (hp : 4 * p + 1 < s.zones.length) (hd : drawEv s p = moveEv s c (4 * (p : Int) + 1) false)
 (hb : Below w.heap.size w W) (h1 : OwnEvs w' W.heap.size A n k L) (h2 : Below W.heap.size W w') (h3 : (q = 10 ∧ ¬ May s ∧ L = []) ∨ (q = 1 ∧ May s ∧ ¬ (Within c s.cards.length ∧ Within (4 * (p : Int) + 1) s.zones.length) ∧ L = []) ∨ (q = 0 ∧ May s ∧ (Within c s.cards.length ∧ Within (4 * (p : Int) + 1) s.zones.length) ∧ L.map Prod.snd = moveEv s c (4 * (p : Int) + 1) false)) :
 AskPost s (Within (p : Int) s.players.length) (drawEv s p) w (.returned (.tuple #[.slice A n k, .int .i64 q])) w' := by
 refine ⟨A, n, k, L, q, rfl, h1.ge hb.size, G.bl_trans hb h2, ?_⟩
 rcases h3 with h | ⟨a, _, b, _⟩ | ⟨a, b, _, d⟩
 ·exact absurd hm h.2.1
 ·exact absurd ⟨hc, ⟨by omega, by omega⟩⟩ b
 ·exact .inr (.inr ⟨a, b, ho, d.trans hd.symm⟩)
set_option maxRecDepth 100000 in
set_option maxHeartbeats 8000000 in
theorem draw_any (x : SV) (s : St) (p : Int) (w : World) (h : RdSt w x s) (hz : Sz s) :
 Calls Tryz.prog 87 #[x.val s, .int .i64 p] w (AskPost s (Within p s.players.length) (drawEv s p) w) := by
 have HRF := Lib.hid (fun W f eg caps b (hW : Below w.heap.size w W) hk => refused_any x s W (h.below hW) hz f eg caps b hk)
 have HMQ := Lib.hid (fun W card zn (hW : Below w.heap.size w W) => moveD_any x s card zn false W (h.below hW) hz)
 have HR := Lib.hid h
 have hz1 := hz.p
 have HQ := Lib.hid (fun gn g W h hn => askDraw_any x s gn g p W h hn hz1)
 obtain ⟨fsS, hfsS⟩ := undSt
 have HFS := Lib.hid hfsS
 have HCS := Lib.hid (show (x.arr s)[2]? = some (.slice x.za s.zones.length x.zc) from rfl)
 obtain ⟨cs, hcs⟩ : ∃ c, c = x.arr s := ⟨_, rfl⟩
 have HS := Lib.hid (show cs.size = 7 by rw [hcs]; rfl)
 have he : x.val s = .agg cs := by rw [hcs]; rfl
 rw [he] at HRF HMQ ⊢
 rw [← hcs] at HCS HQ
 clear h hz hcs he hfsS hz1
 have h1 : G.Blk ((w.alloc (.cells cs 27)).alloc (.cells #[.int .i64 p] 3)) w.heap.size 27 cs := heap_alloc2_old w (.cells cs 27) (.cells #[.int .i64 p] 3)
 have h2 : G.Blk ((w.alloc (.cells cs 27)).alloc (.cells #[.int .i64 p] 3)) (w.heap.size + 1) 3 #[.int .i64 p] := heap_alloc2_new w (.cells cs 27) (.cells #[.int .i64 p] 3)
 have hbl0 : Below w.heap.size w ((w.alloc (.cells cs 27)).alloc (.cells #[.int .i64 p] 3)) := G.bl_alloc (G.bl_alloc (Below.refl _ _) _) _
 go_enter Tryz.func87, Tryz.ntmps87
 go_upto_region 1 with (fail)
 obtain ⟨w0, hw0⟩ : ∃ w0, w0 = (w.alloc (.cells cs 27)).alloc (.cells #[.int .i64 p] 3) := ⟨_, rfl⟩
 rw [← hw0] at h1 h2 hbl0 ⊢
 clear hw0
 have HBL0 := Lib.hid hbl0
 obtain ⟨g, hg⟩ : ∃ g, g = w.heap.size := ⟨_, rfl⟩
 have HG := Lib.hid hg
 rw [← hg] at h1 h2 ⊢
 have HS0 := Lib.hid h1
 have HP0 := Lib.hid h2
 have HQ0 := Lib.hid (HRF.out w0 128 Tryz.call128 #[.pointer (some ⟨g + 1, 0, none⟩), .pointer (some ⟨g, 0, none⟩)] (withinB p s.players.length) hbl0 (fun _ W hW => HQ.out _ _ W (h1.below hW h1.lt) (h2.below hW h2.lt)))
 have l0 := h2.lt
 clear h1 h2 hbl0 hg
 go_wp2_with (refine wpList_load_row rfl 27 _ rfl g rfl _ cs (0, 0) _ HS0.out HFS.out rfl (by rw [HS.out]; exact sizeSt) ?_)
 refine (HQ0.out).mono ?_
 rintro e1 w1 hp1
 obtain ⟨k1, rfl, hb1, hk1⟩ := hp1
 have HBW1 := Lib.hid hb1
 have HBL1 := Lib.hid (G.bl_trans HBL0.out hb1)
 clear hb1
 rcases hk1 with ⟨rfl, hm⟩ | ⟨rfl, hm, hok⟩ | ⟨rfl, hm, hok⟩
 ·have HM := Lib.hid hm
  clear hm
  go_wp2_with fail
  go_ret2
  exact askP_state HM.out HBL1.out
 ·have HM := Lib.hid hm
  have HOK := Lib.hid (show ¬ (Within p s.players.length) by intro h; rw [within_yes h] at hok; cases hok)
  clear hm hok
  go_wp2_with fail
  go_ret2
  exact askP_arg HM.out HOK.out HBL1.out
 ·have HM := Lib.hid hm
  have hok2 : Within p s.players.length := of_decide_eq_true hok
  have HOK := Lib.hid hok2
  obtain ⟨ho1, ho2⟩ := hok2
  obtain ⟨pk, rfl⟩ := Int.eq_ofNat_of_zero_le ho1
  have hn4 := hm.n4
  have hzn := hm.zn
  have hzl := may_zone hm (4 * pk)
  have hpk : pk < s.players.length := by omega
  obtain ⟨l, hl⟩ : ∃ l, l = s.zones.length := ⟨_, rfl⟩
  rw [← hl] at hzn HCS
  have HLL := Lib.hid hl
  have hl16 : l ≤ 16 := by omega
  have hpl : 4 * pk + 1 < l := by omega
  have hp4 : pk ≤ 3 := by omega
  obtain ⟨za, hza⟩ : ∃ q, q = x.za := ⟨_, rfl⟩
  rw [← hza] at HCS
  have HZA := Lib.hid hza
  generalize x.zc = zc at HCS
  have HS1 := Lib.hid (HS0.out.below HBW1.out HS0.out.lt)
  have HP1 := Lib.hid (HP0.out.below HBW1.out HP0.out.lt)
  have c0 := HP1.out.cell 0
  have l1 := HP1.out.lt
  have s2 := (HS1.out.cell 2).trans HCS.out
  have l3 := HS1.out.lt
  obtain ⟨bz, oz, hza2, hcr⟩ := rows_at (i := 4 * pk) (HR.out.z.below HBL1.out) (by rw [← HLL.out]; omega)
  rw [← HZA.out] at hza2
  subst hza2
  obtain ⟨ra, rk, hrv, hrr⟩ := HR.out.rows (4 * pk) (by rw [← HLL.out]; omega)
  rw [hrv] at hcr
  have hbs := World.block_lt_of_cell? _ _ hcr
  obtain ⟨lz, hlz⟩ : ∃ lz, lz = (s.zones.getD (4 * pk) []).length := ⟨_, rfl⟩
  rw [← hlz] at hcr hzl
  have HLZ := Lib.hid hlz
  have HRR := Lib.hid (show G.RdS w1 ra 1 lz _ by rw [hlz]; exact hrr.below HBL1.out)
  have hi1 : (4 : Int) * (pk : Int) < l := by omega
  have hi0 : (0 : Int) ≤ 4 * (pk : Int) := by omega
  have hpkI : (pk : Int) ≤ 3 := by omega
  have hpk0 : (0 : Int) ≤ pk := by omega
  have htn : (4 * (pk : Int)).toNat = 4 * pk := by omega
  clear hm hok ho1 ho2 hl hza hrv hrr hlz hn4 hzn hpk
  by_cases hz0 : lz = 0
  ·have HNE := Lib.hid (drawEv_nil (s := s) (p := pk) (by rw [← HLZ.out]; exact hz0))
   subst hz0
   go_wp2_with fail
   go_ret2
   exact askP_none HM.out HOK.out HNE.out HBL1.out
  ·obtain ⟨bl, ol, hra, hrd⟩ := HRR.out.2 (by omega)
   subst hra
   have hlzb : ((lz : Int) == 0) = false := by rw [beq_eq_false_iff_ne]; omega
   have hlz1 : (0 : Int) < lz := by omega
   have hlzN : 0 < lz := by omega
   have hcl := i64_at hrd (k := 0) (by rw [← HLZ.out]; omega)
   obtain ⟨c, hc⟩ : ∃ c, c = (s.zones.getD (4 * pk) []).getD 0 0 := ⟨_, rfl⟩
   rw [← hc] at hcl
   rw [Nat.add_zero] at hcl
   have HDE := Lib.hid (drawEv_cons (s := s) (p := pk) (c := c) (by rw [← HLZ.out]; omega) hc.symm)
   have HCI := Lib.hid (show Within c s.cards.length from place_in HM.out (z := 4 * pk) (a := 0) (by rw [← HLL.out]; omega) (by rw [← HLZ.out]; omega) hc.symm)
   have HDS := Lib.hid (show DrS g cs (g + 1) ((pk : Nat) : Int) (.slice (some ⟨bz, oz, none⟩) l zc) bz (oz + 4 * pk) (.slice (some ⟨bl, ol, none⟩) lz rk) bl ol c w1.drew from ⟨HS1.out, run_st HS1.out HS.out, s2, c0, hcr, hcl⟩)
   have HBD := Lib.hid (show Below w.heap.size w w1.drew from G.bl_trans HBL1.out (Below.refl _ _).drew)
   have HMV := Lib.hid (fun W (hW : W = w1.drew) => HMQ.out W c (4 * (pk : Int) + 1) (by rw [hW]; exact HBD.out))
   clear hrd hc hz0
   go_upto_region 7 with (fail)
   have hw4 : IntKind.i64.wrap (4 * (pk : Int)) = 4 * (pk : Int) := IntWalk.i64_in _ (by omega)
   have hw5 : IntKind.i64.wrap (4 * (pk : Int) + 1) = 4 * (pk : Int) + 1 := IntWalk.i64_in _ (by omega)
   refine wp_region_held_drew (S := DrS g cs (g + 1) ((pk : Nat) : Int) (.slice (some ⟨bz, oz, none⟩) l zc) bz (oz + 4 * pk) (.slice (some ⟨bl, ol, none⟩) lz rk) bl ol c) (by kernel_rfl) ?_ (fun hHeld => ?_)
   ·exact HDS.out
   refine wpAnyH_take (i := 0) (oi := ⟨some 24, _, _, _, _, _⟩) (v := ?_) rfl (by kernel_rfl) (by kernel_rfl) (by kernel_rfl) (fun _ _ _ h => h) (Or.inl ⟨by rfl, ?_⟩) (by assumption) ?_
   rotate_left
   ·(intro w hSw; refine exec_load_held 27 (.tmp 2) ?_ g ?_ cs hSw.2.1 <;> rfl)
   try simp only [Act.put, List.setIfInBounds_toArray, List.set_cons_zero, List.set_cons_succ]
   refine wpAnyH_take (i := 1) (oi := ⟨some 25, _, _, _, _, _⟩) (v := ?_) rfl (by kernel_rfl) (by kernel_rfl) (by kernel_rfl) (fun _ _ _ h => h) (Or.inl ⟨by rfl, ?_⟩) (by assumption) ?_
   rotate_left
   ·(intro w hSw; unfold DrS at hSw; go_split_ands; go_simp; try with_reducible rfl)
   try simp only [Act.put, List.setIfInBounds_toArray, List.set_cons_zero, List.set_cons_succ]
   refine wpAnyH_take (i := 2) (oi := ⟨some 26, _, _, _, _, _⟩) (v := ?_) rfl (by kernel_rfl) (by kernel_rfl) (by kernel_rfl) (fun _ _ _ h => h) (Or.inl ⟨by rfl, ?_⟩) (by assumption) ?_
   rotate_left
   ·(intro w hSw; unfold DrS at hSw; go_split_ands; go_simp; try with_reducible rfl)
   try simp only [Act.put, List.setIfInBounds_toArray, List.set_cons_zero, List.set_cons_succ]
   refine wpAnyH_take (i := 3) (oi := ⟨some 27, _, _, _, _, _⟩) (v := ?_) rfl (by kernel_rfl) (by kernel_rfl) (by kernel_rfl) (fun _ _ _ h => h) (Or.inl ⟨by rfl, ?_⟩) (by assumption) ?_
   rotate_left
   ·(intro w hSw; rfl)
   try simp only [Act.put, List.setIfInBounds_toArray, List.set_cons_zero, List.set_cons_succ]
   refine wpAnyH_take (i := 4) (oi := ⟨some 28, _, _, _, _, _⟩) (v := ?_) rfl (by kernel_rfl) (by kernel_rfl) (by kernel_rfl) (fun _ _ _ h => h) (Or.inl ⟨by rfl, ?_⟩) (by assumption) ?_
   rotate_left
   ·(intro w hSw; unfold DrS at hSw; go_split_ands; go_simp; try with_reducible rfl)
   try simp only [Act.put, List.setIfInBounds_toArray, List.set_cons_zero, List.set_cons_succ]
   refine wpAnyH_take (i := 5) (oi := ⟨some 29, _, _, _, _, _⟩) (v := ?_) rfl (by kernel_rfl) (by kernel_rfl) (by kernel_rfl) (fun _ _ _ h => h) (Or.inl ⟨by rfl, ?_⟩) (by assumption) ?_
   rotate_left
   ·(intro w hSw; unfold DrS at hSw; go_split_ands; go_simp; try with_reducible rfl)
   try simp only [Act.put, List.setIfInBounds_toArray, List.set_cons_zero, List.set_cons_succ]
   refine wpAnyH_take (i := 6) (oi := ⟨some 30, _, _, _, _, _⟩) (v := ?_) rfl (by kernel_rfl) (by kernel_rfl) (by kernel_rfl) (fun _ _ _ h => h) (Or.inl ⟨by rfl, ?_⟩) (by assumption) ?_
   rotate_left
   ·(intro w hSw; unfold DrS at hSw; go_split_ands; go_simp; try with_reducible rfl)
   try simp only [Act.put, List.setIfInBounds_toArray, List.set_cons_zero, List.set_cons_succ]
   refine wpAnyH_take (i := 7) (oi := ⟨some 31, _, _, _, _, _⟩) (v := ?_) rfl (by kernel_rfl) (by kernel_rfl) (by kernel_rfl) (fun _ _ _ h => h) (Or.inl ⟨by rfl, ?_⟩) (by assumption) ?_
   rotate_left
   ·(intro w hSw; unfold DrS at hSw; go_split_ands; go_simp; try with_reducible rfl)
   try simp only [Act.put, List.setIfInBounds_toArray, List.set_cons_zero, List.set_cons_succ]
   refine wpAnyH_take (i := 8) (oi := ⟨some 32, _, _, _, _, _⟩) (v := ?_) rfl (by kernel_rfl) (by kernel_rfl) (by kernel_rfl) (fun _ _ _ h => h) (Or.inl ⟨by rfl, ?_⟩) (by assumption) ?_
   rotate_left
   ·(intro w hSw; unfold DrS at hSw; go_split_ands; go_simp; try with_reducible rfl)
   try simp only [Act.put, List.setIfInBounds_toArray, List.set_cons_zero, List.set_cons_succ]
   refine wpAnyH_take (i := 9) (oi := ⟨some 33, _, _, _, _, _⟩) (v := ?_) rfl (by kernel_rfl) (by kernel_rfl) (by kernel_rfl) (fun _ _ _ h => h) (Or.inl ⟨by rfl, ?_⟩) (by assumption) ?_
   rotate_left
   ·(intro w hSw; unfold DrS at hSw; go_split_ands; go_simp; try with_reducible rfl)
   try simp only [Act.put, List.setIfInBounds_toArray, List.set_cons_zero, List.set_cons_succ]
   refine wpAnyH_take (i := 10) (oi := ⟨some 34, _, _, _, _, _⟩) (v := ?_) rfl (by kernel_rfl) (by kernel_rfl) (by kernel_rfl) (fun _ _ _ h => h) (Or.inl ⟨by rfl, ?_⟩) (by assumption) ?_
   rotate_left
   ·(intro w hSw; unfold DrS at hSw; go_split_ands; go_simp; try with_reducible rfl)
   try simp only [Act.put, List.setIfInBounds_toArray, List.set_cons_zero, List.set_cons_succ]
   refine wpAnyH_ready (rs := [11]) (by kernel_rfl) (by simp) ?_
   refine AllReadyH.cons rfl (fun K hK => ?_) AllReadyH.nil
   go_simp
   ((with_reducible refine (HMV.out _ rfl).mono ?_); rintro e3 w3 hp3; obtain ⟨A3, n3, k3, L3, q3, rfl, ho3, hb3, hc3⟩ := hp3; have HO3 := Lib.hid ho3; have HB3 := Lib.hid hb3; have HC3 := Lib.hid hc3; clear ho3 hb3 hc3)
   go_wp2_with fail
   refine hK.out _ _ ?_ (fun hHeld => ?_)
   ·exact DrS.below (by assumption) HB3.out HS.out
   clear hK K
   try simp only [Act.put, List.setIfInBounds_toArray, List.set_cons_zero, List.set_cons_succ]
   refine wpAnyH_take (i := 12) (oi := ⟨some 36, _, _, _, _, _⟩) (v := ?_) rfl (by kernel_rfl) (by kernel_rfl) (by kernel_rfl) (fun _ _ _ h => h) (Or.inl ⟨by rfl, ?_⟩) (by assumption) ?_
   rotate_left
   ·(intro w hSw; unfold DrS at hSw; go_split_ands; go_simp; try with_reducible rfl)
   try simp only [Act.put, List.setIfInBounds_toArray, List.set_cons_zero, List.set_cons_succ]
   refine wpAnyH_take (i := 13) (oi := ⟨some 37, _, _, _, _, _⟩) (v := ?_) rfl (by kernel_rfl) (by kernel_rfl) (by kernel_rfl) (fun _ _ _ h => h) (Or.inl ⟨by rfl, ?_⟩) (by assumption) ?_
   rotate_left
   ·(intro w hSw; unfold DrS at hSw; go_split_ands; go_simp; try with_reducible rfl)
   try simp only [Act.put, List.setIfInBounds_toArray, List.set_cons_zero, List.set_cons_succ]
   refine wpAnyH_take (i := 14) (oi := ⟨some 4, _, _, _, _, _⟩) (v := ?_) rfl (by kernel_rfl) (by kernel_rfl) (by kernel_rfl) (fun _ _ _ h => h) (Or.inl ⟨by rfl, ?_⟩) (by assumption) ?_
   rotate_left
   ·(intro w hSw; rfl)
   try simp only [Act.put, List.setIfInBounds_toArray, List.set_cons_zero, List.set_cons_succ]
   refine wpAnyH_take (i := 15) (oi := ⟨some 5, _, _, _, _, _⟩) (v := ?_) rfl (by kernel_rfl) (by kernel_rfl) (by kernel_rfl) (fun _ _ _ h => h) (Or.inl ⟨by rfl, ?_⟩) (by assumption) ?_
   rotate_left
   ·(intro w hSw; rfl)
   try simp only [Act.put, List.setIfInBounds_toArray, List.set_cons_zero, List.set_cons_succ]
   refine wpAnyH_done (by kernel_rfl) ?_ _
   go_wp2_with fail
   go_ret2
   exact askP_draw HM.out HOK.out HCI.out (by rw [← HLL.out]; omega) HDE.out HBD.out HO3.out HB3.out HC3.out
end Go.Proofs.YtofgmijmhpmabaaGreatDoor.D
namespace Go.Proofs.YtofgmijmhpmabaaGreatDoor.D
open Go Go.RowKit
set_option linter.unusedVariables false
set_option linter.unusedSimpArgs false
def smallS : St := ⟨[⟨20, 0, false⟩, ⟨20, 0, false⟩], [⟨0, 0, 1, 2, 0, 0⟩, ⟨0, 1, 1, 2, 0, 0⟩], [[0], [], [], [], [], [], [1], []], 1, 0, 0, 0⟩
set_option maxRecDepth 100000 in
theorem small_may : May smallS :=
 ⟨by decide, by decide, by decide, by decide, by decide, by decide, by decide, by decide, by decide, by decide, by decide, by decide, by decide, by decide, by decide⟩
def SmallPost (w : World) (e : Ending) (w' : World) : Prop := ∃ x' : SV, e = .returned (x'.val smallS) ∧ RdSt w' x' smallS ∧ Below w.heap.size w w'
def allocL (w : World) : List Obj → World
 | [] => w
 | o :: l => allocL (w.alloc o) l
theorem allocL_below : ∀ (l : List Obj) (w : World), Below w.heap.size w (allocL w l)
 | [], w => Below.refl _ _
 | o :: l, w => G.bl_trans (G.bl_alloc (Below.refl _ _) o) (allocL_below l (w.alloc o))
theorem allocL_get : ∀ (l : List Obj) (w : World) (k : Nat), k < l.length → (allocL w l).heap[w.heap.size + k]? = l[k]?
 | o :: l, w, 0, _ => by
  have h1 := heap_alloc_new w o
  have h2 := (allocL_below l (w.alloc o)).block w.heap.size (by simp)
  exact h2.trans h1
 | o :: l, w, k + 1, h => by
  have ih := allocL_get l (w.alloc o) k (by simp at h; omega)
  have e : (w.alloc o).heap.size + k = w.heap.size + (k + 1) := by simp; omega
  rw [e] at ih
  exact ih
def smallX (h : Nat) : SV := ⟨some ⟨h + 1, 0, none⟩, 2, some ⟨h + 2, 0, none⟩, 2, some ⟨h + 5, 0, none⟩, 8, [.slice (some ⟨h + 3, 0, none⟩) 1 1, .slice none 0 0, .slice none 0 0, .slice none 0 0, .slice none 0 0, .slice none 0 0, .slice (some ⟨h + 4, 0, none⟩) 1 1, .slice none 0 0]⟩
def smallObjs (h : Nat) : List Obj := [.cells ((smallX h).arr smallS) 27, .cells #[.int .i32 20, .int .i32 0, .bool false, .int .i32 20, .int .i32 0, .bool false] 103,
 .cells #[.int .i64 0, .int .i64 0, .int .i32 1, .int .i32 2, .int .i32 0, .int .i32 0, .int .i64 0, .int .i64 1, .int .i32 1, .int .i32 2, .int .i32 0, .int .i32 0] 101, .cells #[.int .i64 0] 3, .cells #[.int .i64 1] 3,
 .cells #[.slice (some ⟨h + 3, 0, none⟩) 1 1, .slice none 0 0, .slice none 0 0, .slice none 0 0, .slice none 0 0, .slice none 0 0, .slice (some ⟨h + 4, 0, none⟩) 1 1, .slice none 0 0] 28]
theorem rd_blk {w : World} {g sz n : Nat} {t : TypeId} {cs : Array Value} (h : G.Blk w g t cs) (hn : cs.toList.length = n * sz) : G.RdS w (some ⟨g, 0, none⟩) sz n cs.toList := ⟨hn, fun _ => ⟨g, 0, rfl, h.rdV⟩⟩
theorem small_rd (w : World) : RdSt (allocL w (smallObjs w.heap.size)) (smallX w.heap.size) smallS := by
 have g1 : G.Blk (allocL w (smallObjs w.heap.size)) (w.heap.size + 1) _ _ := allocL_get (smallObjs w.heap.size) w 1 (by simp [smallObjs])
 have g2 : G.Blk (allocL w (smallObjs w.heap.size)) (w.heap.size + 2) _ _ := allocL_get (smallObjs w.heap.size) w 2 (by simp [smallObjs])
 have g3 : G.Blk (allocL w (smallObjs w.heap.size)) (w.heap.size + 3) _ _ := allocL_get (smallObjs w.heap.size) w 3 (by simp [smallObjs])
 have g4 : G.Blk (allocL w (smallObjs w.heap.size)) (w.heap.size + 4) _ _ := allocL_get (smallObjs w.heap.size) w 4 (by simp [smallObjs])
 have g5 : G.Blk (allocL w (smallObjs w.heap.size)) (w.heap.size + 5) _ _ := allocL_get (smallObjs w.heap.size) w 5 (by simp [smallObjs])
 have nil : ∀ W : World, RdRow W (.slice none 0 0) [] := fun W => ⟨none, 0, rfl, G.RdS.nil _⟩
 refine ⟨rd_blk (sz := 3) (n := 2) g1 rfl, rd_blk (sz := 6) (n := 2) g2 rfl, rd_blk (sz := 1) (n := 8) g5 rfl, fun i hi => ?_⟩
 have hi8 : i < 8 := hi
 match i, hi8 with
 | 0, _ => exact ⟨some ⟨w.heap.size + 3, 0, none⟩, 1, rfl, rd_blk (sz := 1) (n := 1) g3 rfl⟩
 | 1, _ => exact nil _
 | 2, _ => exact nil _
 | 3, _ => exact nil _
 | 4, _ => exact nil _
 | 5, _ => exact nil _
 | 6, _ => exact ⟨some ⟨w.heap.size + 4, 0, none⟩, 1, rfl, rd_blk (sz := 1) (n := 1) g4 rfl⟩
 | 7, _ => exact nil _
set_option maxRecDepth 100000 in
set_option maxHeartbeats 4000000 in
theorem small_any (w : World) : Calls Tryz.prog 88 #[] w (SmallPost w) := by
 go_enter Tryz.func88, Tryz.ntmps88
 go_wp2_with fail
 refine bodyPost_ret (v := (smallX w.heap.size).val smallS) (st_result rfl _ _ w.heap.size ((smallX w.heap.size).arr smallS) rfl (show (allocL w (smallObjs w.heap.size)).heap[w.heap.size]? = _ from allocL_get (smallObjs w.heap.size) w 0 (by simp [smallObjs])) rfl) rfl ⟨_, rfl, small_rd w, ?_⟩
 exact allocL_below (smallObjs w.heap.size) w
end Go.Proofs.YtofgmijmhpmabaaGreatDoor.D
namespace Go.Proofs.YtofgmijmhpmabaaGreatDoor.D
open Go Go.RowKit
set_option linter.unusedVariables false
set_option linter.unusedSimpArgs false
theorem run_loadVar_cells {P : Program} (w : World) (g : Nat) (ty : TypeId) (cs : Array Value) (d : TypeDesc) (hg : ∀ j v, cs[j]? = some v → w.cell? ⟨g, j, none⟩ = some v)
 (hu : P.underlying ty = some d) (hd : (match d with | .struct _ | .array _ _ => true | _ => false) = true) (hi : (P.info? ty).map (·.size) = some cs.size) :
 (loadVar ty ⟨g, 0, none⟩).run P w = .ok (.agg cs) w := by
 have hl : (loadCells ⟨g, 0, none⟩ cs.toList.length).run P w = .ok cs.toList.toArray w :=
  run_loadCells_list (P := P) w ⟨g, 0, none⟩ cs.toList (fun j v hv => by
   have hadd : (⟨g, 0, none⟩ : Addr).add j = ⟨g, j, none⟩ := by unfold Addr.add; split <;> simp_all
   rw [hadd]
   exact hg j v (by simpa using hv))
 cases hq : P.info? ty with
 | none => simp [hq] at hi
 | some i =>
  have hs : i.size = cs.size := by simpa [hq] using hi
  have hagg : (isAgg ty).run P w = .ok true w := by
   unfold isAgg
   rw [Sem.run_bind, run_underlying hu w]
   cases d <;> simp_all
  simp only [Array.length_toList, Array.toArray_toList] at hl
  simp [loadVar, Sem.run_bind, hagg, sizeOf, typeInfo, hq, hs, hl]
def evL : Ev := { zeroEv with kind := 1, card := 0, src := 0, srcAt := 0, dst := 1, dstAt := 0 }
def smallA : St := ⟨[⟨20, 0, false⟩, ⟨20, 0, false⟩], [⟨0, 0, 1, 2, 0, 0⟩, ⟨0, 1, 1, 2, 0, 0⟩], [[], [0], [], [], [], [], [1], []], 1, 0, 0, 0⟩
theorem small_draw : drawEv smallS 0 = [evL] := by decide +kernel
theorem small_do : stepE smallS evL false = some smallA := by decide +kernel
theorem small_back : stepE smallA evL true = some smallS := by decide +kernel
theorem evL_fits : evL.Fits := ⟨by decide, by decide, by decide, by decide, by decide, by decide, by decide, by decide, by decide, by decide, by decide⟩
theorem small_sz : Sz smallS := may_sz small_may
theorem smallA_may : May smallA := step_may small_do small_may
theorem evL_rd (w : World) (y : EV) : RdEv w y evL := G.RdS.nil _
theorem one_event {L : List (EV × Ev)} {e : Ev} (h : L.map Prod.snd = [e]) : ∃ y, L = [(y, e)] := by
 cases L with
 | nil => cases h
 | cons p l =>
  cases l with
  | nil =>
   refine ⟨p.1, ?_⟩
   rw [List.map_cons, List.map_nil] at h
   rw [← List.head_eq_of_cons_eq h]
  | cons q l =>
   have := congrArg List.length h
   simp at this
/-- An event that lies in a row's first cells. -/
def EvC (b : Nat) (y : EV) (w : World) : Prop := (loadVar 30 ⟨b, 0, none⟩).run Tryz.prog w = .ok (.agg (y.arr evL)) w ∧ ∀ j v, (y.arr evL)[j]? = some v → w.cell? ⟨b, j, none⟩ = some v
theorem EvC.mk {b : Nat} {y : EV} {w : World} (h : ∀ j v, (y.arr evL)[j]? = some v → w.cell? ⟨b, j, none⟩ = some v) : EvC b y w := by
 obtain ⟨fs, hfs⟩ := undEv
 exact ⟨run_loadVar_cells w b _ _ _ h hfs rfl sizeEv, h⟩
theorem EvC.below {b : Nat} {y : EV} {w w' : World} (h : EvC b y w) (hb : Below w.heap.size w w') : EvC b y w' :=
 EvC.mk fun j v hv => (hb.cell (p := ⟨b, j, none⟩) (World.block_lt_of_cell? _ _ (h.2 j v hv))).trans (h.2 j v hv)
/-- A state in a variable, behind a region. -/
def VarRel (w : World) (t : St) (s3 s4 : Value) (wx : World) : Prop := ∃ (g : Nat) (x3 : SV), s3 = .pointer (some ⟨g, 0, none⟩) ∧ s4 = .int .i64 0 ∧ G.Blk wx g 27 (x3.arr t) ∧ RdSt wx x3 t ∧ Below w.heap.size w wx
theorem varRel_mk {w wA : World} {g base : Nat} {x3 : SV} {t : St} {zs : Array Value} (ho : OwnSt wA base x3 t) (hb : Below w.heap.size w wA) (hB : G.Blk wA g 27 zs) (hg : w.heap.size ≤ g) : VarRel w t (.pointer (some ⟨g, 0, none⟩)) (.int .i64 0) (wA.setRow g (x3.arr t)) :=
 ⟨g, x3, rfl, rfl, setRow_heap _ _ _ _ _ _ hB, (ho.only (only_row hB) (by decide) (by decide) (by decide) (by decide)).rd, below_setRow hb hg _⟩
theorem blk_after {w w' : World} {t : TypeId} {zs : Array Value} (h : Below (w.alloc (.cells zs t)).heap.size (w.alloc (.cells zs t)) w') : G.Blk w' w.heap.size t zs := (G.Blk.new w t zs).below h (by simp)
theorem blk_after3 {w w1 w' : World} {t : TypeId} {zs : Array Value} (h : Below (w.alloc (.cells zs t)).drew.heap.size (w.alloc (.cells zs t)).drew w1) (h2 : Below w1.heap.size w1 w') : G.Blk w' w.heap.size t zs := (blk_after (G.bl_trans (Below.refl _ _).drew h)).below h2 (blk_after (G.bl_trans (Below.refl _ _).drew h)).lt
theorem one_yes {s t u : St} {o : Option St} {x' : SV} {k : Int} (h : (k = 0 ∧ May s ∧ o = some t) ∨ (k = 11 ∧ May s ∧ o = none ∧ t = zeroSt ∧ x' = zeroSV) ∨ (k = 10 ∧ ¬ May s ∧ t = zeroSt ∧ x' = zeroSV)) (hm : May s) (ho : o = some u) : k = 0 ∧ t = u := by
 rcases h with ⟨a, _, b⟩ | ⟨_, _, b, _⟩ | ⟨_, b, _⟩
 ·exact ⟨a, Option.some.inj (b.symm.trans ho)⟩
 ·rw [ho] at b
  cases b
 ·exact absurd hm b
theorem EvC.row {b g : Nat} {y : EV} {w : World} {zs cs : Array Value} (h : EvC b y w) (hb : G.Blk w g 27 zs) (hne : g ≠ b) : EvC b y (w.setRow g cs) :=
 EvC.mk fun j v hv => (World.cell?_of_block (a := ⟨b, j, none⟩) (setRow_other w g b cs (Ne.symm hne))).trans (h.2 j v hv)
def EvD (b : Nat) (y : EV) (g : Nat) (cs : Array Value) (w : World) : Prop := EvC b y w ∧ (loadVar 27 ⟨g, 0, none⟩).run Tryz.prog w = .ok (.agg cs) w ∧ G.Blk w g 27 cs ∧ cs.size = 7
theorem EvD.below {b g : Nat} {y : EV} {cs : Array Value} {w w' : World} (h : EvD b y g cs w) (hb : Below w.heap.size w w') : EvD b y g cs w' := ⟨h.1.below hb, run_st (h.2.2.1.below hb h.2.2.1.lt) h.2.2.2, h.2.2.1.below hb h.2.2.1.lt, h.2.2.2⟩
theorem EvD.row {b g g2 : Nat} {y : EV} {cs zs ds : Array Value} {w : World} (h : EvD b y g cs w) (hb : G.Blk w g2 27 zs) (hne : g2 ≠ b) (hne2 : g2 ≠ g) : EvD b y g cs (w.setRow g2 ds) := by
 have h1 : G.Blk (w.setRow g2 ds) g 27 cs := (setRow_other w g2 g ds (Ne.symm hne2)).trans h.2.2.1
 exact ⟨h.1.row hb hne, run_st h1 h.2.2.2, h1, h.2.2.2⟩
def LvS (g3 bz oz zc : Nat) (a0 : Option Addr) (k0 : Nat) (a1 : Option Addr) (k1 g5 : Nat) (c5 : Array Value) (w : World) : Prop :=
 w.cell? ⟨g3, 2, none⟩ = some (.slice (some ⟨bz, oz, none⟩) 8 zc) ∧ w.cell? ⟨bz, oz, none⟩ = some (.slice a0 0 k0) ∧ w.cell? ⟨bz, oz + 1, none⟩ = some (.slice a1 1 k1) ∧ (loadVar 27 ⟨g5, 0, none⟩).run Tryz.prog w = .ok (.agg c5) w ∧ G.Blk w g5 27 c5 ∧ c5.size = 7
theorem LvS.below {g3 bz oz zc : Nat} {a0 : Option Addr} {k0 : Nat} {a1 : Option Addr} {k1 g5 : Nat} {c5 : Array Value} {w w' : World} (h : LvS g3 bz oz zc a0 k0 a1 k1 g5 c5 w) (hb : Below w.heap.size w w') : LvS g3 bz oz zc a0 k0 a1 k1 g5 c5 w' := by
 obtain ⟨h1, h2, h3, h4, h5, h6⟩ := h
 exact ⟨(hb.cell (p := ⟨g3, 2, none⟩) (World.block_lt_of_cell? _ _ h1)).trans h1, (hb.cell (p := ⟨bz, oz, none⟩) (World.block_lt_of_cell? _ _ h2)).trans h2, (hb.cell (p := ⟨bz, oz + 1, none⟩) (World.block_lt_of_cell? _ _ h3)).trans h3, run_st (h5.below hb h5.lt) h6, h5.below hb h5.lt, h6⟩
set_option maxRecDepth 100000 in
set_option maxHeartbeats 8000000 in
theorem lives_any (w : World) : Calls Tryz.prog 24 #[] w (BoolPost true w) := by
 go_enter Tryz.func24, Tryz.ntmps24
 go_wp2_with fail
 refine (small_any _).mono ?_
 rintro e1 w1 ⟨x1, rfl, hr1, hb1⟩
 have HR1 := Lib.hid hr1
 have HB1 := Lib.hid hb1
 have HDR := Lib.hid (draw_any x1 smallS 0 w1 hr1 small_sz)
 clear hr1 hb1
 go_wp2_with fail
 refine (HDR.out).mono ?_
 rintro e2 w2 hp2
 obtain ⟨A, n, c, L, k, rfl, ho2, hb2, hc2⟩ := hp2
 have HB2 := Lib.hid (G.bl_trans HB1.out hb2)
 have hk : k = 0 ∧ L.map Prod.snd = [evL] := by
  rcases hc2 with h | h | h
  ·exact absurd small_may h.2.1
  ·exact absurd (show Within 0 smallS.players.length by decide) h.2.2.1
  ·exact ⟨h.1, h.2.2.2.trans small_draw⟩
 obtain ⟨rfl, hL⟩ := hk
 obtain ⟨y, hy⟩ := one_event hL
 rw [hy] at ho2
 have HO2 := Lib.hid ho2
 clear hb2 hc2 ho2 hy
 obtain rfl : n = 1 := HO2.out.rd.len.symm
 clear hL
 obtain ⟨b, c2, hA, _, _, _, _⟩ := G.own_addr HO2.out.s (by omega)
 simp only [Value.slice.injEq, true_and] at hA
 obtain ⟨rfl, rfl⟩ := hA
 have HEC := Lib.hid (show EvC b y w2 from EvC.mk fun j v hv => by
  have hj : j < 12 := (Array.getElem?_eq_some_iff.1 hv).1
  rw [HO2.out.s.cellAt j (by omega)]
  have e1 : flatE [(y, evL)] = (y.arr evL).toList := by simp [flatE, cellsE]
  rw [e1]
  simpa using hv)
 have e0 : w2.cell? ⟨b, 0, none⟩ = some (.int .i8 1) := HEC.out.2 0 _ rfl
 have e1 : w2.cell? ⟨b, 1, none⟩ = some (.int .i8 0) := HEC.out.2 1 _ rfl
 have e2 : w2.cell? ⟨b, 2, none⟩ = some (.int .i64 0) := HEC.out.2 2 _ rfl
 have e3 : w2.cell? ⟨b, 3, none⟩ = some (.int .i64 0) := HEC.out.2 3 _ rfl
 have e4 : w2.cell? ⟨b, 4, none⟩ = some (.int .i64 0) := HEC.out.2 4 _ rfl
 have e5 : w2.cell? ⟨b, 5, none⟩ = some (.int .i64 0) := HEC.out.2 5 _ rfl
 have e6 : w2.cell? ⟨b, 6, none⟩ = some (.int .i64 0) := HEC.out.2 6 _ rfl
 have e7 : w2.cell? ⟨b, 7, none⟩ = some (.int .i64 1) := HEC.out.2 7 _ rfl
 have e8 : w2.cell? ⟨b, 8, none⟩ = some (.int .i64 0) := HEC.out.2 8 _ rfl
 have e9 : w2.cell? ⟨b, 9, none⟩ = some (.int .i32 0) := HEC.out.2 9 _ rfl
 have e10 : w2.cell? ⟨b, 10, none⟩ = some (.int .i32 0) := HEC.out.2 10 _ rfl
 have e11 : w2.cell? ⟨b, 11, none⟩ = some (.slice y.oa 0 y.oc) := HEC.out.2 11 _ rfl
 have HEQ := Lib.hid (show Calls Tryz.prog 19 #[.agg #[.int .i8 1, .int .i8 0, .int .i64 0, .int .i64 0, .int .i64 0, .int .i64 0, .int .i64 0, .int .i64 1, .int .i64 0, .int .i32 0, .int .i32 0, .slice y.oa 0 y.oc], .agg #[.int .i8 1, .int .i8 0, .int .i64 0, .int .i64 0, .int .i64 0, .int .i64 0, .int .i64 0, .int .i64 1, .int .i64 0, .int .i32 0, .int .i32 0, .slice none 0 0]] w2 (BoolPost true w2) from (eqEvent_any y ⟨none, 0⟩ evL evL w2 (evL_rd _ _) (evL_rd _ _) (by decide) (by decide)).mono fun e w' h => ⟨h.1.trans (ret_bool (by simp)), h.2⟩)
 have hbl := World.block_lt_of_cell? _ _ e0
 go_upto_region 4 with ((with_reducible refine (HEQ.out).mono ?_); rintro e3 w3 ⟨rfl, hb3⟩; have HBW3 := Lib.hid hb3; clear hb3)
 have HE3 := Lib.hid (HEC.out.below HBW3.out)
 have HB3 := Lib.hid (G.bl_trans HB2.out HBW3.out)
 have hblt : b < w3.heap.size := Nat.lt_of_lt_of_le hbl HBW3.out.size
 clear e0 e1 e2 e3 e4 e5 e6 e7 e8 e9 e10 e11 hbl
 go_cut [3, 4] from 12 to 76 (fun s3 s4 wx => VarRel w3 smallA s3 s4 wx)
 case first =>
  refine wp_region_held_drew (S := EvC b y) (by kernel_rfl) ?_ (fun hHeld => ?_)
  ·exact EvC.below HE3.out (Below.refl _ _).drew
  refine wpAnyH_take (i := 1) (oi := ⟨some 29, _, _, _, _, _⟩) (v := ?_) rfl (by kernel_rfl) (by kernel_rfl) (by kernel_rfl) (fun _ _ _ h => h) (Or.inl ⟨by rfl, ?_⟩) (by assumption) ?_
  rotate_left
  ·(intro w hSw; unfold EvC at hSw; go_split_ands; go_simp; try with_reducible rfl)
  try simp only [Act.put, List.setIfInBounds_toArray, List.set_cons_zero, List.set_cons_succ]
  refine wpAnyH_take (i := 2) (oi := ⟨some 30, _, _, _, _, _⟩) (v := ?_) rfl (by kernel_rfl) (by kernel_rfl) (by kernel_rfl) (fun _ _ _ h => h) (Or.inl ⟨by rfl, ?_⟩) (by assumption) ?_
  rotate_left
  ·(intro w hSw; unfold EvC at hSw; go_split_ands; go_simp; try with_reducible rfl)
  try simp only [Act.put, List.setIfInBounds_toArray, List.set_cons_zero, List.set_cons_succ]
  refine wpAnyH_take (i := 3) (oi := ⟨some 31, _, _, _, _, _⟩) (v := ?_) rfl (by kernel_rfl) (by kernel_rfl) (by kernel_rfl) (fun _ _ _ h => h) (Or.inl ⟨by rfl, ?_⟩) (by assumption) ?_
  rotate_left
  ·(intro w hSw; refine exec_load_held 30 (.tmp 30) ?_ b ?_ _ hSw.1 <;> rfl)
  try simp only [Act.put, List.setIfInBounds_toArray, List.set_cons_zero, List.set_cons_succ]
  refine wpAnyH_ready (rs := [0, 8]) (by kernel_rfl) (by simp) ?_
  refine AllReadyH.cons rfl (fun K hK => ?_) ?_
  ·go_simp
   ((with_reducible refine (small_any _).mono ?_); rintro e4 w4 hp4; obtain ⟨x4, rfl, hr4, hb4⟩ := hp4; have HB4 := Lib.hid hb4; have HAP := Lib.hid (fun W (hW : Below w4.heap.size w4 W) => apply_any x4 smallS y evL W (hr4.below hW) small_sz (evL_rd _ _) evL_fits (by decide)); clear hr4 hb4)
   go_wp2_with fail
   refine hK.out _ _ ?_ (fun hHeld => ?_)
   ·exact EvC.below (by assumption) HB4.out
   clear hK K
   try simp only [Act.put, List.setIfInBounds_toArray, List.set_cons_zero, List.set_cons_succ]
   refine wpAnyH_ready (rs := [4, 8]) (by kernel_rfl) (by simp) ?_
   refine AllReadyH.cons rfl (fun K hK => ?_) ?_
   ·go_simp
    (refine (HAP.out _ (by first | exact Below.refl _ _ | exact G.bl_alloc (Below.refl _ _) _)).mono ?_; rintro e5 w5 hp5; obtain ⟨x5, t5, k5, rfl, ho5, hb5, hc5⟩ := hp5; obtain ⟨rfl, rfl⟩ := one_yes hc5 small_may small_do; have HO5 := Lib.hid ho5; have HB5 := Lib.hid hb5; clear hb5 hc5 ho5)
    go_wp2_with fail
    refine hK.out _ _ ?_ (fun hHeld => ?_)
    ·exact EvC.below (by assumption) HB5.out
    clear hK K
    try simp only [Act.put, List.setIfInBounds_toArray, List.set_cons_zero, List.set_cons_succ]
    refine wpAnyH_take (i := 5) (oi := ⟨some 27, _, _, _, _, _⟩) (v := ?_) rfl (by kernel_rfl) (by kernel_rfl) (by kernel_rfl) (fun _ _ _ h => h) (Or.inl ⟨by rfl, ?_⟩) (by assumption) ?_
    rotate_left
    ·(intro w hSw; unfold EvC at hSw; go_split_ands; go_simp; try with_reducible rfl)
    try simp only [Act.put, List.setIfInBounds_toArray, List.set_cons_zero, List.set_cons_succ]
    refine wpAnyH_take (i := 6) (oi := ⟨some 33, _, _, _, _, _⟩) (v := ?_) rfl (by kernel_rfl) (by kernel_rfl) (by kernel_rfl) (fun _ _ _ h => h) (Or.inl ⟨by rfl, ?_⟩) (by assumption) ?_
    rotate_left
    ·(intro w hSw; unfold EvC at hSw; go_split_ands; go_simp; try with_reducible rfl)
    try simp only [Act.put, List.setIfInBounds_toArray, List.set_cons_zero, List.set_cons_succ]
    refine wpAnyH_take (i := 7) (oi := ⟨some 34, _, _, _, _, _⟩) (v := ?_) rfl (by kernel_rfl) (by kernel_rfl) (by kernel_rfl) (fun _ _ _ h => h) (Or.inl ⟨by rfl, ?_⟩) (by assumption) ?_
    rotate_left
    ·(intro w hSw; unfold EvC at hSw; go_split_ands; go_simp; try with_reducible rfl)
    try simp only [Act.put, List.setIfInBounds_toArray, List.set_cons_zero, List.set_cons_succ]
    refine wpAnyH_ready (rs := [8]) (by kernel_rfl) (by simp) ?_
    refine AllReadyH.cons rfl (fun K hK => ?_) AllReadyH.nil
    go_simp
    go_wp2_with fail
    refine hK.out _ _ ?_ (fun hHeld => ?_)
    ·exact EvC.below (by assumption) (G.bl_alloc (Below.refl _ _) _)
    clear hK K
    try simp only [Act.put, List.setIfInBounds_toArray, List.set_cons_zero, List.set_cons_succ]
    refine wpAnyH_ready (rs := [9]) (by kernel_rfl) (by simp) ?_
    refine AllReadyH.cons rfl (fun K hK => ?_) AllReadyH.nil
    first | (refine wp_store_row 27 (.tmp 3) (.tmp 33) rfl _ (x5.arr smallA) rfl rfl 27 #[.slice none 0 0, .slice none 0 0, .slice none 0 0, .int .i32 0, .int .i64 0, .int .i8 0, .int .i64 0] (heap_alloc_new _ _) (by kernel_rfl) rfl (arr_one _ _) ?_) | (refine wp_store_row 27 (.tmp 3) (.tmp 33) rfl _ (x5.arr smallA) rfl rfl 27 #[.slice none 0 0, .slice none 0 0, .slice none 0 0, .int .i32 0, .int .i64 0, .int .i8 0, .int .i64 0] (blk_after HB5.out) (by kernel_rfl) rfl (arr_one _ _) ?_) | (refine wp_store_row 27 (.tmp 3) (.tmp 33) rfl _ (x5.arr smallA) rfl rfl 27 #[.slice none 0 0, .slice none 0 0, .slice none 0 0, .int .i32 0, .int .i64 0, .int .i8 0, .int .i64 0] (blk_after3 HB4.out HB5.out) (by kernel_rfl) rfl (arr_one _ _) ?_)
    try simp only [Act.put, List.getElem_toArray, List.getElem_cons_succ, List.getElem_cons_zero]
    refine hK.out _ _ ?_ (fun hHeld => ?_)
    ·exact EvC.row (by assumption) (by first | exact G.Blk.new _ _ _ | exact blk_after HB5.out | exact blk_after3 HB4.out HB5.out) (by have s4 := HB4.out.size; have s5 := HB5.out.size; first | omega | (simp at s4 s5 ⊢; omega))
    clear hK K
    try simp only [Act.put, List.setIfInBounds_toArray, List.set_cons_zero, List.set_cons_succ]
    refine wpAnyH_take (i := 10) (oi := ⟨some 4, _, _, _, _, _⟩) (v := ?_) rfl (by kernel_rfl) (by kernel_rfl) (by kernel_rfl) (fun _ _ _ h => h) (Or.inl ⟨by rfl, ?_⟩) (by assumption) ?_
    rotate_left
    ·(intro w hSw; unfold EvC at hSw; go_split_ands; go_simp; try with_reducible rfl)
    try simp only [Act.put, List.setIfInBounds_toArray, List.set_cons_zero, List.set_cons_succ]
    refine wpAnyH_done (by kernel_rfl) ?_ _
    go_wp2_with fail
    go_meet
    case rel => first | exact varRel_mk (HO5.out.below (G.bl_alloc (Below.refl _ _) _)) (G.bl_alloc (G.bl_trans (G.bl_trans (Below.refl _ _).drew HB4.out) HB5.out) _) (G.Blk.new _ _ _) (by have s4 := HB4.out.size; have s5 := HB5.out.size; first | omega | (simp at s4 s5 ⊢; omega)) | exact varRel_mk HO5.out (G.bl_trans (G.bl_alloc (G.bl_trans (Below.refl _ _).drew HB4.out) _) HB5.out) (blk_after HB5.out) (by have s4 := HB4.out.size; have s5 := HB5.out.size; first | omega | (simp at s4 s5 ⊢; omega)) | exact varRel_mk HO5.out (G.bl_trans (G.bl_trans (G.bl_alloc (Below.refl _ _) _).drew HB4.out) HB5.out) (blk_after3 HB4.out HB5.out) (by have s4 := HB4.out.size; have s5 := HB5.out.size; first | omega | (simp at s4 s5 ⊢; omega))
   refine AllReadyH.cons rfl (fun K hK => ?_) ?_
   ·go_simp
    go_wp2_with fail
    refine hK.out _ _ ?_ (fun hHeld => ?_)
    ·exact EvC.below (by assumption) (G.bl_alloc (Below.refl _ _) _)
    clear hK K
    try simp only [Act.put, List.setIfInBounds_toArray, List.set_cons_zero, List.set_cons_succ]
    refine wpAnyH_ready (rs := [4]) (by kernel_rfl) (by simp) ?_
    refine AllReadyH.cons rfl (fun K hK => ?_) AllReadyH.nil
    go_simp
    (refine (HAP.out _ (by first | exact Below.refl _ _ | exact G.bl_alloc (Below.refl _ _) _)).mono ?_; rintro e5 w5 hp5; obtain ⟨x5, t5, k5, rfl, ho5, hb5, hc5⟩ := hp5; obtain ⟨rfl, rfl⟩ := one_yes hc5 small_may small_do; have HO5 := Lib.hid ho5; have HB5 := Lib.hid hb5; clear hb5 hc5 ho5)
    go_wp2_with fail
    refine hK.out _ _ ?_ (fun hHeld => ?_)
    ·exact EvC.below (by assumption) HB5.out
    clear hK K
    try simp only [Act.put, List.setIfInBounds_toArray, List.set_cons_zero, List.set_cons_succ]
    refine wpAnyH_take (i := 5) (oi := ⟨some 27, _, _, _, _, _⟩) (v := ?_) rfl (by kernel_rfl) (by kernel_rfl) (by kernel_rfl) (fun _ _ _ h => h) (Or.inl ⟨by rfl, ?_⟩) (by assumption) ?_
    rotate_left
    ·(intro w hSw; unfold EvC at hSw; go_split_ands; go_simp; try with_reducible rfl)
    try simp only [Act.put, List.setIfInBounds_toArray, List.set_cons_zero, List.set_cons_succ]
    refine wpAnyH_take (i := 6) (oi := ⟨some 33, _, _, _, _, _⟩) (v := ?_) rfl (by kernel_rfl) (by kernel_rfl) (by kernel_rfl) (fun _ _ _ h => h) (Or.inl ⟨by rfl, ?_⟩) (by assumption) ?_
    rotate_left
    ·(intro w hSw; unfold EvC at hSw; go_split_ands; go_simp; try with_reducible rfl)
    try simp only [Act.put, List.setIfInBounds_toArray, List.set_cons_zero, List.set_cons_succ]
    refine wpAnyH_take (i := 7) (oi := ⟨some 34, _, _, _, _, _⟩) (v := ?_) rfl (by kernel_rfl) (by kernel_rfl) (by kernel_rfl) (fun _ _ _ h => h) (Or.inl ⟨by rfl, ?_⟩) (by assumption) ?_
    rotate_left
    ·(intro w hSw; unfold EvC at hSw; go_split_ands; go_simp; try with_reducible rfl)
    try simp only [Act.put, List.setIfInBounds_toArray, List.set_cons_zero, List.set_cons_succ]
    refine wpAnyH_ready (rs := [9]) (by kernel_rfl) (by simp) ?_
    refine AllReadyH.cons rfl (fun K hK => ?_) AllReadyH.nil
    first | (refine wp_store_row 27 (.tmp 3) (.tmp 33) rfl _ (x5.arr smallA) rfl rfl 27 #[.slice none 0 0, .slice none 0 0, .slice none 0 0, .int .i32 0, .int .i64 0, .int .i8 0, .int .i64 0] (heap_alloc_new _ _) (by kernel_rfl) rfl (arr_one _ _) ?_) | (refine wp_store_row 27 (.tmp 3) (.tmp 33) rfl _ (x5.arr smallA) rfl rfl 27 #[.slice none 0 0, .slice none 0 0, .slice none 0 0, .int .i32 0, .int .i64 0, .int .i8 0, .int .i64 0] (blk_after HB5.out) (by kernel_rfl) rfl (arr_one _ _) ?_) | (refine wp_store_row 27 (.tmp 3) (.tmp 33) rfl _ (x5.arr smallA) rfl rfl 27 #[.slice none 0 0, .slice none 0 0, .slice none 0 0, .int .i32 0, .int .i64 0, .int .i8 0, .int .i64 0] (blk_after3 HB4.out HB5.out) (by kernel_rfl) rfl (arr_one _ _) ?_)
    try simp only [Act.put, List.getElem_toArray, List.getElem_cons_succ, List.getElem_cons_zero]
    refine hK.out _ _ ?_ (fun hHeld => ?_)
    ·exact EvC.row (by assumption) (by first | exact G.Blk.new _ _ _ | exact blk_after HB5.out | exact blk_after3 HB4.out HB5.out) (by have s4 := HB4.out.size; have s5 := HB5.out.size; first | omega | (simp at s4 s5 ⊢; omega))
    clear hK K
    try simp only [Act.put, List.setIfInBounds_toArray, List.set_cons_zero, List.set_cons_succ]
    refine wpAnyH_take (i := 10) (oi := ⟨some 4, _, _, _, _, _⟩) (v := ?_) rfl (by kernel_rfl) (by kernel_rfl) (by kernel_rfl) (fun _ _ _ h => h) (Or.inl ⟨by rfl, ?_⟩) (by assumption) ?_
    rotate_left
    ·(intro w hSw; unfold EvC at hSw; go_split_ands; go_simp; try with_reducible rfl)
    try simp only [Act.put, List.setIfInBounds_toArray, List.set_cons_zero, List.set_cons_succ]
    refine wpAnyH_done (by kernel_rfl) ?_ _
    go_wp2_with fail
    go_meet
    case rel => first | exact varRel_mk (HO5.out.below (G.bl_alloc (Below.refl _ _) _)) (G.bl_alloc (G.bl_trans (G.bl_trans (Below.refl _ _).drew HB4.out) HB5.out) _) (G.Blk.new _ _ _) (by have s4 := HB4.out.size; have s5 := HB5.out.size; first | omega | (simp at s4 s5 ⊢; omega)) | exact varRel_mk HO5.out (G.bl_trans (G.bl_alloc (G.bl_trans (Below.refl _ _).drew HB4.out) _) HB5.out) (blk_after HB5.out) (by have s4 := HB4.out.size; have s5 := HB5.out.size; first | omega | (simp at s4 s5 ⊢; omega)) | exact varRel_mk HO5.out (G.bl_trans (G.bl_trans (G.bl_alloc (Below.refl _ _) _).drew HB4.out) HB5.out) (blk_after3 HB4.out HB5.out) (by have s4 := HB4.out.size; have s5 := HB5.out.size; first | omega | (simp at s4 s5 ⊢; omega))
   exact AllReadyH.nil
  refine AllReadyH.cons rfl (fun K hK => ?_) ?_
  ·go_simp
   go_wp2_with fail
   refine hK.out _ _ ?_ (fun hHeld => ?_)
   ·exact EvC.below (by assumption) (G.bl_alloc (Below.refl _ _) _)
   clear hK K
   try simp only [Act.put, List.setIfInBounds_toArray, List.set_cons_zero, List.set_cons_succ]
   refine wpAnyH_ready (rs := [0]) (by kernel_rfl) (by simp) ?_
   refine AllReadyH.cons rfl (fun K hK => ?_) AllReadyH.nil
   go_simp
   ((with_reducible refine (small_any _).mono ?_); rintro e4 w4 hp4; obtain ⟨x4, rfl, hr4, hb4⟩ := hp4; have HB4 := Lib.hid hb4; have HAP := Lib.hid (fun W (hW : Below w4.heap.size w4 W) => apply_any x4 smallS y evL W (hr4.below hW) small_sz (evL_rd _ _) evL_fits (by decide)); clear hr4 hb4)
   go_wp2_with fail
   refine hK.out _ _ ?_ (fun hHeld => ?_)
   ·exact EvC.below (by assumption) HB4.out
   clear hK K
   try simp only [Act.put, List.setIfInBounds_toArray, List.set_cons_zero, List.set_cons_succ]
   refine wpAnyH_ready (rs := [4]) (by kernel_rfl) (by simp) ?_
   refine AllReadyH.cons rfl (fun K hK => ?_) AllReadyH.nil
   go_simp
   (refine (HAP.out _ (by first | exact Below.refl _ _ | exact G.bl_alloc (Below.refl _ _) _)).mono ?_; rintro e5 w5 hp5; obtain ⟨x5, t5, k5, rfl, ho5, hb5, hc5⟩ := hp5; obtain ⟨rfl, rfl⟩ := one_yes hc5 small_may small_do; have HO5 := Lib.hid ho5; have HB5 := Lib.hid hb5; clear hb5 hc5 ho5)
   go_wp2_with fail
   refine hK.out _ _ ?_ (fun hHeld => ?_)
   ·exact EvC.below (by assumption) HB5.out
   clear hK K
   try simp only [Act.put, List.setIfInBounds_toArray, List.set_cons_zero, List.set_cons_succ]
   refine wpAnyH_take (i := 5) (oi := ⟨some 27, _, _, _, _, _⟩) (v := ?_) rfl (by kernel_rfl) (by kernel_rfl) (by kernel_rfl) (fun _ _ _ h => h) (Or.inl ⟨by rfl, ?_⟩) (by assumption) ?_
   rotate_left
   ·(intro w hSw; unfold EvC at hSw; go_split_ands; go_simp; try with_reducible rfl)
   try simp only [Act.put, List.setIfInBounds_toArray, List.set_cons_zero, List.set_cons_succ]
   refine wpAnyH_take (i := 6) (oi := ⟨some 33, _, _, _, _, _⟩) (v := ?_) rfl (by kernel_rfl) (by kernel_rfl) (by kernel_rfl) (fun _ _ _ h => h) (Or.inl ⟨by rfl, ?_⟩) (by assumption) ?_
   rotate_left
   ·(intro w hSw; unfold EvC at hSw; go_split_ands; go_simp; try with_reducible rfl)
   try simp only [Act.put, List.setIfInBounds_toArray, List.set_cons_zero, List.set_cons_succ]
   refine wpAnyH_take (i := 7) (oi := ⟨some 34, _, _, _, _, _⟩) (v := ?_) rfl (by kernel_rfl) (by kernel_rfl) (by kernel_rfl) (fun _ _ _ h => h) (Or.inl ⟨by rfl, ?_⟩) (by assumption) ?_
   rotate_left
   ·(intro w hSw; unfold EvC at hSw; go_split_ands; go_simp; try with_reducible rfl)
   try simp only [Act.put, List.setIfInBounds_toArray, List.set_cons_zero, List.set_cons_succ]
   refine wpAnyH_ready (rs := [9]) (by kernel_rfl) (by simp) ?_
   refine AllReadyH.cons rfl (fun K hK => ?_) AllReadyH.nil
   first | (refine wp_store_row 27 (.tmp 3) (.tmp 33) rfl _ (x5.arr smallA) rfl rfl 27 #[.slice none 0 0, .slice none 0 0, .slice none 0 0, .int .i32 0, .int .i64 0, .int .i8 0, .int .i64 0] (heap_alloc_new _ _) (by kernel_rfl) rfl (arr_one _ _) ?_) | (refine wp_store_row 27 (.tmp 3) (.tmp 33) rfl _ (x5.arr smallA) rfl rfl 27 #[.slice none 0 0, .slice none 0 0, .slice none 0 0, .int .i32 0, .int .i64 0, .int .i8 0, .int .i64 0] (blk_after HB5.out) (by kernel_rfl) rfl (arr_one _ _) ?_) | (refine wp_store_row 27 (.tmp 3) (.tmp 33) rfl _ (x5.arr smallA) rfl rfl 27 #[.slice none 0 0, .slice none 0 0, .slice none 0 0, .int .i32 0, .int .i64 0, .int .i8 0, .int .i64 0] (blk_after3 HB4.out HB5.out) (by kernel_rfl) rfl (arr_one _ _) ?_)
   try simp only [Act.put, List.getElem_toArray, List.getElem_cons_succ, List.getElem_cons_zero]
   refine hK.out _ _ ?_ (fun hHeld => ?_)
   ·exact EvC.row (by assumption) (by first | exact G.Blk.new _ _ _ | exact blk_after HB5.out | exact blk_after3 HB4.out HB5.out) (by have s4 := HB4.out.size; have s5 := HB5.out.size; first | omega | (simp at s4 s5 ⊢; omega))
   clear hK K
   try simp only [Act.put, List.setIfInBounds_toArray, List.set_cons_zero, List.set_cons_succ]
   refine wpAnyH_take (i := 10) (oi := ⟨some 4, _, _, _, _, _⟩) (v := ?_) rfl (by kernel_rfl) (by kernel_rfl) (by kernel_rfl) (fun _ _ _ h => h) (Or.inl ⟨by rfl, ?_⟩) (by assumption) ?_
   rotate_left
   ·(intro w hSw; unfold EvC at hSw; go_split_ands; go_simp; try with_reducible rfl)
   try simp only [Act.put, List.setIfInBounds_toArray, List.set_cons_zero, List.set_cons_succ]
   refine wpAnyH_done (by kernel_rfl) ?_ _
   go_wp2_with fail
   go_meet
   case rel => first | exact varRel_mk (HO5.out.below (G.bl_alloc (Below.refl _ _) _)) (G.bl_alloc (G.bl_trans (G.bl_trans (Below.refl _ _).drew HB4.out) HB5.out) _) (G.Blk.new _ _ _) (by have s4 := HB4.out.size; have s5 := HB5.out.size; first | omega | (simp at s4 s5 ⊢; omega)) | exact varRel_mk HO5.out (G.bl_trans (G.bl_alloc (G.bl_trans (Below.refl _ _).drew HB4.out) _) HB5.out) (blk_after HB5.out) (by have s4 := HB4.out.size; have s5 := HB5.out.size; first | omega | (simp at s4 s5 ⊢; omega)) | exact varRel_mk HO5.out (G.bl_trans (G.bl_trans (G.bl_alloc (Below.refl _ _) _).drew HB4.out) HB5.out) (blk_after3 HB4.out HB5.out) (by have s4 := HB4.out.size; have s5 := HB5.out.size; first | omega | (simp at s4 s5 ⊢; omega))
  exact AllReadyH.nil
 obtain ⟨g3, x3, rfl, rfl, hB3, hr3, hb3⟩ := hcut
 have HBL4 := Lib.hid (G.bl_trans HB3.out hb3)
 have HED := Lib.hid (show EvD b y g3 (x3.arr smallA) wc from ⟨HE3.out.below hb3, run_st hB3 rfl, hB3, rfl⟩)
 have HCP := Lib.hid (fun W (hW : Below wc.heap.size wc W) => copyState_any x3 smallA W (hr3.below hW) (may_sz smallA_may))
 have hblt2 : b < wc.heap.size := Nat.lt_of_lt_of_le hblt hb3.size
 have hg3 := hB3.lt
 have HR3 := Lib.hid hr3
 clear hB3 hr3 hb3
 go_upto_region 5 with (fail)
 obtain ⟨w9, hw9⟩ : ∃ w9 : World, w9 = wc := ⟨_, rfl⟩
 subst hw9
 go_cut [5, 6] from 12 to 76 (fun s5 s6 wx => VarRel w9 smallS s5 s6 wx)
 case first =>
  refine wp_region_held_drew (S := EvD b y g3 (x3.arr smallA)) (by kernel_rfl) ?_ (fun hHeld => ?_)
  ·exact EvD.below HED.out (Below.refl _ _).drew
  refine wpAnyH_take (i := 0) (oi := ⟨some 36, _, _, _, _, _⟩) (v := ?_) rfl (by kernel_rfl) (by kernel_rfl) (by kernel_rfl) (fun _ _ _ h => h) (Or.inl ⟨by rfl, ?_⟩) (by assumption) ?_
  rotate_left
  ·(intro w hSw; refine exec_load_held 27 (.tmp 3) ?_ g3 ?_ _ hSw.2.1 <;> rfl)
  try simp only [Act.put, List.setIfInBounds_toArray, List.set_cons_zero, List.set_cons_succ]
  refine wpAnyH_take (i := 2) (oi := ⟨some 38, _, _, _, _, _⟩) (v := ?_) rfl (by kernel_rfl) (by kernel_rfl) (by kernel_rfl) (fun _ _ _ h => h) (Or.inl ⟨by rfl, ?_⟩) (by assumption) ?_
  rotate_left
  ·(intro w hSw; unfold EvD at hSw; go_split_ands; go_simp; try with_reducible rfl)
  try simp only [Act.put, List.setIfInBounds_toArray, List.set_cons_zero, List.set_cons_succ]
  refine wpAnyH_take (i := 3) (oi := ⟨some 39, _, _, _, _, _⟩) (v := ?_) rfl (by kernel_rfl) (by kernel_rfl) (by kernel_rfl) (fun _ _ _ h => h) (Or.inl ⟨by rfl, ?_⟩) (by assumption) ?_
  rotate_left
  ·(intro w hSw; unfold EvD at hSw; go_split_ands; go_simp; try with_reducible rfl)
  try simp only [Act.put, List.setIfInBounds_toArray, List.set_cons_zero, List.set_cons_succ]
  refine wpAnyH_take (i := 4) (oi := ⟨some 40, _, _, _, _, _⟩) (v := ?_) rfl (by kernel_rfl) (by kernel_rfl) (by kernel_rfl) (fun _ _ _ h => h) (Or.inl ⟨by rfl, ?_⟩) (by assumption) ?_
  rotate_left
  ·(intro w hSw; refine exec_load_held 30 (.tmp 39) ?_ b ?_ _ hSw.1.1 <;> rfl)
  try simp only [Act.put, List.setIfInBounds_toArray, List.set_cons_zero, List.set_cons_succ]
  refine wpAnyH_ready (rs := [1, 9]) (by kernel_rfl) (by simp) ?_
  refine AllReadyH.cons rfl (fun K hK => ?_) ?_
  ·go_simp
   (refine (HCP.out _ (by first | exact (Below.refl _ _).drew | exact (G.bl_alloc (Below.refl _ _) _).drew | exact G.bl_alloc (Below.refl _ _).drew _)).mono ?_; rintro e6 w6 hp6; obtain ⟨x6, rfl, ho6, hb6⟩ := hp6; have HB6 := Lib.hid hb6; have HUN := Lib.hid (fun W (hW : Below w6.heap.size w6 W) => undo_any x6 smallA y evL W (ho6.rd.below hW) (may_sz smallA_may) (evL_rd _ _) evL_fits (by decide)); clear ho6 hb6)
   go_wp2_with fail
   refine hK.out _ _ ?_ (fun hHeld => ?_)
   ·exact EvD.below (by assumption) HB6.out
   clear hK K
   try simp only [Act.put, List.setIfInBounds_toArray, List.set_cons_zero, List.set_cons_succ]
   refine wpAnyH_ready (rs := [5, 9]) (by kernel_rfl) (by simp) ?_
   refine AllReadyH.cons rfl (fun K hK => ?_) ?_
   ·go_simp
    (refine (HUN.out _ (by first | exact Below.refl _ _ | exact G.bl_alloc (Below.refl _ _) _)).mono ?_; rintro e7 w7 hp7; obtain ⟨x7, t7, k7, rfl, ho7, hb7, hc7⟩ := hp7; obtain ⟨rfl, rfl⟩ := one_yes hc7 smallA_may small_back; have HO7 := Lib.hid ho7; have HB7 := Lib.hid hb7; clear hb7 hc7 ho7)
    go_wp2_with fail
    refine hK.out _ _ ?_ (fun hHeld => ?_)
    ·exact EvD.below (by assumption) HB7.out
    clear hK K
    try simp only [Act.put, List.setIfInBounds_toArray, List.set_cons_zero, List.set_cons_succ]
    refine wpAnyH_take (i := 6) (oi := ⟨some 35, _, _, _, _, _⟩) (v := ?_) rfl (by kernel_rfl) (by kernel_rfl) (by kernel_rfl) (fun _ _ _ h => h) (Or.inl ⟨by rfl, ?_⟩) (by assumption) ?_
    rotate_left
    ·(intro w hSw; unfold EvD at hSw; go_split_ands; go_simp; try with_reducible rfl)
    try simp only [Act.put, List.setIfInBounds_toArray, List.set_cons_zero, List.set_cons_succ]
    refine wpAnyH_take (i := 7) (oi := ⟨some 42, _, _, _, _, _⟩) (v := ?_) rfl (by kernel_rfl) (by kernel_rfl) (by kernel_rfl) (fun _ _ _ h => h) (Or.inl ⟨by rfl, ?_⟩) (by assumption) ?_
    rotate_left
    ·(intro w hSw; unfold EvD at hSw; go_split_ands; go_simp; try with_reducible rfl)
    try simp only [Act.put, List.setIfInBounds_toArray, List.set_cons_zero, List.set_cons_succ]
    refine wpAnyH_take (i := 8) (oi := ⟨some 43, _, _, _, _, _⟩) (v := ?_) rfl (by kernel_rfl) (by kernel_rfl) (by kernel_rfl) (fun _ _ _ h => h) (Or.inl ⟨by rfl, ?_⟩) (by assumption) ?_
    rotate_left
    ·(intro w hSw; unfold EvD at hSw; go_split_ands; go_simp; try with_reducible rfl)
    try simp only [Act.put, List.setIfInBounds_toArray, List.set_cons_zero, List.set_cons_succ]
    refine wpAnyH_ready (rs := [9]) (by kernel_rfl) (by simp) ?_
    refine AllReadyH.cons rfl (fun K hK => ?_) AllReadyH.nil
    go_simp
    go_wp2_with fail
    refine hK.out _ _ ?_ (fun hHeld => ?_)
    ·exact EvD.below (by assumption) (G.bl_alloc (Below.refl _ _) _)
    clear hK K
    try simp only [Act.put, List.setIfInBounds_toArray, List.set_cons_zero, List.set_cons_succ]
    refine wpAnyH_ready (rs := [10]) (by kernel_rfl) (by simp) ?_
    refine AllReadyH.cons rfl (fun K hK => ?_) AllReadyH.nil
    first | (refine wp_store_row 27 (.tmp 5) (.tmp 42) rfl _ (x7.arr smallS) rfl rfl 27 #[.slice none 0 0, .slice none 0 0, .slice none 0 0, .int .i32 0, .int .i64 0, .int .i8 0, .int .i64 0] (heap_alloc_new _ _) (by kernel_rfl) rfl (arr_one _ _) ?_) | (refine wp_store_row 27 (.tmp 5) (.tmp 42) rfl _ (x7.arr smallS) rfl rfl 27 #[.slice none 0 0, .slice none 0 0, .slice none 0 0, .int .i32 0, .int .i64 0, .int .i8 0, .int .i64 0] (blk_after HB7.out) (by kernel_rfl) rfl (arr_one _ _) ?_) | (refine wp_store_row 27 (.tmp 5) (.tmp 42) rfl _ (x7.arr smallS) rfl rfl 27 #[.slice none 0 0, .slice none 0 0, .slice none 0 0, .int .i32 0, .int .i64 0, .int .i8 0, .int .i64 0] (blk_after3 HB6.out HB7.out) (by kernel_rfl) rfl (arr_one _ _) ?_)
    try simp only [Act.put, List.getElem_toArray, List.getElem_cons_succ, List.getElem_cons_zero]
    refine hK.out _ _ ?_ (fun hHeld => ?_)
    ·exact EvD.row (by assumption) (by first | exact G.Blk.new _ _ _ | exact blk_after HB7.out | exact blk_after3 HB6.out HB7.out) (by have s4 := HB6.out.size; have s5 := HB7.out.size; first | omega | (simp at s4 s5 ⊢; omega)) (by have s4 := HB6.out.size; have s5 := HB7.out.size; first | omega | (simp at s4 s5 ⊢; omega))
    clear hK K
    try simp only [Act.put, List.setIfInBounds_toArray, List.set_cons_zero, List.set_cons_succ]
    refine wpAnyH_take (i := 11) (oi := ⟨some 6, _, _, _, _, _⟩) (v := ?_) rfl (by kernel_rfl) (by kernel_rfl) (by kernel_rfl) (fun _ _ _ h => h) (Or.inl ⟨by rfl, ?_⟩) (by assumption) ?_
    rotate_left
    ·(intro w hSw; unfold EvD at hSw; go_split_ands; go_simp; try with_reducible rfl)
    try simp only [Act.put, List.setIfInBounds_toArray, List.set_cons_zero, List.set_cons_succ]
    refine wpAnyH_done (by kernel_rfl) ?_ _
    go_wp2_with fail
    go_meet
    case rel => first | exact varRel_mk (HO7.out.below (G.bl_alloc (Below.refl _ _) _)) (G.bl_alloc (G.bl_trans (G.bl_trans (Below.refl _ _).drew HB6.out) HB7.out) _) (G.Blk.new _ _ _) (by have s4 := HB6.out.size; have s5 := HB7.out.size; first | omega | (simp at s4 s5 ⊢; omega)) | exact varRel_mk HO7.out (G.bl_trans (G.bl_alloc (G.bl_trans (Below.refl _ _).drew HB6.out) _) HB7.out) (blk_after HB7.out) (by have s4 := HB6.out.size; have s5 := HB7.out.size; first | omega | (simp at s4 s5 ⊢; omega)) | exact varRel_mk HO7.out (G.bl_trans (G.bl_trans (G.bl_alloc (Below.refl _ _) _).drew HB6.out) HB7.out) (blk_after3 HB6.out HB7.out) (by have s4 := HB6.out.size; have s5 := HB7.out.size; first | omega | (simp at s4 s5 ⊢; omega))
   refine AllReadyH.cons rfl (fun K hK => ?_) ?_
   ·go_simp
    go_wp2_with fail
    refine hK.out _ _ ?_ (fun hHeld => ?_)
    ·exact EvD.below (by assumption) (G.bl_alloc (Below.refl _ _) _)
    clear hK K
    try simp only [Act.put, List.setIfInBounds_toArray, List.set_cons_zero, List.set_cons_succ]
    refine wpAnyH_ready (rs := [5]) (by kernel_rfl) (by simp) ?_
    refine AllReadyH.cons rfl (fun K hK => ?_) AllReadyH.nil
    go_simp
    (refine (HUN.out _ (by first | exact Below.refl _ _ | exact G.bl_alloc (Below.refl _ _) _)).mono ?_; rintro e7 w7 hp7; obtain ⟨x7, t7, k7, rfl, ho7, hb7, hc7⟩ := hp7; obtain ⟨rfl, rfl⟩ := one_yes hc7 smallA_may small_back; have HO7 := Lib.hid ho7; have HB7 := Lib.hid hb7; clear hb7 hc7 ho7)
    go_wp2_with fail
    refine hK.out _ _ ?_ (fun hHeld => ?_)
    ·exact EvD.below (by assumption) HB7.out
    clear hK K
    try simp only [Act.put, List.setIfInBounds_toArray, List.set_cons_zero, List.set_cons_succ]
    refine wpAnyH_take (i := 6) (oi := ⟨some 35, _, _, _, _, _⟩) (v := ?_) rfl (by kernel_rfl) (by kernel_rfl) (by kernel_rfl) (fun _ _ _ h => h) (Or.inl ⟨by rfl, ?_⟩) (by assumption) ?_
    rotate_left
    ·(intro w hSw; unfold EvD at hSw; go_split_ands; go_simp; try with_reducible rfl)
    try simp only [Act.put, List.setIfInBounds_toArray, List.set_cons_zero, List.set_cons_succ]
    refine wpAnyH_take (i := 7) (oi := ⟨some 42, _, _, _, _, _⟩) (v := ?_) rfl (by kernel_rfl) (by kernel_rfl) (by kernel_rfl) (fun _ _ _ h => h) (Or.inl ⟨by rfl, ?_⟩) (by assumption) ?_
    rotate_left
    ·(intro w hSw; unfold EvD at hSw; go_split_ands; go_simp; try with_reducible rfl)
    try simp only [Act.put, List.setIfInBounds_toArray, List.set_cons_zero, List.set_cons_succ]
    refine wpAnyH_take (i := 8) (oi := ⟨some 43, _, _, _, _, _⟩) (v := ?_) rfl (by kernel_rfl) (by kernel_rfl) (by kernel_rfl) (fun _ _ _ h => h) (Or.inl ⟨by rfl, ?_⟩) (by assumption) ?_
    rotate_left
    ·(intro w hSw; unfold EvD at hSw; go_split_ands; go_simp; try with_reducible rfl)
    try simp only [Act.put, List.setIfInBounds_toArray, List.set_cons_zero, List.set_cons_succ]
    refine wpAnyH_ready (rs := [10]) (by kernel_rfl) (by simp) ?_
    refine AllReadyH.cons rfl (fun K hK => ?_) AllReadyH.nil
    first | (refine wp_store_row 27 (.tmp 5) (.tmp 42) rfl _ (x7.arr smallS) rfl rfl 27 #[.slice none 0 0, .slice none 0 0, .slice none 0 0, .int .i32 0, .int .i64 0, .int .i8 0, .int .i64 0] (heap_alloc_new _ _) (by kernel_rfl) rfl (arr_one _ _) ?_) | (refine wp_store_row 27 (.tmp 5) (.tmp 42) rfl _ (x7.arr smallS) rfl rfl 27 #[.slice none 0 0, .slice none 0 0, .slice none 0 0, .int .i32 0, .int .i64 0, .int .i8 0, .int .i64 0] (blk_after HB7.out) (by kernel_rfl) rfl (arr_one _ _) ?_) | (refine wp_store_row 27 (.tmp 5) (.tmp 42) rfl _ (x7.arr smallS) rfl rfl 27 #[.slice none 0 0, .slice none 0 0, .slice none 0 0, .int .i32 0, .int .i64 0, .int .i8 0, .int .i64 0] (blk_after3 HB6.out HB7.out) (by kernel_rfl) rfl (arr_one _ _) ?_)
    try simp only [Act.put, List.getElem_toArray, List.getElem_cons_succ, List.getElem_cons_zero]
    refine hK.out _ _ ?_ (fun hHeld => ?_)
    ·exact EvD.row (by assumption) (by first | exact G.Blk.new _ _ _ | exact blk_after HB7.out | exact blk_after3 HB6.out HB7.out) (by have s4 := HB6.out.size; have s5 := HB7.out.size; first | omega | (simp at s4 s5 ⊢; omega)) (by have s4 := HB6.out.size; have s5 := HB7.out.size; first | omega | (simp at s4 s5 ⊢; omega))
    clear hK K
    try simp only [Act.put, List.setIfInBounds_toArray, List.set_cons_zero, List.set_cons_succ]
    refine wpAnyH_take (i := 11) (oi := ⟨some 6, _, _, _, _, _⟩) (v := ?_) rfl (by kernel_rfl) (by kernel_rfl) (by kernel_rfl) (fun _ _ _ h => h) (Or.inl ⟨by rfl, ?_⟩) (by assumption) ?_
    rotate_left
    ·(intro w hSw; unfold EvD at hSw; go_split_ands; go_simp; try with_reducible rfl)
    try simp only [Act.put, List.setIfInBounds_toArray, List.set_cons_zero, List.set_cons_succ]
    refine wpAnyH_done (by kernel_rfl) ?_ _
    go_wp2_with fail
    go_meet
    case rel => first | exact varRel_mk (HO7.out.below (G.bl_alloc (Below.refl _ _) _)) (G.bl_alloc (G.bl_trans (G.bl_trans (Below.refl _ _).drew HB6.out) HB7.out) _) (G.Blk.new _ _ _) (by have s4 := HB6.out.size; have s5 := HB7.out.size; first | omega | (simp at s4 s5 ⊢; omega)) | exact varRel_mk HO7.out (G.bl_trans (G.bl_alloc (G.bl_trans (Below.refl _ _).drew HB6.out) _) HB7.out) (blk_after HB7.out) (by have s4 := HB6.out.size; have s5 := HB7.out.size; first | omega | (simp at s4 s5 ⊢; omega)) | exact varRel_mk HO7.out (G.bl_trans (G.bl_trans (G.bl_alloc (Below.refl _ _) _).drew HB6.out) HB7.out) (blk_after3 HB6.out HB7.out) (by have s4 := HB6.out.size; have s5 := HB7.out.size; first | omega | (simp at s4 s5 ⊢; omega))
   exact AllReadyH.nil
  refine AllReadyH.cons rfl (fun K hK => ?_) ?_
  ·go_simp
   go_wp2_with fail
   refine hK.out _ _ ?_ (fun hHeld => ?_)
   ·exact EvD.below (by assumption) (G.bl_alloc (Below.refl _ _) _)
   clear hK K
   try simp only [Act.put, List.setIfInBounds_toArray, List.set_cons_zero, List.set_cons_succ]
   refine wpAnyH_ready (rs := [1]) (by kernel_rfl) (by simp) ?_
   refine AllReadyH.cons rfl (fun K hK => ?_) AllReadyH.nil
   go_simp
   (refine (HCP.out _ (by first | exact (Below.refl _ _).drew | exact (G.bl_alloc (Below.refl _ _) _).drew | exact G.bl_alloc (Below.refl _ _).drew _)).mono ?_; rintro e6 w6 hp6; obtain ⟨x6, rfl, ho6, hb6⟩ := hp6; have HB6 := Lib.hid hb6; have HUN := Lib.hid (fun W (hW : Below w6.heap.size w6 W) => undo_any x6 smallA y evL W (ho6.rd.below hW) (may_sz smallA_may) (evL_rd _ _) evL_fits (by decide)); clear ho6 hb6)
   go_wp2_with fail
   refine hK.out _ _ ?_ (fun hHeld => ?_)
   ·exact EvD.below (by assumption) HB6.out
   clear hK K
   try simp only [Act.put, List.setIfInBounds_toArray, List.set_cons_zero, List.set_cons_succ]
   refine wpAnyH_ready (rs := [5]) (by kernel_rfl) (by simp) ?_
   refine AllReadyH.cons rfl (fun K hK => ?_) AllReadyH.nil
   go_simp
   (refine (HUN.out _ (by first | exact Below.refl _ _ | exact G.bl_alloc (Below.refl _ _) _)).mono ?_; rintro e7 w7 hp7; obtain ⟨x7, t7, k7, rfl, ho7, hb7, hc7⟩ := hp7; obtain ⟨rfl, rfl⟩ := one_yes hc7 smallA_may small_back; have HO7 := Lib.hid ho7; have HB7 := Lib.hid hb7; clear hb7 hc7 ho7)
   go_wp2_with fail
   refine hK.out _ _ ?_ (fun hHeld => ?_)
   ·exact EvD.below (by assumption) HB7.out
   clear hK K
   try simp only [Act.put, List.setIfInBounds_toArray, List.set_cons_zero, List.set_cons_succ]
   refine wpAnyH_take (i := 6) (oi := ⟨some 35, _, _, _, _, _⟩) (v := ?_) rfl (by kernel_rfl) (by kernel_rfl) (by kernel_rfl) (fun _ _ _ h => h) (Or.inl ⟨by rfl, ?_⟩) (by assumption) ?_
   rotate_left
   ·(intro w hSw; unfold EvD at hSw; go_split_ands; go_simp; try with_reducible rfl)
   try simp only [Act.put, List.setIfInBounds_toArray, List.set_cons_zero, List.set_cons_succ]
   refine wpAnyH_take (i := 7) (oi := ⟨some 42, _, _, _, _, _⟩) (v := ?_) rfl (by kernel_rfl) (by kernel_rfl) (by kernel_rfl) (fun _ _ _ h => h) (Or.inl ⟨by rfl, ?_⟩) (by assumption) ?_
   rotate_left
   ·(intro w hSw; unfold EvD at hSw; go_split_ands; go_simp; try with_reducible rfl)
   try simp only [Act.put, List.setIfInBounds_toArray, List.set_cons_zero, List.set_cons_succ]
   refine wpAnyH_take (i := 8) (oi := ⟨some 43, _, _, _, _, _⟩) (v := ?_) rfl (by kernel_rfl) (by kernel_rfl) (by kernel_rfl) (fun _ _ _ h => h) (Or.inl ⟨by rfl, ?_⟩) (by assumption) ?_
   rotate_left
   ·(intro w hSw; unfold EvD at hSw; go_split_ands; go_simp; try with_reducible rfl)
   try simp only [Act.put, List.setIfInBounds_toArray, List.set_cons_zero, List.set_cons_succ]
   refine wpAnyH_ready (rs := [10]) (by kernel_rfl) (by simp) ?_
   refine AllReadyH.cons rfl (fun K hK => ?_) AllReadyH.nil
   first | (refine wp_store_row 27 (.tmp 5) (.tmp 42) rfl _ (x7.arr smallS) rfl rfl 27 #[.slice none 0 0, .slice none 0 0, .slice none 0 0, .int .i32 0, .int .i64 0, .int .i8 0, .int .i64 0] (heap_alloc_new _ _) (by kernel_rfl) rfl (arr_one _ _) ?_) | (refine wp_store_row 27 (.tmp 5) (.tmp 42) rfl _ (x7.arr smallS) rfl rfl 27 #[.slice none 0 0, .slice none 0 0, .slice none 0 0, .int .i32 0, .int .i64 0, .int .i8 0, .int .i64 0] (blk_after HB7.out) (by kernel_rfl) rfl (arr_one _ _) ?_) | (refine wp_store_row 27 (.tmp 5) (.tmp 42) rfl _ (x7.arr smallS) rfl rfl 27 #[.slice none 0 0, .slice none 0 0, .slice none 0 0, .int .i32 0, .int .i64 0, .int .i8 0, .int .i64 0] (blk_after3 HB6.out HB7.out) (by kernel_rfl) rfl (arr_one _ _) ?_)
   try simp only [Act.put, List.getElem_toArray, List.getElem_cons_succ, List.getElem_cons_zero]
   refine hK.out _ _ ?_ (fun hHeld => ?_)
   ·exact EvD.row (by assumption) (by first | exact G.Blk.new _ _ _ | exact blk_after HB7.out | exact blk_after3 HB6.out HB7.out) (by have s4 := HB6.out.size; have s5 := HB7.out.size; first | omega | (simp at s4 s5 ⊢; omega)) (by have s4 := HB6.out.size; have s5 := HB7.out.size; first | omega | (simp at s4 s5 ⊢; omega))
   clear hK K
   try simp only [Act.put, List.setIfInBounds_toArray, List.set_cons_zero, List.set_cons_succ]
   refine wpAnyH_take (i := 11) (oi := ⟨some 6, _, _, _, _, _⟩) (v := ?_) rfl (by kernel_rfl) (by kernel_rfl) (by kernel_rfl) (fun _ _ _ h => h) (Or.inl ⟨by rfl, ?_⟩) (by assumption) ?_
   rotate_left
   ·(intro w hSw; unfold EvD at hSw; go_split_ands; go_simp; try with_reducible rfl)
   try simp only [Act.put, List.setIfInBounds_toArray, List.set_cons_zero, List.set_cons_succ]
   refine wpAnyH_done (by kernel_rfl) ?_ _
   go_wp2_with fail
   go_meet
   case rel => first | exact varRel_mk (HO7.out.below (G.bl_alloc (Below.refl _ _) _)) (G.bl_alloc (G.bl_trans (G.bl_trans (Below.refl _ _).drew HB6.out) HB7.out) _) (G.Blk.new _ _ _) (by have s4 := HB6.out.size; have s5 := HB7.out.size; first | omega | (simp at s4 s5 ⊢; omega)) | exact varRel_mk HO7.out (G.bl_trans (G.bl_alloc (G.bl_trans (Below.refl _ _).drew HB6.out) _) HB7.out) (blk_after HB7.out) (by have s4 := HB6.out.size; have s5 := HB7.out.size; first | omega | (simp at s4 s5 ⊢; omega)) | exact varRel_mk HO7.out (G.bl_trans (G.bl_trans (G.bl_alloc (Below.refl _ _) _).drew HB6.out) HB7.out) (blk_after3 HB6.out HB7.out) (by have s4 := HB6.out.size; have s5 := HB7.out.size; first | omega | (simp at s4 s5 ⊢; omega))
  exact AllReadyH.nil
 obtain ⟨g5, x5, rfl, rfl, hB5, hr5, hb5⟩ := hcut
 have HBL5 := Lib.hid (G.bl_trans HBL4.out hb5)
 have HR5 := Lib.hid hr5
 have hRA := HR3.out.below hb5
 have hBA := HED.out.2.2.1.below hb5 HED.out.2.2.1.lt
 obtain ⟨bz, oz, hza, h0⟩ := rows_at (i := 0) hRA.z (by decide)
 obtain ⟨bz1, oz1, hza1, h1⟩ := rows_at (i := 1) hRA.z (by decide)
 rw [hza] at hza1
 simp only [Option.some.injEq, Addr.mk.injEq, and_true] at hza1
 obtain ⟨rfl, rfl⟩ := hza1
 obtain ⟨a0, k0, hv0, _⟩ := hRA.rows 0 (by decide)
 obtain ⟨a1, k1, hv1, _⟩ := hRA.rows 1 (by decide)
 rw [hv0] at h0
 rw [hv1] at h1
 obtain ⟨zc, hzc⟩ : ∃ q, q = x3.zc := ⟨_, rfl⟩
 have HLV := Lib.hid (show LvS g3 bz oz zc a0 k0 a1 k1 g5 (x5.arr smallS) wc from ⟨by have h9 := hBA.cell 2; rw [h9, hzc, ← hza]; rfl, h0, h1, run_st hB5 rfl, hB5, rfl⟩)
 clear hB5 hr5 hb5 hRA hBA hza h0 h1 hv0 hv1 hzc
 go_upto_region 6 with (fail)
 refine wp_region_held_drew (S := LvS g3 bz oz zc a0 k0 a1 k1 g5 (x5.arr smallS)) (by kernel_rfl) ?_ (fun hHeld => ?_)
 ·exact LvS.below HLV.out (Below.refl _ _).drew
 refine wpAnyH_take (i := 0) (oi := ⟨some 44, _, _, _, _, _⟩) (v := ?_) rfl (by kernel_rfl) (by kernel_rfl) (by kernel_rfl) (fun _ _ _ h => h) (Or.inl ⟨by rfl, ?_⟩) (by assumption) ?_
 rotate_left
 ·(intro w hSw; unfold LvS at hSw; go_split_ands; go_simp; try with_reducible rfl)
 try simp only [Act.put, List.setIfInBounds_toArray, List.set_cons_zero, List.set_cons_succ]
 refine wpAnyH_take (i := 1) (oi := ⟨some 45, _, _, _, _, _⟩) (v := ?_) rfl (by kernel_rfl) (by kernel_rfl) (by kernel_rfl) (fun _ _ _ h => h) (Or.inl ⟨by rfl, ?_⟩) (by assumption) ?_
 rotate_left
 ·(intro w hSw; unfold LvS at hSw; go_split_ands; go_simp; try with_reducible rfl)
 try simp only [Act.put, List.setIfInBounds_toArray, List.set_cons_zero, List.set_cons_succ]
 refine wpAnyH_take (i := 2) (oi := ⟨some 46, _, _, _, _, _⟩) (v := ?_) rfl (by kernel_rfl) (by kernel_rfl) (by kernel_rfl) (fun _ _ _ h => h) (Or.inl ⟨by rfl, ?_⟩) (by assumption) ?_
 rotate_left
 ·(intro w hSw; unfold LvS at hSw; go_split_ands; go_simp; try with_reducible rfl)
 try simp only [Act.put, List.setIfInBounds_toArray, List.set_cons_zero, List.set_cons_succ]
 refine wpAnyH_take (i := 3) (oi := ⟨some 47, _, _, _, _, _⟩) (v := ?_) rfl (by kernel_rfl) (by kernel_rfl) (by kernel_rfl) (fun _ _ _ h => h) (Or.inl ⟨by rfl, ?_⟩) (by assumption) ?_
 rotate_left
 ·(intro w hSw; unfold LvS at hSw; go_split_ands; go_simp; try with_reducible rfl)
 try simp only [Act.put, List.setIfInBounds_toArray, List.set_cons_zero, List.set_cons_succ]
 refine wpAnyH_take (i := 4) (oi := ⟨some 48, _, _, _, _, _⟩) (v := ?_) rfl (by kernel_rfl) (by kernel_rfl) (by kernel_rfl) (fun _ _ _ h => h) (Or.inl ⟨by rfl, ?_⟩) (by assumption) ?_
 rotate_left
 ·(intro w hSw; unfold LvS at hSw; go_split_ands; go_simp; try with_reducible rfl)
 try simp only [Act.put, List.setIfInBounds_toArray, List.set_cons_zero, List.set_cons_succ]
 refine wpAnyH_take (i := 5) (oi := ⟨some 49, _, _, _, _, _⟩) (v := ?_) rfl (by kernel_rfl) (by kernel_rfl) (by kernel_rfl) (fun _ _ _ h => h) (Or.inl ⟨by rfl, ?_⟩) (by assumption) ?_
 rotate_left
 ·(intro w hSw; unfold LvS at hSw; go_split_ands; go_simp; try with_reducible rfl)
 try simp only [Act.put, List.setIfInBounds_toArray, List.set_cons_zero, List.set_cons_succ]
 refine wpAnyH_take (i := 6) (oi := ⟨some 50, _, _, _, _, _⟩) (v := ?_) rfl (by kernel_rfl) (by kernel_rfl) (by kernel_rfl) (fun _ _ _ h => h) (Or.inl ⟨by rfl, ?_⟩) (by assumption) ?_
 rotate_left
 ·(intro w hSw; unfold LvS at hSw; go_split_ands; go_simp; try with_reducible rfl)
 try simp only [Act.put, List.setIfInBounds_toArray, List.set_cons_zero, List.set_cons_succ]
 refine wpAnyH_take (i := 7) (oi := ⟨some 51, _, _, _, _, _⟩) (v := ?_) rfl (by kernel_rfl) (by kernel_rfl) (by kernel_rfl) (fun _ _ _ h => h) (Or.inl ⟨by rfl, ?_⟩) (by assumption) ?_
 rotate_left
 ·(intro w hSw; unfold LvS at hSw; go_split_ands; go_simp; try with_reducible rfl)
 try simp only [Act.put, List.setIfInBounds_toArray, List.set_cons_zero, List.set_cons_succ]
 refine wpAnyH_take (i := 8) (oi := ⟨some 52, _, _, _, _, _⟩) (v := ?_) rfl (by kernel_rfl) (by kernel_rfl) (by kernel_rfl) (fun _ _ _ h => h) (Or.inl ⟨by rfl, ?_⟩) (by assumption) ?_
 rotate_left
 ·(intro w hSw; unfold LvS at hSw; go_split_ands; go_simp; try with_reducible rfl)
 try simp only [Act.put, List.setIfInBounds_toArray, List.set_cons_zero, List.set_cons_succ]
 refine wpAnyH_take (i := 9) (oi := ⟨some 53, _, _, _, _, _⟩) (v := ?_) rfl (by kernel_rfl) (by kernel_rfl) (by kernel_rfl) (fun _ _ _ h => h) (Or.inl ⟨by rfl, ?_⟩) (by assumption) ?_
 rotate_left
 ·(intro w hSw; unfold LvS at hSw; go_split_ands; go_simp; try with_reducible rfl)
 try simp only [Act.put, List.setIfInBounds_toArray, List.set_cons_zero, List.set_cons_succ]
 refine wpAnyH_take (i := 10) (oi := ⟨some 54, _, _, _, _, _⟩) (v := ?_) rfl (by kernel_rfl) (by kernel_rfl) (by kernel_rfl) (fun _ _ _ h => h) (Or.inl ⟨by rfl, ?_⟩) (by assumption) ?_
 rotate_left
 ·(intro w hSw; unfold LvS at hSw; go_split_ands; go_simp; try with_reducible rfl)
 try simp only [Act.put, List.setIfInBounds_toArray, List.set_cons_zero, List.set_cons_succ]
 refine wpAnyH_take (i := 11) (oi := ⟨some 55, _, _, _, _, _⟩) (v := ?_) rfl (by kernel_rfl) (by kernel_rfl) (by kernel_rfl) (fun _ _ _ h => h) (Or.inl ⟨by rfl, ?_⟩) (by assumption) ?_
 rotate_left
 ·(intro w hSw; unfold LvS at hSw; go_split_ands; go_simp; try with_reducible rfl)
 try simp only [Act.put, List.setIfInBounds_toArray, List.set_cons_zero, List.set_cons_succ]
 refine wpAnyH_take (i := 12) (oi := ⟨some 56, _, _, _, _, _⟩) (v := ?_) rfl (by kernel_rfl) (by kernel_rfl) (by kernel_rfl) (fun _ _ _ h => h) (Or.inl ⟨by rfl, ?_⟩) (by assumption) ?_
 rotate_left
 ·(intro w hSw; unfold LvS at hSw; go_split_ands; go_simp; try with_reducible rfl)
 try simp only [Act.put, List.setIfInBounds_toArray, List.set_cons_zero, List.set_cons_succ]
 refine wpAnyH_take (i := 13) (oi := ⟨some 57, _, _, _, _, _⟩) (v := ?_) rfl (by kernel_rfl) (by kernel_rfl) (by kernel_rfl) (fun _ _ _ h => h) (Or.inl ⟨by rfl, ?_⟩) (by assumption) ?_
 rotate_left
 ·(intro w hSw; unfold LvS at hSw; go_split_ands; go_simp; try with_reducible rfl)
 try simp only [Act.put, List.setIfInBounds_toArray, List.set_cons_zero, List.set_cons_succ]
 refine wpAnyH_take (i := 14) (oi := ⟨some 58, _, _, _, _, _⟩) (v := ?_) rfl (by kernel_rfl) (by kernel_rfl) (by kernel_rfl) (fun _ _ _ h => h) (Or.inl ⟨by rfl, ?_⟩) (by assumption) ?_
 rotate_left
 ·(intro w hSw; unfold LvS at hSw; go_split_ands; go_simp; try with_reducible rfl)
 try simp only [Act.put, List.setIfInBounds_toArray, List.set_cons_zero, List.set_cons_succ]
 refine wpAnyH_take (i := 15) (oi := ⟨some 59, _, _, _, _, _⟩) (v := ?_) rfl (by kernel_rfl) (by kernel_rfl) (by kernel_rfl) (fun _ _ _ h => h) (Or.inl ⟨by rfl, ?_⟩) (by assumption) ?_
 rotate_left
 ·(intro w hSw; unfold LvS at hSw; go_split_ands; go_simp; try with_reducible rfl)
 try simp only [Act.put, List.setIfInBounds_toArray, List.set_cons_zero, List.set_cons_succ]
 refine wpAnyH_take (i := 16) (oi := ⟨some 60, _, _, _, _, _⟩) (v := ?_) rfl (by kernel_rfl) (by kernel_rfl) (by kernel_rfl) (fun _ _ _ h => h) (Or.inl ⟨by rfl, ?_⟩) (by assumption) ?_
 rotate_left
 ·(intro w hSw; unfold LvS at hSw; go_split_ands; go_simp; try with_reducible rfl)
 try simp only [Act.put, List.setIfInBounds_toArray, List.set_cons_zero, List.set_cons_succ]
 refine wpAnyH_take (i := 17) (oi := ⟨some 61, _, _, _, _, _⟩) (v := ?_) rfl (by kernel_rfl) (by kernel_rfl) (by kernel_rfl) (fun _ _ _ h => h) (Or.inl ⟨by rfl, ?_⟩) (by assumption) ?_
 rotate_left
 ·(intro w hSw; unfold LvS at hSw; go_split_ands; go_simp; try with_reducible rfl)
 try simp only [Act.put, List.setIfInBounds_toArray, List.set_cons_zero, List.set_cons_succ]
 refine wpAnyH_take (i := 18) (oi := ⟨some 62, _, _, _, _, _⟩) (v := ?_) rfl (by kernel_rfl) (by kernel_rfl) (by kernel_rfl) (fun _ _ _ h => h) (Or.inl ⟨by rfl, ?_⟩) (by assumption) ?_
 rotate_left
 ·(intro w hSw; unfold LvS at hSw; go_split_ands; go_simp; try with_reducible rfl)
 try simp only [Act.put, List.setIfInBounds_toArray, List.set_cons_zero, List.set_cons_succ]
 refine wpAnyH_take (i := 19) (oi := ⟨some 63, _, _, _, _, _⟩) (v := ?_) rfl (by kernel_rfl) (by kernel_rfl) (by kernel_rfl) (fun _ _ _ h => h) (Or.inl ⟨by rfl, ?_⟩) (by assumption) ?_
 rotate_left
 ·(intro w hSw; unfold LvS at hSw; go_split_ands; go_simp; try with_reducible rfl)
 try simp only [Act.put, List.setIfInBounds_toArray, List.set_cons_zero, List.set_cons_succ]
 refine wpAnyH_take (i := 20) (oi := ⟨some 64, _, _, _, _, _⟩) (v := ?_) rfl (by kernel_rfl) (by kernel_rfl) (by kernel_rfl) (fun _ _ _ h => h) (Or.inl ⟨by rfl, ?_⟩) (by assumption) ?_
 rotate_left
 ·(intro w hSw; unfold LvS at hSw; go_split_ands; go_simp; try with_reducible rfl)
 try simp only [Act.put, List.setIfInBounds_toArray, List.set_cons_zero, List.set_cons_succ]
 refine wpAnyH_take (i := 21) (oi := ⟨some 65, _, _, _, _, _⟩) (v := ?_) rfl (by kernel_rfl) (by kernel_rfl) (by kernel_rfl) (fun _ _ _ h => h) (Or.inl ⟨by rfl, ?_⟩) (by assumption) ?_
 rotate_left
 ·(intro w hSw; unfold LvS at hSw; go_split_ands; go_simp; try with_reducible rfl)
 try simp only [Act.put, List.setIfInBounds_toArray, List.set_cons_zero, List.set_cons_succ]
 refine wpAnyH_take (i := 22) (oi := ⟨some 66, _, _, _, _, _⟩) (v := ?_) rfl (by kernel_rfl) (by kernel_rfl) (by kernel_rfl) (fun _ _ _ h => h) (Or.inl ⟨by rfl, ?_⟩) (by assumption) ?_
 rotate_left
 ·(intro w hSw; unfold LvS at hSw; go_split_ands; go_simp; try with_reducible rfl)
 try simp only [Act.put, List.setIfInBounds_toArray, List.set_cons_zero, List.set_cons_succ]
 refine wpAnyH_take (i := 23) (oi := ⟨some 67, _, _, _, _, _⟩) (v := ?_) rfl (by kernel_rfl) (by kernel_rfl) (by kernel_rfl) (fun _ _ _ h => h) (Or.inl ⟨by rfl, ?_⟩) (by assumption) ?_
 rotate_left
 ·(intro w hSw; unfold LvS at hSw; go_split_ands; go_simp; try with_reducible rfl)
 try simp only [Act.put, List.setIfInBounds_toArray, List.set_cons_zero, List.set_cons_succ]
 refine wpAnyH_take (i := 24) (oi := ⟨some 68, _, _, _, _, _⟩) (v := ?_) rfl (by kernel_rfl) (by kernel_rfl) (by kernel_rfl) (fun _ _ _ h => h) (Or.inl ⟨by rfl, ?_⟩) (by assumption) ?_
 rotate_left
 ·(intro w hSw; unfold LvS at hSw; go_split_ands; go_simp; try with_reducible rfl)
 try simp only [Act.put, List.setIfInBounds_toArray, List.set_cons_zero, List.set_cons_succ]
 refine wpAnyH_take (i := 25) (oi := ⟨some 69, _, _, _, _, _⟩) (v := ?_) rfl (by kernel_rfl) (by kernel_rfl) (by kernel_rfl) (fun _ _ _ h => h) (Or.inl ⟨by rfl, ?_⟩) (by assumption) ?_
 rotate_left
 ·(intro w hSw; unfold LvS at hSw; go_split_ands; go_simp; try with_reducible rfl)
 try simp only [Act.put, List.setIfInBounds_toArray, List.set_cons_zero, List.set_cons_succ]
 refine wpAnyH_take (i := 26) (oi := ⟨some 70, _, _, _, _, _⟩) (v := ?_) rfl (by kernel_rfl) (by kernel_rfl) (by kernel_rfl) (fun _ _ _ h => h) (Or.inl ⟨by rfl, ?_⟩) (by assumption) ?_
 rotate_left
 ·(intro w hSw; unfold LvS at hSw; go_split_ands; go_simp; try with_reducible rfl)
 try simp only [Act.put, List.setIfInBounds_toArray, List.set_cons_zero, List.set_cons_succ]
 refine wpAnyH_take (i := 27) (oi := ⟨some 71, _, _, _, _, _⟩) (v := ?_) rfl (by kernel_rfl) (by kernel_rfl) (by kernel_rfl) (fun _ _ _ h => h) (Or.inl ⟨by rfl, ?_⟩) (by assumption) ?_
 rotate_left
 ·(intro w hSw; unfold LvS at hSw; go_split_ands; go_simp; try with_reducible rfl)
 try simp only [Act.put, List.setIfInBounds_toArray, List.set_cons_zero, List.set_cons_succ]
 refine wpAnyH_take (i := 28) (oi := ⟨some 72, _, _, _, _, _⟩) (v := ?_) rfl (by kernel_rfl) (by kernel_rfl) (by kernel_rfl) (fun _ _ _ h => h) (Or.inl ⟨by rfl, ?_⟩) (by assumption) ?_
 rotate_left
 ·(intro w hSw; unfold LvS at hSw; go_split_ands; go_simp; try with_reducible rfl)
 try simp only [Act.put, List.setIfInBounds_toArray, List.set_cons_zero, List.set_cons_succ]
 refine wpAnyH_take (i := 29) (oi := ⟨some 73, _, _, _, _, _⟩) (v := ?_) rfl (by kernel_rfl) (by kernel_rfl) (by kernel_rfl) (fun _ _ _ h => h) (Or.inl ⟨by rfl, ?_⟩) (by assumption) ?_
 rotate_left
 ·(intro w hSw; refine exec_load_held 27 (.tmp 5) ?_ g5 ?_ _ hSw.2.2.2.1 <;> rfl)
 try simp only [Act.put, List.setIfInBounds_toArray, List.set_cons_zero, List.set_cons_succ]
 refine wpAnyH_ready (rs := [30]) (by kernel_rfl) (by simp) ?_
 refine AllReadyH.cons rfl (fun K hK => ?_) AllReadyH.nil
 go_simp
 ((with_reducible refine (small_any _).mono ?_); rintro e8 w8 hp8; obtain ⟨x8, rfl, hr8, hb8⟩ := hp8; have HB8 := Lib.hid hb8; have HES := Lib.hid (eqState_any x5 x8 smallS smallS w8 (HR5.out.below (G.bl_trans (Below.refl _ _).drew hb8)) hr8 small_sz small_sz); clear hr8 hb8)
 go_wp2_with fail
 refine hK.out _ _ ?_ (fun hHeld => ?_)
 ·exact LvS.below (by assumption) HB8.out
 clear hK K
 try simp only [Act.put, List.setIfInBounds_toArray, List.set_cons_zero, List.set_cons_succ]
 refine wpAnyH_ready (rs := [31]) (by kernel_rfl) (by simp) ?_
 refine AllReadyH.cons rfl (fun K hK => ?_) AllReadyH.nil
 go_simp
 (refine (HES.out).mono ?_; rintro e9 w10 hp9; obtain ⟨rfl, hb9⟩ := hp9; have HB9 := Lib.hid hb9; clear hb9)
 go_wp2_with fail
 refine hK.out _ _ ?_ (fun hHeld => ?_)
 ·exact LvS.below (by assumption) HB9.out
 clear hK K
 try simp only [Act.put, List.setIfInBounds_toArray, List.set_cons_zero, List.set_cons_succ]
 refine wpAnyH_take (i := 32) (oi := ⟨some 76, _, _, _, _, _⟩) (v := ?_) rfl (by kernel_rfl) (by kernel_rfl) (by kernel_rfl) (fun _ _ _ h => h) (Or.inl ⟨by rfl, ?_⟩) (by assumption) ?_
 rotate_left
 ·(intro w hSw; unfold LvS at hSw; go_split_ands; go_simp; try with_reducible rfl)
 try simp only [Act.put, List.setIfInBounds_toArray, List.set_cons_zero, List.set_cons_succ]
 refine wpAnyH_take (i := 33) (oi := ⟨some 0, _, _, _, _, _⟩) (v := ?_) rfl (by kernel_rfl) (by kernel_rfl) (by kernel_rfl) (fun _ _ _ h => h) (Or.inl ⟨by rfl, ?_⟩) (by assumption) ?_
 rotate_left
 ·(intro w hSw; unfold LvS at hSw; go_split_ands; go_simp; try with_reducible rfl)
 try simp only [Act.put, List.setIfInBounds_toArray, List.set_cons_zero, List.set_cons_succ]
 refine wpAnyH_done (by kernel_rfl) ?_ _
 go_wp2_with fail
 go_ret
 exact ⟨ret_bool (by simp), G.bl_trans (G.bl_trans (G.bl_trans HBL5.out (Below.refl _ _).drew) HB8.out) HB9.out⟩
end Go.Proofs.YtofgmijmhpmabaaGreatDoor.D

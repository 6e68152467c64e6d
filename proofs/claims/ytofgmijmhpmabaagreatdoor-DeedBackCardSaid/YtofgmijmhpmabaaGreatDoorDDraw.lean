/- The contract of deed.Draw. Printed by gen_draw.py. -/
import Derived.Test.YtofgmijmhpmabaaGreatDoorDMoveD
namespace Go.Proofs.YtofgmijmhpmabaaGreatDoor.D
open Go Go.RowKit
set_option linter.unusedVariables false
set_option linter.unusedSimpArgs false
def DrS (g : Nat) (cs : Array Value) (gn : Nat) (p : Int) (za : Value) (b1 o1 : Nat) (v1 : Value) (b2 o2 : Nat) (c : Int) (w : World) : Prop :=
  w.heap[g]? = some (.cells cs 27 (0, 0)) ∧ (loadVar 27 ⟨g, 0, none⟩).run Tryz.prog w = .ok (.agg cs) w ∧ w.cell? ⟨g, 2, none⟩ = some za ∧ w.cell? ⟨gn, 0, none⟩ = some (.int .i64 p) ∧ w.cell? ⟨b1, o1, none⟩ = some v1 ∧ w.cell? ⟨b2, o2, none⟩ = some (.int .i64 c)
theorem DrS.below {g : Nat} {cs : Array Value} {gn : Nat} {p c : Int} {za v1 : Value} {b1 o1 b2 o2 : Nat} {w w' : World} (h : DrS g cs gn p za b1 o1 v1 b2 o2 c w) (hb : Below w.heap.size w w') (hs : cs.size = 7) : DrS g cs gn p za b1 o1 v1 b2 o2 c w' := by
  obtain ⟨a1, a2, a3, a4, a5, a6⟩ := h
  have h1 := (hb.block _ (Array.getElem?_eq_some_iff.1 a1).1).trans a1
  exact ⟨h1, run_st h1 hs, (hb.cell (p := ⟨g, 2, none⟩) (World.block_lt_of_cell? _ _ a3)).trans a3, (hb.cell (p := ⟨gn, 0, none⟩) (World.block_lt_of_cell? _ _ a4)).trans a4, (hb.cell (p := ⟨b1, o1, none⟩) (World.block_lt_of_cell? _ _ a5)).trans a5, (hb.cell (p := ⟨b2, o2, none⟩) (World.block_lt_of_cell? _ _ a6)).trans a6⟩
theorem drawEv_nil {s : St} {p : Nat} (h : (s.zones.getD (4 * p) []).length = 0) : drawEv s p = [] := by
  unfold drawEv zone
  rw [show (4 * (p : Int)).toNat = 4 * p by omega, List.eq_nil_of_length_eq_zero h]
theorem drawEv_cons {s : St} {p : Nat} {c : Int} (h : 0 < (s.zones.getD (4 * p) []).length) (hc : (s.zones.getD (4 * p) []).getD 0 0 = c) : drawEv s p = moveEv s c (4 * (p : Int) + 1) false := by
  unfold drawEv zone
  rw [show (4 * (p : Int)).toNat = 4 * p by omega]
  cases hl : s.zones.getD (4 * p) [] with
  | nil => rw [hl] at h; simp at h
  | cons a l =>
    rw [hl] at hc
    simp only
    rw [show a = c from hc]
theorem askP_draw {s : St} {p : Nat} {c : Int} {w W w' : World} {A : Option Addr} {n k : Nat} {L : List (EV × Ev)} {q : Int} (hm : May s) (ho : Within (p : Int) s.players.length) (hc : Within c s.cards.length) (hp : 4 * p + 1 < s.zones.length) (hd : drawEv s p = moveEv s c (4 * (p : Int) + 1) false)
    (hb : Below w.heap.size w W) (h1 : OwnEvs w' W.heap.size A n k L) (h2 : Below W.heap.size W w') (h3 : (q = 10 ∧ ¬ May s ∧ L = []) ∨ (q = 1 ∧ May s ∧ ¬ (Within c s.cards.length ∧ Within (4 * (p : Int) + 1) s.zones.length) ∧ L = []) ∨ (q = 0 ∧ May s ∧ (Within c s.cards.length ∧ Within (4 * (p : Int) + 1) s.zones.length) ∧ L.map Prod.snd = moveEv s c (4 * (p : Int) + 1) false)) :
    AskPost s (Within (p : Int) s.players.length) (drawEv s p) w (.returned (.tuple #[.slice A n k, .int .i64 q])) w' := by
  refine ⟨A, n, k, L, q, rfl, h1.ge hb.size, G.bl_trans hb h2, ?_⟩
  rcases h3 with h | ⟨a, _, b, _⟩ | ⟨a, b, _, d⟩
  · exact absurd hm h.2.1
  · exact absurd ⟨hc, ⟨by omega, by omega⟩⟩ b
  · exact .inr (.inr ⟨a, b, ho, d.trans hd.symm⟩)
set_option maxRecDepth 100000 in
set_option maxHeartbeats 8000000 in
theorem draw_any (x : SV) (s : St) (p : Int) (w : World) (h : RdSt w x s) (hz : Sz s) :
    Calls Tryz.prog 87 #[x.val s, .int .i64 p] w (AskPost s (Within p s.players.length) (drawEv s p) w) := by
  have HRF := Lib.hid (fun W f eg caps b (hW : Below w.heap.size w W) hk => refused_any x s W (h.below hW) hz f eg caps b hk)
  have HMQ := Lib.hid (fun W card zn (hW : Below w.heap.size w W) => moveD_any x s card zn false W (h.below hW) hz)
  have HR := Lib.hid h
  have hz1 := hz.p
  have HQ := Lib.hid (fun gn g W h hn => askDraw_any x s gn g p W h hn hz1)
  obtain ⟨fsS, hfsS⟩ := undSt
  have HFS := Lib.hid hfsS
  have HCS := Lib.hid (show (x.arr s)[2]? = some (.slice x.za s.zones.length x.zc) from rfl)
  obtain ⟨cs, hcs⟩ : ∃ c, c = x.arr s := ⟨_, rfl⟩
  have HS := Lib.hid (show cs.size = 7 by rw [hcs]; rfl)
  have he : x.val s = .agg cs := by rw [hcs]; rfl
  rw [he] at HRF HMQ ⊢
  rw [← hcs] at HCS HQ
  clear h hz hcs he hfsS hz1
  have h1 : G.Blk ((w.alloc (.cells cs 27)).alloc (.cells #[.int .i64 p] 3)) w.heap.size 27 cs := heap_alloc2_old w (.cells cs 27) (.cells #[.int .i64 p] 3)
  have h2 : G.Blk ((w.alloc (.cells cs 27)).alloc (.cells #[.int .i64 p] 3)) (w.heap.size + 1) 3 #[.int .i64 p] := heap_alloc2_new w (.cells cs 27) (.cells #[.int .i64 p] 3)
  have hbl0 : Below w.heap.size w ((w.alloc (.cells cs 27)).alloc (.cells #[.int .i64 p] 3)) := G.bl_alloc (G.bl_alloc (Below.refl _ _) _) _
  go_enter Tryz.func87, Tryz.ntmps87
  go_upto_region 1 with (fail)
  obtain ⟨w0, hw0⟩ : ∃ w0, w0 = (w.alloc (.cells cs 27)).alloc (.cells #[.int .i64 p] 3) := ⟨_, rfl⟩
  rw [← hw0] at h1 h2 hbl0 ⊢
  clear hw0
  have HBL0 := Lib.hid hbl0
  obtain ⟨g, hg⟩ : ∃ g, g = w.heap.size := ⟨_, rfl⟩
  have HG := Lib.hid hg
  rw [← hg] at h1 h2 ⊢
  have HS0 := Lib.hid h1
  have HP0 := Lib.hid h2
  have HQ0 := Lib.hid (HRF.out w0 128 Tryz.call128 #[.pointer (some ⟨g + 1, 0, none⟩), .pointer (some ⟨g, 0, none⟩)] (withinB p s.players.length) hbl0 (fun _ W hW => HQ.out _ _ W (h1.below hW h1.lt) (h2.below hW h2.lt)))
  have l0 := h2.lt
  clear h1 h2 hbl0 hg
  go_wp2_with (refine wpList_load_row rfl 27 _ rfl g rfl _ cs (0, 0) _ HS0.out HFS.out rfl (by rw [HS.out]; exact sizeSt) ?_)
  refine (HQ0.out).mono ?_
  rintro e1 w1 hp1
  obtain ⟨k1, rfl, hb1, hk1⟩ := hp1
  have HBW1 := Lib.hid hb1
  have HBL1 := Lib.hid (G.bl_trans HBL0.out hb1)
  clear hb1
  rcases hk1 with ⟨rfl, hm⟩ | ⟨rfl, hm, hok⟩ | ⟨rfl, hm, hok⟩
  · have HM := Lib.hid hm
    clear hm
    go_wp2_with fail
    go_ret2
    exact askP_state HM.out HBL1.out
  · have HM := Lib.hid hm
    have HOK := Lib.hid (show ¬ (Within p s.players.length) by intro h; rw [within_yes h] at hok; cases hok)
    clear hm hok
    go_wp2_with fail
    go_ret2
    exact askP_arg HM.out HOK.out HBL1.out
  · have HM := Lib.hid hm
    have hok2 : Within p s.players.length := of_decide_eq_true hok
    have HOK := Lib.hid hok2
    obtain ⟨ho1, ho2⟩ := hok2
    obtain ⟨pk, rfl⟩ := Int.eq_ofNat_of_zero_le ho1
    have hn4 := hm.n4
    have hzn := hm.zn
    have hzl := may_zone hm (4 * pk)
    have hpk : pk < s.players.length := by omega
    obtain ⟨l, hl⟩ : ∃ l, l = s.zones.length := ⟨_, rfl⟩
    rw [← hl] at hzn HCS
    have HLL := Lib.hid hl
    have hl16 : l ≤ 16 := by omega
    have hpl : 4 * pk + 1 < l := by omega
    have hp4 : pk ≤ 3 := by omega
    obtain ⟨za, hza⟩ : ∃ q, q = x.za := ⟨_, rfl⟩
    rw [← hza] at HCS
    have HZA := Lib.hid hza
    generalize x.zc = zc at HCS
    have HS1 := Lib.hid (HS0.out.below HBW1.out HS0.out.lt)
    have HP1 := Lib.hid (HP0.out.below HBW1.out HP0.out.lt)
    have c0 := HP1.out.cell 0
    have l1 := HP1.out.lt
    have s2 := (HS1.out.cell 2).trans HCS.out
    have l3 := HS1.out.lt
    obtain ⟨bz, oz, hza2, hcr⟩ := rows_at (i := 4 * pk) (HR.out.z.below HBL1.out) (by rw [← HLL.out]; omega)
    rw [← HZA.out] at hza2
    subst hza2
    obtain ⟨ra, rk, hrv, hrr⟩ := HR.out.rows (4 * pk) (by rw [← HLL.out]; omega)
    rw [hrv] at hcr
    have hbs := World.block_lt_of_cell? _ _ hcr
    obtain ⟨lz, hlz⟩ : ∃ lz, lz = (s.zones.getD (4 * pk) []).length := ⟨_, rfl⟩
    rw [← hlz] at hcr hzl
    have HLZ := Lib.hid hlz
    have HRR := Lib.hid (show G.RdS w1 ra 1 lz _ by rw [hlz]; exact hrr.below HBL1.out)
    have hi1 : (4 : Int) * (pk : Int) < l := by omega
    have hi0 : (0 : Int) ≤ 4 * (pk : Int) := by omega
    have hpkI : (pk : Int) ≤ 3 := by omega
    have hpk0 : (0 : Int) ≤ pk := by omega
    have htn : (4 * (pk : Int)).toNat = 4 * pk := by omega
    clear hm hok ho1 ho2 hl hza hrv hrr hlz hn4 hzn hpk
    by_cases hz0 : lz = 0
    · have HNE := Lib.hid (drawEv_nil (s := s) (p := pk) (by rw [← HLZ.out]; exact hz0))
      subst hz0
      go_wp2_with fail
      go_ret2
      exact askP_none HM.out HOK.out HNE.out HBL1.out
    · obtain ⟨bl, ol, hra, hrd⟩ := HRR.out.2 (by omega)
      subst hra
      have hlzb : ((lz : Int) == 0) = false := by rw [beq_eq_false_iff_ne]; omega
      have hlz1 : (0 : Int) < lz := by omega
      have hlzN : 0 < lz := by omega
      have hcl := i64_at hrd (k := 0) (by rw [← HLZ.out]; omega)
      obtain ⟨c, hc⟩ : ∃ c, c = (s.zones.getD (4 * pk) []).getD 0 0 := ⟨_, rfl⟩
      rw [← hc] at hcl
      rw [Nat.add_zero] at hcl
      have HDE := Lib.hid (drawEv_cons (s := s) (p := pk) (c := c) (by rw [← HLZ.out]; omega) hc.symm)
      have HCI := Lib.hid (show Within c s.cards.length from place_in HM.out (z := 4 * pk) (a := 0) (by rw [← HLL.out]; omega) (by rw [← HLZ.out]; omega) hc.symm)
      have HDS := Lib.hid (show DrS g cs (g + 1) ((pk : Nat) : Int) (.slice (some ⟨bz, oz, none⟩) l zc) bz (oz + 4 * pk) (.slice (some ⟨bl, ol, none⟩) lz rk) bl ol c w1.drew from ⟨HS1.out, run_st HS1.out HS.out, s2, c0, hcr, hcl⟩)
      have HBD := Lib.hid (show Below w.heap.size w w1.drew from G.bl_trans HBL1.out (Below.refl _ _).drew)
      have HMV := Lib.hid (fun W (hW : W = w1.drew) => HMQ.out W c (4 * (pk : Int) + 1) (by rw [hW]; exact HBD.out))
      clear hrd hc hz0
      go_upto_region 7 with (fail)
      have hw4 : IntKind.i64.wrap (4 * (pk : Int)) = 4 * (pk : Int) := IntWalk.i64_in _ (by omega)
      have hw5 : IntKind.i64.wrap (4 * (pk : Int) + 1) = 4 * (pk : Int) + 1 := IntWalk.i64_in _ (by omega)
      refine wp_region_held_drew (S := DrS g cs (g + 1) ((pk : Nat) : Int) (.slice (some ⟨bz, oz, none⟩) l zc) bz (oz + 4 * pk) (.slice (some ⟨bl, ol, none⟩) lz rk) bl ol c) (by kernel_rfl) ?_ (fun hHeld => ?_)
      · exact HDS.out
      refine wpAnyH_take (i := 0) (oi := ⟨some 24, _, _, _, _, _⟩) (v := ?_) rfl (by kernel_rfl) (by kernel_rfl) (by kernel_rfl) (fun _ _ _ h => h) (Or.inl ⟨by rfl, ?_⟩) (by assumption) ?_
      rotate_left
      · (intro w hSw; refine exec_load_held 27 (.tmp 2) ?_ g ?_ cs hSw.2.1 <;> rfl)
      try simp only [Act.put, List.setIfInBounds_toArray, List.set_cons_zero, List.set_cons_succ]
      refine wpAnyH_take (i := 1) (oi := ⟨some 25, _, _, _, _, _⟩) (v := ?_) rfl (by kernel_rfl) (by kernel_rfl) (by kernel_rfl) (fun _ _ _ h => h) (Or.inl ⟨by rfl, ?_⟩) (by assumption) ?_
      rotate_left
      · (intro w hSw; unfold DrS at hSw; go_split_ands; go_simp; try with_reducible rfl)
      try simp only [Act.put, List.setIfInBounds_toArray, List.set_cons_zero, List.set_cons_succ]
      refine wpAnyH_take (i := 2) (oi := ⟨some 26, _, _, _, _, _⟩) (v := ?_) rfl (by kernel_rfl) (by kernel_rfl) (by kernel_rfl) (fun _ _ _ h => h) (Or.inl ⟨by rfl, ?_⟩) (by assumption) ?_
      rotate_left
      · (intro w hSw; unfold DrS at hSw; go_split_ands; go_simp; try with_reducible rfl)
      try simp only [Act.put, List.setIfInBounds_toArray, List.set_cons_zero, List.set_cons_succ]
      refine wpAnyH_take (i := 3) (oi := ⟨some 27, _, _, _, _, _⟩) (v := ?_) rfl (by kernel_rfl) (by kernel_rfl) (by kernel_rfl) (fun _ _ _ h => h) (Or.inl ⟨by rfl, ?_⟩) (by assumption) ?_
      rotate_left
      · (intro w hSw; rfl)
      try simp only [Act.put, List.setIfInBounds_toArray, List.set_cons_zero, List.set_cons_succ]
      refine wpAnyH_take (i := 4) (oi := ⟨some 28, _, _, _, _, _⟩) (v := ?_) rfl (by kernel_rfl) (by kernel_rfl) (by kernel_rfl) (fun _ _ _ h => h) (Or.inl ⟨by rfl, ?_⟩) (by assumption) ?_
      rotate_left
      · (intro w hSw; unfold DrS at hSw; go_split_ands; go_simp; try with_reducible rfl)
      try simp only [Act.put, List.setIfInBounds_toArray, List.set_cons_zero, List.set_cons_succ]
      refine wpAnyH_take (i := 5) (oi := ⟨some 29, _, _, _, _, _⟩) (v := ?_) rfl (by kernel_rfl) (by kernel_rfl) (by kernel_rfl) (fun _ _ _ h => h) (Or.inl ⟨by rfl, ?_⟩) (by assumption) ?_
      rotate_left
      · (intro w hSw; unfold DrS at hSw; go_split_ands; go_simp; try with_reducible rfl)
      try simp only [Act.put, List.setIfInBounds_toArray, List.set_cons_zero, List.set_cons_succ]
      refine wpAnyH_take (i := 6) (oi := ⟨some 30, _, _, _, _, _⟩) (v := ?_) rfl (by kernel_rfl) (by kernel_rfl) (by kernel_rfl) (fun _ _ _ h => h) (Or.inl ⟨by rfl, ?_⟩) (by assumption) ?_
      rotate_left
      · (intro w hSw; unfold DrS at hSw; go_split_ands; go_simp; try with_reducible rfl)
      try simp only [Act.put, List.setIfInBounds_toArray, List.set_cons_zero, List.set_cons_succ]
      refine wpAnyH_take (i := 7) (oi := ⟨some 31, _, _, _, _, _⟩) (v := ?_) rfl (by kernel_rfl) (by kernel_rfl) (by kernel_rfl) (fun _ _ _ h => h) (Or.inl ⟨by rfl, ?_⟩) (by assumption) ?_
      rotate_left
      · (intro w hSw; unfold DrS at hSw; go_split_ands; go_simp; try with_reducible rfl)
      try simp only [Act.put, List.setIfInBounds_toArray, List.set_cons_zero, List.set_cons_succ]
      refine wpAnyH_take (i := 8) (oi := ⟨some 32, _, _, _, _, _⟩) (v := ?_) rfl (by kernel_rfl) (by kernel_rfl) (by kernel_rfl) (fun _ _ _ h => h) (Or.inl ⟨by rfl, ?_⟩) (by assumption) ?_
      rotate_left
      · (intro w hSw; unfold DrS at hSw; go_split_ands; go_simp; try with_reducible rfl)
      try simp only [Act.put, List.setIfInBounds_toArray, List.set_cons_zero, List.set_cons_succ]
      refine wpAnyH_take (i := 9) (oi := ⟨some 33, _, _, _, _, _⟩) (v := ?_) rfl (by kernel_rfl) (by kernel_rfl) (by kernel_rfl) (fun _ _ _ h => h) (Or.inl ⟨by rfl, ?_⟩) (by assumption) ?_
      rotate_left
      · (intro w hSw; unfold DrS at hSw; go_split_ands; go_simp; try with_reducible rfl)
      try simp only [Act.put, List.setIfInBounds_toArray, List.set_cons_zero, List.set_cons_succ]
      refine wpAnyH_take (i := 10) (oi := ⟨some 34, _, _, _, _, _⟩) (v := ?_) rfl (by kernel_rfl) (by kernel_rfl) (by kernel_rfl) (fun _ _ _ h => h) (Or.inl ⟨by rfl, ?_⟩) (by assumption) ?_
      rotate_left
      · (intro w hSw; unfold DrS at hSw; go_split_ands; go_simp; try with_reducible rfl)
      try simp only [Act.put, List.setIfInBounds_toArray, List.set_cons_zero, List.set_cons_succ]
      refine wpAnyH_ready (rs := [11]) (by kernel_rfl) (by simp) ?_
      refine AllReadyH.cons rfl (fun K hK => ?_) AllReadyH.nil
      go_simp
      ((with_reducible refine (HMV.out _ rfl).mono ?_); rintro e3 w3 hp3; obtain ⟨A3, n3, k3, L3, q3, rfl, ho3, hb3, hc3⟩ := hp3; have HO3 := Lib.hid ho3; have HB3 := Lib.hid hb3; have HC3 := Lib.hid hc3; clear ho3 hb3 hc3)
      go_wp2_with fail
      refine hK.out _ _ ?_ (fun hHeld => ?_)
      · exact DrS.below (by assumption) HB3.out HS.out
      clear hK K
      try simp only [Act.put, List.setIfInBounds_toArray, List.set_cons_zero, List.set_cons_succ]
      refine wpAnyH_take (i := 12) (oi := ⟨some 36, _, _, _, _, _⟩) (v := ?_) rfl (by kernel_rfl) (by kernel_rfl) (by kernel_rfl) (fun _ _ _ h => h) (Or.inl ⟨by rfl, ?_⟩) (by assumption) ?_
      rotate_left
      · (intro w hSw; unfold DrS at hSw; go_split_ands; go_simp; try with_reducible rfl)
      try simp only [Act.put, List.setIfInBounds_toArray, List.set_cons_zero, List.set_cons_succ]
      refine wpAnyH_take (i := 13) (oi := ⟨some 37, _, _, _, _, _⟩) (v := ?_) rfl (by kernel_rfl) (by kernel_rfl) (by kernel_rfl) (fun _ _ _ h => h) (Or.inl ⟨by rfl, ?_⟩) (by assumption) ?_
      rotate_left
      · (intro w hSw; unfold DrS at hSw; go_split_ands; go_simp; try with_reducible rfl)
      try simp only [Act.put, List.setIfInBounds_toArray, List.set_cons_zero, List.set_cons_succ]
      refine wpAnyH_take (i := 14) (oi := ⟨some 4, _, _, _, _, _⟩) (v := ?_) rfl (by kernel_rfl) (by kernel_rfl) (by kernel_rfl) (fun _ _ _ h => h) (Or.inl ⟨by rfl, ?_⟩) (by assumption) ?_
      rotate_left
      · (intro w hSw; rfl)
      try simp only [Act.put, List.setIfInBounds_toArray, List.set_cons_zero, List.set_cons_succ]
      refine wpAnyH_take (i := 15) (oi := ⟨some 5, _, _, _, _, _⟩) (v := ?_) rfl (by kernel_rfl) (by kernel_rfl) (by kernel_rfl) (fun _ _ _ h => h) (Or.inl ⟨by rfl, ?_⟩) (by assumption) ?_
      rotate_left
      · (intro w hSw; rfl)
      try simp only [Act.put, List.setIfInBounds_toArray, List.set_cons_zero, List.set_cons_succ]
      refine wpAnyH_done (by kernel_rfl) ?_ _
      go_wp2_with fail
      go_ret2
      exact askP_draw HM.out HOK.out HCI.out (by rw [← HLL.out]; omega) HDE.out HBD.out HO3.out HB3.out HC3.out
end Go.Proofs.YtofgmijmhpmabaaGreatDoor.D

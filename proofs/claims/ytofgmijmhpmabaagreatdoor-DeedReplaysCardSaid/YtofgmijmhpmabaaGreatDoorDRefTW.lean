/- The contract of the reference's things. Printed by gen_refth.py. -/
import Derived.Test.YtofgmijmhpmabaaGreatDoorDRefTh
import Derived.Deep.RegionHeld
namespace Go.Proofs.YtofgmijmhpmabaaGreatDoor.D
open Go Go.RowKit
set_option linter.unusedVariables false
set_option linter.unusedSimpArgs false
set_option maxRecDepth 100000 in
set_option maxHeartbeats 8000000 in
theorem things5_any (x : SV) (s : St) (w : World) (h : RdSt w x s) (hz : Sz s) : Calls Tryz.prog 153 #[x.val s] w (ThPost s w) := by
 obtain ⟨i0, hi, hz0, hz1, hz2⟩ := info_parts infoBool
 obtain ⟨fsS, hfsS⟩ := undSt
 have HFS := Lib.hid hfsS
 have HR := Lib.hid h
 have HZ := Lib.hid hz
 have hz1' := hz.p
 have hz2' := hz.c
 have hz3' := hz.z
 obtain ⟨n, hn⟩ : ∃ n, n = s.players.length := ⟨_, rfl⟩
 obtain ⟨m, hm⟩ : ∃ m, m = s.cards.length := ⟨_, rfl⟩
 obtain ⟨k, hk⟩ : ∃ k, k = s.zones.length := ⟨_, rfl⟩
 obtain ⟨cs, hcs⟩ : ∃ cs, cs = x.arr s := ⟨_, rfl⟩
 have HBX := Lib.hid (G.Blk.new w 27 cs)
 obtain ⟨w1, hw1⟩ : ∃ w1, w1 = w.alloc (.cells cs 27) := ⟨_, rfl⟩
 have HB1 := Lib.hid (show Below w.heap.size w w1 by rw [hw1]; exact G.bl_alloc (Below.refl _ _) _)
 rw [← hw1] at HBX
 have hwl : w.heap.size < w1.heap.size := HBX.out.lt
 have HX := Lib.hid (show x.val s = .agg cs by rw [hcs]; rfl)
 have HS := Lib.hid (show cs.size = 7 by rw [hcs]; rfl)
 have HC0 := Lib.hid (show cs[0]? = some (.slice x.pa n x.pc) by rw [hcs, hn]; rfl)
 have HC1 := Lib.hid (show cs[1]? = some (.slice x.ca m x.cc) by rw [hcs, hm]; rfl)
 have HC2 := Lib.hid (show cs[2]? = some (.slice x.za k x.zc) by rw [hcs, hk]; rfl)
 have HC3 := Lib.hid (show cs[3]? = some (.int .i32 s.turn) by rw [hcs]; rfl)
 have HC4 := Lib.hid (show cs[4]? = some (.int .i64 s.whose) by rw [hcs]; rfl)
 have HC5 := Lib.hid (show cs[5]? = some (.int .i8 s.fin) by rw [hcs]; rfl)
 have HC6 := Lib.hid (show cs[6]? = some (.int .i64 s.winner) by rw [hcs]; rfl)
 obtain ⟨pa, hpa⟩ : ∃ t, t = x.pa := ⟨_, rfl⟩
 obtain ⟨ca, hca⟩ : ∃ t, t = x.ca := ⟨_, rfl⟩
 rw [← hpa] at HC0
 rw [← hca] at HC1
 generalize x.pc = pc at HC0
 generalize x.cc = cc at HC1
 generalize x.za = za at HC2
 generalize x.zc = zc at HC2
 obtain ⟨turn, hturn⟩ : ∃ t, t = s.turn := ⟨_, rfl⟩
 obtain ⟨whose, hwhose⟩ : ∃ t, t = s.whose := ⟨_, rfl⟩
 obtain ⟨fin, hfin⟩ : ∃ t, t = s.fin := ⟨_, rfl⟩
 obtain ⟨win, hwin⟩ : ∃ t, t = s.winner := ⟨_, rfl⟩
 rw [← hturn] at HC3
 rw [← hwhose] at HC4
 rw [← hfin] at HC5
 rw [← hwin] at HC6
 have HT1 := Lib.hid hturn
 have HT2 := Lib.hid hwhose
 have HT3 := Lib.hid hfin
 have HT4 := Lib.hid hwin
 have HPA := Lib.hid hpa
 have HCA := Lib.hid hca
 rw [← hn] at hz1'
 rw [← hm] at hz2'
 rw [← hk] at hz3'
 have HN := Lib.hid hn
 have HM := Lib.hid hm
 have HK := Lib.hid hk
 clear h hz hn hm hk hturn hwhose hfin hwin hpa hca hfsS
 unfold SV.val
 rw [← hcs]
 clear hcs
 have c0 := (HBX.out.cell 0).trans HC0.out
 have c1 := (HBX.out.cell 1).trans HC1.out
 have c2 := (HBX.out.cell 2).trans HC2.out
 have w4n : IntKind.i64.wrap (4 * (n : Int)) = 4 * (n : Int) := IntWalk.i64_in _ (by omega)
 go_enter Tryz.func153, Tryz.ntmps153
 go_upto_region 1 with (fail)
 rw [← hw1]
 clear hw1
 go_upto_region 3 with (fail)
 cases k1 : fromB n 2 4 with
 | false =>
  have HBAD := Lib.hid (show ¬ May s from fun h => by have h1 := of_decide_eq_false k1; have := h.n2; have := h.n4; have := HN.out; omega)
  go_wp2_with (first | (go_at_call 196; refine (refFrom_any _ _ _ _).mono ?_; rintro e wq ⟨rfl, rfl⟩))
  go_ret
  exact thP (base := w1.heap.size) (n := 1) (B := [false]) rfl (show (w1.alloc (.cells #[.bool false] 4)).ownsRow w1.heap.size 4 1 (.slice (some ⟨w1.heap.size, 0, none⟩) 1 1) 1 _ from (G.Blk.new w1 4 #[.bool false]).own (Nat.le_refl _) (Nat.le_refl _) (by decide) rfl) ⟨fun h => by simp at h, fun h => absurd h HBAD.out⟩ (by decide) (G.bl_trans HB1.out (G.bl_alloc (Below.refl _ _) _))
 | true =>
 cases k2 : fromB m 1 256 with
 | false =>
  have HBAD := Lib.hid (show ¬ May s from fun h => by have h1 := of_decide_eq_false k2; have := h.m1; have := h.m256; have := HM.out; omega)
  go_wp2_with (first | (go_at_call 196; refine (refFrom_any _ _ _ _).mono ?_; rintro e wq ⟨rfl, rfl⟩))
  go_ret
  exact thP (base := w1.heap.size) (n := 1) (B := [false]) rfl (show (w1.alloc (.cells #[.bool false] 4)).ownsRow w1.heap.size 4 1 (.slice (some ⟨w1.heap.size, 0, none⟩) 1 1) 1 _ from (G.Blk.new w1 4 #[.bool false]).own (Nat.le_refl _) (Nat.le_refl _) (by decide) rfl) ⟨fun h => by simp at h, fun h => absurd h HBAD.out⟩ (by decide) (G.bl_trans HB1.out (G.bl_alloc (Below.refl _ _) _))
 | true =>
 by_cases k3 : k = 4 * n
 rotate_left
 ·have HBAD := Lib.hid (show ¬ May s from fun h => by have := h.zn; have := HN.out; have := HK.out; omega)
  have k3b : ((k : Int) == 4 * (n : Int)) = false := by simp; omega
  go_wp2_with (first | (go_at_call 196; refine (refFrom_any _ _ _ _).mono ?_; rintro e wq ⟨rfl, rfl⟩))
  go_ret
  exact thP (base := w1.heap.size) (n := 1) (B := [false]) rfl (show (w1.alloc (.cells #[.bool false] 4)).ownsRow w1.heap.size 4 1 (.slice (some ⟨w1.heap.size, 0, none⟩) 1 1) 1 _ from (G.Blk.new w1 4 #[.bool false]).own (Nat.le_refl _) (Nat.le_refl _) (by decide) rfl) ⟨fun h => by simp at h, fun h => absurd h HBAD.out⟩ (by decide) (G.bl_trans HB1.out (G.bl_alloc (Below.refl _ _) _))
 have HHD := Lib.hid (show Head s n m k by
  have h1 := of_decide_eq_true k1
  have h2 := of_decide_eq_true k2
  exact ⟨by omega, by omega, by omega, by omega, k3⟩)
 have k3b : ((k : Int) == 4 * (n : Int)) = true := by simp; omega
 have hn4 : n ≤ 4 := HHD.out.n4
 have hm256 : m ≤ 256 := HHD.out.m256
 go_upto_region 6 with (first | (go_at_call 196; refine (refFrom_any _ _ _ _).mono ?_; rintro e wq ⟨rfl, rfl⟩))
 clear k1 k2 k3 k3b
 obtain ⟨w2, hw2⟩ : ∃ w2, w2 = w1.alloc (.cells #[.bool true] 4) := ⟨_, rfl⟩
 have HOI0 := Lib.hid (show OutI w1 w2 (.slice (some ⟨w1.heap.size, 0, none⟩) 1 1) 1 [true] by
  rw [hw2]
  exact ⟨rfl, (G.Blk.new w1 4 #[.bool true]).own (Nat.le_refl _) (Nat.le_refl _) (by decide) rfl, G.bl_alloc (Below.refl _ _) _⟩)
 rw [← hw2]
 clear hw2 c0 c1 c2
 go_wp2_with fail
 go_loopw [5, 6] (fun v i wr => ∃ (q : Nat) (B : List Bool), q ≤ n ∧ i = .int .i64 q ∧ OutI w1 wr v (1 + q) B ∧ (B.all id = true ↔ ∀ j, j < q → Stat (s.players.getD j zeroPl).life ∧ Stat (s.players.getD j zeroPl).energy)) (fun _ i _ => n - (intOf i).toNat)
 case atStart => exact ⟨0, [true], Nat.zero_le _, rfl, HOI0.out, ⟨fun _ j hj => by omega, fun _ => rfl⟩⟩
 case round =>
  clear HOI0
  obtain ⟨q, B, hq, rfl, hoi, hall⟩ := hrel
  have HOI := Lib.hid hoi
  have HALL := Lib.hid hall
  have hq0 : (0 : Int) ≤ q := by omega
  have hwr := hoi.bl.size
  have HBR := Lib.hid (HBX.out.below hoi.bl HBX.out.lt)
  have c0 := (HBR.out.cell 0).trans HC0.out
  clear hoi hall
  by_cases hlt : q < n
  ·have hqI : (q : Int) < n := by omega
   have hp := (HR.out.p.below (Bl.tr HB1.out HOI.out.bl))
   rw [← HN.out] at hp
   obtain ⟨b, off, hpa, hrd⟩ := hp.2 (by omega)
   rw [← HPA.out] at hpa
   subst hpa
   obtain ⟨y, hy⟩ : ∃ y, y = s.players.getD q zeroPl := ⟨_, rfl⟩
   obtain ⟨p0, p1, p2⟩ := pl_at hrd (k := q) (by rw [← HN.out]; exact hlt) hy.symm
   have hbs := hrd.1
   have HY := Lib.hid hy
   clear hy hp hrd p2
   have HST := Lib.hid (fun (b : Bool) (hb : b = true ↔ Stat y.life ∧ Stat y.energy) => show (B ++ [b]).all id = true ↔ ∀ j, j < q + 1 → Stat (s.players.getD j zeroPl).life ∧ Stat (s.players.getD j zeroPl).energy from (all_app HALL.out hb).trans ⟨fun ⟨h1, h2⟩ j hj => by
    by_cases e : j = q
    ·subst e
     rw [← HY.out]
     exact h2
    ·exact h1 j (by omega), fun h => ⟨fun j hj => h j (by omega), by have := h q (by omega); rwa [← HY.out] at this⟩⟩)
   obtain ⟨life, energy, out⟩ := y
   simp only at p0 p1 HST
   cases t1 : statB life with
   | false =>
    go_wp2_with (first | (go_at_call 197; refine (refStat_any _ _).mono ?_; rintro e wq ⟨rfl, rfl⟩) | (at_builtin; (refine wpList_append_own _ rfl (.tmp 45) (.tmp 62) 111 rfl w1.heap.size 4 i0 (.bool false) 1 1 Tryz.underlying111 hi hz0 hz1 hz2 rfl (by decide) _ _ _ rfl (HOI.out.own.alloc _) ⟨wr.heap.size, 0, none⟩ 1 1 [.bool (false)] rfl rfl (G.cells_new _ _ _ _ rfl) (by simp [Value.oneCell']) (by unfold maxLen; omega) (by omega) (by have := HOI.out.bl.size; simp; omega) ?_; intro v3 w3 hown3 hg3 _q; have HO3 := Lib.hid ((HOI.out.below (G.bl_alloc (Below.refl _ _) _)).more hown3 hg3); clear hown3 hg3)))
    go_roundw
    case rel => exact ⟨q + 1, B ++ [false], by omega, by go_num, HO3.out, HST.out false ⟨fun h => absurd h (by decide), fun h => absurd h.1 (of_decide_eq_false t1)⟩⟩
    case measure => simp [intOf]; omega
   | true =>
    go_wp2_with (first | (go_at_call 197; refine (refStat_any _ _).mono ?_; rintro e wq ⟨rfl, rfl⟩) | (at_builtin; (refine wpList_append_own _ rfl (.tmp 45) (.tmp 62) 111 rfl w1.heap.size 4 i0 (.bool false) 1 1 Tryz.underlying111 hi hz0 hz1 hz2 rfl (by decide) _ _ _ rfl (HOI.out.own.alloc _) ⟨wr.heap.size, 0, none⟩ 1 1 [.bool (statB energy)] rfl rfl (G.cells_new _ _ _ _ rfl) (by simp [Value.oneCell']) (by unfold maxLen; omega) (by omega) (by have := HOI.out.bl.size; simp; omega) ?_; intro v3 w3 hown3 hg3 _q; have HO3 := Lib.hid ((HOI.out.below (G.bl_alloc (Below.refl _ _) _)).more hown3 hg3); clear hown3 hg3)))
    go_roundw
    case rel => exact ⟨q + 1, B ++ [statB energy], by omega, by go_num, HO3.out, HST.out _ ⟨fun h => ⟨of_decide_eq_true t1, of_decide_eq_true h⟩, fun h => decide_eq_true h.2⟩⟩
    case measure => simp [intOf]; omega
  ·obtain rfl : n = q := by omega
   have hqI : ¬ (n : Int) < n := by omega
   clear c0
   go_wp2_with fail
   clear hqI
   go_loopw [5, 7] (fun v i wr => ∃ (q : Nat) (B : List Bool), q ≤ m ∧ i = .int .i64 q ∧ OutI w1 wr v (1 + n + q) B ∧ (B.all id = true ↔ (∀ j, j < n → Stat (s.players.getD j zeroPl).life ∧ Stat (s.players.getD j zeroPl).energy) ∧ ∀ j, j < q → CardOk n (s.cards.getD j zeroCd))) (fun _ i _ => m - (intOf i).toNat)
   case atStart => exact ⟨0, B, Nat.zero_le _, rfl, HOI.out, HALL.out.trans ⟨fun h => ⟨h, fun j hj => by omega⟩, fun h => h.1⟩⟩
   case round =>
    clear HOI HALL HBR
    clear B
    obtain ⟨q, B, hq, rfl, hoi, hall⟩ := hrel
    have HOI := Lib.hid hoi
    have HALL := Lib.hid hall
    have hq0 : (0 : Int) ≤ q := by omega
    have hwr := hoi.bl.size
    have HBR := Lib.hid (HBX.out.below hoi.bl HBX.out.lt)
    have c1 := (HBR.out.cell 1).trans HC1.out
    clear hoi hall
    by_cases hlt : q < m
    ·have hqI : (q : Int) < m := by omega
     have hp := (HR.out.c.below (Bl.tr HB1.out HOI.out.bl))
     rw [← HM.out] at hp
     obtain ⟨b, off, hpa, hrd⟩ := hp.2 (by omega)
     rw [← HCA.out] at hpa
     subst hpa
     obtain ⟨y, hy⟩ : ∃ y, y = s.cards.getD q zeroCd := ⟨_, rfl⟩
     obtain ⟨p0, p1, p2, p3, p4, p5⟩ := cd_at hrd (k := q) (by rw [← HM.out]; exact hlt) hy.symm
     have hbs := hrd.1
     have HY := Lib.hid hy
     clear hy hp hrd
     have HST := Lib.hid (show (B ++ [cardB n y]).all id = true ↔ (∀ j, j < n → Stat (s.players.getD j zeroPl).life ∧ Stat (s.players.getD j zeroPl).energy) ∧ ∀ j, j < q + 1 → CardOk n (s.cards.getD j zeroCd) from (all_app (q := CardOk n y) HALL.out (by unfold cardB; exact decide_eq_true_iff)).trans ⟨fun ⟨h1, h2⟩ => ⟨h1.1, fun j hj => by
      by_cases e : j = q
      ·subst e
       rw [← HY.out]
       exact h2
      ·exact h1.2 j (by omega)⟩, fun h => ⟨⟨h.1, fun j hj => h.2 j (by omega)⟩, by have := h.2 q (by omega); rwa [← HY.out] at this⟩⟩)
     have HCD := Lib.hid (fun W => refCard_any y n W (by omega))
     obtain ⟨kind, owner, power, health, damage, marks⟩ := y
     simp only at p0 p1 p2 p3 p4 p5
     unfold Cd.val at HCD
     obtain ⟨cb, hcb⟩ : ∃ cb, cb = cardB n ⟨kind, owner, power, health, damage, marks⟩ := ⟨_, rfl⟩
     rw [← hcb] at HST HCD
     clear hcb
     go_wp2_with (first | (go_at_call 198; refine (HCD.out _).mono ?_; rintro e wx ⟨rfl, hbx⟩; have HOX := Lib.hid (HOI.out.below hbx); have hwx := HOX.out.bl.size; clear hbx) | (at_builtin; (refine wpList_append_own _ rfl (.tmp 69) (.tmp 77) 111 rfl w1.heap.size 4 i0 (.bool false) 1 1 Tryz.underlying111 hi hz0 hz1 hz2 rfl (by decide) _ _ _ rfl (HOX.out.own.alloc _) ⟨wx.heap.size, 0, none⟩ 1 1 [.bool (cb)] rfl rfl (G.cells_new _ _ _ _ rfl) (by simp [Value.oneCell']) (by unfold maxLen; omega) (by omega) (by have := HOX.out.bl.size; simp; omega) ?_; intro v3 w3 hown3 hg3 _q; have HO3 := Lib.hid ((HOX.out.below (G.bl_alloc (Below.refl _ _) _)).more hown3 hg3); clear hown3 hg3)))
     go_roundw
     case rel => exact ⟨q + 1, B ++ [cb], by omega, by go_num, HO3.out, HST.out⟩
     case measure => simp [intOf]; omega
    ·obtain rfl : m = q := by omega
     have hqI : ¬ (m : Int) < m := by omega
     clear c1
     have HF := Lib.hid (flat_few HZ.out.r k (Nat.le_of_eq HK.out))
     have HEN := Lib.hid (fun W (hW : Below w.heap.size w W) => entries_any x s W (HR.out.below hW) HZ.out (by have := HHD.out.zn; have := HHD.out.n4; have := HK.out; omega))
     rw [HX.out] at HEN
     obtain ⟨F, hF⟩ : ∃ F, F = s.zones.flatten := ⟨_, rfl⟩
     have HFF := Lib.hid hF
     rw [show s.zones.take k = s.zones by rw [HK.out, List.take_length], ← hF] at HF
     unfold EntPost at HEN
     rw [← hF] at HEN
     obtain ⟨P, hP⟩ : ∃ P : Prop, P = ((∀ j, j < n → Stat (s.players.getD j zeroPl).life ∧ Stat (s.players.getD j zeroPl).energy) ∧ ∀ j, j < m → CardOk n (s.cards.getD j zeroCd)) := ⟨_, rfl⟩
     rw [← hP] at HALL
     have HP := Lib.hid hP
     obtain ⟨fl, hfl⟩ : ∃ fl, fl = F.length := ⟨_, rfl⟩
     rw [← hfl] at HEN
     have hfl2 : fl ≤ 536870912 := by
      have h1 := HF.out
      have := HHD.out.zn
      have := HHD.out.n4
      rw [← hfl] at h1
      omega
     have HFL := Lib.hid hfl
     clear hF hP hfl HF
     clear hqI
     go_upto_region 15 with (refine wpList_make_full _ rfl _ _ 111 rfl wr.heap.size 4 i0 _ 1 Tryz.underlying111 hi hz0 hz1 .i64 .i64 _ _ m rfl rfl rfl rfl (by rw [hz2]; omega) (by unfold maxLen; omega) (Nat.le_refl _) ?_; intro w4 ho4 hg4)
     have hz : (madeCells (Value.bool false).cells (m * 1)).toList = List.replicate m (.bool false) := by
      rw [show (Value.bool false).cells = #[.bool false] from rfl, toList_madeCells_one, Nat.mul_one]
     rw [hz, seenL_nil] at ho4
     have hb4 : Below wr.heap.size wr w4 := (Below.refl _ _).grown hg4 (Nat.le_refl _) (by simp)
     have HT4 := Lib.hid (G.two_mk HOI.out.own (HOI.out.below hb4).own ho4 (Nat.le_refl _) HOI.out.bl.size)
     have HBW4 := Lib.hid (HOI.out.below hb4).bl
     have HBX4 := Lib.hid (HBR.out.below hb4 HBR.out.lt)
     have HLB4 := Lib.hid HOI.out.len
     obtain ⟨gs, hgs⟩ : ∃ gs, gs = wr.heap.size := ⟨_, rfl⟩
     rw [← hgs] at HT4 ⊢
     have hgs1 : w1.heap.size ≤ gs := by rw [hgs]; exact HOI.out.bl.size
     clear ho4 hg4 hz hb4 hgs hwr HBR HOI
     have hw14 := HBW4.out.size
     go_upto_region 16 with (first | (refine wpList_load_row rfl 27 _ rfl w.heap.size rfl _ cs (0, 0) _ HBX4.out HFS.out rfl (by rw [HS.out]; exact sizeSt) ?_) | ((with_reducible refine (HEN.out _ (Bl.tr HB1.out HBW4.out)).mono ?_); rintro e1 w5 hp5; obtain ⟨v5, rfl, ho5, hb5⟩ := hp5; obtain ⟨a9, c9, hv5⟩ := G.own_shape ho5; subst hv5; have HBW5 := Lib.hid (Bl.tr HBW4.out hb5); have HBX5 := Lib.hid (HBX4.out.below hb5 HBX4.out.lt); have HT5 := Lib.hid (HT4.out.below hb5); have HE5 := Lib.hid ho5; clear hb5 ho5))
     have hw15 := HBW5.out.size
     go_wp2_with fail
     go_loopw [5, 10, 11] (fun v i g wr => ∃ (q : Nat) (B : List Bool), q ≤ fl ∧ i = .int .i64 q ∧ G.Only 4 w1.heap.size w5 wr ∧ G.Fam wr w1.heap.size 4 1 (G.Two v (1 + n + m + q) (bools B) (.slice (some ⟨gs, 0, none⟩) m m) m (seenL m (F.take q))) ∧ B.length = 1 + n + m + q ∧ (B.all id = true ↔ P) ∧ (F.take q).Nodup ∧ (∀ c ∈ F.take q, 0 ≤ c ∧ c < (m : Int))) (fun _ i _ _ => fl - (intOf i).toNat)
     case atStart => exact ⟨0, B, Nat.zero_le _, rfl, G.Only.refl _ _ _, HT5.out, HLB4.out, HALL.out, by simp, by simp⟩
     case round =>
      clear HT5 HT4 HLB4 HALL
      clear B
      obtain ⟨q, B, hq, rfl, hO, htw, hlb, hall, hnd, hrg⟩ := hrel
      have HO := Lib.hid hO
      have HTW := Lib.hid htw
      have HLB := Lib.hid hlb
      have HALL := Lib.hid hall
      have HND := Lib.hid hnd
      have HRG := Lib.hid hrg
      have hq0 : (0 : Int) ≤ q := by omega
      have hwr := hO.below.size
      have HBW := Lib.hid (HBW5.out.trans hO.below)
      have hwr1 := HBW.out.size
      have hm0 : (0 : Int) ≤ m := by omega
      have hmw : IntKind.i64.wrap ((m : Int) - 1) = (m : Int) - 1 := IntWalk.i64_in _ (by omega)
      clear hO htw hlb hall hnd hrg
      by_cases hlt : q < fl
      ·have hqI : (q : Int) < fl := by omega
       have hqF : q < F.length := by rw [← HFL.out]; exact hlt
       have HTK := Lib.hid (take_next hqF)
       have HE := HO.out.own HE5.out (by decide)
       rw [HFL.out] at HE
       obtain ⟨b9, d9, hv9, hce⟩ := ent_at HE hqF
       simp only [Value.slice.injEq, true_and] at hv9
       obtain ⟨rfl, -⟩ := hv9
       obtain ⟨c, hc⟩ : ∃ c, c = F.getD q 0 := ⟨_, rfl⟩
       rw [← hc] at hce HTK
       have HEC := Lib.hid (fun W (h : G.Only 4 w1.heap.size w5 W) => show W.cell? ⟨b9, q, none⟩ = some (.int .i64 c) by
        have h1 := h.own HE5.out (by decide)
        rw [h1.cellAt q (by omega), hc]
        simp [i64s, List.getD_eq_getElem?_getD, List.getElem?_eq_getElem hqF])
       have HIN := Lib.hid (show c ∈ F from by rw [hc]; exact mem_getD hqF)
       clear HE hc
       cases t1 : fromB c 0 ((m : Int) - 1) with
       | false =>
        have HBAD3 := Lib.hid (show ¬ May s from fun h => by have h1 := of_decide_eq_false t1; have h2 := h.rng c (by rw [← HFF.out]; exact HIN.out); have := HM.out; omega)
        go_wp2_with (first | (go_at_call 196; refine (refFrom_any _ _ _ _).mono ?_; rintro e wq ⟨rfl, rfl⟩) | (at_builtin; (refine wpList_append_own _ rfl (.tmp 106) (.tmp 108) 111 rfl w1.heap.size 4 i0 (.bool false) 1 1 Tryz.underlying111 hi hz0 hz1 hz2 rfl (by decide) _ _ _ rfl ((G.two_l HTW.out).alloc _) ⟨wr.heap.size, 0, none⟩ 1 1 [.bool (false)] rfl rfl (G.cells_new _ _ _ _ rfl) (by simp [Value.oneCell']) (by unfold maxLen; omega) (by omega) (by simp; omega) ?_; intro v3 w3 hown3 hg3 _q; have HN3 := Lib.hid hown3; have HB3 := Lib.hid (G.bl_trans HB1.out (((G.bl_alloc HBW.out _)).grown hg3 (by simp; omega) (fun g hg => ((G.two_l HTW.out).lt g hg).1))); clear hown3 hg3)))
        go_ret
        exact thP (n := 1 + n + m + q + 1) (B := B ++ [false]) (by rw [List.length_append, HLB.out]; rfl) (by rw [bools_app]; exact HN3.out) ⟨fun h => by simp at h, fun h => absurd h HBAD3.out⟩ (by omega) HB3.out
       | true =>
        obtain ⟨h1, h2⟩ := of_decide_eq_true t1
        obtain ⟨ci, rfl⟩ := Int.eq_ofNat_of_zero_le h1
        have hcm : ci < m := by omega
        have hcmI : (ci : Int) < m := by omega
        have cs0 := ((G.two_r HTW.out).cellAt ci (by omega)).trans (seenL_at hcm)
        cases t2 : decide ((ci : Int) ∈ F.take q) with
        | true =>
         rw [t2] at cs0
         have HBAD3 := Lib.hid (show ¬ May s from fun h => by have h3 := h.nd; rw [← HFF.out] at h3; have h4 := h3.sublist (List.take_sublist (q + 1) F); rw [HTK.out, List.nodup_append] at h4; exact h4.2.2 _ (of_decide_eq_true t2) _ (by simp) rfl)
         go_wp2_with (first | (go_at_call 196; refine (refFrom_any _ _ _ _).mono ?_; rintro e wq ⟨rfl, rfl⟩) | (at_builtin; (refine wpList_append_own _ rfl (.tmp 106) (.tmp 108) 111 rfl w1.heap.size 4 i0 (.bool false) 1 1 Tryz.underlying111 hi hz0 hz1 hz2 rfl (by decide) _ _ _ rfl ((G.two_l HTW.out).alloc _) ⟨wr.heap.size, 0, none⟩ 1 1 [.bool (false)] rfl rfl (G.cells_new _ _ _ _ rfl) (by simp [Value.oneCell']) (by unfold maxLen; omega) (by omega) (by simp; omega) ?_; intro v3 w3 hown3 hg3 _q; have HN3 := Lib.hid hown3; have HB3 := Lib.hid (G.bl_trans HB1.out (((G.bl_alloc HBW.out _)).grown hg3 (by simp; omega) (fun g hg => ((G.two_l HTW.out).lt g hg).1))); clear hown3 hg3)))
         go_ret
         exact thP (n := 1 + n + m + q + 1) (B := B ++ [false]) (by rw [List.length_append, HLB.out]; rfl) (by rw [bools_app]; exact HN3.out) ⟨fun h => by simp at h, fun h => absurd h HBAD3.out⟩ (by omega) HB3.out
        | false =>
         rw [t2] at cs0
         go_wp2_with (first | (go_at_call 196; refine (refFrom_any _ _ _ _).mono ?_; rintro e wq ⟨rfl, rfl⟩) | (at_builtin; (refine G.wpList_append_keep _ rfl (.tmp 106) (.tmp 108) 111 rfl w1.heap.size 4 i0 (.bool false) 1 1 Tryz.underlying111 hi hz0 hz1 hz2 rfl (by decide) _ _ _ rfl ((G.two_l HTW.out).alloc _) ⟨wr.heap.size, 0, none⟩ 1 1 [.bool true] rfl rfl (G.cells_new _ _ _ _ rfl) (by simp [Value.oneCell']) (by unfold maxLen; omega) (by omega) (by simp; omega) ?_; intro v3 w3 hown3 hwent3; have HO3 := Lib.hid ((HO.out.alloc (by omega) _).grown hwent3.by_ (by simp; omega) (own_blk ((G.two_l HTW.out).alloc _))); have HTX := Lib.hid (G.two_app_l (HTW.out.alloc _) hown3 hwent3); have ce3 := HEC.out _ HO3.out; have cs3 := ((G.two_r HTX.out).cellAt ci (by omega)).trans (seenL_at hcm); have cf3 := (G.two_r HTX.out).frozenAt ci; clear hown3 hwent3)))
         have hst := (G.two_r HTX.out).stored ci (.bool true)
         rw [seenL_set hcm] at hst
         have HST := Lib.hid hst
         obtain ⟨_, cur9, hg9⟩ := own_blk (G.two_r HTX.out) gs rfl
         have HG9 := Lib.hid hg9
         clear hst hg9
         go_roundw
         case rel => exact ⟨q + 1, B ++ [true], by omega, by go_num, HO3.out.set (p := ⟨gs, ci, none⟩) hgs1 HG9.out _, by rw [HTK.out, bools_app]; exact G.two_set_r HTX.out HST.out.1 HST.out.2, by rw [List.length_append, HLB.out]; rfl, (all_app (q := True) HALL.out (by simp)).trans (by simp), by
          rw [HTK.out, List.nodup_append]
          exact ⟨HND.out, by simp, fun a ha b hb e => by rw [List.mem_singleton] at hb; subst hb; subst e; exact of_decide_eq_false t2 ha⟩, fun c hc => by
          rw [HTK.out] at hc
          rcases List.mem_append.1 hc with hc | hc
          ·exact HRG.out c hc
          ·rw [List.mem_singleton] at hc
           omega⟩
         case measure => simp [intOf]; omega
      ·obtain rfl : fl = q := by omega
       have hqI : ¬ (fl : Int) < fl := by omega
       rw [show F.take fl = F by rw [HFL.out, List.take_length]] at HTW HND HRG
       go_wp2_with fail
       clear hqI
       obtain ⟨w6, hw6⟩ : ∃ w6 : World, w6 = wr := ⟨_, rfl⟩
       subst hw6
       go_loopw [12, 13] (fun a i wr => ∃ (q : Nat) (ab : Bool), q ≤ m ∧ i = .int .i64 q ∧ w6 = wr ∧ a = .bool ab ∧ (ab = true ↔ ∀ j, j < q → ((j : Int) ∈ F))) (fun _ i _ => m - (intOf i).toNat)
       case atStart => exact ⟨0, true, Nat.zero_le _, rfl, rfl, rfl, ⟨fun _ j hj => by omega, fun _ => rfl⟩⟩
       case round =>
        obtain ⟨q, ab, hq, rfl, rfl, rfl, hab⟩ := hrel
        have HAB := Lib.hid hab
        have hq0 : (0 : Int) ≤ q := by omega
        clear hab
        by_cases hlt : q < m
        ·have hqI : (q : Int) < m := by omega
         have cs0 := ((G.two_r HTW.out).cellAt q (by omega)).trans (seenL_at hlt)
         cases ab with
         | false =>
          go_wp2_with fail
          go_roundw
          case rel => exact ⟨q + 1, false, by omega, by go_num, trivial, rfl, ⟨fun h => by simp at h, fun h => HAB.out.2 (fun j hj => h j (by omega))⟩⟩
          case measure => simp [intOf]; omega
         | true =>
          go_wp2_with fail
          go_roundw
          case rel => exact ⟨q + 1, decide ((q : Int) ∈ F), by omega, by go_num, trivial, rfl, ⟨fun h j hj => by
           by_cases e : j = q
           ·subst e
            exact of_decide_eq_true h
           ·exact HAB.out.1 rfl j (by omega), fun h => decide_eq_true (h q (by omega))⟩⟩
          case measure => simp [intOf]; omega
        ·obtain rfl : m = q := by omega
         have hqI : ¬ (m : Int) < m := by omega
         have HMI := may_iff HN.out HM.out HK.out HHD.out (by rw [← HFF.out]; exact HRG.out) (by rw [← HFF.out]; exact HND.out)
         rw [← HFF.out, ← HT1.out, ← HT2.out, ← HT3.out, ← HT4.out, ← HP.out] at HMI
         have HFIN := Lib.hid (fun (b4 b5 : Bool) (h4 : finB fin = b4) (h5 : winB fin win n = b5) => show (B ++ [ab, decide (1 ≤ turn), fromB whose 0 ((n : Int) - 1), b4, b5]).all id = true ↔ May s from by
          rw [HMI]
          subst h4 h5
          have h9 := all_app (all_app (all_app (all_app (all_app HALL.out HAB.out) (decide_eq_true_iff (p := 1 ≤ turn))) (Iff.refl (fromB whose 0 ((n : Int) - 1) = true))) (Iff.refl (finB fin = true))) (Iff.refl (winB fin win n = true))
          simp only [List.append_assoc, List.cons_append, List.nil_append] at h9
          exact h9)
         clear HMI
         have HOWN := Lib.hid (G.two_l HTW.out)
         have HOW := Lib.hid (fun o => show ((w6.alloc o).drew).ownsRow w1.heap.size 4 1 _ _ _ from HOWN.out.alloc o)
         have HNW := Lib.hid (fun (l : List Value) => show ∀ j u, l[j]? = some u → ((w6.alloc (.cells l.toArray 4)).drew).cell? ((⟨w6.heap.size, 0, none⟩ : Addr).add j) = some u from G.cells_new w6 l 4 w6.heap.size rfl)
         have HB7 := Lib.hid (fun o => show Below w1.heap.size w1 ((w6.alloc o).drew) from (HBW.out.alloc hwr1 o).drew)
         have HBX6 := HBX.out.below HBW.out HBX.out.lt
         have d3 := (HBX6.cell 3).trans HC3.out
         have d4 := (HBX6.cell 4).trans HC4.out
         have d5 := (HBX6.cell 5).trans HC5.out
         have hnw : IntKind.i64.wrap ((n : Int) - 1) = (n : Int) - 1 := IntWalk.i64_in _ (by omega)
         clear HBX6
         go_upto_region 29 with (fail)
         by_cases f1 : fin = 1
         ·subst f1
          cases t9 : fromB win 0 ((n : Int) - 1) with
          | false =>
           refine wp_region_held_drew (S := ThS w.heap.size turn whose 1) (by kernel_rfl) ?_ (fun hHeld => ?_)
           ·exact ⟨d3, d4, d5⟩
           refine wpAnyH_take (i := 0) (oi := ⟨some 131, _, _, _, _, _⟩) (v := ?_) rfl (by kernel_rfl) (by kernel_rfl) (by kernel_rfl) (fun _ _ _ h => h) (Or.inl ⟨by rfl, ?_⟩) (by assumption) ?_
           rotate_left
           ·(intro w hSw; unfold ThS at hSw; go_split_ands; go_simp; try with_reducible rfl)
           try simp only [Act.put, List.setIfInBounds_toArray, List.set_cons_zero, List.set_cons_succ]
           refine wpAnyH_take (i := 1) (oi := ⟨some 132, _, _, _, _, _⟩) (v := ?_) rfl (by kernel_rfl) (by kernel_rfl) (by kernel_rfl) (fun _ _ _ h => h) (Or.inl ⟨by rfl, ?_⟩) (by assumption) ?_
           rotate_left
           ·(intro w hSw; unfold ThS at hSw; go_split_ands; go_simp; try with_reducible rfl)
           try simp only [Act.put, List.setIfInBounds_toArray, List.set_cons_zero, List.set_cons_succ]
           refine wpAnyH_take (i := 2) (oi := ⟨some 133, _, _, _, _, _⟩) (v := ?_) rfl (by kernel_rfl) (by kernel_rfl) (by kernel_rfl) (fun _ _ _ h => h) (Or.inl ⟨by rfl, ?_⟩) (by assumption) ?_
           rotate_left
           ·(intro w hSw; unfold ThS at hSw; go_split_ands; go_simp; try with_reducible rfl)
           try simp only [Act.put, List.setIfInBounds_toArray, List.set_cons_zero, List.set_cons_succ]
           refine wpAnyH_take (i := 3) (oi := ⟨some 134, _, _, _, _, _⟩) (v := ?_) rfl (by kernel_rfl) (by kernel_rfl) (by kernel_rfl) (fun _ _ _ h => h) (Or.inl ⟨by rfl, ?_⟩) (by assumption) ?_
           rotate_left
           ·(intro w hSw; unfold ThS at hSw; go_split_ands; go_simp; try with_reducible rfl)
           try simp only [Act.put, List.setIfInBounds_toArray, List.set_cons_zero, List.set_cons_succ]
           refine wpAnyH_take (i := 4) (oi := ⟨some 135, _, _, _, _, _⟩) (v := ?_) rfl (by kernel_rfl) (by kernel_rfl) (by kernel_rfl) (fun _ _ _ h => h) (Or.inl ⟨by rfl, ?_⟩) (by assumption) ?_
           rotate_left
           ·(intro w hSw; unfold ThS at hSw; go_split_ands; go_simp; try with_reducible rfl)
           try simp only [Act.put, List.setIfInBounds_toArray, List.set_cons_zero, List.set_cons_succ]
           refine wpAnyH_take (i := 5) (oi := ⟨some 136, _, _, _, _, _⟩) (v := ?_) rfl (by kernel_rfl) (by kernel_rfl) (by kernel_rfl) (fun _ _ _ h => h) (Or.inl ⟨by rfl, ?_⟩) (by assumption) ?_
           rotate_left
           ·(intro w hSw; unfold ThS at hSw; go_split_ands; go_simp; try with_reducible rfl)
           try simp only [Act.put, List.setIfInBounds_toArray, List.set_cons_zero, List.set_cons_succ]
           refine wpAnyH_take (i := 6) (oi := ⟨some 137, _, _, _, _, _⟩) (v := ?_) rfl (by kernel_rfl) (by kernel_rfl) (by kernel_rfl) (fun _ _ _ h => h) (Or.inl ⟨by rfl, ?_⟩) (by assumption) ?_
           rotate_left
           ·(intro w hSw; unfold ThS at hSw; go_split_ands; go_simp; try with_reducible rfl)
           try simp only [Act.put, List.setIfInBounds_toArray, List.set_cons_zero, List.set_cons_succ]
           refine wpAnyH_take (i := 7) (oi := ⟨some 138, _, _, _, _, _⟩) (v := ?_) rfl (by kernel_rfl) (by kernel_rfl) (by kernel_rfl) (fun _ _ _ h => h) (Or.inl ⟨by rfl, ?_⟩) (by assumption) ?_
           rotate_left
           ·(intro w hSw; unfold ThS at hSw; go_split_ands; go_simp; try with_reducible rfl)
           try simp only [Act.put, List.setIfInBounds_toArray, List.set_cons_zero, List.set_cons_succ]
           refine wpAnyH_take (i := 8) (oi := ⟨some 139, _, _, _, _, _⟩) (v := ?_) rfl (by kernel_rfl) (by kernel_rfl) (by kernel_rfl) (fun _ _ _ h => h) (Or.inl ⟨by rfl, ?_⟩) (by assumption) ?_
           rotate_left
           ·(intro w hSw; unfold ThS at hSw; go_split_ands; go_simp; try with_reducible rfl)
           try simp only [Act.put, List.setIfInBounds_toArray, List.set_cons_zero, List.set_cons_succ]
           refine wpAnyH_take (i := 10) (oi := ⟨some 141, _, _, _, _, _⟩) (v := ?_) rfl (by kernel_rfl) (by kernel_rfl) (by kernel_rfl) (fun _ _ _ h => h) (Or.inl ⟨by rfl, ?_⟩) (by assumption) ?_
           rotate_left
           ·(intro w hSw; unfold ThS at hSw; go_split_ands; go_simp; try with_reducible rfl)
           try simp only [Act.put, List.setIfInBounds_toArray, List.set_cons_zero, List.set_cons_succ]
           refine wpAnyH_take (i := 11) (oi := ⟨some 142, _, _, _, _, _⟩) (v := ?_) rfl (by kernel_rfl) (by kernel_rfl) (by kernel_rfl) (fun _ _ _ h => h) (Or.inl ⟨by rfl, ?_⟩) (by assumption) ?_
           rotate_left
           ·(intro w hSw; unfold ThS at hSw; go_split_ands; go_simp; try with_reducible rfl)
           try simp only [Act.put, List.setIfInBounds_toArray, List.set_cons_zero, List.set_cons_succ]
           refine wpAnyH_take (i := 12) (oi := ⟨some 143, _, _, _, _, _⟩) (v := ?_) rfl (by kernel_rfl) (by kernel_rfl) (by kernel_rfl) (fun _ _ _ h => h) (Or.inl ⟨by rfl, ?_⟩) (by assumption) ?_
           rotate_left
           ·(intro w hSw; unfold ThS at hSw; go_split_ands; go_simp; try with_reducible rfl)
           try simp only [Act.put, List.setIfInBounds_toArray, List.set_cons_zero, List.set_cons_succ]
           refine wpAnyH_ready (rs := [9]) (by kernel_rfl) (by simp) ?_
           refine AllReadyH.cons rfl (fun K hK => ?_) AllReadyH.nil
           go_simp
           (go_at_call 196; refine (refFrom_any _ _ _ _).mono ?_; rintro e wq ⟨rfl, rfl⟩)
           go_wp2_with fail
           refine hK.out _ _ ?_ (fun hHeld => ?_)
           ·assumption
           clear hK K
           try simp only [Act.put, List.setIfInBounds_toArray, List.set_cons_zero, List.set_cons_succ]
           refine wpAnyH_take (i := 13) (oi := ⟨some 144, _, _, _, _, _⟩) (v := ?_) rfl (by kernel_rfl) (by kernel_rfl) (by kernel_rfl) (fun _ _ _ h => h) (Or.inl ⟨by rfl, ?_⟩) (by assumption) ?_
           rotate_left
           ·(intro w hSw; unfold ThS at hSw; go_split_ands; go_simp; try with_reducible rfl)
           try simp only [Act.put, List.setIfInBounds_toArray, List.set_cons_zero, List.set_cons_succ]
           refine wpAnyH_take (i := 14) (oi := ⟨some 145, _, _, _, _, _⟩) (v := ?_) rfl (by kernel_rfl) (by kernel_rfl) (by kernel_rfl) (fun _ _ _ h => h) (Or.inl ⟨by rfl, ?_⟩) (by assumption) ?_
           rotate_left
           ·(intro w hSw; unfold ThS at hSw; go_split_ands; go_simp; try with_reducible rfl)
           try simp only [Act.put, List.setIfInBounds_toArray, List.set_cons_zero, List.set_cons_succ]
           refine wpAnyH_take (i := 15) (oi := ⟨some 146, _, _, _, _, _⟩) (v := ?_) rfl (by kernel_rfl) (by kernel_rfl) (by kernel_rfl) (fun _ _ _ h => h) (Or.inl ⟨by rfl, ?_⟩) (by assumption) ?_
           rotate_left
           ·(intro w hSw; unfold ThS at hSw; go_split_ands; go_simp; try with_reducible rfl)
           try simp only [Act.put, List.setIfInBounds_toArray, List.set_cons_zero, List.set_cons_succ]
           refine wpAnyH_take (i := 16) (oi := ⟨some 147, _, _, _, _, _⟩) (v := ?_) rfl (by kernel_rfl) (by kernel_rfl) (by kernel_rfl) (fun _ _ _ h => h) (Or.inl ⟨by rfl, ?_⟩) (by assumption) ?_
           rotate_left
           ·(intro w hSw; unfold ThS at hSw; go_split_ands; go_simp; try with_reducible rfl)
           try simp only [Act.put, List.setIfInBounds_toArray, List.set_cons_zero, List.set_cons_succ]
           refine wpAnyH_take (i := 17) (oi := ⟨some 148, _, _, _, _, _⟩) (v := ?_) rfl (by kernel_rfl) (by kernel_rfl) (by kernel_rfl) (fun _ _ _ h => h) (Or.inl ⟨by rfl, ?_⟩) (by assumption) ?_
           rotate_left
           ·(intro w hSw; unfold ThS at hSw; go_split_ands; go_simp; try with_reducible rfl)
           try simp only [Act.put, List.setIfInBounds_toArray, List.set_cons_zero, List.set_cons_succ]
           refine wpAnyH_take (i := 18) (oi := ⟨some 149, _, _, _, _, _⟩) (v := ?_) rfl (by kernel_rfl) (by kernel_rfl) (by kernel_rfl) (fun _ _ _ h => h) (Or.inl ⟨by rfl, ?_⟩) (by assumption) ?_
           rotate_left
           ·(intro w hSw; unfold ThS at hSw; go_split_ands; go_simp; try with_reducible rfl)
           try simp only [Act.put, List.setIfInBounds_toArray, List.set_cons_zero, List.set_cons_succ]
           refine wpAnyH_take (i := 19) (oi := ⟨some 150, _, _, _, _, _⟩) (v := undef) rfl (by kernel_rfl) (by kernel_rfl) (by kernel_rfl) (fun _ _ _ h => h) (Or.inr ⟨by rfl, rfl⟩) (by assumption) ?_
           try simp only [Act.put, List.setIfInBounds_toArray, List.set_cons_zero, List.set_cons_succ]
           refine wpAnyH_take (i := 20) (oi := ⟨some 151, _, _, _, _, _⟩) (v := undef) rfl (by kernel_rfl) (by kernel_rfl) (by kernel_rfl) (fun _ _ _ h => h) (Or.inr ⟨by rfl, rfl⟩) (by assumption) ?_
           try simp only [Act.put, List.setIfInBounds_toArray, List.set_cons_zero, List.set_cons_succ]
           refine wpAnyH_take (i := 21) (oi := ⟨some 152, _, _, _, _, _⟩) (v := undef) rfl (by kernel_rfl) (by kernel_rfl) (by kernel_rfl) (fun _ _ _ h => h) (Or.inr ⟨by rfl, rfl⟩) (by assumption) ?_
           try simp only [Act.put, List.setIfInBounds_toArray, List.set_cons_zero, List.set_cons_succ]
           refine wpAnyH_take (i := 22) (oi := ⟨some 153, _, _, _, _, _⟩) (v := ?_) rfl (by kernel_rfl) (by kernel_rfl) (by kernel_rfl) (fun _ _ _ h => h) (Or.inl ⟨by rfl, ?_⟩) (by assumption) ?_
           rotate_left
           ·(intro w hSw; unfold ThS at hSw; go_split_ands; go_simp; try with_reducible rfl)
           try simp only [Act.put, List.setIfInBounds_toArray, List.set_cons_zero, List.set_cons_succ]
           refine wpAnyH_ready (rs := [23]) (by kernel_rfl) (by simp) ?_
           refine AllReadyH.cons rfl (fun K hK => ?_) AllReadyH.nil
           go_simp
           go_wp2_with fail
           refine hK.out _ _ ?_ (fun hHeld => ?_)
           ·exact ThS.below (by assumption) (G.bl_alloc (Below.refl _ _) _)
           clear hK K
           try simp only [Act.put, List.setIfInBounds_toArray, List.set_cons_zero, List.set_cons_succ]
           refine wpAnyH_ready (rs := [24]) (by kernel_rfl) (by simp) ?_
           refine AllReadyH.cons rfl (fun K hK => ?_) AllReadyH.nil
           (refine wp_append_own _ (.tmp 131) (.tmp 154) 111 rfl w1.heap.size 4 i0 (.bool false) 1 1 Tryz.underlying111 hi hz0 hz1 hz2 rfl (by decide) _ (1 + n + m + fl) (bools B) rfl (HOW.out _) ⟨w6.heap.size, 0, none⟩ 4 4 [.bool ab, .bool (decide (1 ≤ turn)), .bool (fromB whose 0 ((n : Int) - 1)), .bool (true)] rfl rfl (HNW.out _) (by simp [Value.oneCell']) (by unfold maxLen; omega) (by omega) (by simp; omega) ?_; intro v8 w8 hown8 hg8 _q; have HO8 := Lib.hid hown8; have HB8 := Lib.hid ((HB7.out _).grown hg8 (by simp; omega) (fun g hg => (HOWN.out.lt g hg).1)); have HBX8 := Lib.hid (HBX.out.below HB8.out HBX.out.lt); have d5 := (HBX8.out.cell 5).trans HC5.out; have d6 := (HBX8.out.cell 6).trans HC6.out; have hw8 := HB8.out.size; clear hown8 hg8)
           try simp only [Act.put, List.getElem_toArray, List.getElem_cons_succ, List.getElem_cons_zero]
           refine hK.out _ _ ?_ (fun hHeld => ?_)
           ·exact ⟨(HBX8.out.cell 3).trans HC3.out, (HBX8.out.cell 4).trans HC4.out, d5⟩
           clear hK K
           try simp only [Act.put, List.setIfInBounds_toArray, List.set_cons_zero, List.set_cons_succ]
           refine wpAnyH_take (i := 25) (oi := ⟨some 5, _, _, _, _, _⟩) (v := ?_) rfl (by kernel_rfl) (by kernel_rfl) (by kernel_rfl) (fun _ _ _ h => h) (Or.inl ⟨by rfl, ?_⟩) (by assumption) ?_
           rotate_left
           ·(intro w hSw; unfold ThS at hSw; go_split_ands; go_simp; try with_reducible rfl)
           try simp only [Act.put, List.setIfInBounds_toArray, List.set_cons_zero, List.set_cons_succ]
           refine wpAnyH_done (by kernel_rfl) ?_ _
           go_wp2_with (first | (go_at_call 196; refine (refFrom_any _ _ _ _).mono ?_; rintro e wq ⟨rfl, rfl⟩) | (at_builtin; (refine wpList_append_own _ rfl (.tmp 156) (.tmp 177) 111 rfl w1.heap.size 4 i0 (.bool false) 1 1 Tryz.underlying111 hi hz0 hz1 hz2 rfl (by decide) _ _ _ rfl (HO8.out.alloc _) ⟨w8.heap.size, 0, none⟩ 1 1 [.bool (false)] rfl rfl (G.cells_new _ _ _ _ rfl) (by simp [Value.oneCell']) (by unfold maxLen; omega) (by omega) (by simp; omega) ?_; intro v9 w9 hown9 hg9 _q; have HO9 := Lib.hid hown9; have HB9 := Lib.hid ((G.bl_alloc HB8.out _).grown hg9 (by simp; omega) (fun g hg => (HO8.out.lt g hg).1)); clear hown9 hg9)))
           go_ret
           exact thP (n := 1 + n + m + fl + 4 + 1) (B := B ++ [ab, decide (1 ≤ turn), fromB whose 0 ((n : Int) - 1), true, false]) (by simp [HLB.out]) (by rw [bools_app]; have h9 := HO9.out; rw [List.append_assoc] at h9; exact h9) (HFIN.out _ _ (rfl) (by unfold winB; rw [t9]; rfl)) (by omega) (G.bl_trans HB1.out HB9.out)
          | true =>
           refine wp_region_held_drew (S := ThS w.heap.size turn whose 1) (by kernel_rfl) ?_ (fun hHeld => ?_)
           ·exact ⟨d3, d4, d5⟩
           refine wpAnyH_take (i := 0) (oi := ⟨some 131, _, _, _, _, _⟩) (v := ?_) rfl (by kernel_rfl) (by kernel_rfl) (by kernel_rfl) (fun _ _ _ h => h) (Or.inl ⟨by rfl, ?_⟩) (by assumption) ?_
           rotate_left
           ·(intro w hSw; unfold ThS at hSw; go_split_ands; go_simp; try with_reducible rfl)
           try simp only [Act.put, List.setIfInBounds_toArray, List.set_cons_zero, List.set_cons_succ]
           refine wpAnyH_take (i := 1) (oi := ⟨some 132, _, _, _, _, _⟩) (v := ?_) rfl (by kernel_rfl) (by kernel_rfl) (by kernel_rfl) (fun _ _ _ h => h) (Or.inl ⟨by rfl, ?_⟩) (by assumption) ?_
           rotate_left
           ·(intro w hSw; unfold ThS at hSw; go_split_ands; go_simp; try with_reducible rfl)
           try simp only [Act.put, List.setIfInBounds_toArray, List.set_cons_zero, List.set_cons_succ]
           refine wpAnyH_take (i := 2) (oi := ⟨some 133, _, _, _, _, _⟩) (v := ?_) rfl (by kernel_rfl) (by kernel_rfl) (by kernel_rfl) (fun _ _ _ h => h) (Or.inl ⟨by rfl, ?_⟩) (by assumption) ?_
           rotate_left
           ·(intro w hSw; unfold ThS at hSw; go_split_ands; go_simp; try with_reducible rfl)
           try simp only [Act.put, List.setIfInBounds_toArray, List.set_cons_zero, List.set_cons_succ]
           refine wpAnyH_take (i := 3) (oi := ⟨some 134, _, _, _, _, _⟩) (v := ?_) rfl (by kernel_rfl) (by kernel_rfl) (by kernel_rfl) (fun _ _ _ h => h) (Or.inl ⟨by rfl, ?_⟩) (by assumption) ?_
           rotate_left
           ·(intro w hSw; unfold ThS at hSw; go_split_ands; go_simp; try with_reducible rfl)
           try simp only [Act.put, List.setIfInBounds_toArray, List.set_cons_zero, List.set_cons_succ]
           refine wpAnyH_take (i := 4) (oi := ⟨some 135, _, _, _, _, _⟩) (v := ?_) rfl (by kernel_rfl) (by kernel_rfl) (by kernel_rfl) (fun _ _ _ h => h) (Or.inl ⟨by rfl, ?_⟩) (by assumption) ?_
           rotate_left
           ·(intro w hSw; unfold ThS at hSw; go_split_ands; go_simp; try with_reducible rfl)
           try simp only [Act.put, List.setIfInBounds_toArray, List.set_cons_zero, List.set_cons_succ]
           refine wpAnyH_take (i := 5) (oi := ⟨some 136, _, _, _, _, _⟩) (v := ?_) rfl (by kernel_rfl) (by kernel_rfl) (by kernel_rfl) (fun _ _ _ h => h) (Or.inl ⟨by rfl, ?_⟩) (by assumption) ?_
           rotate_left
           ·(intro w hSw; unfold ThS at hSw; go_split_ands; go_simp; try with_reducible rfl)
           try simp only [Act.put, List.setIfInBounds_toArray, List.set_cons_zero, List.set_cons_succ]
           refine wpAnyH_take (i := 6) (oi := ⟨some 137, _, _, _, _, _⟩) (v := ?_) rfl (by kernel_rfl) (by kernel_rfl) (by kernel_rfl) (fun _ _ _ h => h) (Or.inl ⟨by rfl, ?_⟩) (by assumption) ?_
           rotate_left
           ·(intro w hSw; unfold ThS at hSw; go_split_ands; go_simp; try with_reducible rfl)
           try simp only [Act.put, List.setIfInBounds_toArray, List.set_cons_zero, List.set_cons_succ]
           refine wpAnyH_take (i := 7) (oi := ⟨some 138, _, _, _, _, _⟩) (v := ?_) rfl (by kernel_rfl) (by kernel_rfl) (by kernel_rfl) (fun _ _ _ h => h) (Or.inl ⟨by rfl, ?_⟩) (by assumption) ?_
           rotate_left
           ·(intro w hSw; unfold ThS at hSw; go_split_ands; go_simp; try with_reducible rfl)
           try simp only [Act.put, List.setIfInBounds_toArray, List.set_cons_zero, List.set_cons_succ]
           refine wpAnyH_take (i := 8) (oi := ⟨some 139, _, _, _, _, _⟩) (v := ?_) rfl (by kernel_rfl) (by kernel_rfl) (by kernel_rfl) (fun _ _ _ h => h) (Or.inl ⟨by rfl, ?_⟩) (by assumption) ?_
           rotate_left
           ·(intro w hSw; unfold ThS at hSw; go_split_ands; go_simp; try with_reducible rfl)
           try simp only [Act.put, List.setIfInBounds_toArray, List.set_cons_zero, List.set_cons_succ]
           refine wpAnyH_take (i := 10) (oi := ⟨some 141, _, _, _, _, _⟩) (v := ?_) rfl (by kernel_rfl) (by kernel_rfl) (by kernel_rfl) (fun _ _ _ h => h) (Or.inl ⟨by rfl, ?_⟩) (by assumption) ?_
           rotate_left
           ·(intro w hSw; unfold ThS at hSw; go_split_ands; go_simp; try with_reducible rfl)
           try simp only [Act.put, List.setIfInBounds_toArray, List.set_cons_zero, List.set_cons_succ]
           refine wpAnyH_take (i := 11) (oi := ⟨some 142, _, _, _, _, _⟩) (v := ?_) rfl (by kernel_rfl) (by kernel_rfl) (by kernel_rfl) (fun _ _ _ h => h) (Or.inl ⟨by rfl, ?_⟩) (by assumption) ?_
           rotate_left
           ·(intro w hSw; unfold ThS at hSw; go_split_ands; go_simp; try with_reducible rfl)
           try simp only [Act.put, List.setIfInBounds_toArray, List.set_cons_zero, List.set_cons_succ]
           refine wpAnyH_take (i := 12) (oi := ⟨some 143, _, _, _, _, _⟩) (v := ?_) rfl (by kernel_rfl) (by kernel_rfl) (by kernel_rfl) (fun _ _ _ h => h) (Or.inl ⟨by rfl, ?_⟩) (by assumption) ?_
           rotate_left
           ·(intro w hSw; unfold ThS at hSw; go_split_ands; go_simp; try with_reducible rfl)
           try simp only [Act.put, List.setIfInBounds_toArray, List.set_cons_zero, List.set_cons_succ]
           refine wpAnyH_ready (rs := [9]) (by kernel_rfl) (by simp) ?_
           refine AllReadyH.cons rfl (fun K hK => ?_) AllReadyH.nil
           go_simp
           (go_at_call 196; refine (refFrom_any _ _ _ _).mono ?_; rintro e wq ⟨rfl, rfl⟩)
           go_wp2_with fail
           refine hK.out _ _ ?_ (fun hHeld => ?_)
           ·assumption
           clear hK K
           try simp only [Act.put, List.setIfInBounds_toArray, List.set_cons_zero, List.set_cons_succ]
           refine wpAnyH_take (i := 13) (oi := ⟨some 144, _, _, _, _, _⟩) (v := ?_) rfl (by kernel_rfl) (by kernel_rfl) (by kernel_rfl) (fun _ _ _ h => h) (Or.inl ⟨by rfl, ?_⟩) (by assumption) ?_
           rotate_left
           ·(intro w hSw; unfold ThS at hSw; go_split_ands; go_simp; try with_reducible rfl)
           try simp only [Act.put, List.setIfInBounds_toArray, List.set_cons_zero, List.set_cons_succ]
           refine wpAnyH_take (i := 14) (oi := ⟨some 145, _, _, _, _, _⟩) (v := ?_) rfl (by kernel_rfl) (by kernel_rfl) (by kernel_rfl) (fun _ _ _ h => h) (Or.inl ⟨by rfl, ?_⟩) (by assumption) ?_
           rotate_left
           ·(intro w hSw; unfold ThS at hSw; go_split_ands; go_simp; try with_reducible rfl)
           try simp only [Act.put, List.setIfInBounds_toArray, List.set_cons_zero, List.set_cons_succ]
           refine wpAnyH_take (i := 15) (oi := ⟨some 146, _, _, _, _, _⟩) (v := ?_) rfl (by kernel_rfl) (by kernel_rfl) (by kernel_rfl) (fun _ _ _ h => h) (Or.inl ⟨by rfl, ?_⟩) (by assumption) ?_
           rotate_left
           ·(intro w hSw; unfold ThS at hSw; go_split_ands; go_simp; try with_reducible rfl)
           try simp only [Act.put, List.setIfInBounds_toArray, List.set_cons_zero, List.set_cons_succ]
           refine wpAnyH_take (i := 16) (oi := ⟨some 147, _, _, _, _, _⟩) (v := ?_) rfl (by kernel_rfl) (by kernel_rfl) (by kernel_rfl) (fun _ _ _ h => h) (Or.inl ⟨by rfl, ?_⟩) (by assumption) ?_
           rotate_left
           ·(intro w hSw; unfold ThS at hSw; go_split_ands; go_simp; try with_reducible rfl)
           try simp only [Act.put, List.setIfInBounds_toArray, List.set_cons_zero, List.set_cons_succ]
           refine wpAnyH_take (i := 17) (oi := ⟨some 148, _, _, _, _, _⟩) (v := ?_) rfl (by kernel_rfl) (by kernel_rfl) (by kernel_rfl) (fun _ _ _ h => h) (Or.inl ⟨by rfl, ?_⟩) (by assumption) ?_
           rotate_left
           ·(intro w hSw; unfold ThS at hSw; go_split_ands; go_simp; try with_reducible rfl)
           try simp only [Act.put, List.setIfInBounds_toArray, List.set_cons_zero, List.set_cons_succ]
           refine wpAnyH_take (i := 18) (oi := ⟨some 149, _, _, _, _, _⟩) (v := ?_) rfl (by kernel_rfl) (by kernel_rfl) (by kernel_rfl) (fun _ _ _ h => h) (Or.inl ⟨by rfl, ?_⟩) (by assumption) ?_
           rotate_left
           ·(intro w hSw; unfold ThS at hSw; go_split_ands; go_simp; try with_reducible rfl)
           try simp only [Act.put, List.setIfInBounds_toArray, List.set_cons_zero, List.set_cons_succ]
           refine wpAnyH_take (i := 19) (oi := ⟨some 150, _, _, _, _, _⟩) (v := undef) rfl (by kernel_rfl) (by kernel_rfl) (by kernel_rfl) (fun _ _ _ h => h) (Or.inr ⟨by rfl, rfl⟩) (by assumption) ?_
           try simp only [Act.put, List.setIfInBounds_toArray, List.set_cons_zero, List.set_cons_succ]
           refine wpAnyH_take (i := 20) (oi := ⟨some 151, _, _, _, _, _⟩) (v := undef) rfl (by kernel_rfl) (by kernel_rfl) (by kernel_rfl) (fun _ _ _ h => h) (Or.inr ⟨by rfl, rfl⟩) (by assumption) ?_
           try simp only [Act.put, List.setIfInBounds_toArray, List.set_cons_zero, List.set_cons_succ]
           refine wpAnyH_take (i := 21) (oi := ⟨some 152, _, _, _, _, _⟩) (v := undef) rfl (by kernel_rfl) (by kernel_rfl) (by kernel_rfl) (fun _ _ _ h => h) (Or.inr ⟨by rfl, rfl⟩) (by assumption) ?_
           try simp only [Act.put, List.setIfInBounds_toArray, List.set_cons_zero, List.set_cons_succ]
           refine wpAnyH_take (i := 22) (oi := ⟨some 153, _, _, _, _, _⟩) (v := ?_) rfl (by kernel_rfl) (by kernel_rfl) (by kernel_rfl) (fun _ _ _ h => h) (Or.inl ⟨by rfl, ?_⟩) (by assumption) ?_
           rotate_left
           ·(intro w hSw; unfold ThS at hSw; go_split_ands; go_simp; try with_reducible rfl)
           try simp only [Act.put, List.setIfInBounds_toArray, List.set_cons_zero, List.set_cons_succ]
           refine wpAnyH_ready (rs := [23]) (by kernel_rfl) (by simp) ?_
           refine AllReadyH.cons rfl (fun K hK => ?_) AllReadyH.nil
           go_simp
           go_wp2_with fail
           refine hK.out _ _ ?_ (fun hHeld => ?_)
           ·exact ThS.below (by assumption) (G.bl_alloc (Below.refl _ _) _)
           clear hK K
           try simp only [Act.put, List.setIfInBounds_toArray, List.set_cons_zero, List.set_cons_succ]
           refine wpAnyH_ready (rs := [24]) (by kernel_rfl) (by simp) ?_
           refine AllReadyH.cons rfl (fun K hK => ?_) AllReadyH.nil
           (refine wp_append_own _ (.tmp 131) (.tmp 154) 111 rfl w1.heap.size 4 i0 (.bool false) 1 1 Tryz.underlying111 hi hz0 hz1 hz2 rfl (by decide) _ (1 + n + m + fl) (bools B) rfl (HOW.out _) ⟨w6.heap.size, 0, none⟩ 4 4 [.bool ab, .bool (decide (1 ≤ turn)), .bool (fromB whose 0 ((n : Int) - 1)), .bool (true)] rfl rfl (HNW.out _) (by simp [Value.oneCell']) (by unfold maxLen; omega) (by omega) (by simp; omega) ?_; intro v8 w8 hown8 hg8 _q; have HO8 := Lib.hid hown8; have HB8 := Lib.hid ((HB7.out _).grown hg8 (by simp; omega) (fun g hg => (HOWN.out.lt g hg).1)); have HBX8 := Lib.hid (HBX.out.below HB8.out HBX.out.lt); have d5 := (HBX8.out.cell 5).trans HC5.out; have d6 := (HBX8.out.cell 6).trans HC6.out; have hw8 := HB8.out.size; clear hown8 hg8)
           try simp only [Act.put, List.getElem_toArray, List.getElem_cons_succ, List.getElem_cons_zero]
           refine hK.out _ _ ?_ (fun hHeld => ?_)
           ·exact ⟨(HBX8.out.cell 3).trans HC3.out, (HBX8.out.cell 4).trans HC4.out, d5⟩
           clear hK K
           try simp only [Act.put, List.setIfInBounds_toArray, List.set_cons_zero, List.set_cons_succ]
           refine wpAnyH_take (i := 25) (oi := ⟨some 5, _, _, _, _, _⟩) (v := ?_) rfl (by kernel_rfl) (by kernel_rfl) (by kernel_rfl) (fun _ _ _ h => h) (Or.inl ⟨by rfl, ?_⟩) (by assumption) ?_
           rotate_left
           ·(intro w hSw; unfold ThS at hSw; go_split_ands; go_simp; try with_reducible rfl)
           try simp only [Act.put, List.setIfInBounds_toArray, List.set_cons_zero, List.set_cons_succ]
           refine wpAnyH_done (by kernel_rfl) ?_ _
           go_wp2_with (first | (go_at_call 196; refine (refFrom_any _ _ _ _).mono ?_; rintro e wq ⟨rfl, rfl⟩) | (at_builtin; (refine wpList_append_own _ rfl (.tmp 156) (.tmp 177) 111 rfl w1.heap.size 4 i0 (.bool false) 1 1 Tryz.underlying111 hi hz0 hz1 hz2 rfl (by decide) _ _ _ rfl (HO8.out.alloc _) ⟨w8.heap.size, 0, none⟩ 1 1 [.bool (true)] rfl rfl (G.cells_new _ _ _ _ rfl) (by simp [Value.oneCell']) (by unfold maxLen; omega) (by omega) (by simp; omega) ?_; intro v9 w9 hown9 hg9 _q; have HO9 := Lib.hid hown9; have HB9 := Lib.hid ((G.bl_alloc HB8.out _).grown hg9 (by simp; omega) (fun g hg => (HO8.out.lt g hg).1)); clear hown9 hg9)))
           go_ret
           exact thP (n := 1 + n + m + fl + 4 + 1) (B := B ++ [ab, decide (1 ≤ turn), fromB whose 0 ((n : Int) - 1), true, true]) (by simp [HLB.out]) (by rw [bools_app]; have h9 := HO9.out; rw [List.append_assoc] at h9; exact h9) (HFIN.out _ _ (rfl) (by unfold winB; rw [t9]; rfl)) (by omega) (G.bl_trans HB1.out HB9.out)
         ·have f1b : (fin == 1) = false := by simpa using f1
          have f1n : (fin != 1) = true := by simpa using f1
          have HWIN := Lib.hid (show winB fin win n = (win == 0) by unfold winB; rw [f1b, f1n]; simp)
          by_cases f0 : fin = 0
          ·subst f0
           refine wp_region_held_drew (S := ThS w.heap.size turn whose 0) (by kernel_rfl) ?_ (fun hHeld => ?_)
           ·exact ⟨d3, d4, d5⟩
           refine wpAnyH_take (i := 0) (oi := ⟨some 131, _, _, _, _, _⟩) (v := ?_) rfl (by kernel_rfl) (by kernel_rfl) (by kernel_rfl) (fun _ _ _ h => h) (Or.inl ⟨by rfl, ?_⟩) (by assumption) ?_
           rotate_left
           ·(intro w hSw; unfold ThS at hSw; go_split_ands; go_simp; try with_reducible rfl)
           try simp only [Act.put, List.setIfInBounds_toArray, List.set_cons_zero, List.set_cons_succ]
           refine wpAnyH_take (i := 1) (oi := ⟨some 132, _, _, _, _, _⟩) (v := ?_) rfl (by kernel_rfl) (by kernel_rfl) (by kernel_rfl) (fun _ _ _ h => h) (Or.inl ⟨by rfl, ?_⟩) (by assumption) ?_
           rotate_left
           ·(intro w hSw; unfold ThS at hSw; go_split_ands; go_simp; try with_reducible rfl)
           try simp only [Act.put, List.setIfInBounds_toArray, List.set_cons_zero, List.set_cons_succ]
           refine wpAnyH_take (i := 2) (oi := ⟨some 133, _, _, _, _, _⟩) (v := ?_) rfl (by kernel_rfl) (by kernel_rfl) (by kernel_rfl) (fun _ _ _ h => h) (Or.inl ⟨by rfl, ?_⟩) (by assumption) ?_
           rotate_left
           ·(intro w hSw; unfold ThS at hSw; go_split_ands; go_simp; try with_reducible rfl)
           try simp only [Act.put, List.setIfInBounds_toArray, List.set_cons_zero, List.set_cons_succ]
           refine wpAnyH_take (i := 3) (oi := ⟨some 134, _, _, _, _, _⟩) (v := ?_) rfl (by kernel_rfl) (by kernel_rfl) (by kernel_rfl) (fun _ _ _ h => h) (Or.inl ⟨by rfl, ?_⟩) (by assumption) ?_
           rotate_left
           ·(intro w hSw; unfold ThS at hSw; go_split_ands; go_simp; try with_reducible rfl)
           try simp only [Act.put, List.setIfInBounds_toArray, List.set_cons_zero, List.set_cons_succ]
           refine wpAnyH_take (i := 4) (oi := ⟨some 135, _, _, _, _, _⟩) (v := ?_) rfl (by kernel_rfl) (by kernel_rfl) (by kernel_rfl) (fun _ _ _ h => h) (Or.inl ⟨by rfl, ?_⟩) (by assumption) ?_
           rotate_left
           ·(intro w hSw; unfold ThS at hSw; go_split_ands; go_simp; try with_reducible rfl)
           try simp only [Act.put, List.setIfInBounds_toArray, List.set_cons_zero, List.set_cons_succ]
           refine wpAnyH_take (i := 5) (oi := ⟨some 136, _, _, _, _, _⟩) (v := ?_) rfl (by kernel_rfl) (by kernel_rfl) (by kernel_rfl) (fun _ _ _ h => h) (Or.inl ⟨by rfl, ?_⟩) (by assumption) ?_
           rotate_left
           ·(intro w hSw; unfold ThS at hSw; go_split_ands; go_simp; try with_reducible rfl)
           try simp only [Act.put, List.setIfInBounds_toArray, List.set_cons_zero, List.set_cons_succ]
           refine wpAnyH_take (i := 6) (oi := ⟨some 137, _, _, _, _, _⟩) (v := ?_) rfl (by kernel_rfl) (by kernel_rfl) (by kernel_rfl) (fun _ _ _ h => h) (Or.inl ⟨by rfl, ?_⟩) (by assumption) ?_
           rotate_left
           ·(intro w hSw; unfold ThS at hSw; go_split_ands; go_simp; try with_reducible rfl)
           try simp only [Act.put, List.setIfInBounds_toArray, List.set_cons_zero, List.set_cons_succ]
           refine wpAnyH_take (i := 7) (oi := ⟨some 138, _, _, _, _, _⟩) (v := ?_) rfl (by kernel_rfl) (by kernel_rfl) (by kernel_rfl) (fun _ _ _ h => h) (Or.inl ⟨by rfl, ?_⟩) (by assumption) ?_
           rotate_left
           ·(intro w hSw; unfold ThS at hSw; go_split_ands; go_simp; try with_reducible rfl)
           try simp only [Act.put, List.setIfInBounds_toArray, List.set_cons_zero, List.set_cons_succ]
           refine wpAnyH_take (i := 8) (oi := ⟨some 139, _, _, _, _, _⟩) (v := ?_) rfl (by kernel_rfl) (by kernel_rfl) (by kernel_rfl) (fun _ _ _ h => h) (Or.inl ⟨by rfl, ?_⟩) (by assumption) ?_
           rotate_left
           ·(intro w hSw; unfold ThS at hSw; go_split_ands; go_simp; try with_reducible rfl)
           try simp only [Act.put, List.setIfInBounds_toArray, List.set_cons_zero, List.set_cons_succ]
           refine wpAnyH_take (i := 10) (oi := ⟨some 141, _, _, _, _, _⟩) (v := ?_) rfl (by kernel_rfl) (by kernel_rfl) (by kernel_rfl) (fun _ _ _ h => h) (Or.inl ⟨by rfl, ?_⟩) (by assumption) ?_
           rotate_left
           ·(intro w hSw; unfold ThS at hSw; go_split_ands; go_simp; try with_reducible rfl)
           try simp only [Act.put, List.setIfInBounds_toArray, List.set_cons_zero, List.set_cons_succ]
           refine wpAnyH_take (i := 11) (oi := ⟨some 142, _, _, _, _, _⟩) (v := ?_) rfl (by kernel_rfl) (by kernel_rfl) (by kernel_rfl) (fun _ _ _ h => h) (Or.inl ⟨by rfl, ?_⟩) (by assumption) ?_
           rotate_left
           ·(intro w hSw; unfold ThS at hSw; go_split_ands; go_simp; try with_reducible rfl)
           try simp only [Act.put, List.setIfInBounds_toArray, List.set_cons_zero, List.set_cons_succ]
           refine wpAnyH_take (i := 12) (oi := ⟨some 143, _, _, _, _, _⟩) (v := ?_) rfl (by kernel_rfl) (by kernel_rfl) (by kernel_rfl) (fun _ _ _ h => h) (Or.inl ⟨by rfl, ?_⟩) (by assumption) ?_
           rotate_left
           ·(intro w hSw; unfold ThS at hSw; go_split_ands; go_simp; try with_reducible rfl)
           try simp only [Act.put, List.setIfInBounds_toArray, List.set_cons_zero, List.set_cons_succ]
           refine wpAnyH_ready (rs := [9]) (by kernel_rfl) (by simp) ?_
           refine AllReadyH.cons rfl (fun K hK => ?_) AllReadyH.nil
           go_simp
           (go_at_call 196; refine (refFrom_any _ _ _ _).mono ?_; rintro e wq ⟨rfl, rfl⟩)
           go_wp2_with fail
           refine hK.out _ _ ?_ (fun hHeld => ?_)
           ·assumption
           clear hK K
           try simp only [Act.put, List.setIfInBounds_toArray, List.set_cons_zero, List.set_cons_succ]
           refine wpAnyH_take (i := 13) (oi := ⟨some 144, _, _, _, _, _⟩) (v := ?_) rfl (by kernel_rfl) (by kernel_rfl) (by kernel_rfl) (fun _ _ _ h => h) (Or.inl ⟨by rfl, ?_⟩) (by assumption) ?_
           rotate_left
           ·(intro w hSw; unfold ThS at hSw; go_split_ands; go_simp; try with_reducible rfl)
           try simp only [Act.put, List.setIfInBounds_toArray, List.set_cons_zero, List.set_cons_succ]
           refine wpAnyH_take (i := 14) (oi := ⟨some 145, _, _, _, _, _⟩) (v := undef) rfl (by kernel_rfl) (by kernel_rfl) (by kernel_rfl) (fun _ _ _ h => h) (Or.inr ⟨by rfl, rfl⟩) (by assumption) ?_
           try simp only [Act.put, List.setIfInBounds_toArray, List.set_cons_zero, List.set_cons_succ]
           refine wpAnyH_take (i := 15) (oi := ⟨some 146, _, _, _, _, _⟩) (v := undef) rfl (by kernel_rfl) (by kernel_rfl) (by kernel_rfl) (fun _ _ _ h => h) (Or.inr ⟨by rfl, rfl⟩) (by assumption) ?_
           try simp only [Act.put, List.setIfInBounds_toArray, List.set_cons_zero, List.set_cons_succ]
           refine wpAnyH_take (i := 16) (oi := ⟨some 147, _, _, _, _, _⟩) (v := undef) rfl (by kernel_rfl) (by kernel_rfl) (by kernel_rfl) (fun _ _ _ h => h) (Or.inr ⟨by rfl, rfl⟩) (by assumption) ?_
           try simp only [Act.put, List.setIfInBounds_toArray, List.set_cons_zero, List.set_cons_succ]
           refine wpAnyH_take (i := 17) (oi := ⟨some 148, _, _, _, _, _⟩) (v := ?_) rfl (by kernel_rfl) (by kernel_rfl) (by kernel_rfl) (fun _ _ _ h => h) (Or.inl ⟨by rfl, ?_⟩) (by assumption) ?_
           rotate_left
           ·(intro w hSw; unfold ThS at hSw; go_split_ands; go_simp; try with_reducible rfl)
           try simp only [Act.put, List.setIfInBounds_toArray, List.set_cons_zero, List.set_cons_succ]
           refine wpAnyH_take (i := 18) (oi := ⟨some 149, _, _, _, _, _⟩) (v := ?_) rfl (by kernel_rfl) (by kernel_rfl) (by kernel_rfl) (fun _ _ _ h => h) (Or.inl ⟨by rfl, ?_⟩) (by assumption) ?_
           rotate_left
           ·(intro w hSw; unfold ThS at hSw; go_split_ands; go_simp; try with_reducible rfl)
           try simp only [Act.put, List.setIfInBounds_toArray, List.set_cons_zero, List.set_cons_succ]
           refine wpAnyH_take (i := 19) (oi := ⟨some 150, _, _, _, _, _⟩) (v := undef) rfl (by kernel_rfl) (by kernel_rfl) (by kernel_rfl) (fun _ _ _ h => h) (Or.inr ⟨by rfl, rfl⟩) (by assumption) ?_
           try simp only [Act.put, List.setIfInBounds_toArray, List.set_cons_zero, List.set_cons_succ]
           refine wpAnyH_take (i := 20) (oi := ⟨some 151, _, _, _, _, _⟩) (v := undef) rfl (by kernel_rfl) (by kernel_rfl) (by kernel_rfl) (fun _ _ _ h => h) (Or.inr ⟨by rfl, rfl⟩) (by assumption) ?_
           try simp only [Act.put, List.setIfInBounds_toArray, List.set_cons_zero, List.set_cons_succ]
           refine wpAnyH_take (i := 21) (oi := ⟨some 152, _, _, _, _, _⟩) (v := undef) rfl (by kernel_rfl) (by kernel_rfl) (by kernel_rfl) (fun _ _ _ h => h) (Or.inr ⟨by rfl, rfl⟩) (by assumption) ?_
           try simp only [Act.put, List.setIfInBounds_toArray, List.set_cons_zero, List.set_cons_succ]
           refine wpAnyH_take (i := 22) (oi := ⟨some 153, _, _, _, _, _⟩) (v := ?_) rfl (by kernel_rfl) (by kernel_rfl) (by kernel_rfl) (fun _ _ _ h => h) (Or.inl ⟨by rfl, ?_⟩) (by assumption) ?_
           rotate_left
           ·(intro w hSw; unfold ThS at hSw; go_split_ands; go_simp; try with_reducible rfl)
           try simp only [Act.put, List.setIfInBounds_toArray, List.set_cons_zero, List.set_cons_succ]
           refine wpAnyH_ready (rs := [23]) (by kernel_rfl) (by simp) ?_
           refine AllReadyH.cons rfl (fun K hK => ?_) AllReadyH.nil
           go_simp
           go_wp2_with fail
           refine hK.out _ _ ?_ (fun hHeld => ?_)
           ·exact ThS.below (by assumption) (G.bl_alloc (Below.refl _ _) _)
           clear hK K
           try simp only [Act.put, List.setIfInBounds_toArray, List.set_cons_zero, List.set_cons_succ]
           refine wpAnyH_ready (rs := [24]) (by kernel_rfl) (by simp) ?_
           refine AllReadyH.cons rfl (fun K hK => ?_) AllReadyH.nil
           (refine wp_append_own _ (.tmp 131) (.tmp 154) 111 rfl w1.heap.size 4 i0 (.bool false) 1 1 Tryz.underlying111 hi hz0 hz1 hz2 rfl (by decide) _ (1 + n + m + fl) (bools B) rfl (HOW.out _) ⟨w6.heap.size, 0, none⟩ 4 4 [.bool ab, .bool (decide (1 ≤ turn)), .bool (fromB whose 0 ((n : Int) - 1)), .bool (true)] rfl rfl (HNW.out _) (by simp [Value.oneCell']) (by unfold maxLen; omega) (by omega) (by simp; omega) ?_; intro v8 w8 hown8 hg8 _q; have HO8 := Lib.hid hown8; have HB8 := Lib.hid ((HB7.out _).grown hg8 (by simp; omega) (fun g hg => (HOWN.out.lt g hg).1)); have HBX8 := Lib.hid (HBX.out.below HB8.out HBX.out.lt); have d5 := (HBX8.out.cell 5).trans HC5.out; have d6 := (HBX8.out.cell 6).trans HC6.out; have hw8 := HB8.out.size; clear hown8 hg8)
           try simp only [Act.put, List.getElem_toArray, List.getElem_cons_succ, List.getElem_cons_zero]
           refine hK.out _ _ ?_ (fun hHeld => ?_)
           ·exact ⟨(HBX8.out.cell 3).trans HC3.out, (HBX8.out.cell 4).trans HC4.out, d5⟩
           clear hK K
           try simp only [Act.put, List.setIfInBounds_toArray, List.set_cons_zero, List.set_cons_succ]
           refine wpAnyH_take (i := 25) (oi := ⟨some 5, _, _, _, _, _⟩) (v := ?_) rfl (by kernel_rfl) (by kernel_rfl) (by kernel_rfl) (fun _ _ _ h => h) (Or.inl ⟨by rfl, ?_⟩) (by assumption) ?_
           rotate_left
           ·(intro w hSw; unfold ThS at hSw; go_split_ands; go_simp; try with_reducible rfl)
           try simp only [Act.put, List.setIfInBounds_toArray, List.set_cons_zero, List.set_cons_succ]
           refine wpAnyH_done (by kernel_rfl) ?_ _
           go_wp2_with (first | (go_at_call 196; refine (refFrom_any _ _ _ _).mono ?_; rintro e wq ⟨rfl, rfl⟩) | (at_builtin; (refine wpList_append_own _ rfl (.tmp 156) (.tmp 177) 111 rfl w1.heap.size 4 i0 (.bool false) 1 1 Tryz.underlying111 hi hz0 hz1 hz2 rfl (by decide) _ _ _ rfl (HO8.out.alloc _) ⟨w8.heap.size, 0, none⟩ 1 1 [.bool (win == 0)] rfl rfl (G.cells_new _ _ _ _ rfl) (by simp [Value.oneCell']) (by unfold maxLen; omega) (by omega) (by simp; omega) ?_; intro v9 w9 hown9 hg9 _q; have HO9 := Lib.hid hown9; have HB9 := Lib.hid ((G.bl_alloc HB8.out _).grown hg9 (by simp; omega) (fun g hg => (HO8.out.lt g hg).1)); clear hown9 hg9)))
           go_ret
           exact thP (n := 1 + n + m + fl + 4 + 1) (B := B ++ [ab, decide (1 ≤ turn), fromB whose 0 ((n : Int) - 1), true, win == 0]) (by simp [HLB.out]) (by rw [bools_app]; have h9 := HO9.out; rw [List.append_assoc] at h9; exact h9) (HFIN.out _ _ (rfl) (HWIN.out)) (by omega) (G.bl_trans HB1.out HB9.out)
          ·have f0b : (fin == 0) = false := by simpa using f0
           by_cases f2 : fin = 2
           ·subst f2
            refine wp_region_held_drew (S := ThS w.heap.size turn whose 2) (by kernel_rfl) ?_ (fun hHeld => ?_)
            ·exact ⟨d3, d4, d5⟩
            refine wpAnyH_take (i := 0) (oi := ⟨some 131, _, _, _, _, _⟩) (v := ?_) rfl (by kernel_rfl) (by kernel_rfl) (by kernel_rfl) (fun _ _ _ h => h) (Or.inl ⟨by rfl, ?_⟩) (by assumption) ?_
            rotate_left
            ·(intro w hSw; unfold ThS at hSw; go_split_ands; go_simp; try with_reducible rfl)
            try simp only [Act.put, List.setIfInBounds_toArray, List.set_cons_zero, List.set_cons_succ]
            refine wpAnyH_take (i := 1) (oi := ⟨some 132, _, _, _, _, _⟩) (v := ?_) rfl (by kernel_rfl) (by kernel_rfl) (by kernel_rfl) (fun _ _ _ h => h) (Or.inl ⟨by rfl, ?_⟩) (by assumption) ?_
            rotate_left
            ·(intro w hSw; unfold ThS at hSw; go_split_ands; go_simp; try with_reducible rfl)
            try simp only [Act.put, List.setIfInBounds_toArray, List.set_cons_zero, List.set_cons_succ]
            refine wpAnyH_take (i := 2) (oi := ⟨some 133, _, _, _, _, _⟩) (v := ?_) rfl (by kernel_rfl) (by kernel_rfl) (by kernel_rfl) (fun _ _ _ h => h) (Or.inl ⟨by rfl, ?_⟩) (by assumption) ?_
            rotate_left
            ·(intro w hSw; unfold ThS at hSw; go_split_ands; go_simp; try with_reducible rfl)
            try simp only [Act.put, List.setIfInBounds_toArray, List.set_cons_zero, List.set_cons_succ]
            refine wpAnyH_take (i := 3) (oi := ⟨some 134, _, _, _, _, _⟩) (v := ?_) rfl (by kernel_rfl) (by kernel_rfl) (by kernel_rfl) (fun _ _ _ h => h) (Or.inl ⟨by rfl, ?_⟩) (by assumption) ?_
            rotate_left
            ·(intro w hSw; unfold ThS at hSw; go_split_ands; go_simp; try with_reducible rfl)
            try simp only [Act.put, List.setIfInBounds_toArray, List.set_cons_zero, List.set_cons_succ]
            refine wpAnyH_take (i := 4) (oi := ⟨some 135, _, _, _, _, _⟩) (v := ?_) rfl (by kernel_rfl) (by kernel_rfl) (by kernel_rfl) (fun _ _ _ h => h) (Or.inl ⟨by rfl, ?_⟩) (by assumption) ?_
            rotate_left
            ·(intro w hSw; unfold ThS at hSw; go_split_ands; go_simp; try with_reducible rfl)
            try simp only [Act.put, List.setIfInBounds_toArray, List.set_cons_zero, List.set_cons_succ]
            refine wpAnyH_take (i := 5) (oi := ⟨some 136, _, _, _, _, _⟩) (v := ?_) rfl (by kernel_rfl) (by kernel_rfl) (by kernel_rfl) (fun _ _ _ h => h) (Or.inl ⟨by rfl, ?_⟩) (by assumption) ?_
            rotate_left
            ·(intro w hSw; unfold ThS at hSw; go_split_ands; go_simp; try with_reducible rfl)
            try simp only [Act.put, List.setIfInBounds_toArray, List.set_cons_zero, List.set_cons_succ]
            refine wpAnyH_take (i := 6) (oi := ⟨some 137, _, _, _, _, _⟩) (v := ?_) rfl (by kernel_rfl) (by kernel_rfl) (by kernel_rfl) (fun _ _ _ h => h) (Or.inl ⟨by rfl, ?_⟩) (by assumption) ?_
            rotate_left
            ·(intro w hSw; unfold ThS at hSw; go_split_ands; go_simp; try with_reducible rfl)
            try simp only [Act.put, List.setIfInBounds_toArray, List.set_cons_zero, List.set_cons_succ]
            refine wpAnyH_take (i := 7) (oi := ⟨some 138, _, _, _, _, _⟩) (v := ?_) rfl (by kernel_rfl) (by kernel_rfl) (by kernel_rfl) (fun _ _ _ h => h) (Or.inl ⟨by rfl, ?_⟩) (by assumption) ?_
            rotate_left
            ·(intro w hSw; unfold ThS at hSw; go_split_ands; go_simp; try with_reducible rfl)
            try simp only [Act.put, List.setIfInBounds_toArray, List.set_cons_zero, List.set_cons_succ]
            refine wpAnyH_take (i := 8) (oi := ⟨some 139, _, _, _, _, _⟩) (v := ?_) rfl (by kernel_rfl) (by kernel_rfl) (by kernel_rfl) (fun _ _ _ h => h) (Or.inl ⟨by rfl, ?_⟩) (by assumption) ?_
            rotate_left
            ·(intro w hSw; unfold ThS at hSw; go_split_ands; go_simp; try with_reducible rfl)
            try simp only [Act.put, List.setIfInBounds_toArray, List.set_cons_zero, List.set_cons_succ]
            refine wpAnyH_take (i := 10) (oi := ⟨some 141, _, _, _, _, _⟩) (v := ?_) rfl (by kernel_rfl) (by kernel_rfl) (by kernel_rfl) (fun _ _ _ h => h) (Or.inl ⟨by rfl, ?_⟩) (by assumption) ?_
            rotate_left
            ·(intro w hSw; unfold ThS at hSw; go_split_ands; go_simp; try with_reducible rfl)
            try simp only [Act.put, List.setIfInBounds_toArray, List.set_cons_zero, List.set_cons_succ]
            refine wpAnyH_take (i := 11) (oi := ⟨some 142, _, _, _, _, _⟩) (v := ?_) rfl (by kernel_rfl) (by kernel_rfl) (by kernel_rfl) (fun _ _ _ h => h) (Or.inl ⟨by rfl, ?_⟩) (by assumption) ?_
            rotate_left
            ·(intro w hSw; unfold ThS at hSw; go_split_ands; go_simp; try with_reducible rfl)
            try simp only [Act.put, List.setIfInBounds_toArray, List.set_cons_zero, List.set_cons_succ]
            refine wpAnyH_take (i := 12) (oi := ⟨some 143, _, _, _, _, _⟩) (v := ?_) rfl (by kernel_rfl) (by kernel_rfl) (by kernel_rfl) (fun _ _ _ h => h) (Or.inl ⟨by rfl, ?_⟩) (by assumption) ?_
            rotate_left
            ·(intro w hSw; unfold ThS at hSw; go_split_ands; go_simp; try with_reducible rfl)
            try simp only [Act.put, List.setIfInBounds_toArray, List.set_cons_zero, List.set_cons_succ]
            refine wpAnyH_ready (rs := [9]) (by kernel_rfl) (by simp) ?_
            refine AllReadyH.cons rfl (fun K hK => ?_) AllReadyH.nil
            go_simp
            (go_at_call 196; refine (refFrom_any _ _ _ _).mono ?_; rintro e wq ⟨rfl, rfl⟩)
            go_wp2_with fail
            refine hK.out _ _ ?_ (fun hHeld => ?_)
            ·assumption
            clear hK K
            try simp only [Act.put, List.setIfInBounds_toArray, List.set_cons_zero, List.set_cons_succ]
            refine wpAnyH_take (i := 13) (oi := ⟨some 144, _, _, _, _, _⟩) (v := ?_) rfl (by kernel_rfl) (by kernel_rfl) (by kernel_rfl) (fun _ _ _ h => h) (Or.inl ⟨by rfl, ?_⟩) (by assumption) ?_
            rotate_left
            ·(intro w hSw; unfold ThS at hSw; go_split_ands; go_simp; try with_reducible rfl)
            try simp only [Act.put, List.setIfInBounds_toArray, List.set_cons_zero, List.set_cons_succ]
            refine wpAnyH_take (i := 14) (oi := ⟨some 145, _, _, _, _, _⟩) (v := ?_) rfl (by kernel_rfl) (by kernel_rfl) (by kernel_rfl) (fun _ _ _ h => h) (Or.inl ⟨by rfl, ?_⟩) (by assumption) ?_
            rotate_left
            ·(intro w hSw; unfold ThS at hSw; go_split_ands; go_simp; try with_reducible rfl)
            try simp only [Act.put, List.setIfInBounds_toArray, List.set_cons_zero, List.set_cons_succ]
            refine wpAnyH_take (i := 15) (oi := ⟨some 146, _, _, _, _, _⟩) (v := ?_) rfl (by kernel_rfl) (by kernel_rfl) (by kernel_rfl) (fun _ _ _ h => h) (Or.inl ⟨by rfl, ?_⟩) (by assumption) ?_
            rotate_left
            ·(intro w hSw; unfold ThS at hSw; go_split_ands; go_simp; try with_reducible rfl)
            try simp only [Act.put, List.setIfInBounds_toArray, List.set_cons_zero, List.set_cons_succ]
            refine wpAnyH_take (i := 16) (oi := ⟨some 147, _, _, _, _, _⟩) (v := ?_) rfl (by kernel_rfl) (by kernel_rfl) (by kernel_rfl) (fun _ _ _ h => h) (Or.inl ⟨by rfl, ?_⟩) (by assumption) ?_
            rotate_left
            ·(intro w hSw; unfold ThS at hSw; go_split_ands; go_simp; try with_reducible rfl)
            try simp only [Act.put, List.setIfInBounds_toArray, List.set_cons_zero, List.set_cons_succ]
            refine wpAnyH_take (i := 17) (oi := ⟨some 148, _, _, _, _, _⟩) (v := ?_) rfl (by kernel_rfl) (by kernel_rfl) (by kernel_rfl) (fun _ _ _ h => h) (Or.inl ⟨by rfl, ?_⟩) (by assumption) ?_
            rotate_left
            ·(intro w hSw; unfold ThS at hSw; go_split_ands; go_simp; try with_reducible rfl)
            try simp only [Act.put, List.setIfInBounds_toArray, List.set_cons_zero, List.set_cons_succ]
            refine wpAnyH_take (i := 18) (oi := ⟨some 149, _, _, _, _, _⟩) (v := ?_) rfl (by kernel_rfl) (by kernel_rfl) (by kernel_rfl) (fun _ _ _ h => h) (Or.inl ⟨by rfl, ?_⟩) (by assumption) ?_
            rotate_left
            ·(intro w hSw; unfold ThS at hSw; go_split_ands; go_simp; try with_reducible rfl)
            try simp only [Act.put, List.setIfInBounds_toArray, List.set_cons_zero, List.set_cons_succ]
            refine wpAnyH_take (i := 19) (oi := ⟨some 150, _, _, _, _, _⟩) (v := ?_) rfl (by kernel_rfl) (by kernel_rfl) (by kernel_rfl) (fun _ _ _ h => h) (Or.inl ⟨by rfl, ?_⟩) (by assumption) ?_
            rotate_left
            ·(intro w hSw; unfold ThS at hSw; go_split_ands; go_simp; try with_reducible rfl)
            try simp only [Act.put, List.setIfInBounds_toArray, List.set_cons_zero, List.set_cons_succ]
            refine wpAnyH_take (i := 20) (oi := ⟨some 151, _, _, _, _, _⟩) (v := ?_) rfl (by kernel_rfl) (by kernel_rfl) (by kernel_rfl) (fun _ _ _ h => h) (Or.inl ⟨by rfl, ?_⟩) (by assumption) ?_
            rotate_left
            ·(intro w hSw; unfold ThS at hSw; go_split_ands; go_simp; try with_reducible rfl)
            try simp only [Act.put, List.setIfInBounds_toArray, List.set_cons_zero, List.set_cons_succ]
            refine wpAnyH_take (i := 21) (oi := ⟨some 152, _, _, _, _, _⟩) (v := ?_) rfl (by kernel_rfl) (by kernel_rfl) (by kernel_rfl) (fun _ _ _ h => h) (Or.inl ⟨by rfl, ?_⟩) (by assumption) ?_
            rotate_left
            ·(intro w hSw; unfold ThS at hSw; go_split_ands; go_simp; try with_reducible rfl)
            try simp only [Act.put, List.setIfInBounds_toArray, List.set_cons_zero, List.set_cons_succ]
            refine wpAnyH_take (i := 22) (oi := ⟨some 153, _, _, _, _, _⟩) (v := ?_) rfl (by kernel_rfl) (by kernel_rfl) (by kernel_rfl) (fun _ _ _ h => h) (Or.inl ⟨by rfl, ?_⟩) (by assumption) ?_
            rotate_left
            ·(intro w hSw; unfold ThS at hSw; go_split_ands; go_simp; try with_reducible rfl)
            try simp only [Act.put, List.setIfInBounds_toArray, List.set_cons_zero, List.set_cons_succ]
            refine wpAnyH_ready (rs := [23]) (by kernel_rfl) (by simp) ?_
            refine AllReadyH.cons rfl (fun K hK => ?_) AllReadyH.nil
            go_simp
            go_wp2_with fail
            refine hK.out _ _ ?_ (fun hHeld => ?_)
            ·exact ThS.below (by assumption) (G.bl_alloc (Below.refl _ _) _)
            clear hK K
            try simp only [Act.put, List.setIfInBounds_toArray, List.set_cons_zero, List.set_cons_succ]
            refine wpAnyH_ready (rs := [24]) (by kernel_rfl) (by simp) ?_
            refine AllReadyH.cons rfl (fun K hK => ?_) AllReadyH.nil
            (refine wp_append_own _ (.tmp 131) (.tmp 154) 111 rfl w1.heap.size 4 i0 (.bool false) 1 1 Tryz.underlying111 hi hz0 hz1 hz2 rfl (by decide) _ (1 + n + m + fl) (bools B) rfl (HOW.out _) ⟨w6.heap.size, 0, none⟩ 4 4 [.bool ab, .bool (decide (1 ≤ turn)), .bool (fromB whose 0 ((n : Int) - 1)), .bool (true)] rfl rfl (HNW.out _) (by simp [Value.oneCell']) (by unfold maxLen; omega) (by omega) (by simp; omega) ?_; intro v8 w8 hown8 hg8 _q; have HO8 := Lib.hid hown8; have HB8 := Lib.hid ((HB7.out _).grown hg8 (by simp; omega) (fun g hg => (HOWN.out.lt g hg).1)); have HBX8 := Lib.hid (HBX.out.below HB8.out HBX.out.lt); have d5 := (HBX8.out.cell 5).trans HC5.out; have d6 := (HBX8.out.cell 6).trans HC6.out; have hw8 := HB8.out.size; clear hown8 hg8)
            try simp only [Act.put, List.getElem_toArray, List.getElem_cons_succ, List.getElem_cons_zero]
            refine hK.out _ _ ?_ (fun hHeld => ?_)
            ·exact ⟨(HBX8.out.cell 3).trans HC3.out, (HBX8.out.cell 4).trans HC4.out, d5⟩
            clear hK K
            try simp only [Act.put, List.setIfInBounds_toArray, List.set_cons_zero, List.set_cons_succ]
            refine wpAnyH_take (i := 25) (oi := ⟨some 5, _, _, _, _, _⟩) (v := ?_) rfl (by kernel_rfl) (by kernel_rfl) (by kernel_rfl) (fun _ _ _ h => h) (Or.inl ⟨by rfl, ?_⟩) (by assumption) ?_
            rotate_left
            ·(intro w hSw; unfold ThS at hSw; go_split_ands; go_simp; try with_reducible rfl)
            try simp only [Act.put, List.setIfInBounds_toArray, List.set_cons_zero, List.set_cons_succ]
            refine wpAnyH_done (by kernel_rfl) ?_ _
            go_wp2_with (first | (go_at_call 196; refine (refFrom_any _ _ _ _).mono ?_; rintro e wq ⟨rfl, rfl⟩) | (at_builtin; (refine wpList_append_own _ rfl (.tmp 156) (.tmp 177) 111 rfl w1.heap.size 4 i0 (.bool false) 1 1 Tryz.underlying111 hi hz0 hz1 hz2 rfl (by decide) _ _ _ rfl (HO8.out.alloc _) ⟨w8.heap.size, 0, none⟩ 1 1 [.bool (win == 0)] rfl rfl (G.cells_new _ _ _ _ rfl) (by simp [Value.oneCell']) (by unfold maxLen; omega) (by omega) (by simp; omega) ?_; intro v9 w9 hown9 hg9 _q; have HO9 := Lib.hid hown9; have HB9 := Lib.hid ((G.bl_alloc HB8.out _).grown hg9 (by simp; omega) (fun g hg => (HO8.out.lt g hg).1)); clear hown9 hg9)))
            go_ret
            exact thP (n := 1 + n + m + fl + 4 + 1) (B := B ++ [ab, decide (1 ≤ turn), fromB whose 0 ((n : Int) - 1), true, win == 0]) (by simp [HLB.out]) (by rw [bools_app]; have h9 := HO9.out; rw [List.append_assoc] at h9; exact h9) (HFIN.out _ _ (rfl) (HWIN.out)) (by omega) (G.bl_trans HB1.out HB9.out)
           ·have f2b : (fin == 2) = false := by simpa using f2
            have HFN := Lib.hid (show finB fin = false by unfold finB; rw [f0b, f1b, f2b]; rfl)
            refine wp_region_held_drew (S := ThS w.heap.size turn whose fin) (by kernel_rfl) ?_ (fun hHeld => ?_)
            ·exact ⟨d3, d4, d5⟩
            refine wpAnyH_take (i := 0) (oi := ⟨some 131, _, _, _, _, _⟩) (v := ?_) rfl (by kernel_rfl) (by kernel_rfl) (by kernel_rfl) (fun _ _ _ h => h) (Or.inl ⟨by rfl, ?_⟩) (by assumption) ?_
            rotate_left
            ·(intro w hSw; unfold ThS at hSw; go_split_ands; go_simp; try with_reducible rfl)
            try simp only [Act.put, List.setIfInBounds_toArray, List.set_cons_zero, List.set_cons_succ]
            refine wpAnyH_take (i := 1) (oi := ⟨some 132, _, _, _, _, _⟩) (v := ?_) rfl (by kernel_rfl) (by kernel_rfl) (by kernel_rfl) (fun _ _ _ h => h) (Or.inl ⟨by rfl, ?_⟩) (by assumption) ?_
            rotate_left
            ·(intro w hSw; unfold ThS at hSw; go_split_ands; go_simp; try with_reducible rfl)
            try simp only [Act.put, List.setIfInBounds_toArray, List.set_cons_zero, List.set_cons_succ]
            refine wpAnyH_take (i := 2) (oi := ⟨some 133, _, _, _, _, _⟩) (v := ?_) rfl (by kernel_rfl) (by kernel_rfl) (by kernel_rfl) (fun _ _ _ h => h) (Or.inl ⟨by rfl, ?_⟩) (by assumption) ?_
            rotate_left
            ·(intro w hSw; unfold ThS at hSw; go_split_ands; go_simp; try with_reducible rfl)
            try simp only [Act.put, List.setIfInBounds_toArray, List.set_cons_zero, List.set_cons_succ]
            refine wpAnyH_take (i := 3) (oi := ⟨some 134, _, _, _, _, _⟩) (v := ?_) rfl (by kernel_rfl) (by kernel_rfl) (by kernel_rfl) (fun _ _ _ h => h) (Or.inl ⟨by rfl, ?_⟩) (by assumption) ?_
            rotate_left
            ·(intro w hSw; unfold ThS at hSw; go_split_ands; go_simp; try with_reducible rfl)
            try simp only [Act.put, List.setIfInBounds_toArray, List.set_cons_zero, List.set_cons_succ]
            refine wpAnyH_take (i := 4) (oi := ⟨some 135, _, _, _, _, _⟩) (v := ?_) rfl (by kernel_rfl) (by kernel_rfl) (by kernel_rfl) (fun _ _ _ h => h) (Or.inl ⟨by rfl, ?_⟩) (by assumption) ?_
            rotate_left
            ·(intro w hSw; unfold ThS at hSw; go_split_ands; go_simp; try with_reducible rfl)
            try simp only [Act.put, List.setIfInBounds_toArray, List.set_cons_zero, List.set_cons_succ]
            refine wpAnyH_take (i := 5) (oi := ⟨some 136, _, _, _, _, _⟩) (v := ?_) rfl (by kernel_rfl) (by kernel_rfl) (by kernel_rfl) (fun _ _ _ h => h) (Or.inl ⟨by rfl, ?_⟩) (by assumption) ?_
            rotate_left
            ·(intro w hSw; unfold ThS at hSw; go_split_ands; go_simp; try with_reducible rfl)
            try simp only [Act.put, List.setIfInBounds_toArray, List.set_cons_zero, List.set_cons_succ]
            refine wpAnyH_take (i := 6) (oi := ⟨some 137, _, _, _, _, _⟩) (v := ?_) rfl (by kernel_rfl) (by kernel_rfl) (by kernel_rfl) (fun _ _ _ h => h) (Or.inl ⟨by rfl, ?_⟩) (by assumption) ?_
            rotate_left
            ·(intro w hSw; unfold ThS at hSw; go_split_ands; go_simp; try with_reducible rfl)
            try simp only [Act.put, List.setIfInBounds_toArray, List.set_cons_zero, List.set_cons_succ]
            refine wpAnyH_take (i := 7) (oi := ⟨some 138, _, _, _, _, _⟩) (v := ?_) rfl (by kernel_rfl) (by kernel_rfl) (by kernel_rfl) (fun _ _ _ h => h) (Or.inl ⟨by rfl, ?_⟩) (by assumption) ?_
            rotate_left
            ·(intro w hSw; unfold ThS at hSw; go_split_ands; go_simp; try with_reducible rfl)
            try simp only [Act.put, List.setIfInBounds_toArray, List.set_cons_zero, List.set_cons_succ]
            refine wpAnyH_take (i := 8) (oi := ⟨some 139, _, _, _, _, _⟩) (v := ?_) rfl (by kernel_rfl) (by kernel_rfl) (by kernel_rfl) (fun _ _ _ h => h) (Or.inl ⟨by rfl, ?_⟩) (by assumption) ?_
            rotate_left
            ·(intro w hSw; unfold ThS at hSw; go_split_ands; go_simp; try with_reducible rfl)
            try simp only [Act.put, List.setIfInBounds_toArray, List.set_cons_zero, List.set_cons_succ]
            refine wpAnyH_take (i := 10) (oi := ⟨some 141, _, _, _, _, _⟩) (v := ?_) rfl (by kernel_rfl) (by kernel_rfl) (by kernel_rfl) (fun _ _ _ h => h) (Or.inl ⟨by rfl, ?_⟩) (by assumption) ?_
            rotate_left
            ·(intro w hSw; unfold ThS at hSw; go_split_ands; go_simp; try with_reducible rfl)
            try simp only [Act.put, List.setIfInBounds_toArray, List.set_cons_zero, List.set_cons_succ]
            refine wpAnyH_take (i := 11) (oi := ⟨some 142, _, _, _, _, _⟩) (v := ?_) rfl (by kernel_rfl) (by kernel_rfl) (by kernel_rfl) (fun _ _ _ h => h) (Or.inl ⟨by rfl, ?_⟩) (by assumption) ?_
            rotate_left
            ·(intro w hSw; unfold ThS at hSw; go_split_ands; go_simp; try with_reducible rfl)
            try simp only [Act.put, List.setIfInBounds_toArray, List.set_cons_zero, List.set_cons_succ]
            refine wpAnyH_take (i := 12) (oi := ⟨some 143, _, _, _, _, _⟩) (v := ?_) rfl (by kernel_rfl) (by kernel_rfl) (by kernel_rfl) (fun _ _ _ h => h) (Or.inl ⟨by rfl, ?_⟩) (by assumption) ?_
            rotate_left
            ·(intro w hSw; unfold ThS at hSw; go_split_ands; go_simp; try with_reducible rfl)
            try simp only [Act.put, List.setIfInBounds_toArray, List.set_cons_zero, List.set_cons_succ]
            refine wpAnyH_ready (rs := [9]) (by kernel_rfl) (by simp) ?_
            refine AllReadyH.cons rfl (fun K hK => ?_) AllReadyH.nil
            go_simp
            (go_at_call 196; refine (refFrom_any _ _ _ _).mono ?_; rintro e wq ⟨rfl, rfl⟩)
            go_wp2_with fail
            refine hK.out _ _ ?_ (fun hHeld => ?_)
            ·assumption
            clear hK K
            try simp only [Act.put, List.setIfInBounds_toArray, List.set_cons_zero, List.set_cons_succ]
            refine wpAnyH_take (i := 13) (oi := ⟨some 144, _, _, _, _, _⟩) (v := ?_) rfl (by kernel_rfl) (by kernel_rfl) (by kernel_rfl) (fun _ _ _ h => h) (Or.inl ⟨by rfl, ?_⟩) (by assumption) ?_
            rotate_left
            ·(intro w hSw; unfold ThS at hSw; go_split_ands; go_simp; try with_reducible rfl)
            try simp only [Act.put, List.setIfInBounds_toArray, List.set_cons_zero, List.set_cons_succ]
            refine wpAnyH_take (i := 14) (oi := ⟨some 145, _, _, _, _, _⟩) (v := ?_) rfl (by kernel_rfl) (by kernel_rfl) (by kernel_rfl) (fun _ _ _ h => h) (Or.inl ⟨by rfl, ?_⟩) (by assumption) ?_
            rotate_left
            ·(intro w hSw; unfold ThS at hSw; go_split_ands; go_simp; try with_reducible rfl)
            try simp only [Act.put, List.setIfInBounds_toArray, List.set_cons_zero, List.set_cons_succ]
            refine wpAnyH_take (i := 15) (oi := ⟨some 146, _, _, _, _, _⟩) (v := ?_) rfl (by kernel_rfl) (by kernel_rfl) (by kernel_rfl) (fun _ _ _ h => h) (Or.inl ⟨by rfl, ?_⟩) (by assumption) ?_
            rotate_left
            ·(intro w hSw; unfold ThS at hSw; go_split_ands; go_simp; try with_reducible rfl)
            try simp only [Act.put, List.setIfInBounds_toArray, List.set_cons_zero, List.set_cons_succ]
            refine wpAnyH_take (i := 16) (oi := ⟨some 147, _, _, _, _, _⟩) (v := ?_) rfl (by kernel_rfl) (by kernel_rfl) (by kernel_rfl) (fun _ _ _ h => h) (Or.inl ⟨by rfl, ?_⟩) (by assumption) ?_
            rotate_left
            ·(intro w hSw; unfold ThS at hSw; go_split_ands; go_simp; try with_reducible rfl)
            try simp only [Act.put, List.setIfInBounds_toArray, List.set_cons_zero, List.set_cons_succ]
            refine wpAnyH_take (i := 17) (oi := ⟨some 148, _, _, _, _, _⟩) (v := ?_) rfl (by kernel_rfl) (by kernel_rfl) (by kernel_rfl) (fun _ _ _ h => h) (Or.inl ⟨by rfl, ?_⟩) (by assumption) ?_
            rotate_left
            ·(intro w hSw; unfold ThS at hSw; go_split_ands; go_simp; try with_reducible rfl)
            try simp only [Act.put, List.setIfInBounds_toArray, List.set_cons_zero, List.set_cons_succ]
            refine wpAnyH_take (i := 18) (oi := ⟨some 149, _, _, _, _, _⟩) (v := ?_) rfl (by kernel_rfl) (by kernel_rfl) (by kernel_rfl) (fun _ _ _ h => h) (Or.inl ⟨by rfl, ?_⟩) (by assumption) ?_
            rotate_left
            ·(intro w hSw; unfold ThS at hSw; go_split_ands; go_simp; try with_reducible rfl)
            try simp only [Act.put, List.setIfInBounds_toArray, List.set_cons_zero, List.set_cons_succ]
            refine wpAnyH_take (i := 19) (oi := ⟨some 150, _, _, _, _, _⟩) (v := ?_) rfl (by kernel_rfl) (by kernel_rfl) (by kernel_rfl) (fun _ _ _ h => h) (Or.inl ⟨by rfl, ?_⟩) (by assumption) ?_
            rotate_left
            ·(intro w hSw; unfold ThS at hSw; go_split_ands; go_simp; try with_reducible rfl)
            try simp only [Act.put, List.setIfInBounds_toArray, List.set_cons_zero, List.set_cons_succ]
            refine wpAnyH_take (i := 20) (oi := ⟨some 151, _, _, _, _, _⟩) (v := ?_) rfl (by kernel_rfl) (by kernel_rfl) (by kernel_rfl) (fun _ _ _ h => h) (Or.inl ⟨by rfl, ?_⟩) (by assumption) ?_
            rotate_left
            ·(intro w hSw; unfold ThS at hSw; go_split_ands; go_simp; try with_reducible rfl)
            try simp only [Act.put, List.setIfInBounds_toArray, List.set_cons_zero, List.set_cons_succ]
            refine wpAnyH_take (i := 21) (oi := ⟨some 152, _, _, _, _, _⟩) (v := ?_) rfl (by kernel_rfl) (by kernel_rfl) (by kernel_rfl) (fun _ _ _ h => h) (Or.inl ⟨by rfl, ?_⟩) (by assumption) ?_
            rotate_left
            ·(intro w hSw; unfold ThS at hSw; go_split_ands; go_simp; try with_reducible rfl)
            try simp only [Act.put, List.setIfInBounds_toArray, List.set_cons_zero, List.set_cons_succ]
            refine wpAnyH_take (i := 22) (oi := ⟨some 153, _, _, _, _, _⟩) (v := ?_) rfl (by kernel_rfl) (by kernel_rfl) (by kernel_rfl) (fun _ _ _ h => h) (Or.inl ⟨by rfl, ?_⟩) (by assumption) ?_
            rotate_left
            ·(intro w hSw; unfold ThS at hSw; go_split_ands; go_simp; try with_reducible rfl)
            try simp only [Act.put, List.setIfInBounds_toArray, List.set_cons_zero, List.set_cons_succ]
            refine wpAnyH_ready (rs := [23]) (by kernel_rfl) (by simp) ?_
            refine AllReadyH.cons rfl (fun K hK => ?_) AllReadyH.nil
            go_simp
            go_wp2_with fail
            refine hK.out _ _ ?_ (fun hHeld => ?_)
            ·exact ThS.below (by assumption) (G.bl_alloc (Below.refl _ _) _)
            clear hK K
            try simp only [Act.put, List.setIfInBounds_toArray, List.set_cons_zero, List.set_cons_succ]
            refine wpAnyH_ready (rs := [24]) (by kernel_rfl) (by simp) ?_
            refine AllReadyH.cons rfl (fun K hK => ?_) AllReadyH.nil
            (refine wp_append_own _ (.tmp 131) (.tmp 154) 111 rfl w1.heap.size 4 i0 (.bool false) 1 1 Tryz.underlying111 hi hz0 hz1 hz2 rfl (by decide) _ (1 + n + m + fl) (bools B) rfl (HOW.out _) ⟨w6.heap.size, 0, none⟩ 4 4 [.bool ab, .bool (decide (1 ≤ turn)), .bool (fromB whose 0 ((n : Int) - 1)), .bool (false)] rfl rfl (HNW.out _) (by simp [Value.oneCell']) (by unfold maxLen; omega) (by omega) (by simp; omega) ?_; intro v8 w8 hown8 hg8 _q; have HO8 := Lib.hid hown8; have HB8 := Lib.hid ((HB7.out _).grown hg8 (by simp; omega) (fun g hg => (HOWN.out.lt g hg).1)); have HBX8 := Lib.hid (HBX.out.below HB8.out HBX.out.lt); have d5 := (HBX8.out.cell 5).trans HC5.out; have d6 := (HBX8.out.cell 6).trans HC6.out; have hw8 := HB8.out.size; clear hown8 hg8)
            try simp only [Act.put, List.getElem_toArray, List.getElem_cons_succ, List.getElem_cons_zero]
            refine hK.out _ _ ?_ (fun hHeld => ?_)
            ·exact ⟨(HBX8.out.cell 3).trans HC3.out, (HBX8.out.cell 4).trans HC4.out, d5⟩
            clear hK K
            try simp only [Act.put, List.setIfInBounds_toArray, List.set_cons_zero, List.set_cons_succ]
            refine wpAnyH_take (i := 25) (oi := ⟨some 5, _, _, _, _, _⟩) (v := ?_) rfl (by kernel_rfl) (by kernel_rfl) (by kernel_rfl) (fun _ _ _ h => h) (Or.inl ⟨by rfl, ?_⟩) (by assumption) ?_
            rotate_left
            ·(intro w hSw; unfold ThS at hSw; go_split_ands; go_simp; try with_reducible rfl)
            try simp only [Act.put, List.setIfInBounds_toArray, List.set_cons_zero, List.set_cons_succ]
            refine wpAnyH_done (by kernel_rfl) ?_ _
            go_wp2_with (first | (go_at_call 196; refine (refFrom_any _ _ _ _).mono ?_; rintro e wq ⟨rfl, rfl⟩) | (at_builtin; (refine wpList_append_own _ rfl (.tmp 156) (.tmp 177) 111 rfl w1.heap.size 4 i0 (.bool false) 1 1 Tryz.underlying111 hi hz0 hz1 hz2 rfl (by decide) _ _ _ rfl (HO8.out.alloc _) ⟨w8.heap.size, 0, none⟩ 1 1 [.bool (win == 0)] rfl rfl (G.cells_new _ _ _ _ rfl) (by simp [Value.oneCell']) (by unfold maxLen; omega) (by omega) (by simp; omega) ?_; intro v9 w9 hown9 hg9 _q; have HO9 := Lib.hid hown9; have HB9 := Lib.hid ((G.bl_alloc HB8.out _).grown hg9 (by simp; omega) (fun g hg => (HO8.out.lt g hg).1)); clear hown9 hg9)))
            go_ret
            exact thP (n := 1 + n + m + fl + 4 + 1) (B := B ++ [ab, decide (1 ≤ turn), fromB whose 0 ((n : Int) - 1), false, win == 0]) (by simp [HLB.out]) (by rw [bools_app]; have h9 := HO9.out; rw [List.append_assoc] at h9; exact h9) (HFIN.out _ _ (HFN.out) (HWIN.out)) (by omega) (G.bl_trans HB1.out HB9.out)
end Go.Proofs.YtofgmijmhpmabaaGreatDoor.D

/- The reference of layer 06: set, changed. -/
import Derived.Test.YtofgmijmhpmabaaGreatDoorDRef6E
import Derived.Test.YtofgmijmhpmabaaGreatDoorDCopySt
import Derived.Test.YtofgmijmhpmabaaGreatDoorDField
import Derived.Test.YtofgmijmhpmabaaGreatDoorDMay
import Derived.Test.YtofgmijmhpmabaaGreatDoorDRow
namespace Go.Proofs.YtofgmijmhpmabaaGreatDoor.D
open Go Go.RowKit
set_option linter.unusedVariables false
set_option linter.unusedSimpArgs false
/-- A copy is laid into the variable. -/
theorem copied {w1 : World} {g base : Nat} {x1 : SV} {s : St} {cs : Array Value} (hb : G.Blk w1 g 27 cs) (ho : OwnSt w1 base x1 s) (hg : g ≤ base) : StAt (w1.setRow g (x1.arr s)) g g x1 s :=
 ⟨setRow_heap _ _ _ _ _ _ hb, (ho.ge hg).only (only_row hb) (by decide) (by decide) (by decide) (by decide), Nat.le_refl _⟩
/-- The variable is answered. -/
theorem st_done {w w3 : World} {g : Nat} {x1 : SV} {t : St} {zs : Array Value} (hs : StAt w3 g g x1 t) (hr : G.Blk w3 (g + 1) 27 zs) (hb : Below g w w3) (hg : g = w.heap.size) : OwnSt (w3.setRow (g + 1) (x1.arr t)) w.heap.size x1 t ∧ Below w.heap.size w (w3.setRow (g + 1) (x1.arr t)) :=
 ⟨by rw [← hg]; exact hs.own.only (only_row hr) (by decide) (by decide) (by decide) (by decide), by rw [← hg]; exact below_setRow hb (by omega) _⟩
theorem blk_cell_ne {w : World} {g gc i : Nat} {t : TypeId} {cs : Array Value} {u : Value} (h : G.Blk w g t cs) (hn : gc ≠ g) : G.Blk (w.setCell ⟨gc, i, none⟩ u) g t cs := blk_put_ne h (Ne.symm hn)
theorem own_ne_blk {w : World} {base e sz n gc g t : Nat} {A : Option Addr} {c : Nat} {xs : List Value} {cs : Array Value} (h : w.ownsRow base e sz (.slice A n c) n xs) (hA : A = some ⟨gc, 0, none⟩) (hb : G.Blk w g t cs) (he : e ≠ t) : gc ≠ g := by
 rintro rfl
 obtain ⟨c2, h2⟩ := G.ownsRow.block_e h (show (Value.slice A n c).ownBlock = some gc by rw [hA]; rfl)
 unfold G.Blk at hb
 rw [hb] at h2
 simp only [Option.some.injEq, Obj.cells.injEq] at h2
 exact he h2.2.1.symm
set_option maxRecDepth 100000 in
set_option maxHeartbeats 4000000 in
theorem refSet_any (x : SV) (s : St) (f num n v0 : Int) (w : World) (h : RdSt w x s) (hz : Sz s) (hg0 : getF s f num = some v0) : Calls Tryz.prog 157 #[x.val s, .int .i8 f, .int .i64 num, .int .i32 n] w (StPost (setF s f num n) w) := by
 obtain ⟨fsS, hfsS⟩ := undSt
 have HFS := Lib.hid hfsS
 have HCP := Lib.hid (fun W (hW : Below w.heap.size w W) => copyState_any x s W (h.below hW) hz)
 obtain ⟨c, hc⟩ : ∃ c, c = x.arr s := ⟨_, rfl⟩
 have HS := Lib.hid (show c.size = 7 by rw [hc]; rfl)
 have he : x.val s = .agg c := by rw [hc]; rfl
 rw [he] at HCP ⊢
 have hp1 := hz.p
 have hp2 := hz.c
 clear h hz hc he hfsS
 have H0 := two_new w 27 c zeroA
 go_enter Tryz.func157, Tryz.ntmps157
 go_upto_region 1 with (fail)
 obtain ⟨w0, hw0⟩ : ∃ w0, w0 = (w.alloc (.cells c 27)).alloc (.cells zeroA 27) := ⟨_, rfl⟩
 rw [← hw0] at H0
 unfold zeroA at hw0
 rw [← hw0]
 clear hw0
 obtain ⟨hb0, hb0', hbl0⟩ := H0
 have HBL0 := Lib.hid hbl0
 obtain ⟨g, hg⟩ : ∃ g, g = w.heap.size := ⟨_, rfl⟩
 have HG := Lib.hid hg
 rw [← hg] at hb0 hb0' ⊢
 have HB0 := Lib.hid hb0
 have HB0' := Lib.hid hb0'
 clear hb0 hb0' hbl0 hg
 go_upto_region 2 with (first | (refine wpList_load_row rfl 27 _ rfl g rfl _ c (0, 0) _ HB0.out HFS.out rfl (by rw [HS.out]; exact sizeSt) ?_) | ((with_reducible refine (HCP.out _ HBL0.out).mono ?_); rintro e1 w1 hp; obtain ⟨x1, rfl, ho1, hb1⟩ := hp; have HO1 := Lib.hid ho1; have HBW1 := Lib.hid hb1; have HB1 := Lib.hid (HB0.out.below hb1 HB0.out.lt); have HR1 := Lib.hid (HB0'.out.below hb1 HB0'.out.lt); clear ho1 hb1) | (refine wpList_store_row rfl 27 _ _ rfl g (x1.arr s) rfl rfl 27 _ HB1.out (by kernel_rfl) (by rw [HS.out]; rfl) (arr_one _ _) ?_))
 have HST := Lib.hid (copied HB1.out HO1.out (show g ≤ _ by have := HBL0.out.size; rw [HG.out]; exact this))
 have HR2 := Lib.hid (show G.Blk (w1.setRow g (x1.arr s)) (g + 1) 27 zeroA from (setRow_other w1 g (g + 1) _ (by omega)).trans HR1.out)
 have HBL2 := Lib.hid (show Below g w (w1.setRow g (x1.arr s)) by rw [HG.out]; exact below_setRow (G.bl_trans HBL0.out HBW1.out) (by omega) _)
 obtain ⟨w2, hw2⟩ : ∃ w2, w2 = w1.setRow g (x1.arr s) := ⟨_, rfl⟩
 rw [← hw2] at HST HR2 HBL2 ⊢
 clear hw2 HB1 HR1 HO1 HBW1 HB0 HB0' HBL0 HCP
 obtain ⟨c0, c1, c2, c3, c4, c5, c6⟩ := HST.out.cells
 have hlt := HST.out.blk.lt
 clear c2 c3 c4 c5 c6
 have hg1 := hg0
 unfold getF at hg1
 by_cases k1 : f ≤ 4
 ·rw [if_pos k1] at hg1
  by_cases k2 : 1 ≤ f ∧ Within num s.cards.length
  ·obtain ⟨q, rfl⟩ := Int.eq_ofNat_of_zero_le k2.2.1
   have hq : q < s.cards.length := by have := k2.2.2; omega
   have hqI : ((q : Nat) : Int) < s.cards.length := by omega
   have hq0 : (0 : Int) ≤ q := by omega
   obtain ⟨gc, hca, hgc, hgl, hall⟩ := card_field HST.out hq
   have hne : gc ≠ g := own_ne_blk HST.out.own.c hca HST.out.blk (by decide)
   have hne' : gc ≠ g + 1 := own_ne_blk HST.out.own.c hca HR2.out (by decide)
   have HNE := Lib.hid (And.intro hne hne')
   rw [hca] at c1
   have HALL := Lib.hid hall
   have HGC := Lib.hid hgc
   have HSE := Lib.hid (show setF s f ((q : Nat) : Int) n = { s with cards := s.cards.set q (cardSet (s.cards.getD q zeroCd) f n) } by
    unfold setF
    rw [if_pos k1]
    rfl)
   have h4 : f = 1 ∨ f = 2 ∨ f = 3 ∨ f = 4 := by omega
   obtain ⟨m, hm⟩ : ∃ m, m = s.cards.length := ⟨_, rfl⟩
   rw [← hm] at c1 hqI hp2
   clear hca hall hgc hne hne' k1 k2 hg0 hg1 hm hq hp1 c0
   rcases h4 with rfl | rfl | rfl | rfl
   ·obtain ⟨d1, d2, d3⟩ := HALL.out 1 (by omega) (by omega)
    have HD3 := Lib.hid (d3 n)
    have HR3 := Lib.hid (blk_cell_ne (i := q * 6 + 2) (u := .int .i32 n) HR2.out HNE.out.2)
    have HBL3 := Lib.hid (HBL2.out.setCell (p := ⟨gc, q * 6 + 2, none⟩) HGC.out (.int .i32 n))
    clear d3
    go_wp2_with (first | (refine wpList_load_row rfl 27 _ rfl g rfl _ (x1.arr _) (0, 0) _ HD3.out.blk HFS.out rfl sizeSt ?_) | (refine wpList_store_row rfl 27 _ _ rfl (g + 1) (x1.arr _) rfl rfl 27 _ HR3.out (by kernel_rfl) rfl (arr_one _ _) ?_))
    refine bodyPost_ret (v := .agg (x1.arr _)) (st_result rfl _ _ (g + 1) _ rfl (setRow_heap _ _ _ _ _ _ HR3.out) rfl) rfl ?_
    rw [HSE.out]
    exact ⟨x1, rfl, st_done HD3.out HR3.out HBL3.out HG.out⟩
   ·obtain ⟨d1, d2, d3⟩ := HALL.out 2 (by omega) (by omega)
    have HD3 := Lib.hid (d3 n)
    have HR3 := Lib.hid (blk_cell_ne (i := q * 6 + 3) (u := .int .i32 n) HR2.out HNE.out.2)
    have HBL3 := Lib.hid (HBL2.out.setCell (p := ⟨gc, q * 6 + 3, none⟩) HGC.out (.int .i32 n))
    clear d3
    go_wp2_with (first | (refine wpList_load_row rfl 27 _ rfl g rfl _ (x1.arr _) (0, 0) _ HD3.out.blk HFS.out rfl sizeSt ?_) | (refine wpList_store_row rfl 27 _ _ rfl (g + 1) (x1.arr _) rfl rfl 27 _ HR3.out (by kernel_rfl) rfl (arr_one _ _) ?_))
    refine bodyPost_ret (v := .agg (x1.arr _)) (st_result rfl _ _ (g + 1) _ rfl (setRow_heap _ _ _ _ _ _ HR3.out) rfl) rfl ?_
    rw [HSE.out]
    exact ⟨x1, rfl, st_done HD3.out HR3.out HBL3.out HG.out⟩
   ·obtain ⟨d1, d2, d3⟩ := HALL.out 3 (by omega) (by omega)
    have HD3 := Lib.hid (d3 n)
    have HR3 := Lib.hid (blk_cell_ne (i := q * 6 + 4) (u := .int .i32 n) HR2.out HNE.out.2)
    have HBL3 := Lib.hid (HBL2.out.setCell (p := ⟨gc, q * 6 + 4, none⟩) HGC.out (.int .i32 n))
    clear d3
    go_wp2_with (first | (refine wpList_load_row rfl 27 _ rfl g rfl _ (x1.arr _) (0, 0) _ HD3.out.blk HFS.out rfl sizeSt ?_) | (refine wpList_store_row rfl 27 _ _ rfl (g + 1) (x1.arr _) rfl rfl 27 _ HR3.out (by kernel_rfl) rfl (arr_one _ _) ?_))
    refine bodyPost_ret (v := .agg (x1.arr _)) (st_result rfl _ _ (g + 1) _ rfl (setRow_heap _ _ _ _ _ _ HR3.out) rfl) rfl ?_
    rw [HSE.out]
    exact ⟨x1, rfl, st_done HD3.out HR3.out HBL3.out HG.out⟩
   ·obtain ⟨d1, d2, d3⟩ := HALL.out 4 (by omega) (by omega)
    have HD3 := Lib.hid (d3 n)
    have HR3 := Lib.hid (blk_cell_ne (i := q * 6 + 5) (u := .int .i32 n) HR2.out HNE.out.2)
    have HBL3 := Lib.hid (HBL2.out.setCell (p := ⟨gc, q * 6 + 5, none⟩) HGC.out (.int .i32 n))
    clear d3
    go_wp2_with (first | (refine wpList_load_row rfl 27 _ rfl g rfl _ (x1.arr _) (0, 0) _ HD3.out.blk HFS.out rfl sizeSt ?_) | (refine wpList_store_row rfl 27 _ _ rfl (g + 1) (x1.arr _) rfl rfl 27 _ HR3.out (by kernel_rfl) rfl (arr_one _ _) ?_))
    refine bodyPost_ret (v := .agg (x1.arr _)) (st_result rfl _ _ (g + 1) _ rfl (setRow_heap _ _ _ _ _ _ HR3.out) rfl) rfl ?_
    rw [HSE.out]
    exact ⟨x1, rfl, st_done HD3.out HR3.out HBL3.out HG.out⟩
  ·rw [if_neg k2] at hg1
   cases hg1
 ·rw [if_neg k1] at hg1
  by_cases k2 : f ≤ 6 ∧ Within num s.players.length
  ·obtain ⟨q, rfl⟩ := Int.eq_ofNat_of_zero_le k2.2.1
   have hq : q < s.players.length := by have := k2.2.2; omega
   have hqI : ((q : Nat) : Int) < s.players.length := by omega
   have hq0 : (0 : Int) ≤ q := by omega
   obtain ⟨gc, hca, hgc, hgl, hall⟩ := pl_field HST.out hq
   have hne : gc ≠ g := own_ne_blk HST.out.own.p hca HST.out.blk (by decide)
   have hne' : gc ≠ g + 1 := own_ne_blk HST.out.own.p hca HR2.out (by decide)
   have HNE := Lib.hid (And.intro hne hne')
   rw [hca] at c0
   have HALL := Lib.hid hall
   have HGC := Lib.hid hgc
   have HSE := Lib.hid (show setF s f ((q : Nat) : Int) n = { s with players := s.players.set q (plSet (s.players.getD q zeroPl) f n) } by
    unfold setF
    rw [if_neg k1]
    rfl)
   have h4 : f = 5 ∨ f = 6 := by omega
   obtain ⟨m, hm⟩ : ∃ m, m = s.players.length := ⟨_, rfl⟩
   rw [← hm] at c0 hqI hp1
   clear hca hall hgc hne hne' k1 k2 hg0 hg1 hm hq hp2 c1
   rcases h4 with rfl | rfl
   ·obtain ⟨d1, d2, d3⟩ := HALL.out 0 (by omega)
    have HD3 := Lib.hid (show StAt (w2.setCell ⟨gc, q * 3, none⟩ (.int .i32 n)) g g x1 _ from d3 n)
    rw [Nat.add_zero] at d1 d2
    have HR3 := Lib.hid (blk_cell_ne (i := q * 3) (u := .int .i32 n) HR2.out HNE.out.2)
    have HBL3 := Lib.hid (HBL2.out.setCell (p := ⟨gc, q * 3, none⟩) HGC.out (.int .i32 n))
    clear d3
    go_wp2_with (first | (refine wpList_load_row rfl 27 _ rfl g rfl _ (x1.arr _) (0, 0) _ HD3.out.blk HFS.out rfl sizeSt ?_) | (refine wpList_store_row rfl 27 _ _ rfl (g + 1) (x1.arr _) rfl rfl 27 _ HR3.out (by kernel_rfl) rfl (arr_one _ _) ?_))
    refine bodyPost_ret (v := .agg (x1.arr _)) (st_result rfl _ _ (g + 1) _ rfl (setRow_heap _ _ _ _ _ _ HR3.out) rfl) rfl ?_
    rw [HSE.out]
    exact ⟨x1, rfl, st_done HD3.out HR3.out HBL3.out HG.out⟩
   ·obtain ⟨d1, d2, d3⟩ := HALL.out 1 (by omega)
    have HD3 := Lib.hid (d3 n)
    have HR3 := Lib.hid (blk_cell_ne (i := q * 3 + 1) (u := .int .i32 n) HR2.out HNE.out.2)
    have HBL3 := Lib.hid (HBL2.out.setCell (p := ⟨gc, q * 3 + 1, none⟩) HGC.out (.int .i32 n))
    clear d3
    go_wp2_with (first | (refine wpList_load_row rfl 27 _ rfl g rfl _ (x1.arr _) (0, 0) _ HD3.out.blk HFS.out rfl sizeSt ?_) | (refine wpList_store_row rfl 27 _ _ rfl (g + 1) (x1.arr _) rfl rfl 27 _ HR3.out (by kernel_rfl) rfl (arr_one _ _) ?_))
    refine bodyPost_ret (v := .agg (x1.arr _)) (st_result rfl _ _ (g + 1) _ rfl (setRow_heap _ _ _ _ _ _ HR3.out) rfl) rfl ?_
    rw [HSE.out]
    exact ⟨x1, rfl, st_done HD3.out HR3.out HBL3.out HG.out⟩
  ·rw [if_neg k2] at hg1
   cases hg1
def RPost (o : Option St) (w : World) (e : Ending) (w' : World) : Prop :=
 ∃ (x' : SV) (t : St) (b : Bool), e = .returned (.tuple #[x'.val t, .bool b]) ∧ OwnSt w' w.heap.size x' t ∧ Below w.heap.size w w' ∧ ((b = true ∧ o = some t) ∨ (b = false ∧ o = none ∧ t = zeroSt ∧ x' = zeroSV))
theorem rP_no {o : Option St} {w w' : World} (ho : o = none) (hb : Below w.heap.size w w') : RPost o w (.returned (.tuple #[.agg zeroA, .bool false])) w' := ⟨zeroSV, zeroSt, false, rfl, zero_own _ _, hb, .inr ⟨rfl, ho, rfl, rfl⟩⟩
theorem rP_yes {o : Option St} {t : St} {x' : SV} {w w' : World} (ho : o = some t) (h : OwnSt w' w.heap.size x' t ∧ Below w.heap.size w w') : RPost o w (.returned (.tuple #[.agg (x'.arr t), .bool true])) w' := ⟨x', t, true, rfl, h.1, h.2, .inl ⟨rfl, ho⟩⟩
set_option maxRecDepth 100000 in
set_option maxHeartbeats 4000000 in
theorem refChanged_any (x : SV) (s : St) (f num was now : Int) (w : World) (h : RdSt w x s) (hz : Sz s) : Calls Tryz.prog 120 #[x.val s, .int .i8 f, .int .i64 num, .int .i32 was, .int .i32 now] w (RPost (changeS s f num was now) w) := by
 obtain ⟨fsS, hfsS⟩ := undSt
 have HFS := Lib.hid hfsS
 have HFD := Lib.hid (fun W (hW : Below w.heap.size w W) => refField_any x s f num W (h.below hW))
 have HSET := Lib.hid (fun v0 W (hW : Below w.heap.size w W) hv => refSet_any x s f num now v0 W (h.below hW) hz hv)
 obtain ⟨c, hc⟩ : ∃ c, c = x.arr s := ⟨_, rfl⟩
 have HS := Lib.hid (show c.size = 7 by rw [hc]; rfl)
 have he : x.val s = .agg c := by rw [hc]; rfl
 rw [he] at HFD HSET ⊢
 clear h hz hc he hfsS
 have H0 := two_new w 27 c zeroA
 go_enter Tryz.func120, Tryz.ntmps120
 go_upto_region 1 with (fail)
 obtain ⟨w0, hw0⟩ : ∃ w0, w0 = (w.alloc (.cells c 27)).alloc (.cells zeroA 27) := ⟨_, rfl⟩
 rw [← hw0] at H0
 unfold zeroA at hw0
 rw [← hw0]
 clear hw0
 obtain ⟨hb0, hb0', hbl0⟩ := H0
 have HBL0 := Lib.hid hbl0
 obtain ⟨g, hg⟩ : ∃ g, g = w.heap.size := ⟨_, rfl⟩
 have HG := Lib.hid hg
 rw [← hg] at hb0 hb0' ⊢
 have HB0 := Lib.hid hb0
 have HB0' := Lib.hid hb0'
 clear hb0 hb0' hbl0 hg
 go_upto_region 2 with (first | (refine wpList_load_row rfl 27 _ rfl g rfl _ c (0, 0) _ HB0.out HFS.out rfl (by rw [HS.out]; exact sizeSt) ?_) | ((with_reducible refine (HFD.out _ HBL0.out).mono ?_); rintro e1 w1 hp; obtain ⟨v, b, rfl, hv, hb1⟩ := hp; have HV := Lib.hid hv; have HBW1 := Lib.hid hb1; have HB1 := Lib.hid (HB0.out.below hb1 HB0.out.lt); have HR1 := Lib.hid (HB0'.out.below hb1 HB0'.out.lt); have HBL1 := Lib.hid (G.bl_trans HBL0.out hb1); clear hv hb1))
 rcases HV.out with ⟨rfl, hg⟩ | ⟨rfl, hg⟩
 ·have HGF := Lib.hid hg
  clear hg HV
  by_cases h1 : v = was
  ·have h1b : (v != was) = false := by rw [h1]; simp
   by_cases h2 : now = was
   ·have h2b : (now == was) = true := by rw [h2]; simp
    have HO := Lib.hid (changeS_no (s := s) (f := f) (num := num) (was := was) (now := now) (fun h => h.2.1 h2.symm))
    clear h1 h2
    go_wp2_with (first | (refine build_to zeroA rfl 27 _ rfl _ (by kernel_rfl) zeroA_b ?_) | (refine wpList_store_row rfl 27 _ _ rfl (g + 1) zeroA rfl rfl 27 _ HR1.out (by kernel_rfl) (by kernel_rfl) (by kernel_rfl) ?_))
    refine bodyPost_ret (v := .tuple #[.agg zeroA, .bool false]) (st_results2 rfl _ _ (g + 1) _ _ rfl rfl (setRow_heap _ _ _ _ _ _ HR1.out) rfl) rfl (rP_no HO.out ?_)
    exact below_setRow HBL1.out (by have := HG.out; omega) _
   ·have h2b : (now == was) = false := by rw [beq_eq_false_iff_ne]; exact h2
    by_cases h3 : -1000000000 ≤ now
    ·by_cases h4 : now ≤ 1000000000
     ·have HO := Lib.hid (changeS_yes (s := s) (f := f) (num := num) (by rw [← h1]; exact HGF.out) (fun e => h2 e.symm) ⟨h3, h4⟩)
      have HCA := Lib.hid (HSET.out v w1 HBL1.out HGF.out)
      clear h1 h2
      go_wp2_with (first | (refine wpList_load_row rfl 27 _ rfl g rfl _ c (0, 0) _ HB1.out HFS.out rfl (by rw [HS.out]; exact sizeSt) ?_) | ((with_reducible refine (HCA.out).mono ?_); rintro e2 w2 hp2; obtain ⟨x2, rfl, ho2, hb2⟩ := hp2; have HO2 := Lib.hid ho2; have HBL2 := Lib.hid (G.bl_trans HBL1.out hb2); have HR2 := Lib.hid (HR1.out.below hb2 HR1.out.lt); clear ho2 hb2) | (refine wpList_store_row rfl 27 _ _ rfl (g + 1) (x2.arr _) rfl rfl 27 _ HR2.out (by kernel_rfl) rfl (arr_one _ _) ?_))
      refine bodyPost_ret (v := .tuple #[.agg (x2.arr _), .bool true]) (st_results2 rfl _ _ (g + 1) _ _ rfl rfl (setRow_heap _ _ _ _ _ _ HR2.out) rfl) rfl (rP_yes HO.out ⟨?_, ?_⟩)
      ·exact (HO2.out.ge HBL1.out.size).only (only_row HR2.out) (by decide) (by decide) (by decide) (by decide)
      ·exact below_setRow HBL2.out (by have := HG.out; omega) _
     ·have h4b : now > 1000000000 := by omega
      have HO := Lib.hid (changeS_no (s := s) (f := f) (num := num) (was := was) (now := now) (fun h => h4 h.2.2.2))
      clear h1 h2
      go_wp2_with (first | (refine build_to zeroA rfl 27 _ rfl _ (by kernel_rfl) zeroA_b ?_) | (refine wpList_store_row rfl 27 _ _ rfl (g + 1) zeroA rfl rfl 27 _ HR1.out (by kernel_rfl) (by kernel_rfl) (by kernel_rfl) ?_))
      refine bodyPost_ret (v := .tuple #[.agg zeroA, .bool false]) (st_results2 rfl _ _ (g + 1) _ _ rfl rfl (setRow_heap _ _ _ _ _ _ HR1.out) rfl) rfl (rP_no HO.out ?_)
      exact below_setRow HBL1.out (by have := HG.out; omega) _
    ·have h3b : now < -1000000000 := by omega
     have HO := Lib.hid (changeS_no (s := s) (f := f) (num := num) (was := was) (now := now) (fun h => h3 h.2.2.1))
     clear h1 h2
     go_wp2_with (first | (refine build_to zeroA rfl 27 _ rfl _ (by kernel_rfl) zeroA_b ?_) | (refine wpList_store_row rfl 27 _ _ rfl (g + 1) zeroA rfl rfl 27 _ HR1.out (by kernel_rfl) (by kernel_rfl) (by kernel_rfl) ?_))
     refine bodyPost_ret (v := .tuple #[.agg zeroA, .bool false]) (st_results2 rfl _ _ (g + 1) _ _ rfl rfl (setRow_heap _ _ _ _ _ _ HR1.out) rfl) rfl (rP_no HO.out ?_)
     exact below_setRow HBL1.out (by have := HG.out; omega) _
  ·have h1b : (v != was) = true := by rw [bne_iff_ne]; exact h1
   have HO := Lib.hid (changeS_no (s := s) (f := f) (num := num) (was := was) (now := now) (fun h => h1 (by rw [HGF.out] at h; exact Option.some.inj h.1)))
   clear h1
   go_wp2_with (first | (refine build_to zeroA rfl 27 _ rfl _ (by kernel_rfl) zeroA_b ?_) | (refine wpList_store_row rfl 27 _ _ rfl (g + 1) zeroA rfl rfl 27 _ HR1.out (by kernel_rfl) (by kernel_rfl) (by kernel_rfl) ?_))
   refine bodyPost_ret (v := .tuple #[.agg zeroA, .bool false]) (st_results2 rfl _ _ (g + 1) _ _ rfl rfl (setRow_heap _ _ _ _ _ _ HR1.out) rfl) rfl (rP_no HO.out ?_)
   exact below_setRow HBL1.out (by have := HG.out; omega) _
 ·have HO := Lib.hid (changeS_no (s := s) (f := f) (num := num) (was := was) (now := now) (fun h => by rw [hg] at h; cases h.1))
  clear hg HV
  go_wp2_with (first | (refine build_to zeroA rfl 27 _ rfl _ (by kernel_rfl) zeroA_b ?_) | (refine wpList_store_row rfl 27 _ _ rfl (g + 1) zeroA rfl rfl 27 _ HR1.out (by kernel_rfl) (by kernel_rfl) (by kernel_rfl) ?_))
  refine bodyPost_ret (v := .tuple #[.agg zeroA, .bool false]) (st_results2 rfl _ _ (g + 1) _ _ rfl rfl (setRow_heap _ _ _ _ _ _ HR1.out) rfl) rfl (rP_no HO.out ?_)
  exact below_setRow HBL1.out (by have := HG.out; omega) _
theorem rP_as {o o' : Option St} {w w' : World} {x' : SV} {t : St} {b : Bool} (e : o = o') (hc : (b = true ∧ o' = some t) ∨ (b = false ∧ o' = none ∧ t = zeroSt ∧ x' = zeroSV)) (ho : OwnSt w' w.heap.size x' t) (hb : Below w.heap.size w w') : RPost o w (.returned (.tuple #[.agg (x'.arr t), .bool b])) w' :=
 ⟨x', t, b, rfl, ho, hb, by rw [e]; exact hc⟩
/-- A player of a state in a variable is out, or not. -/
theorem StAt.pout {w : World} {g base k : Nat} {x : SV} {s : St} (h : StAt w g base x s) (hk : k < s.players.length) : ∃ gp, x.pa = some ⟨gp, 0, none⟩ ∧ base ≤ gp ∧ gp < w.heap.size ∧ (∃ v, w.cell? ⟨gp, k * 3 + 2, none⟩ = some v) ∧ w.frozen? ⟨gp, k * 3 + 2, none⟩ = false ∧
 ∀ b, StAt (w.setCell ⟨gp, k * 3 + 2, none⟩ (.bool b)) g base x { s with players := s.players.set k { s.players.getD k zeroPl with out := b } } := by
 have hp := h.own.p
 obtain ⟨gp, cp, hpv, hgb, hnc, cur, hgg⟩ := G.own_addr hp (by omega)
 simp only [Value.slice.injEq, true_and] at hpv
 obtain ⟨hpa, hpc⟩ := hpv
 have hp2 := hp
 rw [hpa] at hp2
 obtain ⟨b, off, e, hrv⟩ := (G.RdS.of_own hp2).2 (by omega)
 simp only [Option.some.injEq, Addr.mk.injEq, and_true] at e
 obtain ⟨rfl, rfl⟩ := e
 obtain ⟨d0, d1, d2⟩ := pl_at hrv hk rfl
 simp only [Nat.zero_add] at d0 d1 d2
 refine ⟨gp, hpa, hgb, World.block_lt_of_cell? _ _ d0, ⟨_, d2⟩, hp2.frozenAt _, fun b => ⟨?_, h.own.pset (j := 2) (u := .bool b) (y := { s.players.getD k zeroPl with out := b }) hpa hk (by omega) rfl, h.ge⟩⟩
 have hb := blk_far h.blk hp (stored_by hp hpa (k * 3 + 2) (.bool b)) (by decide)
 simpa [SV.arr] using hb
theorem if_none {P : Prop} [Decidable P] {o : Option St} (h : o = none) : (if P then o else none) = none := by
 split
 ·exact h
 ·rfl
end Go.Proofs.YtofgmijmhpmabaaGreatDoor.D
namespace Go.Proofs.YtofgmijmhpmabaaGreatDoor.D
open Go Go.RowKit
set_option linter.unusedVariables false
set_option linter.unusedSimpArgs false
theorem moveS_none {s : St} {card src srcAt dst dstAt : Int} (h : ¬ MoveOk s card src srcAt dst dstAt) : moveS s card src srcAt dst dstAt = none := by
 unfold moveS
 rw [if_neg h]
theorem moveOk_card {s : St} {card src srcAt dst dstAt : Int} (hm : May s) (h : MoveOk s card src srcAt dst dstAt) : withinB card s.cards.length = true := by
 obtain ⟨h1, h2, h3, h4, h5, h6⟩ := h
 refine within_yes ?_
 have hz : zone s src ∈ s.zones := by
  unfold zone
  rw [List.getD_eq_getElem?_getD, List.getElem?_eq_getElem (by have := h1.1; have := h1.2; omega)]
  exact List.getElem_mem _
 have hc : card ∈ zone s src := by
  rw [← h5, List.getD_eq_getElem?_getD, List.getElem?_eq_getElem (by have := h4.1; have := h4.2; omega)]
  exact List.getElem_mem _
 exact hm.rng _ (List.mem_flatten.2 ⟨_, hz, hc⟩)
theorem moveOk_stands {s : St} {card src srcAt dst dstAt : Int} (h : MoveOk s card src srcAt dst dstAt) : standsB s card src srcAt = true := by
 unfold standsB
 rw [within_yes h.1, within_yes h.2.2.2.1, h.2.2.2.2.1]
 simp
theorem room_len {zs : List (List Int)} {si di sa : Nat} (h : si < zs.length) (hsa : sa < (zs.getD si []).length) : (((zs.set si ((zs.getD si []).eraseIdx sa)).getD di []).length : Int) = if ((si : Nat) : Int) = ((di : Nat) : Int) then ((zs.getD di []).length : Int) - 1 else ((zs.getD di []).length : Int) := by
 by_cases e : si = di
 ·subst e
  rw [if_pos rfl, getD_set_eq h, List.length_eraseIdx_of_lt hsa]
  omega
 ·rw [if_neg (by omega), getD_set_ne e]
theorem grown_below {w w' : World} (h : Below w.heap.size w w') (row : Option Nat) : w.grownBy w' row := ⟨h.os, h.tape, h.output, h.size, fun k hk _ => h.block k hk⟩
theorem grown_drew2 {w w' : World} {row : Option Nat} (h : w.drew.grownBy w' row) : w.grownBy w' row := ⟨h.os, h.tape, h.output, h.size, fun k hk hn => h.block k hk hn⟩
end Go.Proofs.YtofgmijmhpmabaaGreatDoor.D

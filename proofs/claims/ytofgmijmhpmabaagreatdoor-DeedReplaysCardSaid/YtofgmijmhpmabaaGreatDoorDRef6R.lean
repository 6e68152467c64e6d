/- The reference of layer 06: Replay, Back. Printed by gen_ref6r.py. -/
import Derived.Test.YtofgmijmhpmabaaGreatDoorDRef6J
import Derived.Test.YtofgmijmhpmabaaGreatDoorDRef6K
import Derived.Test.YtofgmijmhpmabaaGreatDoorDBackW
import Derived.Test.YtofgmijmhpmabaaGreatDoorDLives
import Derived.Test.YtofgmijmhpmabaaGreatDoorDBackI
namespace Go.Proofs.YtofgmijmhpmabaaGreatDoor.D
open Go Go.RowKit
set_option linter.unusedVariables false
set_option linter.unusedSimpArgs false
theorem rmay_false {b : Bool} {s : St} (hb : b = true ↔ May s) (hm : ¬ May s) : b = false := by
 cases b
 ·rfl
 ·exact absurd (hb.1 rfl) hm
end Go.Proofs.YtofgmijmhpmabaaGreatDoor.D
namespace Go.Proofs.YtofgmijmhpmabaaGreatDoor.D
open Go Go.RowKit
set_option linter.unusedVariables false
set_option linter.unusedSimpArgs false
/-- An event lies in a list. -/
def EvA (b o : Nat) (ce : Array Value) (w : World) : Prop := (loadVar 30 ⟨b, o, none⟩).run Tryz.prog w = .ok (.agg ce) w ∧ ∀ j v, ce[j]? = some v → w.cell? ⟨b, o + j, none⟩ = some v
theorem EvA.mk {b o : Nat} {ce : Array Value} {w : World} (hs : ce.size = 12) (h : ∀ j v, ce[j]? = some v → w.cell? ⟨b, o + j, none⟩ = some v) : EvA b o ce w := by
 obtain ⟨fs, hfs⟩ := undEv
 exact ⟨run_loadVar_at w b _ _ _ _ h hfs rfl (by rw [hs]; exact sizeEv), h⟩
theorem EvA.below {b o : Nat} {ce : Array Value} {w w' : World} (hs : ce.size = 12) (h : EvA b o ce w) (hb : Below w.heap.size w w') : EvA b o ce w' :=
 EvA.mk hs fun j v hv => (hb.cell (p := ⟨b, o + j, none⟩) (World.block_lt_of_cell? _ _ (h.2 j v hv))).trans (h.2 j v hv)
theorem EvA.row {b o g : Nat} {ce cs : Array Value} {w : World} (hs : ce.size = 12) (h : EvA b o ce w) (hne : g ≠ b) : EvA b o ce (w.setRow g cs) :=
 EvA.mk hs fun j v hv => (World.cell?_of_block (a := ⟨b, o + j, none⟩) (setRow_other w g b cs (Ne.symm hne))).trans (h.2 j v hv)
/-- A state in a box, an event in a list. -/
structure LwA (B : World) (gx : Nat) (cx : Array Value) (b o : Nat) (ce : Array Value) (w : World) : Prop where
 bl : Below B.heap.size B w
 bx : G.Blk w gx 27 cx
 be : EvA b o ce w
 sx : cx.size = 7
 se : ce.size = 12
 lx : gx < B.heap.size
 lb : b < B.heap.size
theorem LwA.below {B : World} {gx b o : Nat} {cx ce : Array Value} {w w' : World} (h : LwA B gx cx b o ce w) (hb : Below w.heap.size w w') : LwA B gx cx b o ce w' := ⟨G.bl_trans h.bl hb, h.bx.below hb h.bx.lt, h.be.below h.se hb, h.sx, h.se, h.lx, h.lb⟩
theorem LwA.row {B : World} {gx b o g2 : Nat} {cx ce ds : Array Value} {w : World} (h : LwA B gx cx b o ce w) (hg : B.heap.size ≤ g2) : LwA B gx cx b o ce (w.setRow g2 ds) :=
 ⟨below_setRow h.bl hg _, (setRow_other w g2 gx ds (by have := h.lx; omega)).trans h.bx, h.be.row h.se (by have := h.lb; omega), h.sx, h.se, h.lx, h.lb⟩
theorem blk_after_drew {w w' : World} {t : TypeId} {zs : Array Value} (h : Below (w.alloc (.cells zs t)).drew.heap.size (w.alloc (.cells zs t)).drew w') : G.Blk w' w.heap.size t zs := blk_after (G.bl_trans (Below.refl _ _).drew h)
/-- What a call of the reference leaves in its box. -/
def CutR (B : World) (o : Option St) (sp sk : Value) (wx : World) : Prop :=
 ∃ (g : Nat) (x : SV) (t : St) (b : Bool), sp = .pointer (some ⟨g, 0, none⟩) ∧ sk = .bool b ∧ G.Blk wx g 27 (x.arr t) ∧ OwnSt wx B.heap.size x t ∧ Below B.heap.size B wx ∧ B.heap.size ≤ g ∧ ((b = true ∧ o = some t) ∨ (b = false ∧ o = none))
theorem cutR_mk {B wA : World} {o : Option St} {g : Nat} {x : SV} {t : St} {b : Bool} {zs : Array Value} (ho : OwnSt wA B.heap.size x t) (hb : Below B.heap.size B (wA.setRow g (x.arr t))) (hB : G.Blk wA g 27 zs) (hg : B.heap.size ≤ g)
 (hc : (b = true ∧ o = some t) ∨ (b = false ∧ o = none ∧ t = zeroSt ∧ x = zeroSV)) : CutR B o (.pointer (some ⟨g, 0, none⟩)) (.bool b) (wA.setRow g (x.arr t)) :=
 ⟨g, x, t, b, rfl, rfl, setRow_heap _ _ _ _ _ _ hB, ho.only (only_row hB) (by decide) (by decide) (by decide) (by decide), hb, hg, hc.imp id (fun ⟨a, b, _⟩ => ⟨a, b⟩)⟩
/-- What the loops keep: the state so far in the variable's box. -/
structure RpI (o : Option St) (w0 : World) (g : Nat) (wr : World) : Prop where
 ex : ∃ (t : St) (x' : SV), o = some t ∧ G.Blk wr g 27 (x'.arr t) ∧ OwnSt wr w0.heap.size x' t
 rb : G.Blk wr (g + 1) 27 zeroA
 bl : Below g w0 wr
set_option maxRecDepth 100000 in
set_option maxHeartbeats 16000000 in
theorem refReplay_any (x : SV) (s : St) (A : Option Addr) (n c : Nat) (L : List (EV × Ev)) (w : World) (h : RdSt w x s) (hz : Sz s) (hl : RdEvs w A n L) (hf : ∀ k, k < n → (L.getD k zeroP).2.Fits ∧ (L.getD k zeroP).2.order.length ≤ 33554432) (hn : n ≤ 33554432) :
 Calls Tryz.prog 36 #[x.val s, .slice A n c] w (RepPost s (runE s (L.map Prod.snd)) (failAt s (L.map Prod.snd)) w) := by
 obtain ⟨fsS, hfsS⟩ := undSt
 have HFS := Lib.hid hfsS
 have HMY := Lib.hid (fun W (hW : Below w.heap.size w W) => refMay_any x s W (h.below hW) hz)
 have HCS := Lib.hid (fun W (hW : Below w.heap.size w W) => copyState_any x s W (h.below hW) hz)
 have HEV := Lib.hid hl
 have HF := Lib.hid hf
 obtain ⟨cs, hc⟩ : ∃ c, c = x.arr s := ⟨_, rfl⟩
 have HS := Lib.hid (show cs.size = 7 by rw [hc]; rfl)
 have he : x.val s = .agg cs := by rw [hc]; rfl
 rw [he] at HMY HCS ⊢
 obtain ⟨E, hE⟩ : ∃ E, E = L.map Prod.snd := ⟨_, rfl⟩
 have HEN := Lib.hid (show E.length = n by rw [hE, List.length_map]; exact hl.len)
 have HEA := Lib.hid (show ∀ k, E.getD k zeroEv = (L.getD k zeroP).2 from fun k => by rw [hE]; exact getD_snd L k)
 rw [← hE]
 clear h hz hl hf hc he hfsS hE
 have h1 : G.Blk ((w.alloc (.cells cs 27)).alloc (.cells zeroA 27)) w.heap.size 27 cs := heap_alloc2_old w _ _
 have h2 : G.Blk ((w.alloc (.cells cs 27)).alloc (.cells zeroA 27)) (w.heap.size + 1) 27 zeroA := heap_alloc2_new w _ _
 have hbl0 : Below w.heap.size w ((w.alloc (.cells cs 27)).alloc (.cells zeroA 27)) := G.bl_alloc (G.bl_alloc (Below.refl _ _) _) _
 go_enter Tryz.func36, Tryz.ntmps36
 go_upto_region 1 with (fail)
 obtain ⟨w0, hw0⟩ : ∃ w0, w0 = (w.alloc (.cells cs 27)).alloc (.cells zeroA 27) := ⟨_, rfl⟩
 rw [← hw0] at h1 h2 hbl0
 unfold zeroA at hw0
 rw [← hw0]
 clear hw0
 have HBL0 := Lib.hid hbl0
 obtain ⟨g, hg⟩ : ∃ g, g = w.heap.size := ⟨_, rfl⟩
 have HG := Lib.hid hg
 rw [← hg] at h1 h2 ⊢
 have HC0 := Lib.hid h1
 have HR0 := Lib.hid h2
 clear h1 h2 hbl0 hg
 have HMY0 := Lib.hid (HMY.out _ HBL0.out)
 by_cases hm : May s
 ·have HM := Lib.hid hm
  clear hm
  go_upto_region 3 with (first | (refine wpList_load_row rfl 27 _ rfl g rfl _ cs (0, 0) _ HC0.out HFS.out rfl (by rw [HS.out]; exact sizeSt) ?_) | ((with_reducible refine (HMY0.out).mono ?_); rintro e1 w1 hp; obtain ⟨b1, rfl, hb, hbw⟩ := hp; obtain rfl : b1 = true := hb.2 HM.out; have HBW1 := Lib.hid hbw; clear hb hbw))
  have HC1 := Lib.hid (HC0.out.below HBW1.out HC0.out.lt)
  have HBL1 := Lib.hid (G.bl_trans HBL0.out HBW1.out)
  go_upto_region 4 with (first | (refine wpList_load_row rfl 27 _ rfl g rfl _ cs (0, 0) _ HC1.out HFS.out rfl (by rw [HS.out]; exact sizeSt) ?_) | ((with_reducible refine (HCS.out _ HBL1.out).mono ?_); rintro e2 w2 hp2; obtain ⟨xa, rfl, ho2, hb2⟩ := hp2; have HO2 := Lib.hid ho2; have HBW2 := Lib.hid hb2; have HC2 := Lib.hid (HC1.out.below hb2 HC1.out.lt); clear ho2 hb2) | (refine wpList_store_row rfl 27 _ _ rfl g (xa.arr s) rfl rfl 27 _ HC2.out (by kernel_rfl) (by rw [HS.out]; rfl) (arr_one _ _) ?_))
  have HB02 := Lib.hid (G.bl_trans HBW1.out HBW2.out)
  have HI0 := Lib.hid (show RpI (some s) w0 g (w2.setRow g (xa.arr s)) from ⟨⟨s, xa, rfl, setRow_heap _ _ _ _ _ _ HC2.out, (HO2.out.ge HBW1.out.size).only (only_row HC2.out) (by decide) (by decide) (by decide) (by decide)⟩, (setRow_other _ _ _ _ (by omega)).trans (HR0.out.below HB02.out HR0.out.lt), below_setRow (HB02.out.mono (Nat.le_of_lt HC0.out.lt)) (Nat.le_refl _) _⟩)
  obtain ⟨w3, hw3⟩ : ∃ q, q = w2.setRow g (xa.arr s) := ⟨_, rfl⟩
  rw [← hw3] at HI0 ⊢
  clear hw3
  go_wp2_with fail
  go_loopw [7] (fun i wr => ∃ k : Nat, k ≤ n ∧ i = .int .i64 k ∧ RpI (runE s (E.take k)) w0 g wr) (fun i _ => n - (intOf i).toNat)
  case atStart => exact ⟨0, Nat.zero_le _, rfl, HI0.out⟩
  case round =>
   clear HI0
   obtain ⟨k, hk, rfl, hri⟩ := hrel
   obtain ⟨t, x', hrun, hbk, hown⟩ := hri.ex
   have HRI := Lib.hid hri
   have HRUN := Lib.hid hrun
   have HK := Lib.hid hbk
   have HOX := Lib.hid hown
   have HEVr := Lib.hid (HEV.out.below (show Below w.heap.size w wr from HBL0.out.trans (hri.bl.mono (Nat.le_of_eq HG.out.symm))))
   have HMT := Lib.hid (run_may HM.out hrun)
   have hk0 : (0 : Int) ≤ k := by omega
   clear hri hrun hbk hown
   by_cases hlt : k < n
   ·have hltI : (k : Int) < n := by omega
    obtain ⟨b, off, hA, hbs, hrd, hre, hcs⟩ := ev_whole HEVr.out hlt
    obtain ⟨hfit, hlen⟩ := HF.out k hlt
    have HEK := Lib.hid (HEA.out k)
    obtain ⟨p, hp⟩ : ∃ p, p = L.getD k zeroP := ⟨_, rfl⟩
    rw [← hp] at hrd hre hcs hfit hlen HEK
    subst hA
    obtain ⟨y, e⟩ := p
    simp only at hrd hre hcs hfit hlen HEK
    obtain ⟨ce, hce⟩ : ∃ ce, ce = y.arr e := ⟨_, rfl⟩
    rw [← hce] at hrd hcs
    have HSE := Lib.hid (show ce.size = 12 by rw [hce]; rfl)
    have HZT := Lib.hid (may_sz HMT.out)
    have HBH := Lib.hid (fun W (hW : Below wr.heap.size wr W) => refBehind_any x' t y e W (HOX.out.rd.below hW) HZT.out HMT.out (RdEv.below hre hW) hfit hlen)
    rw [show y.val e = .agg ce by rw [hce]; rfl] at HBH
    obtain ⟨cx, hcx⟩ : ∃ c, c = x'.arr t := ⟨_, rfl⟩
    have HSX := Lib.hid (show cx.size = 7 by rw [hcx]; rfl)
    rw [show x'.val t = .agg cx by rw [hcx]; rfl] at HBH
    rw [← hcx] at HK
    have HLW := Lib.hid (show LwA wr g cx b (off + k * 12) ce wr from ⟨Below.refl _ _, HK.out, ⟨hrd, hcs⟩, HSX.out, HSE.out, HK.out.lt, hbs⟩)
    clear hp hce hcx hrd hre hcs hfit hlen
    go_upto_region 7 with (fail)
    go_cut [8, 9] from 16 to 35 (fun s8 s9 wx => CutR wr (stepE t e false) s8 s9 wx)
    case first =>
     refine wp_region_held_drew (S := LwA wr g cx b (off + k * 12) ce) (by kernel_rfl) ?_ (fun hHeld => ?_)
     ·exact LwA.below HLW.out (Below.refl _ _).drew
     refine wpAnyH_take (i := 0) (oi := ⟨some 23, _, _, _, _, _⟩) (v := ?_) rfl (by kernel_rfl) (by kernel_rfl) (by kernel_rfl) (fun _ _ _ h => h) (Or.inl ⟨by rfl, ?_⟩) (by assumption) ?_
     rotate_left
     ·(intro w hSw; refine exec_load_held 27 (.tmp 2) ?_ g ?_ _ (run_st hSw.bx hSw.sx) <;> rfl)
     try simp only [Act.put, List.setIfInBounds_toArray, List.set_cons_zero, List.set_cons_succ]
     refine wpAnyH_take (i := 1) (oi := ⟨some 24, _, _, _, _, _⟩) (v := ?_) rfl (by kernel_rfl) (by kernel_rfl) (by kernel_rfl) (fun _ _ _ h => h) (Or.inl ⟨by rfl, ?_⟩) (by assumption) ?_
     rotate_left
     ·(intro w hSw; (try dsimp only at hSw); go_split_ands; go_simp; try with_reducible rfl)
     try simp only [Act.put, List.setIfInBounds_toArray, List.set_cons_zero, List.set_cons_succ]
     refine wpAnyH_take (i := 2) (oi := ⟨some 25, _, _, _, _, _⟩) (v := ?_) rfl (by kernel_rfl) (by kernel_rfl) (by kernel_rfl) (fun _ _ _ h => h) (Or.inl ⟨by rfl, ?_⟩) (by assumption) ?_
     rotate_left
     ·(intro w hSw; (try dsimp only at hSw); go_split_ands; go_simp; try with_reducible rfl)
     try simp only [Act.put, List.setIfInBounds_toArray, List.set_cons_zero, List.set_cons_succ]
     refine wpAnyH_take (i := 3) (oi := ⟨some 26, _, _, _, _, _⟩) (v := ?_) rfl (by kernel_rfl) (by kernel_rfl) (by kernel_rfl) (fun _ _ _ h => h) (Or.inl ⟨by rfl, ?_⟩) (by assumption) ?_
     rotate_left
     ·(intro w hSw; (try dsimp only at hSw); go_split_ands; go_simp; try with_reducible rfl)
     try simp only [Act.put, List.setIfInBounds_toArray, List.set_cons_zero, List.set_cons_succ]
     refine wpAnyH_take (i := 4) (oi := ⟨some 27, _, _, _, _, _⟩) (v := ?_) rfl (by kernel_rfl) (by kernel_rfl) (by kernel_rfl) (fun _ _ _ h => h) (Or.inl ⟨by rfl, ?_⟩) (by assumption) ?_
     rotate_left
     ·(intro w hSw; refine exec_load_at2 30 (.tmp 26) ?_ b (off + k * 12) ?_ _ hSw.be.1 <;> rfl)
     try simp only [Act.put, List.setIfInBounds_toArray, List.set_cons_zero, List.set_cons_succ]
     refine wpAnyH_ready (rs := [5, 9]) (by kernel_rfl) (by simp) ?_
     refine AllReadyH.cons rfl (fun K hK => ?_) ?_
     ·go_simp
      (refine (HBH.out _ hHeld.bl).mono ?_; rintro e8 w8 hp8; obtain ⟨x8, t8, b8, rfl, ho8, hb8, hc8⟩ := hp8; have HB8 := Lib.hid hb8; have HO8 := Lib.hid (ho8.ge hHeld.bl.size); have HC8 := Lib.hid hc8; clear ho8 hb8 hc8)
      go_wp2_with fail
      refine hK.out _ _ ?_ (fun hHeld => ?_)
      ·exact LwA.below (by assumption) HB8.out
      clear hK K
      try simp only [Act.put, List.setIfInBounds_toArray, List.set_cons_zero, List.set_cons_succ]
      refine wpAnyH_take (i := 6) (oi := ⟨some 22, _, _, _, _, _⟩) (v := ?_) rfl (by kernel_rfl) (by kernel_rfl) (by kernel_rfl) (fun _ _ _ h => h) (Or.inl ⟨by rfl, ?_⟩) (by assumption) ?_
      rotate_left
      ·(intro w hSw; (try dsimp only at hSw); go_split_ands; go_simp; try with_reducible rfl)
      try simp only [Act.put, List.setIfInBounds_toArray, List.set_cons_zero, List.set_cons_succ]
      refine wpAnyH_take (i := 7) (oi := ⟨some 29, _, _, _, _, _⟩) (v := ?_) rfl (by kernel_rfl) (by kernel_rfl) (by kernel_rfl) (fun _ _ _ h => h) (Or.inl ⟨by rfl, ?_⟩) (by assumption) ?_
      rotate_left
      ·(intro w hSw; (try dsimp only at hSw); go_split_ands; go_simp; try with_reducible rfl)
      try simp only [Act.put, List.setIfInBounds_toArray, List.set_cons_zero, List.set_cons_succ]
      refine wpAnyH_take (i := 8) (oi := ⟨some 30, _, _, _, _, _⟩) (v := ?_) rfl (by kernel_rfl) (by kernel_rfl) (by kernel_rfl) (fun _ _ _ h => h) (Or.inl ⟨by rfl, ?_⟩) (by assumption) ?_
      rotate_left
      ·(intro w hSw; (try dsimp only at hSw); go_split_ands; go_simp; try with_reducible rfl)
      try simp only [Act.put, List.setIfInBounds_toArray, List.set_cons_zero, List.set_cons_succ]
      refine wpAnyH_ready (rs := [9]) (by kernel_rfl) (by simp) ?_
      refine AllReadyH.cons rfl (fun K hK => ?_) AllReadyH.nil
      go_simp
      go_wp2_with fail
      refine hK.out _ _ ?_ (fun hHeld => ?_)
      ·exact LwA.below (by assumption) (G.bl_alloc (Below.refl _ _) _)
      clear hK K
      try simp only [Act.put, List.setIfInBounds_toArray, List.set_cons_zero, List.set_cons_succ]
      refine wpAnyH_ready (rs := [10]) (by kernel_rfl) (by simp) ?_
      refine AllReadyH.cons rfl (fun K hK => ?_) AllReadyH.nil
      first | (refine wp_store_row 27 (.tmp 8) (.tmp 29) rfl _ (x8.arr t8) rfl rfl 27 #[.slice none 0 0, .slice none 0 0, .slice none 0 0, .int .i32 0, .int .i64 0, .int .i8 0, .int .i64 0] (heap_alloc_new _ _) (by kernel_rfl) rfl (arr_one _ _) ?_) | (refine wp_store_row 27 (.tmp 8) (.tmp 29) rfl _ (x8.arr t8) rfl rfl 27 #[.slice none 0 0, .slice none 0 0, .slice none 0 0, .int .i32 0, .int .i64 0, .int .i8 0, .int .i64 0] (blk_after HB8.out) (by kernel_rfl) rfl (arr_one _ _) ?_) | (refine wp_store_row 27 (.tmp 8) (.tmp 29) rfl _ (x8.arr t8) rfl rfl 27 #[.slice none 0 0, .slice none 0 0, .slice none 0 0, .int .i32 0, .int .i64 0, .int .i8 0, .int .i64 0] (blk_after_drew HB8.out) (by kernel_rfl) rfl (arr_one _ _) ?_)
      try simp only [Act.put, List.getElem_toArray, List.getElem_cons_succ, List.getElem_cons_zero]
      refine hK.out _ _ ?_ (fun hHeld => ?_)
      ·exact LwA.row (by assumption) (by have s8 := HB8.out.size; first | omega | (simp at s8 ⊢; omega))
      clear hK K
      try simp only [Act.put, List.setIfInBounds_toArray, List.set_cons_zero, List.set_cons_succ]
      refine wpAnyH_take (i := 11) (oi := ⟨some 9, _, _, _, _, _⟩) (v := ?_) rfl (by kernel_rfl) (by kernel_rfl) (by kernel_rfl) (fun _ _ _ h => h) (Or.inl ⟨by rfl, ?_⟩) (by assumption) ?_
      rotate_left
      ·(intro w hSw; (try dsimp only at hSw); go_split_ands; go_simp; try with_reducible rfl)
      try simp only [Act.put, List.setIfInBounds_toArray, List.set_cons_zero, List.set_cons_succ]
      refine wpAnyH_done (by kernel_rfl) ?_ _
      go_wp2_with fail
      go_meet
      case rel => first | exact cutR_mk (HO8.out.below (G.bl_alloc (Below.refl _ _) _)) hHeld.bl (G.Blk.new _ _ _) (by have s8 := HB8.out.size; first | omega | (simp at s8 ⊢; omega)) HC8.out | exact cutR_mk HO8.out hHeld.bl (blk_after HB8.out) (by have s8 := HB8.out.size; first | omega | (simp at s8 ⊢; omega)) HC8.out | exact cutR_mk HO8.out hHeld.bl (blk_after_drew HB8.out) (by have s8 := HB8.out.size; first | omega | (simp at s8 ⊢; omega)) HC8.out
     refine AllReadyH.cons rfl (fun K hK => ?_) ?_
     ·go_simp
      go_wp2_with fail
      refine hK.out _ _ ?_ (fun hHeld => ?_)
      ·exact LwA.below (by assumption) (G.bl_alloc (Below.refl _ _) _)
      clear hK K
      try simp only [Act.put, List.setIfInBounds_toArray, List.set_cons_zero, List.set_cons_succ]
      refine wpAnyH_ready (rs := [5]) (by kernel_rfl) (by simp) ?_
      refine AllReadyH.cons rfl (fun K hK => ?_) AllReadyH.nil
      go_simp
      (refine (HBH.out _ hHeld.bl).mono ?_; rintro e8 w8 hp8; obtain ⟨x8, t8, b8, rfl, ho8, hb8, hc8⟩ := hp8; have HB8 := Lib.hid hb8; have HO8 := Lib.hid (ho8.ge hHeld.bl.size); have HC8 := Lib.hid hc8; clear ho8 hb8 hc8)
      go_wp2_with fail
      refine hK.out _ _ ?_ (fun hHeld => ?_)
      ·exact LwA.below (by assumption) HB8.out
      clear hK K
      try simp only [Act.put, List.setIfInBounds_toArray, List.set_cons_zero, List.set_cons_succ]
      refine wpAnyH_take (i := 6) (oi := ⟨some 22, _, _, _, _, _⟩) (v := ?_) rfl (by kernel_rfl) (by kernel_rfl) (by kernel_rfl) (fun _ _ _ h => h) (Or.inl ⟨by rfl, ?_⟩) (by assumption) ?_
      rotate_left
      ·(intro w hSw; (try dsimp only at hSw); go_split_ands; go_simp; try with_reducible rfl)
      try simp only [Act.put, List.setIfInBounds_toArray, List.set_cons_zero, List.set_cons_succ]
      refine wpAnyH_take (i := 7) (oi := ⟨some 29, _, _, _, _, _⟩) (v := ?_) rfl (by kernel_rfl) (by kernel_rfl) (by kernel_rfl) (fun _ _ _ h => h) (Or.inl ⟨by rfl, ?_⟩) (by assumption) ?_
      rotate_left
      ·(intro w hSw; (try dsimp only at hSw); go_split_ands; go_simp; try with_reducible rfl)
      try simp only [Act.put, List.setIfInBounds_toArray, List.set_cons_zero, List.set_cons_succ]
      refine wpAnyH_take (i := 8) (oi := ⟨some 30, _, _, _, _, _⟩) (v := ?_) rfl (by kernel_rfl) (by kernel_rfl) (by kernel_rfl) (fun _ _ _ h => h) (Or.inl ⟨by rfl, ?_⟩) (by assumption) ?_
      rotate_left
      ·(intro w hSw; (try dsimp only at hSw); go_split_ands; go_simp; try with_reducible rfl)
      try simp only [Act.put, List.setIfInBounds_toArray, List.set_cons_zero, List.set_cons_succ]
      refine wpAnyH_ready (rs := [10]) (by kernel_rfl) (by simp) ?_
      refine AllReadyH.cons rfl (fun K hK => ?_) AllReadyH.nil
      first | (refine wp_store_row 27 (.tmp 8) (.tmp 29) rfl _ (x8.arr t8) rfl rfl 27 #[.slice none 0 0, .slice none 0 0, .slice none 0 0, .int .i32 0, .int .i64 0, .int .i8 0, .int .i64 0] (heap_alloc_new _ _) (by kernel_rfl) rfl (arr_one _ _) ?_) | (refine wp_store_row 27 (.tmp 8) (.tmp 29) rfl _ (x8.arr t8) rfl rfl 27 #[.slice none 0 0, .slice none 0 0, .slice none 0 0, .int .i32 0, .int .i64 0, .int .i8 0, .int .i64 0] (blk_after HB8.out) (by kernel_rfl) rfl (arr_one _ _) ?_) | (refine wp_store_row 27 (.tmp 8) (.tmp 29) rfl _ (x8.arr t8) rfl rfl 27 #[.slice none 0 0, .slice none 0 0, .slice none 0 0, .int .i32 0, .int .i64 0, .int .i8 0, .int .i64 0] (blk_after_drew HB8.out) (by kernel_rfl) rfl (arr_one _ _) ?_)
      try simp only [Act.put, List.getElem_toArray, List.getElem_cons_succ, List.getElem_cons_zero]
      refine hK.out _ _ ?_ (fun hHeld => ?_)
      ·exact LwA.row (by assumption) (by have s8 := HB8.out.size; first | omega | (simp at s8 ⊢; omega))
      clear hK K
      try simp only [Act.put, List.setIfInBounds_toArray, List.set_cons_zero, List.set_cons_succ]
      refine wpAnyH_take (i := 11) (oi := ⟨some 9, _, _, _, _, _⟩) (v := ?_) rfl (by kernel_rfl) (by kernel_rfl) (by kernel_rfl) (fun _ _ _ h => h) (Or.inl ⟨by rfl, ?_⟩) (by assumption) ?_
      rotate_left
      ·(intro w hSw; (try dsimp only at hSw); go_split_ands; go_simp; try with_reducible rfl)
      try simp only [Act.put, List.setIfInBounds_toArray, List.set_cons_zero, List.set_cons_succ]
      refine wpAnyH_done (by kernel_rfl) ?_ _
      go_wp2_with fail
      go_meet
      case rel => first | exact cutR_mk (HO8.out.below (G.bl_alloc (Below.refl _ _) _)) hHeld.bl (G.Blk.new _ _ _) (by have s8 := HB8.out.size; first | omega | (simp at s8 ⊢; omega)) HC8.out | exact cutR_mk HO8.out hHeld.bl (blk_after HB8.out) (by have s8 := HB8.out.size; first | omega | (simp at s8 ⊢; omega)) HC8.out | exact cutR_mk HO8.out hHeld.bl (blk_after_drew HB8.out) (by have s8 := HB8.out.size; first | omega | (simp at s8 ⊢; omega)) HC8.out
     exact AllReadyH.nil
    obtain ⟨g8, x8, t8, b8, rfl, rfl, hB8, hO8, hb8, hg8, hc8⟩ := hcut
    have HB8 := Lib.hid hB8
    have HO8 := Lib.hid hO8
    have HBc := Lib.hid hb8
    have HKc := Lib.hid (HK.out.below hb8 HK.out.lt)
    have HRc := Lib.hid (HRI.out.rb.below hb8 HRI.out.rb.lt)
    have HW0 := Lib.hid (show w0.heap.size ≤ wr.heap.size from HRI.out.bl.size)
    clear hB8 hO8 hb8
    rcases hc8 with ⟨rfl, hst⟩ | ⟨rfl, hst⟩
    ·have HST := Lib.hid hst
     clear hst
     have HI9 := Lib.hid (show RpI (runE s (E.take (k + 1))) w0 g (wc.setRow g (x8.arr t8)) from ⟨⟨t8, x8, run_yes (by rw [HEN.out]; exact hlt) HEK.out HRUN.out HST.out, setRow_heap _ _ _ _ _ _ HKc.out, (HO8.out.ge HW0.out).only (only_row HKc.out) (by decide) (by decide) (by decide) (by decide)⟩, (setRow_other _ _ _ _ (by omega)).trans HRc.out, below_setRow (HRI.out.bl.trans (HBc.out.mono (Nat.le_of_lt HK.out.lt))) (Nat.le_refl _) _⟩)
     go_wp2_with (first | (refine wpList_load_row rfl 27 _ rfl g8 rfl _ (x8.arr t8) (0, 0) _ HB8.out HFS.out rfl sizeSt ?_) | (refine wpList_store_row rfl 27 _ _ rfl g (x8.arr t8) rfl rfl 27 _ HKc.out (by kernel_rfl) (by rw [HSX.out]; rfl) (arr_one _ _) ?_))
     go_roundw
     case rel => exact ⟨k + 1, by omega, by go_num, HI9.out⟩
     case measure => (simp [intOf]; try omega)
    ·obtain ⟨hn1, hn2⟩ := run_no (by rw [HEN.out]; exact hlt) HEK.out HRUN.out hst
     have HN1 := Lib.hid hn1
     have HN2 := Lib.hid hn2
     clear hst hn1 hn2
     go_wp2_with (first | (refine build_to zeroA rfl 27 _ rfl _ (by kernel_rfl) zeroA_b ?_) | (refine wpList_store_row rfl 27 _ _ rfl (g + 1) zeroA rfl rfl 27 _ HRc.out (by kernel_rfl) (by kernel_rfl) (by kernel_rfl) ?_))
     refine bodyPost_ret (v := .tuple #[.agg zeroA, .int .i64 (k : Int), .int .i64 11]) (st_results3 rfl _ _ (g + 1) _ _ _ rfl rfl rfl (setRow_heap _ _ _ _ _ _ HRc.out) rfl) rfl (repP_event HM.out HN1.out HN2.out ?_)
     exact below_setRow (HBL0.out.trans ((HRI.out.bl.trans (HBc.out.mono (Nat.le_of_lt HK.out.lt))).mono (Nat.le_of_eq HG.out.symm))) (by have := HG.out; omega) _
   ·have hltI : ¬ (k : Int) < n := by omega
    obtain rfl : k = n := by omega
    have HEND := Lib.hid (show runE s E = some t from by
     have h9 := HRUN.out
     rwa [List.take_of_length_le (by rw [HEN.out]; omega)] at h9)
    go_wp2_with (first | (refine wpList_load_row rfl 27 _ rfl g rfl _ (x'.arr t) (0, 0) _ HK.out HFS.out rfl sizeSt ?_) | (refine wpList_store_row rfl 27 _ _ rfl (g + 1) (x'.arr t) rfl rfl 27 _ HRI.out.rb (by kernel_rfl) rfl (arr_one _ _) ?_))
    refine bodyPost_ret (v := .tuple #[.agg (x'.arr t), .int .i64 0, .int .i64 0]) (st_results3 rfl _ _ (g + 1) _ _ _ rfl rfl rfl (setRow_heap _ _ _ _ _ _ HRI.out.rb) rfl) rfl (repP_yes HM.out HEND.out ?_ ?_)
    ·exact (HOX.out.ge HBL0.out.size).only (only_row HRI.out.rb) (by decide) (by decide) (by decide) (by decide)
    ·exact below_setRow (HBL0.out.trans (HRI.out.bl.mono (Nat.le_of_eq HG.out.symm))) (by have := HG.out; omega) _
 ·have HM := Lib.hid hm
  clear hm
  go_upto_region 2 with (first | (refine wpList_load_row rfl 27 _ rfl g rfl _ cs (0, 0) _ HC0.out HFS.out rfl (by rw [HS.out]; exact sizeSt) ?_) | ((with_reducible refine (HMY0.out).mono ?_); rintro e1 w1 hp; obtain ⟨b1, rfl, hb, hbw⟩ := hp; obtain rfl : b1 = false := rmay_false hb HM.out; have HR1 := Lib.hid (HR0.out.below hbw HR0.out.lt); have HBL1 := Lib.hid (G.bl_trans HBL0.out hbw); clear hb hbw))
  go_wp2_with (first | (refine build_to zeroA rfl 27 _ rfl _ (by kernel_rfl) zeroA_b ?_) | (refine wpList_store_row rfl 27 _ _ rfl (g + 1) zeroA rfl rfl 27 _ HR1.out (by kernel_rfl) (by kernel_rfl) (by kernel_rfl) ?_))
  refine bodyPost_ret (v := .tuple #[.agg zeroA, .int .i64 0, .int .i64 10]) (st_results3 rfl _ _ (g + 1) _ _ _ rfl rfl rfl (setRow_heap _ _ _ _ _ _ HR1.out) rfl) rfl (repP_state HM.out ?_)
  exact below_setRow HBL1.out (by have := HG.out; omega) _
set_option maxRecDepth 100000 in
set_option maxHeartbeats 16000000 in
theorem refBack_any (x : SV) (s : St) (A : Option Addr) (n c : Nat) (L : List (EV × Ev)) (w : World) (h : RdSt w x s) (hz : Sz s) (hl : RdEvs w A n L) (hf : ∀ k, k < n → (L.getD k zeroP).2.Fits ∧ (L.getD k zeroP).2.order.length ≤ 33554432) (hn : n ≤ 33554432) :
 Calls Tryz.prog 38 #[x.val s, .slice A n c] w (RepPost s (backL s (L.map Prod.snd)) (backAt s (L.map Prod.snd)) w) := by
 obtain ⟨fsS, hfsS⟩ := undSt
 have HFS := Lib.hid hfsS
 have HMY := Lib.hid (fun W (hW : Below w.heap.size w W) => refMay_any x s W (h.below hW) hz)
 have HCS := Lib.hid (fun W (hW : Below w.heap.size w W) => copyState_any x s W (h.below hW) hz)
 have HEV := Lib.hid hl
 have HF := Lib.hid hf
 obtain ⟨cs, hc⟩ : ∃ c, c = x.arr s := ⟨_, rfl⟩
 have HS := Lib.hid (show cs.size = 7 by rw [hc]; rfl)
 have he : x.val s = .agg cs := by rw [hc]; rfl
 rw [he] at HMY HCS ⊢
 obtain ⟨E, hE⟩ : ∃ E, E = L.map Prod.snd := ⟨_, rfl⟩
 have HEN := Lib.hid (show E.length = n by rw [hE, List.length_map]; exact hl.len)
 have HEA := Lib.hid (show ∀ k, E.getD k zeroEv = (L.getD k zeroP).2 from fun k => by rw [hE]; exact getD_snd L k)
 rw [← hE]
 clear h hz hl hf hc he hfsS hE
 have h1 : G.Blk ((w.alloc (.cells cs 27)).alloc (.cells zeroA 27)) w.heap.size 27 cs := heap_alloc2_old w _ _
 have h2 : G.Blk ((w.alloc (.cells cs 27)).alloc (.cells zeroA 27)) (w.heap.size + 1) 27 zeroA := heap_alloc2_new w _ _
 have hbl0 : Below w.heap.size w ((w.alloc (.cells cs 27)).alloc (.cells zeroA 27)) := G.bl_alloc (G.bl_alloc (Below.refl _ _) _) _
 go_enter Tryz.func38, Tryz.ntmps38
 go_upto_region 1 with (fail)
 obtain ⟨w0, hw0⟩ : ∃ w0, w0 = (w.alloc (.cells cs 27)).alloc (.cells zeroA 27) := ⟨_, rfl⟩
 rw [← hw0] at h1 h2 hbl0
 unfold zeroA at hw0
 rw [← hw0]
 clear hw0
 have HBL0 := Lib.hid hbl0
 obtain ⟨g, hg⟩ : ∃ g, g = w.heap.size := ⟨_, rfl⟩
 have HG := Lib.hid hg
 rw [← hg] at h1 h2 ⊢
 have HC0 := Lib.hid h1
 have HR0 := Lib.hid h2
 clear h1 h2 hbl0 hg
 have HMY0 := Lib.hid (HMY.out _ HBL0.out)
 by_cases hm : May s
 ·have HM := Lib.hid hm
  clear hm
  go_upto_region 3 with (first | (refine wpList_load_row rfl 27 _ rfl g rfl _ cs (0, 0) _ HC0.out HFS.out rfl (by rw [HS.out]; exact sizeSt) ?_) | ((with_reducible refine (HMY0.out).mono ?_); rintro e1 w1 hp; obtain ⟨b1, rfl, hb, hbw⟩ := hp; obtain rfl : b1 = true := hb.2 HM.out; have HBW1 := Lib.hid hbw; clear hb hbw))
  have HC1 := Lib.hid (HC0.out.below HBW1.out HC0.out.lt)
  have HBL1 := Lib.hid (G.bl_trans HBL0.out HBW1.out)
  go_upto_region 4 with (first | (refine wpList_load_row rfl 27 _ rfl g rfl _ cs (0, 0) _ HC1.out HFS.out rfl (by rw [HS.out]; exact sizeSt) ?_) | ((with_reducible refine (HCS.out _ HBL1.out).mono ?_); rintro e2 w2 hp2; obtain ⟨xa, rfl, ho2, hb2⟩ := hp2; have HO2 := Lib.hid ho2; have HBW2 := Lib.hid hb2; have HC2 := Lib.hid (HC1.out.below hb2 HC1.out.lt); clear ho2 hb2) | (refine wpList_store_row rfl 27 _ _ rfl g (xa.arr s) rfl rfl 27 _ HC2.out (by kernel_rfl) (by rw [HS.out]; rfl) (arr_one _ _) ?_))
  have HB02 := Lib.hid (G.bl_trans HBW1.out HBW2.out)
  have HI0 := Lib.hid (show RpI (some s) w0 g (w2.setRow g (xa.arr s)) from ⟨⟨s, xa, rfl, setRow_heap _ _ _ _ _ _ HC2.out, (HO2.out.ge HBW1.out.size).only (only_row HC2.out) (by decide) (by decide) (by decide) (by decide)⟩, (setRow_other _ _ _ _ (by omega)).trans (HR0.out.below HB02.out HR0.out.lt), below_setRow (HB02.out.mono (Nat.le_of_lt HC0.out.lt)) (Nat.le_refl _) _⟩)
  obtain ⟨w3, hw3⟩ : ∃ q, q = w2.setRow g (xa.arr s) := ⟨_, rfl⟩
  rw [← hw3] at HI0 ⊢
  clear hw3
  go_wp2_with fail
  go_loopw [7] (fun i wr => ∃ r : Nat, r ≤ n ∧ i = .int .i64 ((r : Int) - 1) ∧ RpI (backL s (E.drop r)) w0 g wr) (fun i _ => (intOf i + 1).toNat)
  case atStart => exact ⟨n, Nat.le_refl _, by go_num, by rw [List.drop_of_length_le (by rw [HEN.out]; omega)]; exact HI0.out⟩
  case round =>
   clear HI0
   obtain ⟨r, hr, rfl, hri⟩ := hrel
   obtain ⟨t, x', hrun, hbk, hown⟩ := hri.ex
   have HRI := Lib.hid hri
   have HRUN := Lib.hid hrun
   have HK := Lib.hid hbk
   have HOX := Lib.hid hown
   have HEVr := Lib.hid (HEV.out.below (show Below w.heap.size w wr from HBL0.out.trans (hri.bl.mono (Nat.le_of_eq HG.out.symm))))
   have HMT := Lib.hid (backL_may HM.out hrun)
   clear hri hrun hbk hown
   cases r with
   | succ k =>
    have hlt : k < n := by omega
    have hltI : (k : Int) < n := by omega
    have hk0 : (0 : Int) ≤ k := by omega
    rw [show (((k + 1 : Nat) : Int) - 1) = (k : Int) by omega]
    obtain ⟨b, off, hA, hbs, hrd, hre, hcs⟩ := ev_whole HEVr.out hlt
    obtain ⟨hfit, hlen⟩ := HF.out k hlt
    have HEK := Lib.hid (HEA.out k)
    obtain ⟨p, hp⟩ : ∃ p, p = L.getD k zeroP := ⟨_, rfl⟩
    rw [← hp] at hrd hre hcs hfit hlen HEK
    subst hA
    obtain ⟨y, e⟩ := p
    simp only at hrd hre hcs hfit hlen HEK
    obtain ⟨ce, hce⟩ : ∃ ce, ce = y.arr e := ⟨_, rfl⟩
    rw [← hce] at hrd hcs
    have HSE := Lib.hid (show ce.size = 12 by rw [hce]; rfl)
    have HZT := Lib.hid (may_sz HMT.out)
    have HBH := Lib.hid (fun W (hW : Below wr.heap.size wr W) => refAhead_any x' t y e W (HOX.out.rd.below hW) HZT.out HMT.out (RdEv.below hre hW) hfit hlen)
    rw [show y.val e = .agg ce by rw [hce]; rfl] at HBH
    obtain ⟨cx, hcx⟩ : ∃ c, c = x'.arr t := ⟨_, rfl⟩
    have HSX := Lib.hid (show cx.size = 7 by rw [hcx]; rfl)
    rw [show x'.val t = .agg cx by rw [hcx]; rfl] at HBH
    rw [← hcx] at HK
    have HLW := Lib.hid (show LwA wr g cx b (off + k * 12) ce wr from ⟨Below.refl _ _, HK.out, ⟨hrd, hcs⟩, HSX.out, HSE.out, HK.out.lt, hbs⟩)
    clear hp hce hcx hrd hre hcs hfit hlen
    go_upto_region 7 with (fail)
    go_cut [8, 9] from 19 to 41 (fun s8 s9 wx => CutR wr (stepE t e true) s8 s9 wx)
    case first =>
     refine wp_region_held_drew (S := LwA wr g cx b (off + k * 12) ce) (by kernel_rfl) ?_ (fun hHeld => ?_)
     ·exact LwA.below HLW.out (Below.refl _ _).drew
     refine wpAnyH_take (i := 0) (oi := ⟨some 24, _, _, _, _, _⟩) (v := ?_) rfl (by kernel_rfl) (by kernel_rfl) (by kernel_rfl) (fun _ _ _ h => h) (Or.inl ⟨by rfl, ?_⟩) (by assumption) ?_
     rotate_left
     ·(intro w hSw; refine exec_load_held 27 (.tmp 2) ?_ g ?_ _ (run_st hSw.bx hSw.sx) <;> rfl)
     try simp only [Act.put, List.setIfInBounds_toArray, List.set_cons_zero, List.set_cons_succ]
     refine wpAnyH_take (i := 1) (oi := ⟨some 25, _, _, _, _, _⟩) (v := ?_) rfl (by kernel_rfl) (by kernel_rfl) (by kernel_rfl) (fun _ _ _ h => h) (Or.inl ⟨by rfl, ?_⟩) (by assumption) ?_
     rotate_left
     ·(intro w hSw; (try dsimp only at hSw); go_split_ands; go_simp; try with_reducible rfl)
     try simp only [Act.put, List.setIfInBounds_toArray, List.set_cons_zero, List.set_cons_succ]
     refine wpAnyH_take (i := 2) (oi := ⟨some 26, _, _, _, _, _⟩) (v := ?_) rfl (by kernel_rfl) (by kernel_rfl) (by kernel_rfl) (fun _ _ _ h => h) (Or.inl ⟨by rfl, ?_⟩) (by assumption) ?_
     rotate_left
     ·(intro w hSw; (try dsimp only at hSw); go_split_ands; go_simp; try with_reducible rfl)
     try simp only [Act.put, List.setIfInBounds_toArray, List.set_cons_zero, List.set_cons_succ]
     refine wpAnyH_take (i := 3) (oi := ⟨some 27, _, _, _, _, _⟩) (v := ?_) rfl (by kernel_rfl) (by kernel_rfl) (by kernel_rfl) (fun _ _ _ h => h) (Or.inl ⟨by rfl, ?_⟩) (by assumption) ?_
     rotate_left
     ·(intro w hSw; (try dsimp only at hSw); go_split_ands; go_simp; try with_reducible rfl)
     try simp only [Act.put, List.setIfInBounds_toArray, List.set_cons_zero, List.set_cons_succ]
     refine wpAnyH_take (i := 4) (oi := ⟨some 28, _, _, _, _, _⟩) (v := ?_) rfl (by kernel_rfl) (by kernel_rfl) (by kernel_rfl) (fun _ _ _ h => h) (Or.inl ⟨by rfl, ?_⟩) (by assumption) ?_
     rotate_left
     ·(intro w hSw; refine exec_load_at2 30 (.tmp 27) ?_ b (off + k * 12) ?_ _ hSw.be.1 <;> rfl)
     try simp only [Act.put, List.setIfInBounds_toArray, List.set_cons_zero, List.set_cons_succ]
     refine wpAnyH_ready (rs := [5, 9]) (by kernel_rfl) (by simp) ?_
     refine AllReadyH.cons rfl (fun K hK => ?_) ?_
     ·go_simp
      (refine (HBH.out _ hHeld.bl).mono ?_; rintro e8 w8 hp8; obtain ⟨x8, t8, b8, rfl, ho8, hb8, hc8⟩ := hp8; have HB8 := Lib.hid hb8; have HO8 := Lib.hid (ho8.ge hHeld.bl.size); have HC8 := Lib.hid hc8; clear ho8 hb8 hc8)
      go_wp2_with fail
      refine hK.out _ _ ?_ (fun hHeld => ?_)
      ·exact LwA.below (by assumption) HB8.out
      clear hK K
      try simp only [Act.put, List.setIfInBounds_toArray, List.set_cons_zero, List.set_cons_succ]
      refine wpAnyH_take (i := 6) (oi := ⟨some 23, _, _, _, _, _⟩) (v := ?_) rfl (by kernel_rfl) (by kernel_rfl) (by kernel_rfl) (fun _ _ _ h => h) (Or.inl ⟨by rfl, ?_⟩) (by assumption) ?_
      rotate_left
      ·(intro w hSw; (try dsimp only at hSw); go_split_ands; go_simp; try with_reducible rfl)
      try simp only [Act.put, List.setIfInBounds_toArray, List.set_cons_zero, List.set_cons_succ]
      refine wpAnyH_take (i := 7) (oi := ⟨some 30, _, _, _, _, _⟩) (v := ?_) rfl (by kernel_rfl) (by kernel_rfl) (by kernel_rfl) (fun _ _ _ h => h) (Or.inl ⟨by rfl, ?_⟩) (by assumption) ?_
      rotate_left
      ·(intro w hSw; (try dsimp only at hSw); go_split_ands; go_simp; try with_reducible rfl)
      try simp only [Act.put, List.setIfInBounds_toArray, List.set_cons_zero, List.set_cons_succ]
      refine wpAnyH_take (i := 8) (oi := ⟨some 31, _, _, _, _, _⟩) (v := ?_) rfl (by kernel_rfl) (by kernel_rfl) (by kernel_rfl) (fun _ _ _ h => h) (Or.inl ⟨by rfl, ?_⟩) (by assumption) ?_
      rotate_left
      ·(intro w hSw; (try dsimp only at hSw); go_split_ands; go_simp; try with_reducible rfl)
      try simp only [Act.put, List.setIfInBounds_toArray, List.set_cons_zero, List.set_cons_succ]
      refine wpAnyH_ready (rs := [9]) (by kernel_rfl) (by simp) ?_
      refine AllReadyH.cons rfl (fun K hK => ?_) AllReadyH.nil
      go_simp
      go_wp2_with fail
      refine hK.out _ _ ?_ (fun hHeld => ?_)
      ·exact LwA.below (by assumption) (G.bl_alloc (Below.refl _ _) _)
      clear hK K
      try simp only [Act.put, List.setIfInBounds_toArray, List.set_cons_zero, List.set_cons_succ]
      refine wpAnyH_ready (rs := [10]) (by kernel_rfl) (by simp) ?_
      refine AllReadyH.cons rfl (fun K hK => ?_) AllReadyH.nil
      first | (refine wp_store_row 27 (.tmp 8) (.tmp 30) rfl _ (x8.arr t8) rfl rfl 27 #[.slice none 0 0, .slice none 0 0, .slice none 0 0, .int .i32 0, .int .i64 0, .int .i8 0, .int .i64 0] (heap_alloc_new _ _) (by kernel_rfl) rfl (arr_one _ _) ?_) | (refine wp_store_row 27 (.tmp 8) (.tmp 30) rfl _ (x8.arr t8) rfl rfl 27 #[.slice none 0 0, .slice none 0 0, .slice none 0 0, .int .i32 0, .int .i64 0, .int .i8 0, .int .i64 0] (blk_after HB8.out) (by kernel_rfl) rfl (arr_one _ _) ?_) | (refine wp_store_row 27 (.tmp 8) (.tmp 30) rfl _ (x8.arr t8) rfl rfl 27 #[.slice none 0 0, .slice none 0 0, .slice none 0 0, .int .i32 0, .int .i64 0, .int .i8 0, .int .i64 0] (blk_after_drew HB8.out) (by kernel_rfl) rfl (arr_one _ _) ?_)
      try simp only [Act.put, List.getElem_toArray, List.getElem_cons_succ, List.getElem_cons_zero]
      refine hK.out _ _ ?_ (fun hHeld => ?_)
      ·exact LwA.row (by assumption) (by have s8 := HB8.out.size; first | omega | (simp at s8 ⊢; omega))
      clear hK K
      try simp only [Act.put, List.setIfInBounds_toArray, List.set_cons_zero, List.set_cons_succ]
      refine wpAnyH_take (i := 11) (oi := ⟨some 9, _, _, _, _, _⟩) (v := ?_) rfl (by kernel_rfl) (by kernel_rfl) (by kernel_rfl) (fun _ _ _ h => h) (Or.inl ⟨by rfl, ?_⟩) (by assumption) ?_
      rotate_left
      ·(intro w hSw; (try dsimp only at hSw); go_split_ands; go_simp; try with_reducible rfl)
      try simp only [Act.put, List.setIfInBounds_toArray, List.set_cons_zero, List.set_cons_succ]
      refine wpAnyH_done (by kernel_rfl) ?_ _
      go_wp2_with fail
      go_meet
      case rel => first | exact cutR_mk (HO8.out.below (G.bl_alloc (Below.refl _ _) _)) hHeld.bl (G.Blk.new _ _ _) (by have s8 := HB8.out.size; first | omega | (simp at s8 ⊢; omega)) HC8.out | exact cutR_mk HO8.out hHeld.bl (blk_after HB8.out) (by have s8 := HB8.out.size; first | omega | (simp at s8 ⊢; omega)) HC8.out | exact cutR_mk HO8.out hHeld.bl (blk_after_drew HB8.out) (by have s8 := HB8.out.size; first | omega | (simp at s8 ⊢; omega)) HC8.out
     refine AllReadyH.cons rfl (fun K hK => ?_) ?_
     ·go_simp
      go_wp2_with fail
      refine hK.out _ _ ?_ (fun hHeld => ?_)
      ·exact LwA.below (by assumption) (G.bl_alloc (Below.refl _ _) _)
      clear hK K
      try simp only [Act.put, List.setIfInBounds_toArray, List.set_cons_zero, List.set_cons_succ]
      refine wpAnyH_ready (rs := [5]) (by kernel_rfl) (by simp) ?_
      refine AllReadyH.cons rfl (fun K hK => ?_) AllReadyH.nil
      go_simp
      (refine (HBH.out _ hHeld.bl).mono ?_; rintro e8 w8 hp8; obtain ⟨x8, t8, b8, rfl, ho8, hb8, hc8⟩ := hp8; have HB8 := Lib.hid hb8; have HO8 := Lib.hid (ho8.ge hHeld.bl.size); have HC8 := Lib.hid hc8; clear ho8 hb8 hc8)
      go_wp2_with fail
      refine hK.out _ _ ?_ (fun hHeld => ?_)
      ·exact LwA.below (by assumption) HB8.out
      clear hK K
      try simp only [Act.put, List.setIfInBounds_toArray, List.set_cons_zero, List.set_cons_succ]
      refine wpAnyH_take (i := 6) (oi := ⟨some 23, _, _, _, _, _⟩) (v := ?_) rfl (by kernel_rfl) (by kernel_rfl) (by kernel_rfl) (fun _ _ _ h => h) (Or.inl ⟨by rfl, ?_⟩) (by assumption) ?_
      rotate_left
      ·(intro w hSw; (try dsimp only at hSw); go_split_ands; go_simp; try with_reducible rfl)
      try simp only [Act.put, List.setIfInBounds_toArray, List.set_cons_zero, List.set_cons_succ]
      refine wpAnyH_take (i := 7) (oi := ⟨some 30, _, _, _, _, _⟩) (v := ?_) rfl (by kernel_rfl) (by kernel_rfl) (by kernel_rfl) (fun _ _ _ h => h) (Or.inl ⟨by rfl, ?_⟩) (by assumption) ?_
      rotate_left
      ·(intro w hSw; (try dsimp only at hSw); go_split_ands; go_simp; try with_reducible rfl)
      try simp only [Act.put, List.setIfInBounds_toArray, List.set_cons_zero, List.set_cons_succ]
      refine wpAnyH_take (i := 8) (oi := ⟨some 31, _, _, _, _, _⟩) (v := ?_) rfl (by kernel_rfl) (by kernel_rfl) (by kernel_rfl) (fun _ _ _ h => h) (Or.inl ⟨by rfl, ?_⟩) (by assumption) ?_
      rotate_left
      ·(intro w hSw; (try dsimp only at hSw); go_split_ands; go_simp; try with_reducible rfl)
      try simp only [Act.put, List.setIfInBounds_toArray, List.set_cons_zero, List.set_cons_succ]
      refine wpAnyH_ready (rs := [10]) (by kernel_rfl) (by simp) ?_
      refine AllReadyH.cons rfl (fun K hK => ?_) AllReadyH.nil
      first | (refine wp_store_row 27 (.tmp 8) (.tmp 30) rfl _ (x8.arr t8) rfl rfl 27 #[.slice none 0 0, .slice none 0 0, .slice none 0 0, .int .i32 0, .int .i64 0, .int .i8 0, .int .i64 0] (heap_alloc_new _ _) (by kernel_rfl) rfl (arr_one _ _) ?_) | (refine wp_store_row 27 (.tmp 8) (.tmp 30) rfl _ (x8.arr t8) rfl rfl 27 #[.slice none 0 0, .slice none 0 0, .slice none 0 0, .int .i32 0, .int .i64 0, .int .i8 0, .int .i64 0] (blk_after HB8.out) (by kernel_rfl) rfl (arr_one _ _) ?_) | (refine wp_store_row 27 (.tmp 8) (.tmp 30) rfl _ (x8.arr t8) rfl rfl 27 #[.slice none 0 0, .slice none 0 0, .slice none 0 0, .int .i32 0, .int .i64 0, .int .i8 0, .int .i64 0] (blk_after_drew HB8.out) (by kernel_rfl) rfl (arr_one _ _) ?_)
      try simp only [Act.put, List.getElem_toArray, List.getElem_cons_succ, List.getElem_cons_zero]
      refine hK.out _ _ ?_ (fun hHeld => ?_)
      ·exact LwA.row (by assumption) (by have s8 := HB8.out.size; first | omega | (simp at s8 ⊢; omega))
      clear hK K
      try simp only [Act.put, List.setIfInBounds_toArray, List.set_cons_zero, List.set_cons_succ]
      refine wpAnyH_take (i := 11) (oi := ⟨some 9, _, _, _, _, _⟩) (v := ?_) rfl (by kernel_rfl) (by kernel_rfl) (by kernel_rfl) (fun _ _ _ h => h) (Or.inl ⟨by rfl, ?_⟩) (by assumption) ?_
      rotate_left
      ·(intro w hSw; (try dsimp only at hSw); go_split_ands; go_simp; try with_reducible rfl)
      try simp only [Act.put, List.setIfInBounds_toArray, List.set_cons_zero, List.set_cons_succ]
      refine wpAnyH_done (by kernel_rfl) ?_ _
      go_wp2_with fail
      go_meet
      case rel => first | exact cutR_mk (HO8.out.below (G.bl_alloc (Below.refl _ _) _)) hHeld.bl (G.Blk.new _ _ _) (by have s8 := HB8.out.size; first | omega | (simp at s8 ⊢; omega)) HC8.out | exact cutR_mk HO8.out hHeld.bl (blk_after HB8.out) (by have s8 := HB8.out.size; first | omega | (simp at s8 ⊢; omega)) HC8.out | exact cutR_mk HO8.out hHeld.bl (blk_after_drew HB8.out) (by have s8 := HB8.out.size; first | omega | (simp at s8 ⊢; omega)) HC8.out
     exact AllReadyH.nil
    obtain ⟨g8, x8, t8, b8, rfl, rfl, hB8, hO8, hb8, hg8, hc8⟩ := hcut
    have HB8 := Lib.hid hB8
    have HO8 := Lib.hid hO8
    have HBc := Lib.hid hb8
    have HKc := Lib.hid (HK.out.below hb8 HK.out.lt)
    have HRc := Lib.hid (HRI.out.rb.below hb8 HRI.out.rb.lt)
    have HW0 := Lib.hid (show w0.heap.size ≤ wr.heap.size from HRI.out.bl.size)
    clear hB8 hO8 hb8
    rcases hc8 with ⟨rfl, hst⟩ | ⟨rfl, hst⟩
    ·have HST := Lib.hid hst
     clear hst
     have HM8 := Lib.hid (step_may HST.out HMT.out)
     have HMYc := Lib.hid (refMay_any x8 t8 wc HO8.out.rd (may_sz HM8.out))
     rw [show x8.val t8 = .agg (x8.arr t8) from rfl] at HMYc
     go_wp2_with (refine wpList_load_row_g (by rfl) 27 _ rfl g8 rfl _ (x8.arr t8) (0, 0) _ HB8.out HFS.out rfl sizeSt ?_)
     refine (HMYc.out).mono ?_
     rintro e9 w9 hp9
     obtain ⟨b9, rfl, hb9, hbw9⟩ := hp9
     obtain rfl : b9 = true := hb9.2 HM8.out
     have HKd := Lib.hid (HKc.out.below hbw9 HKc.out.lt)
     have HB8d := Lib.hid (HB8.out.below hbw9 HB8.out.lt)
     have HI9 := Lib.hid (show RpI (backL s (E.drop k)) w0 g (w9.setRow g (x8.arr t8)) from ⟨⟨t8, x8, back_yes (by rw [HEN.out]; exact hlt) HEK.out HRUN.out (by rw [undoE_eq e HMT.out]; exact HST.out), setRow_heap _ _ _ _ _ _ HKd.out, ((HO8.out.below hbw9).ge HW0.out).only (only_row HKd.out) (by decide) (by decide) (by decide) (by decide)⟩, (setRow_other _ _ _ _ (by omega)).trans (HRc.out.below hbw9 HRc.out.lt), below_setRow (HRI.out.bl.trans ((G.bl_trans HBc.out hbw9).mono (Nat.le_of_lt HK.out.lt))) (Nat.le_refl _) _⟩)
     clear hb9 hbw9
     go_wp2_with (first | (refine wpList_load_row rfl 27 _ rfl g8 rfl _ (x8.arr t8) (0, 0) _ HB8d.out HFS.out rfl sizeSt ?_) | (refine wpList_store_row rfl 27 _ _ rfl g (x8.arr t8) rfl rfl 27 _ HKd.out (by kernel_rfl) (by rw [HSX.out]; rfl) (arr_one _ _) ?_))
     go_roundw
     case rel => exact ⟨k, by omega, by go_num, HI9.out⟩
     case measure => (simp [intOf]; try omega)
    ·obtain ⟨hn1, hn2⟩ := back_no (by rw [HEN.out]; exact hlt) HEK.out HRUN.out (by rw [undoE_eq e HMT.out]; exact hst)
     have HN1 := Lib.hid hn1
     have HN2 := Lib.hid hn2
     clear hst hn1 hn2
     go_wp2_with (first | (refine build_to zeroA rfl 27 _ rfl _ (by kernel_rfl) zeroA_b ?_) | (refine wpList_store_row rfl 27 _ _ rfl (g + 1) zeroA rfl rfl 27 _ HRc.out (by kernel_rfl) (by kernel_rfl) (by kernel_rfl) ?_))
     refine bodyPost_ret (v := .tuple #[.agg zeroA, .int .i64 (k : Int), .int .i64 11]) (st_results3 rfl _ _ (g + 1) _ _ _ rfl rfl rfl (setRow_heap _ _ _ _ _ _ HRc.out) rfl) rfl (repP_event HM.out HN1.out HN2.out ?_)
     exact below_setRow (HBL0.out.trans ((HRI.out.bl.trans (HBc.out.mono (Nat.le_of_lt HK.out.lt))).mono (Nat.le_of_eq HG.out.symm))) (by have := HG.out; omega) _
   | zero =>
    rw [show (((0 : Nat) : Int) - 1) = -1 by omega]
    have HEND := Lib.hid (show backL s E = some t from by
     have h9 := HRUN.out
     rwa [List.drop_zero] at h9)
    go_wp2_with (first | (refine wpList_load_row rfl 27 _ rfl g rfl _ (x'.arr t) (0, 0) _ HK.out HFS.out rfl sizeSt ?_) | (refine wpList_store_row rfl 27 _ _ rfl (g + 1) (x'.arr t) rfl rfl 27 _ HRI.out.rb (by kernel_rfl) rfl (arr_one _ _) ?_))
    refine bodyPost_ret (v := .tuple #[.agg (x'.arr t), .int .i64 0, .int .i64 0]) (st_results3 rfl _ _ (g + 1) _ _ _ rfl rfl rfl (setRow_heap _ _ _ _ _ _ HRI.out.rb) rfl) rfl (repP_yes HM.out HEND.out ?_ ?_)
    ·exact (HOX.out.ge HBL0.out.size).only (only_row HRI.out.rb) (by decide) (by decide) (by decide) (by decide)
    ·exact below_setRow (HBL0.out.trans (HRI.out.bl.mono (Nat.le_of_eq HG.out.symm))) (by have := HG.out; omega) _
 ·have HM := Lib.hid hm
  clear hm
  go_upto_region 2 with (first | (refine wpList_load_row rfl 27 _ rfl g rfl _ cs (0, 0) _ HC0.out HFS.out rfl (by rw [HS.out]; exact sizeSt) ?_) | ((with_reducible refine (HMY0.out).mono ?_); rintro e1 w1 hp; obtain ⟨b1, rfl, hb, hbw⟩ := hp; obtain rfl : b1 = false := rmay_false hb HM.out; have HR1 := Lib.hid (HR0.out.below hbw HR0.out.lt); have HBL1 := Lib.hid (G.bl_trans HBL0.out hbw); clear hb hbw))
  go_wp2_with (first | (refine build_to zeroA rfl 27 _ rfl _ (by kernel_rfl) zeroA_b ?_) | (refine wpList_store_row rfl 27 _ _ rfl (g + 1) zeroA rfl rfl 27 _ HR1.out (by kernel_rfl) (by kernel_rfl) (by kernel_rfl) ?_))
  refine bodyPost_ret (v := .tuple #[.agg zeroA, .int .i64 0, .int .i64 10]) (st_results3 rfl _ _ (g + 1) _ _ _ rfl rfl rfl (setRow_heap _ _ _ _ _ _ HR1.out) rfl) rfl (repP_state HM.out ?_)
  exact below_setRow HBL1.out (by have := HG.out; omega) _
end Go.Proofs.YtofgmijmhpmabaaGreatDoor.D
